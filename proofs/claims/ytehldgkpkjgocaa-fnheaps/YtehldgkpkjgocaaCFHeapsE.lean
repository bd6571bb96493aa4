/- The law FnHeaps holds of the given program: at every input it answers true and leaves its arguments as they were; no condition. -/
import Derived.Laws.BitsLemmas
import Derived.Laws.BytesArg
import Derived.OpenShut
import Derived.Test.YtehldgkpkjgocaaQWWords
import Derived.ChangeArms
import Derived.ChangeSame
import Derived.Deep.Slices
import Derived.Deep.Strs
import Derived.Deep.Fields
import Derived.Lib.SmallJoins
import Derived.WideShapes
import Derived.Test.YtehldgkpkjgocaaRows
import Derived.WalkKit
import Derived.ProofKit
import Derived.ShutString
import Derived.ChangeOld
import Derived.Below
import Derived.SizedLaws
import Derived.Carry
import Derived.Test.YtehldgkpkjgocaaCFHeapsA
import Derived.Test.YtehldgkpkjgocaaCFHeapsB
import Derived.Test.YtehldgkpkjgocaaCFHeapsC
import Derived.Test.YtehldgkpkjgocaaCFHeapsD
namespace Go.Proofs.Ytehldgkpkjgocaa.Fn
open Go.RowKit Go.Proofs.YtehldgkpkjgocaaW.PrintWords Go.Proofs.YtehldgkpkjgocaaW.PrintLast Go.Proofs.YtehldgkpkjgocaaW.PrintMore
attribute [local go_sem] max2_int min2_int max_two min_two max_three min_three max_four min_four   -- for this text's walks alone
set_option linter.unusedVariables false
set_option linter.unusedSimpArgs false

/-! ### laws_eqScoreS: function 14 -/
def laws_eqScoreS.l0 : Nat → List (S43) → List (S43) → Int → Option (Bool)
  | 0, _, _, _ => none
  | k + 1, x0, x1, x5 => if x5 < (x0.length : Int) then (if 0 ≤ x5 then (if x5 < (x1.length : Int) then ((laws_eqScore.f ((rd_T43 x0 x5).f0) ((rd_T43 x0 x5).f1) ((rd_T43 x1 x5).f0) ((rd_T43 x1 x5).f1)).bind fun t125 => (if t125 = true then (laws_eqScoreS.l0 k x0 x1 (wrap64 (x5 + 1))) else (some false))) else (none)) else (none)) else (some true)
def laws_eqScoreS.f (k : Nat) (l0 : List (S43)) (l1 : List (S43)) : Option (Bool) := if (l0.length : Int) = (l1.length : Int) then (laws_eqScoreS.l0 k l0 l1 0) else (some false)
theorem laws_eqScoreS.mono_l : ∀ k, (∀ y0 y1 y2, LeO (laws_eqScoreS.l0 k y0 y1 y2) (laws_eqScoreS.l0 (k + 1) y0 y1 y2))
  | 0 => fun _ _ _ r h => by simp [laws_eqScoreS.l0] at h
  | k + 1 => by
    have ih0 := laws_eqScoreS.mono_l k
    · intro y0 y1 y2
      unfold laws_eqScoreS.l0
      repeat' first
      | (with_reducible exact ih0 _ _ _)
      | (with_reducible exact LeO.refl _)
      | (with_reducible exact LeO.none _)
      | (with_reducible refine LeO.ite ?_ ?_)
      | (with_reducible refine LeO.bind ?_ (fun _ => ?_))
      | exact ih0 _ _ _
      | exact LeO.none _
      | refine LeO.ite ?_ ?_
      | refine LeO.bind ?_ (fun _ => ?_)
theorem laws_eqScoreS.mono : ∀ a0 a1 k, LeO (laws_eqScoreS.f k a0 a1) (laws_eqScoreS.f (k + 1) a0 a1) := by
  intro a0 a1 k
  have ih0 := laws_eqScoreS.mono_l k
  unfold laws_eqScoreS.f
  repeat' first
      | (with_reducible exact ih0 _ _ _)
      | (with_reducible exact LeO.refl _)
      | (with_reducible exact LeO.none _)
      | (with_reducible refine LeO.ite ?_ ?_)
      | (with_reducible refine LeO.bind ?_ (fun _ => ?_))
      | exact ih0 _ _ _
      | exact LeO.none _
      | refine LeO.ite ?_ ?_
      | refine LeO.bind ?_ (fun _ => ?_)
def laws_eqScoreS.T6 : Bool × List (List Nat × List Nat) := (true, [([], []), ([], []), ([0, 1], [0, 1]), ([2], [2]), ([], []), ([], []), ([4, 5], [4, 5]), ([6], [6]), ([3, 7], [3, 7]), ([8], [8])])
def laws_eqScoreS.B6 : List Nat := [0, 0, 3, 7, 0, 0, 48, 112, 255, 511]
theorem laws_eqScoreS.tab6 : rtab .any (opsOf Try.f14 6) = laws_eqScoreS.T6 := by kernel_rfl
theorem laws_eqScoreS.bits6 : waitsOk laws_eqScoreS.T6.2 laws_eqScoreS.B6 = true := by kernel_rfl
set_option maxHeartbeats 8000000 in
set_option maxRecDepth 100000 in
theorem laws_eqScoreS.calls (k : Nat) (A0 : Option Addr) (c0 : Nat) (l0 : List (S43)) (A1 : Option Addr) (c1 : Nat) (l1 : List (S43)) (r : Bool) (w : World) (hr0 : Kd.C k43 w A0 l0.length l0) (hc0 : l0.length ≤ c0) (hr1 : Kd.C k43 w A1 l1.length l1) (hc1 : l1.length ≤ c1) (h : laws_eqScoreS.f k l0 l1 = some r) :
    Calls Try.prog 14 #[.slice A0 l0.length c0, .slice A1 l1.length c1] w fun e w' => e = .returned (.bool r) ∧ Below w.heap.size w w' := by
  have hu43 := Try.underlying43
  have HR0 := Aside0.mk hr0
  have HC0 := Aside0.mk hc0
  clear hr0 hc0
  have HR1 := Aside0.mk hr1
  have HC1 := Aside0.mk hc1
  clear hr1 hc1
  have HB := Aside0.mk (Below.refl w.heap.size w)
  have H : (if (l0.length : Int) = (l1.length : Int) then (laws_eqScoreS.l0 k l0 l1 0) else (some false)) = some r := h
  clear h
  by_cases c3 : (l0.length : Int) = (l1.length : Int)
  · rw [if_pos c3] at H
    have c3b0 : ((l0.length : Int) == (l1.length : Int)) = true := beq_iff_eq.mpr c3
    have c3b1 : ((l0.length : Int) != (l1.length : Int)) = false := bne_eq_false_iff_eq.mpr c3
    have c3b2 : (l0.length == l1.length) = true := by first | simpa using c3 | (simp at c3 ⊢; omega)
    clear c3
    have H' := Aside0.mk H
    clear H
    go_enter Try.func14, Try.ntmps14
    go_wp2
    go_loopg [5] k (fun kq v5 w' => ∃ (x5_1 : Int), v5 = .int .i64 x5_1 ∧ Aside0 (laws_eqScoreS.l0 kq l0 l1 x5_1 = some r) ∧ Aside0 (kq ≤ k) ∧ Aside0 (Below w.heap.size w w'))
    case atStart => exact ⟨(0), (by first | rfl | (simp; done) | (simp [*]; done)), H', ⟨Nat.le_refl _⟩, ⟨by repeat (first | (with_reducible first | exact HB.out | apply below_alloc | apply pw_below_drewN | apply below_drew1) | exact HB.out)⟩⟩
    case round =>
      clear H'
      try clear c1
      try clear p2
      try clear c3
      try clear c3b0
      try clear c3b1
      try clear c3b2
      obtain ⟨x5_1, rfl, HA, HK1, HB⟩ := hrel
      cases gk with
      | zero => exact absurd HA.out (by simp [laws_eqScoreS.l0])
      | succ k1 =>
        have H := HA.out
        clear HA
        simp only [laws_eqScoreS.l0] at H
        by_cases c4 : x5_1 < (l0.length : Int)
        · rw [if_pos c4] at H
          have c4b0 : decide (x5_1 < (l0.length : Int)) = true := decide_eq_true c4
          clear c4
          by_cases c5 : 0 ≤ x5_1
          · rw [if_pos c5] at H
            have c5b0 : decide (0 ≤ x5_1) = true := decide_eq_true c5
            clear c5
            by_cases c6 : x5_1 < (l1.length : Int)
            · rw [if_pos c6] at H
              have c6b0 : decide (x5_1 < (l1.length : Int)) = true := decide_eq_true c6
              clear c6
              replace H := Option.bind_eq_some_iff.mp H
              obtain ⟨t125, A70, H⟩ := H
              replace H : (if t125 = true then (laws_eqScoreS.l0 k1 l0 l1 (wrap64 (x5_1 + 1))) else (some false)) = some r := H
              have A7 := Aside0.mk A70
              clear A70
              by_cases c8 : t125 = true
              · subst c8
                have H1 : (laws_eqScoreS.l0 k1 l0 l1 (wrap64 (x5_1 + 1))) = some r := by rw [if_pos rfl] at H; exact H
                clear H
                have H := H1
                clear H1
                have H' := Aside0.mk H
                clear H
                try go_wp2
                have n0_ := Aside0.mk (below_drew1 HB.out)
                clear HB
                have HB := n0_
                clear n0_
                have p123 : 0 ≤ (x5_1 : Int) := of_decide_eq_true (by first | (with_reducible assumption) | assumption)
                have q123 : x5_1 < (l0.length : Int) := of_decide_eq_true (by first | (with_reducible assumption) | assumption)
                obtain ⟨ad123, e123, hx123_0, hx123_1⟩ := at_T43 HR0.out x5_1 p123 q123
                have hw123_1 := hx123_1
                have hw123_0 := hx123_0
                cases e123
                replace hx123_0 := (HB.out.cell (World.block_lt_of_cell? w _ hx123_0)).trans hx123_0
                replace hx123_1 := (HB.out.cell (World.block_lt_of_cell? w _ hx123_1)).trans hx123_1
                replace p123 := eq_true p123
                replace q123 := eq_true q123
                have p124 : 0 ≤ (x5_1 : Int) := of_decide_eq_true (by first | (with_reducible assumption) | assumption)
                have q124 : x5_1 < (l1.length : Int) := of_decide_eq_true (by first | (with_reducible assumption) | assumption)
                obtain ⟨ad124, e124, hx124_0, hx124_1⟩ := at_T43 HR1.out x5_1 p124 q124
                have hw124_1 := hx124_1
                have hw124_0 := hx124_0
                cases e124
                replace hx124_0 := (HB.out.cell (World.block_lt_of_cell? w _ hx124_0)).trans hx124_0
                replace hx124_1 := (HB.out.cell (World.block_lt_of_cell? w _ hx124_1)).trans hx124_1
                replace p124 := eq_true p124
                replace q124 := eq_true q124
                refine start_ (n := 10) (S := fun w' => w'.cell? (ad123.add ((x5_1).toNat * 2)) = some (.int .i64 ((rd_T43 l0 x5_1).f0)) ∧ w'.cell? ⟨(ad123.add ((x5_1).toNat * 2)).block, (ad123.add ((x5_1).toNat * 2)).off + 1, none⟩ = some (.int .i64 ((rd_T43 l0 x5_1).f1)) ∧ w'.cell? (ad124.add ((x5_1).toNat * 2)) = some (.int .i64 ((rd_T43 l1 x5_1).f0)) ∧ w'.cell? ⟨(ad124.add ((x5_1).toNat * 2)).block, (ad124.add ((x5_1).toNat * 2)).off + 1, none⟩ = some (.int .i64 ((rd_T43 l1 x5_1).f1))) (ds := []) #[false, false, false, false, false, false, false, false, false, false] (by kernel_rfl) rfl rfl ⟨((HB.out.cell (World.block_lt_of_cell? w _ hw123_0)).trans hw123_0), ((HB.out.cell (World.block_lt_of_cell? w _ hw123_1)).trans hw123_1), ((HB.out.cell (World.block_lt_of_cell? w _ hw124_0)).trans hw124_0), ((HB.out.cell (World.block_lt_of_cell? w _ hw124_1)).trans hw124_1)⟩ (fun hHeld => ?_); refine with_tabW laws_eqScoreS.tab6 laws_eqScoreS.bits6 (fun HT_ HW_ => ?_)
                generalize wr.drew = w9 at HB hx123_0 hx123_1 hx124_0 hx124_1 hHeld ⊢
                refine pure_ (i := 0) (N := some 17) (v := ?_) (a' := ?_) #[true, false, false, false, false, false, false, false, false, false] rfl rfl (any_of HT_.out (by kernel_rfl)) (fun _ _ _ h => h) (Or.inl ⟨by rfl, ?_⟩) ?_ ?_
                rotate_left
                · intro w'
                  go_simp
                  with_reducible rfl
                rotate_left
                · simp only [Act.put, List.setIfInBounds_toArray, List.set_cons_zero, List.set_cons_succ, i64_w, i32_w]
                  rfl
                refine pure_ (i := 1) (N := some 18) (v := ?_) (a' := ?_) #[true, true, false, false, false, false, false, false, false, false] rfl rfl (any_of HT_.out (by kernel_rfl)) (fun _ _ _ h => h) (Or.inl ⟨by rfl, ?_⟩) ?_ ?_
                rotate_left
                · intro w'
                  go_simp
                  with_reducible rfl
                rotate_left
                · simp only [Act.put, List.setIfInBounds_toArray, List.set_cons_zero, List.set_cons_succ, i64_w, i32_w]
                  rfl
                refine pure_ (i := 2) (N := some 19) (v := ?_) (a' := ?_) #[true, true, true, false, false, false, false, false, false, false] rfl rfl (any_of HT_.out (by kernel_rfl)) (fun _ _ _ h => h) (Or.inl ⟨by rfl, ?_⟩) ?_ ?_
                rotate_left
                · intro w'
                  go_simp
                  with_reducible rfl
                rotate_left
                · simp only [Act.put, List.setIfInBounds_toArray, List.set_cons_zero, List.set_cons_succ, i64_w, i32_w]
                  rfl
                refine pure_ (i := 4) (N := some 21) (v := ?_) (a' := ?_) #[true, true, true, false, true, false, false, false, false, false] rfl rfl (any_of HT_.out (by kernel_rfl)) (fun _ _ _ h => h) (Or.inl ⟨by rfl, ?_⟩) ?_ ?_
                rotate_left
                · intro w'
                  go_simp
                  with_reducible rfl
                rotate_left
                · simp only [Act.put, List.setIfInBounds_toArray, List.set_cons_zero, List.set_cons_succ, i64_w, i32_w]
                  rfl
                refine pure_ (i := 5) (N := some 22) (v := ?_) (a' := ?_) #[true, true, true, false, true, true, false, false, false, false] rfl rfl (any_of HT_.out (by kernel_rfl)) (fun _ _ _ h => h) (Or.inl ⟨by rfl, ?_⟩) ?_ ?_
                rotate_left
                · intro w'
                  go_simp
                  with_reducible rfl
                rotate_left
                · simp only [Act.put, List.setIfInBounds_toArray, List.set_cons_zero, List.set_cons_succ, i64_w, i32_w]
                  rfl
                refine pure_ (i := 6) (N := some 23) (v := ?_) (a' := ?_) #[true, true, true, false, true, true, true, false, false, false] rfl rfl (any_of HT_.out (by kernel_rfl)) (fun _ _ _ h => h) (Or.inl ⟨by rfl, ?_⟩) ?_ ?_
                rotate_left
                · intro w'
                  go_simp
                  with_reducible rfl
                rotate_left
                · simp only [Act.put, List.setIfInBounds_toArray, List.set_cons_zero, List.set_cons_succ, i64_w, i32_w]
                  rfl
                refine take_ (i := 3) (N := some 20) (v := ?_) (a' := ?_) #[true, true, true, true, true, true, true, false, false, false] rfl rfl (take_ofW HT_.out HW_.out (by kernel_rfl)) (fun _ _ _ h => h) (Or.inl ⟨by rfl, ?_⟩) hHeld ?_ ?_
                rotate_left
                · rintro w' ⟨s0, s1, s2, s3⟩
                  go_simp
                  with_reducible rfl
                rotate_left
                · simp only [Act.put, List.setIfInBounds_toArray, List.set_cons_zero, List.set_cons_succ, i64_w, i32_w]
                  rfl
                refine take_ (i := 7) (N := some 24) (v := ?_) (a' := ?_) #[true, true, true, true, true, true, true, true, false, false] rfl rfl (take_ofW HT_.out HW_.out (by kernel_rfl)) (fun _ _ _ h => h) (Or.inl ⟨by rfl, ?_⟩) hHeld ?_ ?_
                rotate_left
                · rintro w' ⟨s0, s1, s2, s3⟩
                  go_simp
                  with_reducible rfl
                rotate_left
                · simp only [Act.put, List.setIfInBounds_toArray, List.set_cons_zero, List.set_cons_succ, i64_w, i32_w]
                  rfl
                refine one_ (i := 8) (N := some 25) #[true, true, true, true, true, true, true, true, true, false] rfl rfl (one_of HT_.out (by kernel_rfl)) (by decide) (fun K hK => ?_)
                refine goes_ Try.func31 (by kernel_rfl) rfl #[.agg #[.int .i64 ((rd_T43 l0 x5_1).f0), .int .i64 ((rd_T43 l0 x5_1).f1)], .agg #[.int .i64 ((rd_T43 l1 x5_1).f0), .int .i64 ((rd_T43 l1 x5_1).f1)]] (by rfl) rfl rfl (by (try simp only [List.map_toArray, List.map_cons, List.map_nil]); first | done | rfl | (simp only [List.length_drop, List.length_take]; rfl)) ?_
                with_reducible refine (laws_eqScore.calls ((rd_T43 l0 x5_1).f0) ((rd_T43 l0 x5_1).f1) ((rd_T43 l1 x5_1).f0) ((rd_T43 l1 x5_1).f1) true _ A7.out).mono ?_
                rintro e w10 ⟨rfl, hb⟩
                refine ⟨_, rfl, ?_⟩
                have n0_ := Aside0.mk (below_step (by repeat (first | (with_reducible first | exact HB.out | apply below_alloc | apply pw_below_drewN | apply below_drew1) | exact HB.out)) hb)
                clear HB
                have HB := n0_
                clear n0_
                (try clear hb)
                (try clear hb2)
                (try clear hk)
                (try clear hi)
                refine hK.out _ _ ⟨((HB.out.cell (World.block_lt_of_cell? w _ hw123_0)).trans hw123_0), ((HB.out.cell (World.block_lt_of_cell? w _ hw123_1)).trans hw123_1), ((HB.out.cell (World.block_lt_of_cell? w _ hw124_0)).trans hw124_0), ((HB.out.cell (World.block_lt_of_cell? w _ hw124_1)).trans hw124_1)⟩ (fun hHeld => ?_)
                clear hK K
                refine norm_ (a' := ?_) ?_ ?_
                rotate_left
                · show Act.put _ (some 25) _ = _
                  simp only [Act.put, List.setIfInBounds_toArray, List.set_cons_zero, List.set_cons_succ, i64_w, i32_w]
                  rfl
                refine pure_ (i := 9) (N := some 26) (v := ?_) (a' := ?_) #[true, true, true, true, true, true, true, true, true, true] rfl rfl (any_of HT_.out (by kernel_rfl)) (fun _ _ _ h => h) (Or.inl ⟨by rfl, ?_⟩) ?_ ?_
                rotate_left
                · intro w'
                  go_simp
                  with_reducible rfl
                rotate_left
                · simp only [Act.put, List.setIfInBounds_toArray, List.set_cons_zero, List.set_cons_succ, i64_w, i32_w]
                  rfl
                refine done_ (done_of HT_.out (by kernel_rfl)) ?_
                try go_wp2
                go_roundg k1
                case measure => have := HK1.out; omega
                case rel => exact ⟨(wrap64 (x5_1 + 1)), (by first | rfl | (simp; done) | (simp [*]; done)), H', ⟨by have := HK1.out; omega⟩, ⟨by repeat (first | (with_reducible first | exact HB.out | apply below_alloc | apply pw_below_drewN | apply below_drew1) | exact HB.out)⟩⟩
              · replace c8 := Bool.eq_false_iff.mpr c8
                subst c8
                have H1 : (some false) = some r := by rw [if_neg (show ¬ (false = true) by decide)] at H; exact H
                clear H
                have H := H1
                clear H1
                obtain rfl := Option.some.inj H
                try go_wp2
                have n0_ := Aside0.mk (below_drew1 HB.out)
                clear HB
                have HB := n0_
                clear n0_
                have p123 : 0 ≤ (x5_1 : Int) := of_decide_eq_true (by first | (with_reducible assumption) | assumption)
                have q123 : x5_1 < (l0.length : Int) := of_decide_eq_true (by first | (with_reducible assumption) | assumption)
                obtain ⟨ad123, e123, hx123_0, hx123_1⟩ := at_T43 HR0.out x5_1 p123 q123
                have hw123_1 := hx123_1
                have hw123_0 := hx123_0
                cases e123
                replace hx123_0 := (HB.out.cell (World.block_lt_of_cell? w _ hx123_0)).trans hx123_0
                replace hx123_1 := (HB.out.cell (World.block_lt_of_cell? w _ hx123_1)).trans hx123_1
                replace p123 := eq_true p123
                replace q123 := eq_true q123
                have p124 : 0 ≤ (x5_1 : Int) := of_decide_eq_true (by first | (with_reducible assumption) | assumption)
                have q124 : x5_1 < (l1.length : Int) := of_decide_eq_true (by first | (with_reducible assumption) | assumption)
                obtain ⟨ad124, e124, hx124_0, hx124_1⟩ := at_T43 HR1.out x5_1 p124 q124
                have hw124_1 := hx124_1
                have hw124_0 := hx124_0
                cases e124
                replace hx124_0 := (HB.out.cell (World.block_lt_of_cell? w _ hx124_0)).trans hx124_0
                replace hx124_1 := (HB.out.cell (World.block_lt_of_cell? w _ hx124_1)).trans hx124_1
                replace p124 := eq_true p124
                replace q124 := eq_true q124
                refine start_ (n := 10) (S := fun w' => w'.cell? (ad123.add ((x5_1).toNat * 2)) = some (.int .i64 ((rd_T43 l0 x5_1).f0)) ∧ w'.cell? ⟨(ad123.add ((x5_1).toNat * 2)).block, (ad123.add ((x5_1).toNat * 2)).off + 1, none⟩ = some (.int .i64 ((rd_T43 l0 x5_1).f1)) ∧ w'.cell? (ad124.add ((x5_1).toNat * 2)) = some (.int .i64 ((rd_T43 l1 x5_1).f0)) ∧ w'.cell? ⟨(ad124.add ((x5_1).toNat * 2)).block, (ad124.add ((x5_1).toNat * 2)).off + 1, none⟩ = some (.int .i64 ((rd_T43 l1 x5_1).f1))) (ds := []) #[false, false, false, false, false, false, false, false, false, false] (by kernel_rfl) rfl rfl ⟨((HB.out.cell (World.block_lt_of_cell? w _ hw123_0)).trans hw123_0), ((HB.out.cell (World.block_lt_of_cell? w _ hw123_1)).trans hw123_1), ((HB.out.cell (World.block_lt_of_cell? w _ hw124_0)).trans hw124_0), ((HB.out.cell (World.block_lt_of_cell? w _ hw124_1)).trans hw124_1)⟩ (fun hHeld => ?_); refine with_tabW laws_eqScoreS.tab6 laws_eqScoreS.bits6 (fun HT_ HW_ => ?_)
                generalize wr.drew = w11 at HB hx123_0 hx123_1 hx124_0 hx124_1 hHeld ⊢
                refine pure_ (i := 0) (N := some 17) (v := ?_) (a' := ?_) #[true, false, false, false, false, false, false, false, false, false] rfl rfl (any_of HT_.out (by kernel_rfl)) (fun _ _ _ h => h) (Or.inl ⟨by rfl, ?_⟩) ?_ ?_
                rotate_left
                · intro w'
                  go_simp
                  with_reducible rfl
                rotate_left
                · simp only [Act.put, List.setIfInBounds_toArray, List.set_cons_zero, List.set_cons_succ, i64_w, i32_w]
                  rfl
                refine pure_ (i := 1) (N := some 18) (v := ?_) (a' := ?_) #[true, true, false, false, false, false, false, false, false, false] rfl rfl (any_of HT_.out (by kernel_rfl)) (fun _ _ _ h => h) (Or.inl ⟨by rfl, ?_⟩) ?_ ?_
                rotate_left
                · intro w'
                  go_simp
                  with_reducible rfl
                rotate_left
                · simp only [Act.put, List.setIfInBounds_toArray, List.set_cons_zero, List.set_cons_succ, i64_w, i32_w]
                  rfl
                refine pure_ (i := 2) (N := some 19) (v := ?_) (a' := ?_) #[true, true, true, false, false, false, false, false, false, false] rfl rfl (any_of HT_.out (by kernel_rfl)) (fun _ _ _ h => h) (Or.inl ⟨by rfl, ?_⟩) ?_ ?_
                rotate_left
                · intro w'
                  go_simp
                  with_reducible rfl
                rotate_left
                · simp only [Act.put, List.setIfInBounds_toArray, List.set_cons_zero, List.set_cons_succ, i64_w, i32_w]
                  rfl
                refine pure_ (i := 4) (N := some 21) (v := ?_) (a' := ?_) #[true, true, true, false, true, false, false, false, false, false] rfl rfl (any_of HT_.out (by kernel_rfl)) (fun _ _ _ h => h) (Or.inl ⟨by rfl, ?_⟩) ?_ ?_
                rotate_left
                · intro w'
                  go_simp
                  with_reducible rfl
                rotate_left
                · simp only [Act.put, List.setIfInBounds_toArray, List.set_cons_zero, List.set_cons_succ, i64_w, i32_w]
                  rfl
                refine pure_ (i := 5) (N := some 22) (v := ?_) (a' := ?_) #[true, true, true, false, true, true, false, false, false, false] rfl rfl (any_of HT_.out (by kernel_rfl)) (fun _ _ _ h => h) (Or.inl ⟨by rfl, ?_⟩) ?_ ?_
                rotate_left
                · intro w'
                  go_simp
                  with_reducible rfl
                rotate_left
                · simp only [Act.put, List.setIfInBounds_toArray, List.set_cons_zero, List.set_cons_succ, i64_w, i32_w]
                  rfl
                refine pure_ (i := 6) (N := some 23) (v := ?_) (a' := ?_) #[true, true, true, false, true, true, true, false, false, false] rfl rfl (any_of HT_.out (by kernel_rfl)) (fun _ _ _ h => h) (Or.inl ⟨by rfl, ?_⟩) ?_ ?_
                rotate_left
                · intro w'
                  go_simp
                  with_reducible rfl
                rotate_left
                · simp only [Act.put, List.setIfInBounds_toArray, List.set_cons_zero, List.set_cons_succ, i64_w, i32_w]
                  rfl
                refine take_ (i := 3) (N := some 20) (v := ?_) (a' := ?_) #[true, true, true, true, true, true, true, false, false, false] rfl rfl (take_ofW HT_.out HW_.out (by kernel_rfl)) (fun _ _ _ h => h) (Or.inl ⟨by rfl, ?_⟩) hHeld ?_ ?_
                rotate_left
                · rintro w' ⟨s0, s1, s2, s3⟩
                  go_simp
                  with_reducible rfl
                rotate_left
                · simp only [Act.put, List.setIfInBounds_toArray, List.set_cons_zero, List.set_cons_succ, i64_w, i32_w]
                  rfl
                refine take_ (i := 7) (N := some 24) (v := ?_) (a' := ?_) #[true, true, true, true, true, true, true, true, false, false] rfl rfl (take_ofW HT_.out HW_.out (by kernel_rfl)) (fun _ _ _ h => h) (Or.inl ⟨by rfl, ?_⟩) hHeld ?_ ?_
                rotate_left
                · rintro w' ⟨s0, s1, s2, s3⟩
                  go_simp
                  with_reducible rfl
                rotate_left
                · simp only [Act.put, List.setIfInBounds_toArray, List.set_cons_zero, List.set_cons_succ, i64_w, i32_w]
                  rfl
                refine one_ (i := 8) (N := some 25) #[true, true, true, true, true, true, true, true, true, false] rfl rfl (one_of HT_.out (by kernel_rfl)) (by decide) (fun K hK => ?_)
                refine goes_ Try.func31 (by kernel_rfl) rfl #[.agg #[.int .i64 ((rd_T43 l0 x5_1).f0), .int .i64 ((rd_T43 l0 x5_1).f1)], .agg #[.int .i64 ((rd_T43 l1 x5_1).f0), .int .i64 ((rd_T43 l1 x5_1).f1)]] (by rfl) rfl rfl (by (try simp only [List.map_toArray, List.map_cons, List.map_nil]); first | done | rfl | (simp only [List.length_drop, List.length_take]; rfl)) ?_
                with_reducible refine (laws_eqScore.calls ((rd_T43 l0 x5_1).f0) ((rd_T43 l0 x5_1).f1) ((rd_T43 l1 x5_1).f0) ((rd_T43 l1 x5_1).f1) false _ A7.out).mono ?_
                rintro e w12 ⟨rfl, hb⟩
                refine ⟨_, rfl, ?_⟩
                have n0_ := Aside0.mk (below_step (by repeat (first | (with_reducible first | exact HB.out | apply below_alloc | apply pw_below_drewN | apply below_drew1) | exact HB.out)) hb)
                clear HB
                have HB := n0_
                clear n0_
                (try clear hb)
                (try clear hb2)
                (try clear hk)
                (try clear hi)
                refine hK.out _ _ ⟨((HB.out.cell (World.block_lt_of_cell? w _ hw123_0)).trans hw123_0), ((HB.out.cell (World.block_lt_of_cell? w _ hw123_1)).trans hw123_1), ((HB.out.cell (World.block_lt_of_cell? w _ hw124_0)).trans hw124_0), ((HB.out.cell (World.block_lt_of_cell? w _ hw124_1)).trans hw124_1)⟩ (fun hHeld => ?_)
                clear hK K
                refine norm_ (a' := ?_) ?_ ?_
                rotate_left
                · show Act.put _ (some 25) _ = _
                  simp only [Act.put, List.setIfInBounds_toArray, List.set_cons_zero, List.set_cons_succ, i64_w, i32_w]
                  rfl
                refine pure_ (i := 9) (N := some 26) (v := ?_) (a' := ?_) #[true, true, true, true, true, true, true, true, true, true] rfl rfl (any_of HT_.out (by kernel_rfl)) (fun _ _ _ h => h) (Or.inl ⟨by rfl, ?_⟩) ?_ ?_
                rotate_left
                · intro w'
                  go_simp
                  with_reducible rfl
                rotate_left
                · simp only [Act.put, List.setIfInBounds_toArray, List.set_cons_zero, List.set_cons_succ, i64_w, i32_w]
                  rfl
                refine done_ (done_of HT_.out (by kernel_rfl)) ?_
                try go_wp2
                go_ret
                exact ⟨by first | rfl | (simp [errW_none, errW_some] <;> rfl) | (simp [*, errW_none, errW_some] <;> rfl), by repeat (first | (with_reducible first | exact HB.out | apply below_alloc | apply pw_below_drewN | apply below_drew1) | exact HB.out)⟩
            · rw [if_neg c6] at H
              exact absurd H (by simp)
          · rw [if_neg c5] at H
            exact absurd H (by simp)
        · rw [if_neg c4] at H
          have c4b0 : decide (x5_1 < (l0.length : Int)) = false := decide_eq_false c4
          clear c4
          obtain rfl := Option.some.inj H
          go_wp2
          go_ret
          exact ⟨by first | rfl | (simp [errW_none, errW_some] <;> rfl) | (simp [*, errW_none, errW_some] <;> rfl), by repeat (first | (with_reducible first | exact HB.out | apply below_alloc | apply pw_below_drewN | apply below_drew1) | exact HB.out)⟩
  · rw [if_neg c3] at H
    have c3b0 : ((l0.length : Int) == (l1.length : Int)) = false := beq_eq_false_iff_ne.mpr c3
    have c3b1 : ((l0.length : Int) != (l1.length : Int)) = true := bne_iff_ne.mpr c3
    have c3b2 : (l0.length == l1.length) = false := by first | simpa using c3 | (simp at c3 ⊢; omega)
    obtain rfl := Option.some.inj H
    go_enter Try.func14, Try.ntmps14
    go_wp2
    go_ret
    exact ⟨by first | rfl | (simp [errW_none, errW_some] <;> rfl) | (simp [*, errW_none, errW_some] <;> rfl), by repeat (first | (with_reducible first | exact HB.out | apply below_alloc | apply pw_below_drewN | apply below_drew1) | exact HB.out)⟩

end Go.Proofs.Ytehldgkpkjgocaa.Fn
namespace Go.Proofs.Ytehldgkpkjgocaa.Pure
open Go.RowKit Go.Proofs.Ytehldgkpkjgocaa.Fn Go.Proofs.YtehldgkpkjgocaaW.PrintWords Go.Proofs.YtehldgkpkjgocaaW.PrintLast Go.Proofs.YtehldgkpkjgocaaW.PrintMore

theorem within_eq (a b c : Int) : impl_within.f a b c = some (decide (b ≤ a ∧ a ≤ c)) := by
  unfold impl_within.f
  by_cases h : b ≤ a
  · rw [if_pos h]; simp [h]
  · rw [if_neg h]; simp [h]
theorem specIn_eq (a b c : Int) : spec_l1In.f a b c = some (decide (b ≤ a ∧ a ≤ c)) := within_eq a b c
/-- Better: more, or as much and an earlier doc. -/
def Btr (x y : S43) : Prop := x.f1 > y.f1 ∨ x.f1 = y.f1 ∧ x.f0 < y.f0
instance (x y : S43) : Decidable (Btr x y) := by unfold Btr; infer_instance
theorem better_eq (a b c d : Int) : impl_Score_isBetter.f a b c d = some (decide (b > d ∨ b = d ∧ a < c)) := by
  unfold impl_Score_isBetter.f
  by_cases h : b > d
  · rw [if_pos h]; simp [h]
  · rw [if_neg h]
    by_cases h2 : b = d
    · rw [if_pos h2]; simp [h2]
    · rw [if_neg h2]; simp [h, h2]
theorem specBetter_eq (a b c d : Int) : spec_l10Better.f a b c d = some (decide (b > d ∨ b = d ∧ a < c)) := better_eq a b c d
theorem rd43_at {l : List S43} {i : Nat} {x : S43} (h : l[i]? = some x) : rd_T43 l (i : Int) = x := getD_at h
theorem rd40_at {l : List S40} {i : Nat} {x : S40} (h : l[i]? = some x) : rd_T40 l (i : Int) = x := getD_at h

def cv (x : S40) : S43 := ⟨x.f0, x.f1⟩
theorem sz_eq (l : List S40) (hl : l.length ≤ maxLen) : laws_szScoreS.f l 1048576 = some (if (l.length : Int) > 1048576 then (-1 : Int) else (1048576 - (l.length : Int))) := by
  unfold laws_szScoreS.f
  simp only [maxLen] at hl
  have e : wrap64 (1048576 - (l.length : Int)) = 1048576 - (l.length : Int) := wrap_ok (by omega) (by omega)
  rw [e]
  by_cases h : (l.length : Int) > 1048576
  · rw [if_pos h, if_pos (by omega)]
  · rw [if_neg h, if_neg (by omega)]
theorem to_ev (l : List S40) (hl : l.length ≤ 1048576) : Ev (fun k => laws_toScoreS.f k l) (l.map cv) := by
  have h := copy_ev (fun k x3 i => laws_toScoreS.l0 k l x3 i) cv z43 l ?_ ?_
  · refine Ev.same (K := 0) (fun k _ => ?_) h
    unfold laws_toScoreS.f
    rw [if_pos (by omega), if_pos (by omega), Int.toNat_natCast]
  · intro k x3
    simp only [laws_toScoreS.l0]
    rw [if_neg (by omega)]
  · intro i x hx
    have hlt := (List.getElem?_eq_some_iff.1 hx).1
    refine ⟨0, fun k x3 _ h3 => ?_⟩
    simp only [laws_toScoreS.l0]
    rw [if_pos (by omega), if_pos (by omega), rd40_at hx]
    simp only [laws_toScore.f, Option.bind_some]
    rw [if_pos (by omega), wrap_succ (by omega), Int.toNat_natCast]
    rfl
theorem eq_ev (l : List S43) (hl : l.length ≤ 1048576) : Ev (fun k => laws_eqScoreS.f k l l) true := by
  have h := all_ev (fun k i => laws_eqScoreS.l0 k l l i) l.length true ?_ ?_
  · refine Ev.same (K := 0) (fun k _ => ?_) h
    unfold laws_eqScoreS.f
    rw [if_pos rfl]
  · intro k
    simp only [laws_eqScoreS.l0]
    rw [if_neg (by omega)]
  · intro i hi
    refine ⟨0, fun k _ => ?_⟩
    simp only [laws_eqScoreS.l0]
    rw [if_pos (by omega), if_pos (by omega), if_pos (by omega), wrap_succ (by omega)]
    simp [laws_eqScore.f]
end Go.Proofs.Ytehldgkpkjgocaa.Pure
namespace Go.Proofs.Ytehldgkpkjgocaa.Pure
open Go.RowKit Go.Proofs.Ytehldgkpkjgocaa.Fn Go.Proofs.YtehldgkpkjgocaaW.PrintWords Go.Proofs.YtehldgkpkjgocaaW.PrintLast Go.Proofs.YtehldgkpkjgocaaW.PrintMore
set_option linter.unusedSimpArgs false

def scOk (x : S43) : Bool := decide (0 ≤ x.f0 ∧ x.f0 ≤ 99) && decide (0 ≤ x.f1 ∧ x.f1 ≤ 10000)
def heapOk (l : List S43) : Bool := l.all scOk && decide ((l.length : Int) ≤ 60)
theorem specHeap_ev2 (l : List S43) (hl : l.length ≤ 2000000) : Ev (fun k => spec_l10Heap.f k l) (heapOk l) := by
  have key : ∀ (t : List S43) (i : Nat), l.drop i = t → i ≤ l.length → Ev (fun k => spec_l10Heap.l0 k l l l.length i) (t.all scOk && decide ((l.length : Int) ≤ 60)) := by
    intro t
    induction t with
    | nil =>
      intro i h _
      have := drop_nil h
      (refine Ev.up ?_; simp only [spec_l10Heap.l0, decT])
      (repeat (first | with_reducible refine Ev.bindS ?_ | (with_reducible refine Ev.ifp ?_ ?_; (· first | omega | assumption | rfl | (simp only [List.length_map, List.length_replicate, List.length_take, List.length_drop, List.length_append, List.length_cons, List.length_nil, List.length_set]; omega) | (simp; done))) | (with_reducible refine Ev.ifn ?_ ?_; (· first | omega | assumption | rfl | (simp only [List.length_map, List.length_replicate, List.length_take, List.length_drop, List.length_append, List.length_cons, List.length_nil, List.length_set]; omega) | (simp; done)))))
      exact Ev.val (by simp)
    | cons x t ih =>
      intro i h hi
      obtain ⟨h1, h2, h3⟩ := drop_cons h
      have ih := ih (i + 1) h3 (by omega)
      (refine Ev.up ?_; simp only [spec_l10Heap.l0, decT])
      rw [rd43_at h2, wrap_succ (by omega)]
      simp only [specIn_eq]
      (repeat (first | with_reducible refine Ev.bindS ?_ | (with_reducible refine Ev.ifp ?_ ?_; (· first | omega | assumption | rfl | (simp only [List.length_map, List.length_replicate, List.length_take, List.length_drop, List.length_append, List.length_cons, List.length_nil, List.length_set]; omega) | (simp; done))) | (with_reducible refine Ev.ifn ?_ ?_; (· first | omega | assumption | rfl | (simp only [List.length_map, List.length_replicate, List.length_take, List.length_drop, List.length_append, List.length_cons, List.length_nil, List.length_set]; omega) | (simp; done)))))
      by_cases a : 0 ≤ x.f0 ∧ x.f0 ≤ 99
      · simp only [decT]
        (repeat (first | with_reducible refine Ev.bindS ?_ | (with_reducible refine Ev.ifp ?_ ?_; (· first | omega | assumption | rfl | (simp only [List.length_map, List.length_replicate, List.length_take, List.length_drop, List.length_append, List.length_cons, List.length_nil, List.length_set]; omega) | (simp; done))) | (with_reducible refine Ev.ifn ?_ ?_; (· first | omega | assumption | rfl | (simp only [List.length_map, List.length_replicate, List.length_take, List.length_drop, List.length_append, List.length_cons, List.length_nil, List.length_set]; omega) | (simp; done)))))
        by_cases b : 0 ≤ x.f1 ∧ x.f1 ≤ 10000
        · simp only [decT]
          (repeat (first | with_reducible refine Ev.bindS ?_ | (with_reducible refine Ev.ifp ?_ ?_; (· first | omega | assumption | rfl | (simp only [List.length_map, List.length_replicate, List.length_take, List.length_drop, List.length_append, List.length_cons, List.length_nil, List.length_set]; omega) | (simp; done))) | (with_reducible refine Ev.ifn ?_ ?_; (· first | omega | assumption | rfl | (simp only [List.length_map, List.length_replicate, List.length_take, List.length_drop, List.length_append, List.length_cons, List.length_nil, List.length_set]; omega) | (simp; done)))))
          simpa [scOk, a, b] using ih
        · simp only [decT]
          (repeat (first | with_reducible refine Ev.bindS ?_ | (with_reducible refine Ev.ifp ?_ ?_; (· first | omega | assumption | rfl | (simp only [List.length_map, List.length_replicate, List.length_take, List.length_drop, List.length_append, List.length_cons, List.length_nil, List.length_set]; omega) | (simp; done))) | (with_reducible refine Ev.ifn ?_ ?_; (· first | omega | assumption | rfl | (simp only [List.length_map, List.length_replicate, List.length_take, List.length_drop, List.length_append, List.length_cons, List.length_nil, List.length_set]; omega) | (simp; done)))))
          exact Ev.val (by simp only [List.all_cons, scOk, decide_eq_false b]; simp)
      · simp only [decT]
        (repeat (first | with_reducible refine Ev.bindS ?_ | (with_reducible refine Ev.ifp ?_ ?_; (· first | omega | assumption | rfl | (simp only [List.length_map, List.length_replicate, List.length_take, List.length_drop, List.length_append, List.length_cons, List.length_nil, List.length_set]; omega) | (simp; done))) | (with_reducible refine Ev.ifn ?_ ?_; (· first | omega | assumption | rfl | (simp only [List.length_map, List.length_replicate, List.length_take, List.length_drop, List.length_append, List.length_cons, List.length_nil, List.length_set]; omega) | (simp; done)))))
        exact Ev.val (by simp only [List.all_cons, scOk, decide_eq_false a]; simp)
  exact key l 0 (by simp) (by omega)
theorem specHeap_ev (l : List S43) (hl : l.length ≤ 1048576) : Ev (fun k => spec_l10Heap.f k l) (heapOk l) := specHeap_ev2 l (by omega)
theorem implScores_ev2 (l : List S43) (hl : l.length ≤ 2000000) : Ev (fun k => impl_areScores.f k l) (heapOk l) := by
  have key : ∀ (t : List S43) (i : Nat), l.drop i = t → i ≤ l.length → ∃ r : Int, Ev (fun k => slices_IndexFunc_at57.l0 k l l.length i) r ∧ (decide (r ≥ 0) = !(t.all scOk)) := by
    intro t
    induction t with
    | nil =>
      intro i h _
      have := drop_nil h
      refine ⟨-1, ?_, by simp⟩
      (refine Ev.up ?_; simp only [slices_IndexFunc_at57.l0, decT])
      (repeat (first | with_reducible refine Ev.bindS ?_ | (with_reducible refine Ev.ifp ?_ ?_; (· first | omega | assumption | rfl | (simp only [List.length_map, List.length_replicate, List.length_take, List.length_drop, List.length_append, List.length_cons, List.length_nil, List.length_set]; omega) | (simp; done))) | (with_reducible refine Ev.ifn ?_ ?_; (· first | omega | assumption | rfl | (simp only [List.length_map, List.length_replicate, List.length_take, List.length_drop, List.length_append, List.length_cons, List.length_nil, List.length_set]; omega) | (simp; done)))))
      exact Ev.val rfl
    | cons x t ih =>
      intro i h hi
      obtain ⟨h1, h2, h3⟩ := drop_cons h
      obtain ⟨r, hr, hr2⟩ := ih (i + 1) h3 (by omega)
      have e : impl_areScores_1.f x.f0 x.f1 = some (!scOk x) := by
        simp only [impl_areScores_1.f, within_eq, Option.bind_some, scOk]
        by_cases a : 0 ≤ x.f0 ∧ x.f0 ≤ 99
        · rw [decide_eq_true a]; simp
        · rw [decide_eq_false a]; simp
      cases hg : scOk x with
      | true =>
        refine ⟨r, ?_, by simpa [hg] using hr2⟩
        (refine Ev.up ?_; simp only [slices_IndexFunc_at57.l0, decT])
        rw [rd43_at h2, wrap_succ (by omega), e, hg]
        (repeat (first | with_reducible refine Ev.bindS ?_ | (with_reducible refine Ev.ifp ?_ ?_; (· first | omega | assumption | rfl | (simp only [List.length_map, List.length_replicate, List.length_take, List.length_drop, List.length_append, List.length_cons, List.length_nil, List.length_set]; omega) | (simp; done))) | (with_reducible refine Ev.ifn ?_ ?_; (· first | omega | assumption | rfl | (simp only [List.length_map, List.length_replicate, List.length_take, List.length_drop, List.length_append, List.length_cons, List.length_nil, List.length_set]; omega) | (simp; done)))))
        exact hr
      | false =>
        refine ⟨i, ?_, by simp [hg]⟩
        (refine Ev.up ?_; simp only [slices_IndexFunc_at57.l0, decT])
        rw [rd43_at h2, e, hg]
        (repeat (first | with_reducible refine Ev.bindS ?_ | (with_reducible refine Ev.ifp ?_ ?_; (· first | omega | assumption | rfl | (simp only [List.length_map, List.length_replicate, List.length_take, List.length_drop, List.length_append, List.length_cons, List.length_nil, List.length_set]; omega) | (simp; done))) | (with_reducible refine Ev.ifn ?_ ?_; (· first | omega | assumption | rfl | (simp only [List.length_map, List.length_replicate, List.length_take, List.length_drop, List.length_append, List.length_cons, List.length_nil, List.length_set]; omega) | (simp; done)))))
        exact Ev.val rfl
  obtain ⟨r, hr, hr2⟩ := key l 0 (by simp) (by omega)
  simp only [impl_areScores.f]
  by_cases h : (l.length : Int) ≤ 60
  · (repeat (first | with_reducible refine Ev.bindS ?_ | (with_reducible refine Ev.ifp ?_ ?_; (· first | omega | assumption | rfl | (simp only [List.length_map, List.length_replicate, List.length_take, List.length_drop, List.length_append, List.length_cons, List.length_nil, List.length_set]; omega) | (simp; done))) | (with_reducible refine Ev.ifn ?_ ?_; (· first | omega | assumption | rfl | (simp only [List.length_map, List.length_replicate, List.length_take, List.length_drop, List.length_append, List.length_cons, List.length_nil, List.length_set]; omega) | (simp; done)))))
    simp only [slices_ContainsFunc_at57.f]
    refine Ev.bind (a := decide (r ≥ 0)) (Ev.bind hr (Ev.val rfl)) ?_
    exact Ev.val (by rw [hr2]; simp [heapOk, h])
  · (repeat (first | with_reducible refine Ev.bindS ?_ | (with_reducible refine Ev.ifp ?_ ?_; (· first | omega | assumption | rfl | (simp only [List.length_map, List.length_replicate, List.length_take, List.length_drop, List.length_append, List.length_cons, List.length_nil, List.length_set]; omega) | (simp; done))) | (with_reducible refine Ev.ifn ?_ ?_; (· first | omega | assumption | rfl | (simp only [List.length_map, List.length_replicate, List.length_take, List.length_drop, List.length_append, List.length_cons, List.length_nil, List.length_set]; omega) | (simp; done)))))
    exact Ev.val (by simp [heapOk, h])
theorem implScores_ev (l : List S43) (hl : l.length ≤ 1048576) : Ev (fun k => impl_areScores.f k l) (heapOk l) := implScores_ev2 l (by omega)
theorem is_same (l : List S43) : ∀ k i, impl_isHeap.l0 k l i = spec_l10Is.l0 k l i := by
  intro k
  induction k with
  | zero => intro i; simp only [impl_isHeap.l0, spec_l10Is.l0]
  | succ k ih => intro i; simp only [impl_isHeap.l0, spec_l10Is.l0, ih, better_eq, specBetter_eq]
theorem is_twin (l : List S43) (hl : l.length ≤ 1048576) : Twin Eq (fun k => spec_l10Is.f k l) (fun k => impl_isHeap.f k l) := by
  have key : ∀ d (i : Nat), i + d = l.length + 1 → 1 ≤ i → ∃ r, Ev (fun k => spec_l10Is.l0 k l i) r := by
    intro d
    induction d with
    | zero =>
      intro i h _
      refine ⟨true, ?_⟩
      (refine Ev.up ?_; simp only [spec_l10Is.l0, decT])
      (repeat (first | with_reducible refine Ev.bindS ?_ | (with_reducible refine Ev.ifp ?_ ?_; (· first | omega | assumption | rfl | (simp only [List.length_map, List.length_replicate, List.length_take, List.length_drop, List.length_append, List.length_cons, List.length_nil, List.length_set]; omega) | (simp; done))) | (with_reducible refine Ev.ifn ?_ ?_; (· first | omega | assumption | rfl | (simp only [List.length_map, List.length_replicate, List.length_take, List.length_drop, List.length_append, List.length_cons, List.length_nil, List.length_set]; omega) | (simp; done)))))
      exact Ev.val rfl
    | succ d ih =>
      intro i h hi
      by_cases hlt : i < l.length
      · have e : wrap64 (Int.tdiv (wrap64 ((i : Int) - 1)) 2) = (((i - 1) / 2 : Nat) : Int) := by
          rw [wrap_ok (n := (i : Int) - 1) (by omega) (by omega)]
          have e1 : (i : Int) - 1 = ((i - 1 : Nat) : Int) := by omega
          rw [e1]
          have e2 : Int.tdiv ((i - 1 : Nat) : Int) 2 = (((i - 1) / 2 : Nat) : Int) := rfl
          rw [e2, wrap_ok (by omega) (by omega)]
        obtain ⟨r, hr⟩ := ih (i + 1) (by omega) (by omega)
        cases hb : decide ((rd_T43 l i).f1 > (rd_T43 l (((i - 1) / 2 : Nat) : Int)).f1 ∨ (rd_T43 l i).f1 = (rd_T43 l (((i - 1) / 2 : Nat) : Int)).f1 ∧ (rd_T43 l i).f0 < (rd_T43 l (((i - 1) / 2 : Nat) : Int)).f0) with
        | true =>
          refine ⟨false, ?_⟩
          (refine Ev.up ?_; simp only [spec_l10Is.l0, decT])
          simp only [e, specBetter_eq, hb]
          (repeat (first | with_reducible refine Ev.bindS ?_ | (with_reducible refine Ev.ifp ?_ ?_; (· first | omega | assumption | rfl | (simp only [List.length_map, List.length_replicate, List.length_take, List.length_drop, List.length_append, List.length_cons, List.length_nil, List.length_set]; omega) | (simp; done))) | (with_reducible refine Ev.ifn ?_ ?_; (· first | omega | assumption | rfl | (simp only [List.length_map, List.length_replicate, List.length_take, List.length_drop, List.length_append, List.length_cons, List.length_nil, List.length_set]; omega) | (simp; done)))))
          exact Ev.val rfl
        | false =>
          refine ⟨r, ?_⟩
          (refine Ev.up ?_; simp only [spec_l10Is.l0, decT])
          simp only [e, specBetter_eq, hb, wrap_succ (i := i) (by omega)]
          (repeat (first | with_reducible refine Ev.bindS ?_ | (with_reducible refine Ev.ifp ?_ ?_; (· first | omega | assumption | rfl | (simp only [List.length_map, List.length_replicate, List.length_take, List.length_drop, List.length_append, List.length_cons, List.length_nil, List.length_set]; omega) | (simp; done))) | (with_reducible refine Ev.ifn ?_ ?_; (· first | omega | assumption | rfl | (simp only [List.length_map, List.length_replicate, List.length_take, List.length_drop, List.length_append, List.length_cons, List.length_nil, List.length_set]; omega) | (simp; done)))))
          exact hr
      · refine ⟨true, ?_⟩
        (refine Ev.up ?_; simp only [spec_l10Is.l0, decT])
        (repeat (first | with_reducible refine Ev.bindS ?_ | (with_reducible refine Ev.ifp ?_ ?_; (· first | omega | assumption | rfl | (simp only [List.length_map, List.length_replicate, List.length_take, List.length_drop, List.length_append, List.length_cons, List.length_nil, List.length_set]; omega) | (simp; done))) | (with_reducible refine Ev.ifn ?_ ?_; (· first | omega | assumption | rfl | (simp only [List.length_map, List.length_replicate, List.length_take, List.length_drop, List.length_append, List.length_cons, List.length_nil, List.length_set]; omega) | (simp; done)))))
        exact Ev.val rfl
  obtain ⟨r, hr⟩ := key l.length 1 (by omega) (by omega)
  refine Twin.of rfl (a := r) hr ?_
  exact Ev.same (K := 0) (fun k _ => by simp only [impl_isHeap.f]; exact is_same l k _) hr
end Go.Proofs.Ytehldgkpkjgocaa.Pure
namespace Go.Proofs.Ytehldgkpkjgocaa.Pure
open Go.RowKit Go.Proofs.Ytehldgkpkjgocaa.Fn Go.Proofs.YtehldgkpkjgocaaW.PrintWords Go.Proofs.YtehldgkpkjgocaaW.PrintLast Go.Proofs.YtehldgkpkjgocaaW.PrintMore
set_option linter.unusedSimpArgs false
set_option linter.unusedVariables false

def ga (l : List S43) (i : Nat) : S43 := l.getD i z43
theorem rd_ga (l : List S43) (i : Nat) : rd_T43 l (i : Int) = ga l i := rfl
theorem ga_mem {l : List S43} {i : Nat} (h : i < l.length) : ga l i ∈ l := by
  rw [ga, List.getD_eq_getElem?_getD, List.getElem?_eq_getElem h]
  exact List.getElem_mem h
theorem ga_set (l : List S43) (i : Nat) (x : S43) (j : Nat) : ga (l.set i x) j = if i = j ∧ i < l.length then x else ga l j := by
  simp only [ga, List.getD_eq_getElem?_getD, List.getElem?_set]
  by_cases h : i = j
  · subst h
    by_cases h2 : i < l.length
    · simp [h2]
    · simp [h2]
  · simp [h]
def swap (l : List S43) (i c : Nat) : List S43 := (l.set i (ga l c)).set c (ga l i)
theorem swap_len (l : List S43) (i c : Nat) : (swap l i c).length = l.length := by simp [swap]
theorem ga_swap (l : List S43) (i c : Nat) (hi : i < l.length) (hc : c < l.length) (j : Nat) : ga (swap l i c) j = if j = c then ga l i else if j = i then ga l c else ga l j := by
  rw [swap, ga_set, ga_set, List.length_set]
  by_cases h1 : j = c
  · rw [if_pos h1, if_pos ⟨h1.symm, hc⟩]
  · rw [if_neg h1, if_neg (fun h => h1 h.1.symm)]
    by_cases h2 : j = i
    · rw [if_pos h2, if_pos ⟨h2.symm, hi⟩]
    · rw [if_neg h2, if_neg (fun h => h2 h.1.symm)]
theorem swap_mem {l : List S43} {i c : Nat} (hi : i < l.length) (hc : c < l.length) {y : S43} (h : y ∈ swap l i c) : y ∈ l := by
  rcases List.mem_or_eq_of_mem_set h with h | h
  · rcases List.mem_or_eq_of_mem_set h with h | h
    · exact h
    · rw [h]; exact ga_mem hc
  · rw [h]; exact ga_mem hi
def IsH (l : List S43) : Prop := ∀ j, 0 < j → j < l.length → ¬ Btr (ga l j) (ga l ((j - 1) / 2))
def up : Nat → List S43 → Nat → List S43
  | 0, l, _ => l
  | f + 1, l, i => if i = 0 then l else if Btr (ga l i) (ga l ((i - 1) / 2)) then up f (swap l i ((i - 1) / 2)) ((i - 1) / 2) else l
def kidOf (l : List S43) (i : Nat) : Nat := if 2 * i + 2 < l.length ∧ Btr (ga l (2 * i + 2)) (ga l (2 * i + 1)) then 2 * i + 2 else 2 * i + 1
def down : Nat → List S43 → Nat → List S43
  | 0, l, _ => l
  | f + 1, l, i => if 2 * i + 1 < l.length then (if Btr (ga l (kidOf l i)) (ga l i) then down f (swap l i (kidOf l i)) (kidOf l i) else l) else l
theorem kid_lt (l : List S43) (i : Nat) (h : 2 * i + 1 < l.length) : kidOf l i < l.length ∧ (kidOf l i = 2 * i + 1 ∨ kidOf l i = 2 * i + 2) := by
  unfold kidOf
  split
  · rename_i h2; exact ⟨h2.1, .inr rfl⟩
  · exact ⟨h, .inl rfl⟩
theorem asym {x y : S43} (h : Btr x y) : ¬ Btr y x := by unfold Btr at *; omega
theorem ntrans {x y z : S43} (h1 : ¬ Btr x y) (h2 : ¬ Btr y z) : ¬ Btr x z := by unfold Btr at *; omega
theorem nless {x y z : S43} (h1 : ¬ Btr x z) (h2 : Btr y z) : ¬ Btr x y := by unfold Btr at *; omega
theorem kid_best (l : List S43) (i j : Nat) (h0 : 0 < j) (h : j < l.length) (hj : (j - 1) / 2 = i) : ¬ Btr (ga l j) (ga l (kidOf l i)) := by
  have hor : j = 2 * i + 1 ∨ j = 2 * i + 2 := by omega
  unfold kidOf
  rcases hor with e | e
  · subst e
    split
    · rename_i h2; exact asym h2.2
    · intro hb; unfold Btr at hb; omega
  · subst e
    split
    · intro hb; unfold Btr at hb; omega
    · rename_i h2; exact fun hb => h2 ⟨h, hb⟩
theorem up_len (f : Nat) : ∀ l i, (up f l i).length = l.length := by
  induction f with
  | zero => intro l i; rfl
  | succ f ih =>
    intro l i
    simp only [up]
    split
    · rfl
    · split
      · rw [ih, swap_len]
      · rfl
theorem up_mem (f : Nat) : ∀ (l : List S43) (i : Nat), i < l.length → ∀ y ∈ up f l i, y ∈ l := by
  induction f with
  | zero => intro l i _ y h; exact h
  | succ f ih =>
    intro l i hi y h
    simp only [up] at h
    split at h
    · exact h
    · split at h
      · exact swap_mem hi (by omega) (ih _ _ (by rw [swap_len]; omega) y h)
      · exact h
theorem up_heap (f : Nat) : ∀ (l : List S43) (i : Nat), i ≤ f → i < l.length → (∀ j, 0 < j → j < l.length → j ≠ i → ¬ Btr (ga l j) (ga l ((j - 1) / 2))) →
    (∀ j, 0 < j → j < l.length → (j - 1) / 2 = i → 0 < i → ¬ Btr (ga l j) (ga l ((i - 1) / 2))) → IsH (up f l i) := by
  induction f with
  | zero =>
    intro l i hf hi h1 h2 j h0 hj
    exact h1 j h0 hj (by omega)
  | succ f ih =>
    intro l i hf hi h1 h2
    simp only [up]
    by_cases hi0 : i = 0
    · rw [if_pos hi0]
      intro j h0 hj
      exact h1 j h0 hj (by omega)
    · rw [if_neg hi0]
      by_cases hb : Btr (ga l i) (ga l ((i - 1) / 2))
      · rw [if_pos hb]
        have hp : (i - 1) / 2 < l.length := by omega
        have hsw := ga_swap l i ((i - 1) / 2) hi hp
        refine ih _ _ (by omega) (by rw [swap_len]; omega) (fun j h0 hj hne => ?_) (fun j h0 hj hpar hpos => ?_)
        · rw [swap_len] at hj
          rw [hsw j, if_neg hne]
          by_cases hji : j = i
          · subst hji
            rw [if_pos rfl, hsw, if_pos rfl]
            exact asym hb
          · rw [if_neg hji, hsw]
            by_cases hq : (j - 1) / 2 = (i - 1) / 2
            · rw [if_pos hq]
              have := h1 j h0 hj hji
              rw [hq] at this
              exact nless this hb
            · rw [if_neg hq]
              by_cases hq2 : (j - 1) / 2 = i
              · rw [if_pos hq2]
                exact h2 j h0 hj hq2 (by omega)
              · rw [if_neg hq2]
                exact h1 j h0 hj hji
        · rw [swap_len] at hj
          have e1 : ga (swap l i ((i - 1) / 2)) (((i - 1) / 2 - 1) / 2) = ga l (((i - 1) / 2 - 1) / 2) := by
            rw [hsw, if_neg (by omega), if_neg (by omega)]
          rw [e1, hsw j, if_neg (by omega)]
          have hpp := h1 ((i - 1) / 2) hpos hp (by omega)
          by_cases hji : j = i
          · rw [if_pos hji]
            exact hpp
          · rw [if_neg hji]
            have := h1 j h0 hj hji
            rw [hpar] at this
            exact ntrans this hpp
      · rw [if_neg hb]
        intro j h0 hj
        by_cases hji : j = i
        · rw [hji]; exact hb
        · exact h1 j h0 hj hji
theorem down_len (f : Nat) : ∀ l i, (down f l i).length = l.length := by
  induction f with
  | zero => intro l i; rfl
  | succ f ih =>
    intro l i
    simp only [down]
    split
    · split
      · rw [ih, swap_len]
      · rfl
    · rfl
theorem down_mem (f : Nat) : ∀ (l : List S43) (i : Nat), ∀ y ∈ down f l i, y ∈ l := by
  induction f with
  | zero => intro l i y h; exact h
  | succ f ih =>
    intro l i y h
    simp only [down] at h
    split at h
    · rename_i hlt
      split at h
      · exact swap_mem (by omega) (kid_lt l i hlt).1 (ih _ _ y h)
      · exact h
    · exact h
theorem down_heap (f : Nat) : ∀ (l : List S43) (i : Nat), l.length ≤ f + i → (∀ j, 0 < j → j < l.length → (j - 1) / 2 ≠ i → ¬ Btr (ga l j) (ga l ((j - 1) / 2))) →
    (∀ j, 0 < j → j < l.length → (j - 1) / 2 = i → 0 < i → ¬ Btr (ga l j) (ga l ((i - 1) / 2))) → IsH (down f l i) := by
  induction f with
  | zero =>
    intro l i hf h1 h2 j h0 hj
    have hj : j < l.length := hj
    exact h1 j h0 hj (by omega)
  | succ f ih =>
    intro l i hf h1 h2
    simp only [down]
    by_cases hlt : 2 * i + 1 < l.length
    · rw [if_pos hlt]
      obtain ⟨hc, hcor⟩ := kid_lt l i hlt
      have hbest := kid_best l i
      generalize kidOf l i = c at hc hcor hbest ⊢
      by_cases hb : Btr (ga l c) (ga l i)
      · rw [if_pos hb]
        have hsw := ga_swap l i c (by omega) hc
        refine ih _ _ (by rw [swap_len]; omega) (fun j h0 hj hne => ?_) (fun j h0 hj hpar hpos => ?_)
        · rw [swap_len] at hj
          rw [hsw j]
          by_cases hjc : j = c
          · rw [if_pos hjc, hsw, if_neg (by omega), if_pos (by omega)]
            exact asym hb
          · rw [if_neg hjc]
            by_cases hji : j = i
            · rw [if_pos hji, hsw, if_neg (by omega), if_neg (by omega), hji]
              exact h2 c (by omega) hc (by omega) (by omega)
            · rw [if_neg hji, hsw, if_neg hne]
              by_cases hq : (j - 1) / 2 = i
              · rw [if_pos hq]
                exact hbest j h0 hj hq
              · rw [if_neg hq]
                exact h1 j h0 hj hq
        · rw [swap_len] at hj
          have e : (c - 1) / 2 = i := by omega
          rw [e, hsw j, if_neg (by omega), if_neg (by omega), hsw i, if_neg (by omega), if_pos rfl]
          have := h1 j h0 hj (by omega)
          rw [hpar] at this
          exact this
      · rw [if_neg hb]
        intro j h0 hj
        by_cases hq : (j - 1) / 2 = i
        · rw [hq]
          exact ntrans (hbest j h0 hj hq) hb
        · exact h1 j h0 hj hq
    · rw [if_neg hlt]
      intro j h0 hj
      exact h1 j h0 hj (by omega)
theorem first_best {l : List S43} (h : IsH l) : ∀ n j, j ≤ n → j < l.length → ¬ Btr (ga l j) (ga l 0) := by
  intro n
  induction n with
  | zero =>
    intro j hn hj
    have e : j = 0 := by omega
    subst e
    intro hb; unfold Btr at hb; omega
  | succ n ih =>
    intro j hn hj
    by_cases h0 : j = 0
    · subst h0
      intro hb; unfold Btr at hb; omega
    · exact ntrans (h j (by omega) hj) (ih ((j - 1) / 2) (by omega) (by omega))
end Go.Proofs.Ytehldgkpkjgocaa.Pure
namespace Go.Proofs.Ytehldgkpkjgocaa.Pure
open Go.RowKit Go.Proofs.Ytehldgkpkjgocaa.Fn Go.Proofs.YtehldgkpkjgocaaW.PrintWords Go.Proofs.YtehldgkpkjgocaaW.PrintLast Go.Proofs.YtehldgkpkjgocaaW.PrintMore
set_option linter.unusedSimpArgs false
set_option linter.unusedVariables false

theorem half_eq (i : Nat) (h1 : 1 ≤ i) (h2 : i ≤ 4000000) : wrap64 (Int.tdiv (wrap64 ((i : Int) - 1)) 2) = (((i - 1) / 2 : Nat) : Int) := by
  rw [wrap_ok (n := (i : Int) - 1) (by omega) (by omega)]
  have e1 : (i : Int) - 1 = ((i - 1 : Nat) : Int) := by omega
  rw [e1]
  have e2 : Int.tdiv ((i - 1 : Nat) : Int) 2 = (((i - 1) / 2 : Nat) : Int) := rfl
  rw [e2, wrap_ok (by omega) (by omega)]
theorem btr_iff (x y : S43) : (x.f1 > y.f1 ∨ x.f1 = y.f1 ∧ x.f0 < y.f0) = Btr x y := rfl
/-- What the test for a heap answers. -/
theorem is_ev (l : List S43) (hl : l.length ≤ 1048576) : ∃ b : Bool, Ev (fun k => spec_l10Is.f k l) b ∧ Ev (fun k => impl_isHeap.f k l) b ∧ (b = true ↔ IsH l) := by
  have key : ∀ d (i : Nat), i + d = l.length + 1 → 1 ≤ i → ∃ b : Bool, Ev (fun k => spec_l10Is.l0 k l i) b ∧ (b = true ↔ ∀ j, i ≤ j → j < l.length → ¬ Btr (ga l j) (ga l ((j - 1) / 2))) := by
    intro d
    induction d with
    | zero =>
      intro i h _
      refine ⟨true, ?_, ⟨fun _ j h1 h2 => by omega, fun _ => rfl⟩⟩
      (refine Ev.up ?_; simp only [spec_l10Is.l0, decT])
      (repeat (first | with_reducible refine Ev.bindS ?_ | (with_reducible refine Ev.ifp ?_ ?_; (· first | omega | assumption | rfl | (simp only [List.length_map, List.length_replicate, List.length_take, List.length_drop, List.length_append, List.length_cons, List.length_nil, List.length_set]; omega) | (simp; done))) | (with_reducible refine Ev.ifn ?_ ?_; (· first | omega | assumption | rfl | (simp only [List.length_map, List.length_replicate, List.length_take, List.length_drop, List.length_append, List.length_cons, List.length_nil, List.length_set]; omega) | (simp; done)))))
      exact Ev.val rfl
    | succ d ih =>
      intro i h hi
      by_cases hlt : i < l.length
      · have e := half_eq i hi (by omega)
        by_cases hb : Btr (ga l i) (ga l ((i - 1) / 2))
        · refine ⟨false, ?_, ⟨fun h => (by cases h), fun h => absurd hb (h i (Nat.le_refl _) hlt)⟩⟩
          (refine Ev.up ?_; simp only [spec_l10Is.l0, decT])
          simp only [e, specBetter_eq, rd_ga, btr_iff, decide_eq_true hb]
          (repeat (first | with_reducible refine Ev.bindS ?_ | (with_reducible refine Ev.ifp ?_ ?_; (· first | omega | assumption | rfl | (simp only [List.length_map, List.length_replicate, List.length_take, List.length_drop, List.length_append, List.length_cons, List.length_nil, List.length_set]; omega) | (simp; done))) | (with_reducible refine Ev.ifn ?_ ?_; (· first | omega | assumption | rfl | (simp only [List.length_map, List.length_replicate, List.length_take, List.length_drop, List.length_append, List.length_cons, List.length_nil, List.length_set]; omega) | (simp; done)))))
          exact Ev.val rfl
        · obtain ⟨b, h1, h2⟩ := ih (i + 1) (by omega) (by omega)
          refine ⟨b, ?_, h2.trans ⟨fun h j hj hj2 => ?_, fun h j hj hj2 => h j (by omega) hj2⟩⟩
          · (refine Ev.up ?_; simp only [spec_l10Is.l0, decT])
            simp only [e, specBetter_eq, rd_ga, btr_iff, decide_eq_false hb, wrap_succ (i := i) (by omega)]
            (repeat (first | with_reducible refine Ev.bindS ?_ | (with_reducible refine Ev.ifp ?_ ?_; (· first | omega | assumption | rfl | (simp only [List.length_map, List.length_replicate, List.length_take, List.length_drop, List.length_append, List.length_cons, List.length_nil, List.length_set]; omega) | (simp; done))) | (with_reducible refine Ev.ifn ?_ ?_; (· first | omega | assumption | rfl | (simp only [List.length_map, List.length_replicate, List.length_take, List.length_drop, List.length_append, List.length_cons, List.length_nil, List.length_set]; omega) | (simp; done)))))
            exact h1
          · by_cases hji : j = i
            · rw [hji]; exact hb
            · exact h j (by omega) hj2
      · refine ⟨true, ?_, ⟨fun _ j h1 h2 => by omega, fun _ => rfl⟩⟩
        (refine Ev.up ?_; simp only [spec_l10Is.l0, decT])
        (repeat (first | with_reducible refine Ev.bindS ?_ | (with_reducible refine Ev.ifp ?_ ?_; (· first | omega | assumption | rfl | (simp only [List.length_map, List.length_replicate, List.length_take, List.length_drop, List.length_append, List.length_cons, List.length_nil, List.length_set]; omega) | (simp; done))) | (with_reducible refine Ev.ifn ?_ ?_; (· first | omega | assumption | rfl | (simp only [List.length_map, List.length_replicate, List.length_take, List.length_drop, List.length_append, List.length_cons, List.length_nil, List.length_set]; omega) | (simp; done)))))
        exact Ev.val rfl
  obtain ⟨b, h1, h2⟩ := key l.length 1 (by omega) (by omega)
  exact ⟨b, h1, Ev.same (K := 0) (fun k _ => is_same l k 1) h1, h2⟩
theorem push_loop (f : Nat) : ∀ (l : List S43) (i : Nat), i ≤ f → i < l.length → l.length ≤ 2000000 → Ev (fun k => spec_HeapPush.l0 k l i) (up f l i, true) := by
  induction f with
  | zero =>
    intro l i hf hi hl
    (refine Ev.up ?_; simp only [spec_HeapPush.l0, decT])
    (repeat (first | with_reducible refine Ev.bindS ?_ | (with_reducible refine Ev.ifp ?_ ?_; (· first | omega | assumption | rfl | (simp only [List.length_map, List.length_replicate, List.length_take, List.length_drop, List.length_append, List.length_cons, List.length_nil, List.length_set]; omega) | (simp; done))) | (with_reducible refine Ev.ifn ?_ ?_; (· first | omega | assumption | rfl | (simp only [List.length_map, List.length_replicate, List.length_take, List.length_drop, List.length_append, List.length_cons, List.length_nil, List.length_set]; omega) | (simp; done)))))
    exact Ev.val rfl
  | succ f ih =>
    intro l i hf hi hl
    by_cases h0 : i = 0
    · have e : up (f + 1) l i = l := by simp only [up]; rw [if_pos h0]
      rw [e]
      (refine Ev.up ?_; simp only [spec_HeapPush.l0, decT])
      (repeat (first | with_reducible refine Ev.bindS ?_ | (with_reducible refine Ev.ifp ?_ ?_; (· first | omega | assumption | rfl | (simp only [List.length_map, List.length_replicate, List.length_take, List.length_drop, List.length_append, List.length_cons, List.length_nil, List.length_set]; omega) | (simp; done))) | (with_reducible refine Ev.ifn ?_ ?_; (· first | omega | assumption | rfl | (simp only [List.length_map, List.length_replicate, List.length_take, List.length_drop, List.length_append, List.length_cons, List.length_nil, List.length_set]; omega) | (simp; done)))))
      exact Ev.val rfl
    · have e := half_eq i (by omega) (by omega)
      by_cases hb : Btr (ga l i) (ga l ((i - 1) / 2))
      · have ih := ih (swap l i ((i - 1) / 2)) ((i - 1) / 2) (by omega) (by rw [swap_len]; omega) (by rw [swap_len]; omega)
        have e2 : up (f + 1) l i = up f (swap l i ((i - 1) / 2)) ((i - 1) / 2) := by simp only [up]; rw [if_neg h0, if_pos hb]
        rw [e2]
        (refine Ev.up ?_; simp only [spec_HeapPush.l0, decT])
        simp only [e, specBetter_eq, rd_ga, btr_iff, decide_eq_true hb]
        (repeat (first | with_reducible refine Ev.bindS ?_ | (with_reducible refine Ev.ifp ?_ ?_; (· first | omega | assumption | rfl | (simp only [List.length_map, List.length_replicate, List.length_take, List.length_drop, List.length_append, List.length_cons, List.length_nil, List.length_set]; omega) | (simp; done))) | (with_reducible refine Ev.ifn ?_ ?_; (· first | omega | assumption | rfl | (simp only [List.length_map, List.length_replicate, List.length_take, List.length_drop, List.length_append, List.length_cons, List.length_nil, List.length_set]; omega) | (simp; done)))))
        exact ih
      · have e2 : up (f + 1) l i = l := by simp only [up]; rw [if_neg h0, if_neg hb]
        rw [e2]
        (refine Ev.up ?_; simp only [spec_HeapPush.l0, decT])
        simp only [e, specBetter_eq, rd_ga, btr_iff, decide_eq_false hb]
        (repeat (first | with_reducible refine Ev.bindS ?_ | (with_reducible refine Ev.ifp ?_ ?_; (· first | omega | assumption | rfl | (simp only [List.length_map, List.length_replicate, List.length_take, List.length_drop, List.length_append, List.length_cons, List.length_nil, List.length_set]; omega) | (simp; done))) | (with_reducible refine Ev.ifn ?_ ?_; (· first | omega | assumption | rfl | (simp only [List.length_map, List.length_replicate, List.length_take, List.length_drop, List.length_append, List.length_cons, List.length_nil, List.length_set]; omega) | (simp; done)))))
        exact Ev.val rfl
theorem push_same : ∀ k l i, impl_HeapPush.l0 k l i = spec_HeapPush.l0 k l i := by
  intro k
  induction k with
  | zero => intro l i; simp only [impl_HeapPush.l0, spec_HeapPush.l0]
  | succ k ih => intro l i; simp only [impl_HeapPush.l0, spec_HeapPush.l0, ih, better_eq, specBetter_eq]
def pushRes (l : List S43) (x : S43) (v : Bool) : List S43 × Bool := if heapOk (l ++ [x]) = true ∧ v = true then (up l.length (l ++ [x]) l.length, true) else ([], false)
theorem clone_eq (l : List S43) (hl : l.length ≤ 1048576) : impl_Score_50.f l = some l := by
  simp only [impl_Score_50.f, Option.bind_some, List.nil_append]
  rw [if_pos (by simp; omega)]
/-- What both answer to a push: the row sifted up, if all is as it should be. -/
theorem push_ev (l : List S43) (hl : l.length ≤ 1048576) (a b : Int) : ∃ v : Bool, (v = true ↔ IsH l) ∧ Ev (fun k => spec_HeapPush.f k l a b) (pushRes l ⟨a, b⟩ v) ∧ Ev (fun k => impl_HeapPush.f k l a b) (pushRes l ⟨a, b⟩ v) := by
  have hlen : (l ++ [(⟨a, b⟩ : S43)]).length = l.length + 1 := by simp
  obtain ⟨v, hs, hi, hv⟩ := is_ev l hl
  have e : wrap64 (((l ++ [(⟨a, b⟩ : S43)]).length : Int) - 1) = (l.length : Int) := by rw [hlen, wrap_ok (by omega) (by omega)]; omega
  have hloop := push_loop l.length (l ++ [⟨a, b⟩]) l.length (Nat.le_refl _) (by omega) (by omega)
  refine ⟨v, hv, ?_, ?_⟩
  · simp only [spec_HeapPush.f]
    (repeat (first | with_reducible refine Ev.bindS ?_ | (with_reducible refine Ev.ifp ?_ ?_; (· first | omega | assumption | rfl | (simp only [List.length_map, List.length_replicate, List.length_take, List.length_drop, List.length_append, List.length_cons, List.length_nil, List.length_set]; omega) | (simp; done))) | (with_reducible refine Ev.ifn ?_ ?_; (· first | omega | assumption | rfl | (simp only [List.length_map, List.length_replicate, List.length_take, List.length_drop, List.length_append, List.length_cons, List.length_nil, List.length_set]; omega) | (simp; done)))))
    simp only [List.nil_append]
    refine Ev.bind (specHeap_ev2 (l ++ [⟨a, b⟩]) (by omega)) ?_
    cases hk : heapOk (l ++ [⟨a, b⟩]) with
    | false =>
      have er : pushRes l ⟨a, b⟩ v = ([], false) := by rw [pushRes, if_neg (by rw [hk]; simp)]
      rw [er]
      (repeat (first | with_reducible refine Ev.bindS ?_ | (with_reducible refine Ev.ifp ?_ ?_; (· first | omega | assumption | rfl | (simp only [List.length_map, List.length_replicate, List.length_take, List.length_drop, List.length_append, List.length_cons, List.length_nil, List.length_set]; omega) | (simp; done))) | (with_reducible refine Ev.ifn ?_ ?_; (· first | omega | assumption | rfl | (simp only [List.length_map, List.length_replicate, List.length_take, List.length_drop, List.length_append, List.length_cons, List.length_nil, List.length_set]; omega) | (simp; done)))))
      (refine Ev.up ?_; simp only [spec_HeapPush.j0, decT])
      (repeat (first | with_reducible refine Ev.bindS ?_ | (with_reducible refine Ev.ifp ?_ ?_; (· first | omega | assumption | rfl | (simp only [List.length_map, List.length_replicate, List.length_take, List.length_drop, List.length_append, List.length_cons, List.length_nil, List.length_set]; omega) | (simp; done))) | (with_reducible refine Ev.ifn ?_ ?_; (· first | omega | assumption | rfl | (simp only [List.length_map, List.length_replicate, List.length_take, List.length_drop, List.length_append, List.length_cons, List.length_nil, List.length_set]; omega) | (simp; done)))))
      exact Ev.val rfl
    | true =>
      (repeat (first | with_reducible refine Ev.bindS ?_ | (with_reducible refine Ev.ifp ?_ ?_; (· first | omega | assumption | rfl | (simp only [List.length_map, List.length_replicate, List.length_take, List.length_drop, List.length_append, List.length_cons, List.length_nil, List.length_set]; omega) | (simp; done))) | (with_reducible refine Ev.ifn ?_ ?_; (· first | omega | assumption | rfl | (simp only [List.length_map, List.length_replicate, List.length_take, List.length_drop, List.length_append, List.length_cons, List.length_nil, List.length_set]; omega) | (simp; done)))))
      refine Ev.bind hs ?_
      (refine Ev.up ?_; simp only [spec_HeapPush.j0, decT])
      cases v with
      | false =>
        have er : pushRes l ⟨a, b⟩ false = ([], false) := by rw [pushRes, if_neg (by simp)]
        rw [er]
        (repeat (first | with_reducible refine Ev.bindS ?_ | (with_reducible refine Ev.ifp ?_ ?_; (· first | omega | assumption | rfl | (simp only [List.length_map, List.length_replicate, List.length_take, List.length_drop, List.length_append, List.length_cons, List.length_nil, List.length_set]; omega) | (simp; done))) | (with_reducible refine Ev.ifn ?_ ?_; (· first | omega | assumption | rfl | (simp only [List.length_map, List.length_replicate, List.length_take, List.length_drop, List.length_append, List.length_cons, List.length_nil, List.length_set]; omega) | (simp; done)))))
        exact Ev.val rfl
      | true =>
        have er : pushRes l ⟨a, b⟩ true = (up l.length (l ++ [⟨a, b⟩]) l.length, true) := by rw [pushRes, if_pos ⟨hk, rfl⟩]
        rw [er, e]
        (repeat (first | with_reducible refine Ev.bindS ?_ | (with_reducible refine Ev.ifp ?_ ?_; (· first | omega | assumption | rfl | (simp only [List.length_map, List.length_replicate, List.length_take, List.length_drop, List.length_append, List.length_cons, List.length_nil, List.length_set]; omega) | (simp; done))) | (with_reducible refine Ev.ifn ?_ ?_; (· first | omega | assumption | rfl | (simp only [List.length_map, List.length_replicate, List.length_take, List.length_drop, List.length_append, List.length_cons, List.length_nil, List.length_set]; omega) | (simp; done)))))
        exact hloop
  · simp only [impl_HeapPush.f, clone_eq l hl]
    (repeat (first | with_reducible refine Ev.bindS ?_ | (with_reducible refine Ev.ifp ?_ ?_; (· first | omega | assumption | rfl | (simp only [List.length_map, List.length_replicate, List.length_take, List.length_drop, List.length_append, List.length_cons, List.length_nil, List.length_set]; omega) | (simp; done))) | (with_reducible refine Ev.ifn ?_ ?_; (· first | omega | assumption | rfl | (simp only [List.length_map, List.length_replicate, List.length_take, List.length_drop, List.length_append, List.length_cons, List.length_nil, List.length_set]; omega) | (simp; done)))))
    refine Ev.bind (implScores_ev2 (l ++ [⟨a, b⟩]) (by omega)) ?_
    cases hk : heapOk (l ++ [⟨a, b⟩]) with
    | false =>
      have er : pushRes l ⟨a, b⟩ v = ([], false) := by rw [pushRes, if_neg (by rw [hk]; simp)]
      rw [er]
      (repeat (first | with_reducible refine Ev.bindS ?_ | (with_reducible refine Ev.ifp ?_ ?_; (· first | omega | assumption | rfl | (simp only [List.length_map, List.length_replicate, List.length_take, List.length_drop, List.length_append, List.length_cons, List.length_nil, List.length_set]; omega) | (simp; done))) | (with_reducible refine Ev.ifn ?_ ?_; (· first | omega | assumption | rfl | (simp only [List.length_map, List.length_replicate, List.length_take, List.length_drop, List.length_append, List.length_cons, List.length_nil, List.length_set]; omega) | (simp; done)))))
      (refine Ev.up ?_; simp only [impl_HeapPush.j0, decT])
      (repeat (first | with_reducible refine Ev.bindS ?_ | (with_reducible refine Ev.ifp ?_ ?_; (· first | omega | assumption | rfl | (simp only [List.length_map, List.length_replicate, List.length_take, List.length_drop, List.length_append, List.length_cons, List.length_nil, List.length_set]; omega) | (simp; done))) | (with_reducible refine Ev.ifn ?_ ?_; (· first | omega | assumption | rfl | (simp only [List.length_map, List.length_replicate, List.length_take, List.length_drop, List.length_append, List.length_cons, List.length_nil, List.length_set]; omega) | (simp; done)))))
      exact Ev.val rfl
    | true =>
      (repeat (first | with_reducible refine Ev.bindS ?_ | (with_reducible refine Ev.ifp ?_ ?_; (· first | omega | assumption | rfl | (simp only [List.length_map, List.length_replicate, List.length_take, List.length_drop, List.length_append, List.length_cons, List.length_nil, List.length_set]; omega) | (simp; done))) | (with_reducible refine Ev.ifn ?_ ?_; (· first | omega | assumption | rfl | (simp only [List.length_map, List.length_replicate, List.length_take, List.length_drop, List.length_append, List.length_cons, List.length_nil, List.length_set]; omega) | (simp; done)))))
      refine Ev.bind hi ?_
      (refine Ev.up ?_; simp only [impl_HeapPush.j0, decT])
      cases v with
      | false =>
        have er : pushRes l ⟨a, b⟩ false = ([], false) := by rw [pushRes, if_neg (by simp)]
        rw [er]
        (repeat (first | with_reducible refine Ev.bindS ?_ | (with_reducible refine Ev.ifp ?_ ?_; (· first | omega | assumption | rfl | (simp only [List.length_map, List.length_replicate, List.length_take, List.length_drop, List.length_append, List.length_cons, List.length_nil, List.length_set]; omega) | (simp; done))) | (with_reducible refine Ev.ifn ?_ ?_; (· first | omega | assumption | rfl | (simp only [List.length_map, List.length_replicate, List.length_take, List.length_drop, List.length_append, List.length_cons, List.length_nil, List.length_set]; omega) | (simp; done)))))
        exact Ev.val rfl
      | true =>
        have er : pushRes l ⟨a, b⟩ true = (up l.length (l ++ [⟨a, b⟩]) l.length, true) := by rw [pushRes, if_pos ⟨hk, rfl⟩]
        rw [er, e]
        (repeat (first | with_reducible refine Ev.bindS ?_ | (with_reducible refine Ev.ifp ?_ ?_; (· first | omega | assumption | rfl | (simp only [List.length_map, List.length_replicate, List.length_take, List.length_drop, List.length_append, List.length_cons, List.length_nil, List.length_set]; omega) | (simp; done))) | (with_reducible refine Ev.ifn ?_ ?_; (· first | omega | assumption | rfl | (simp only [List.length_map, List.length_replicate, List.length_take, List.length_drop, List.length_append, List.length_cons, List.length_nil, List.length_set]; omega) | (simp; done)))))
        exact Ev.same (K := 0) (fun k _ => push_same k _ _) hloop
/-- Both loops of a pop sift down. -/
theorem pop_spec (a b : Int) (f : Nat) : ∀ (l : List S43) (i : Nat), l.length ≤ f + i → l.length ≤ 1048576 → i ≤ l.length → Ev (fun k => spec_HeapPop.l0 k l i a b) (down f l i, a, b, true) := by
  have e1 : ∀ i : Nat, i ≤ 1048576 → wrap64 (wrap64 (2 * (i : Int)) + 1) = ((2 * i + 1 : Nat) : Int) := by
    intro i hi; rw [wrap_ok (n := 2 * (i : Int)) (by omega) (by omega), wrap_ok (by omega) (by omega)]; omega
  have e2 : ∀ i : Nat, i ≤ 1048576 → wrap64 (wrap64 (2 * (i : Int)) + 2) = ((2 * i + 2 : Nat) : Int) := by
    intro i hi; rw [wrap_ok (n := 2 * (i : Int)) (by omega) (by omega), wrap_ok (by omega) (by omega)]; omega
  have w1 : wrap64 (0 + 1) = 1 := wrap_ok (by omega) (by omega)
  have w2 : wrap64 (1 + 1) = 2 := wrap_ok (by omega) (by omega)
  have r0 : ∀ x y : Int, rd [x, y] 0 = x := fun _ _ => rfl
  have r1 : ∀ x y : Int, rd [x, y] 1 = y := fun _ _ => rfl
  -- from the best kid on
  have stop : ∀ (l : List S43) (i : Nat) (ys : List Int), Ev (fun k => spec_HeapPop.l1 k l i i ys 2 2 a b) (l, a, b, true) := by
    intro l i ys
    (refine Ev.up ?_; simp only [spec_HeapPop.l1, decT])
    (repeat (first | with_reducible refine Ev.bindS ?_ | (with_reducible refine Ev.ifp ?_ ?_; (· first | omega | assumption | rfl | (simp only [List.length_map, List.length_replicate, List.length_take, List.length_drop, List.length_append, List.length_cons, List.length_nil, List.length_set]; omega) | (simp; done))) | (with_reducible refine Ev.ifn ?_ ?_; (· first | omega | assumption | rfl | (simp only [List.length_map, List.length_replicate, List.length_take, List.length_drop, List.length_append, List.length_cons, List.length_nil, List.length_set]; omega) | (simp; done)))))
    exact Ev.val rfl
  have go : ∀ (l : List S43) (i c : Nat) (ys : List Int) (r : List S43 × Int × Int × Bool), i < l.length → c < l.length → c ≠ i → Ev (fun k => spec_HeapPop.l0 k (swap l i c) c a b) r → Ev (fun k => spec_HeapPop.l1 k l i c ys 2 2 a b) r := by
    intro l i c ys r hi hc hne h
    (refine Ev.up ?_; simp only [spec_HeapPop.l1, decT])
    (repeat (first | with_reducible refine Ev.bindS ?_ | (with_reducible refine Ev.ifp ?_ ?_; (· first | omega | assumption | rfl | (simp only [List.length_map, List.length_replicate, List.length_take, List.length_drop, List.length_append, List.length_cons, List.length_nil, List.length_set]; omega) | (simp; done))) | (with_reducible refine Ev.ifn ?_ ?_; (· first | omega | assumption | rfl | (simp only [List.length_map, List.length_replicate, List.length_take, List.length_drop, List.length_append, List.length_cons, List.length_nil, List.length_set]; omega) | (simp; done)))))
    exact h
  have second : ∀ (l : List S43) (i c : Nat) (r : List S43 × Int × Int × Bool), i ≤ 1048576 → l.length ≤ 1048576 → c < l.length →
      (2 * i + 2 < l.length → Btr (ga l (2 * i + 2)) (ga l c) → Ev (fun k => spec_HeapPop.l1 k l i ((2 * i + 2 : Nat) : Int) [((2 * i + 1 : Nat) : Int), ((2 * i + 2 : Nat) : Int)] 2 2 a b) r) →
      (¬ (2 * i + 2 < l.length ∧ Btr (ga l (2 * i + 2)) (ga l c)) → Ev (fun k => spec_HeapPop.l1 k l i c [((2 * i + 1 : Nat) : Int), ((2 * i + 2 : Nat) : Int)] 2 2 a b) r) →
      Ev (fun k => spec_HeapPop.l1 k l i c [((2 * i + 1 : Nat) : Int), ((2 * i + 2 : Nat) : Int)] 2 1 a b) r := by
    intro l i c r hi hl hc h1 h2
    (refine Ev.up ?_; simp only [spec_HeapPop.l1, decT])
    simp only [r1, w2, specBetter_eq, rd_ga, btr_iff, List.length_cons, List.length_nil]
    by_cases hlt : 2 * i + 2 < l.length
    · by_cases hb : Btr (ga l (2 * i + 2)) (ga l c)
      · rw [decide_eq_true hb]
        (repeat (first | with_reducible refine Ev.bindS ?_ | (with_reducible refine Ev.ifp ?_ ?_; (· first | omega | assumption | rfl | (simp only [List.length_map, List.length_replicate, List.length_take, List.length_drop, List.length_append, List.length_cons, List.length_nil, List.length_set]; omega) | (simp; done))) | (with_reducible refine Ev.ifn ?_ ?_; (· first | omega | assumption | rfl | (simp only [List.length_map, List.length_replicate, List.length_take, List.length_drop, List.length_append, List.length_cons, List.length_nil, List.length_set]; omega) | (simp; done)))))
        exact h1 hlt hb
      · rw [decide_eq_false hb]
        (repeat (first | with_reducible refine Ev.bindS ?_ | (with_reducible refine Ev.ifp ?_ ?_; (· first | omega | assumption | rfl | (simp only [List.length_map, List.length_replicate, List.length_take, List.length_drop, List.length_append, List.length_cons, List.length_nil, List.length_set]; omega) | (simp; done))) | (with_reducible refine Ev.ifn ?_ ?_; (· first | omega | assumption | rfl | (simp only [List.length_map, List.length_replicate, List.length_take, List.length_drop, List.length_append, List.length_cons, List.length_nil, List.length_set]; omega) | (simp; done)))))
        exact h2 (fun h => hb h.2)
    · (repeat (first | with_reducible refine Ev.bindS ?_ | (with_reducible refine Ev.ifp ?_ ?_; (· first | omega | assumption | rfl | (simp only [List.length_map, List.length_replicate, List.length_take, List.length_drop, List.length_append, List.length_cons, List.length_nil, List.length_set]; omega) | (simp; done))) | (with_reducible refine Ev.ifn ?_ ?_; (· first | omega | assumption | rfl | (simp only [List.length_map, List.length_replicate, List.length_take, List.length_drop, List.length_append, List.length_cons, List.length_nil, List.length_set]; omega) | (simp; done)))))
      exact h2 (fun h => hlt h.1)
  induction f with
  | zero =>
    intro l i hf hl hi
    have e : down 0 l i = l := rfl
    rw [e]
    (refine Ev.up ?_; simp only [spec_HeapPop.l0, decT])
    (repeat (first | with_reducible refine Ev.bindS ?_ | (with_reducible refine Ev.ifp ?_ ?_; (· first | omega | assumption | rfl | (simp only [List.length_map, List.length_replicate, List.length_take, List.length_drop, List.length_append, List.length_cons, List.length_nil, List.length_set]; omega) | (simp; done))) | (with_reducible refine Ev.ifn ?_ ?_; (· first | omega | assumption | rfl | (simp only [List.length_map, List.length_replicate, List.length_take, List.length_drop, List.length_append, List.length_cons, List.length_nil, List.length_set]; omega) | (simp; done)))))
    simp only [e1 i (by omega), e2 i (by omega), List.length_cons, List.length_nil]
    (refine Ev.up ?_; simp only [spec_HeapPop.l1, decT])
    simp only [r0, w1, List.length_cons, List.length_nil]
    (repeat (first | with_reducible refine Ev.bindS ?_ | (with_reducible refine Ev.ifp ?_ ?_; (· first | omega | assumption | rfl | (simp only [List.length_map, List.length_replicate, List.length_take, List.length_drop, List.length_append, List.length_cons, List.length_nil, List.length_set]; omega) | (simp; done))) | (with_reducible refine Ev.ifn ?_ ?_; (· first | omega | assumption | rfl | (simp only [List.length_map, List.length_replicate, List.length_take, List.length_drop, List.length_append, List.length_cons, List.length_nil, List.length_set]; omega) | (simp; done)))))
    (refine Ev.up ?_; simp only [spec_HeapPop.l1, decT])
    simp only [r1, w2, List.length_cons, List.length_nil]
    (repeat (first | with_reducible refine Ev.bindS ?_ | (with_reducible refine Ev.ifp ?_ ?_; (· first | omega | assumption | rfl | (simp only [List.length_map, List.length_replicate, List.length_take, List.length_drop, List.length_append, List.length_cons, List.length_nil, List.length_set]; omega) | (simp; done))) | (with_reducible refine Ev.ifn ?_ ?_; (· first | omega | assumption | rfl | (simp only [List.length_map, List.length_replicate, List.length_take, List.length_drop, List.length_append, List.length_cons, List.length_nil, List.length_set]; omega) | (simp; done)))))
    exact stop l i _
  | succ f ih =>
    intro l i hf hl hi
    (refine Ev.up ?_; simp only [spec_HeapPop.l0, decT])
    (repeat (first | with_reducible refine Ev.bindS ?_ | (with_reducible refine Ev.ifp ?_ ?_; (· first | omega | assumption | rfl | (simp only [List.length_map, List.length_replicate, List.length_take, List.length_drop, List.length_append, List.length_cons, List.length_nil, List.length_set]; omega) | (simp; done))) | (with_reducible refine Ev.ifn ?_ ?_; (· first | omega | assumption | rfl | (simp only [List.length_map, List.length_replicate, List.length_take, List.length_drop, List.length_append, List.length_cons, List.length_nil, List.length_set]; omega) | (simp; done)))))
    simp only [e1 i (by omega), e2 i (by omega), List.length_cons, List.length_nil]
    by_cases hlt : 2 * i + 1 < l.length
    · obtain ⟨hc, hcor⟩ := kid_lt l i hlt
      have swapped : Btr (ga l (kidOf l i)) (ga l i) → Ev (fun k => spec_HeapPop.l0 k (swap l i (kidOf l i)) (kidOf l i) a b) (down (f + 1) l i, a, b, true) := by
        intro hb
        have e : down (f + 1) l i = down f (swap l i (kidOf l i)) (kidOf l i) := by simp only [down]; rw [if_pos hlt, if_pos hb]
        rw [e]
        exact ih _ _ (by rw [swap_len]; omega) (by rw [swap_len]; omega) (by rw [swap_len]; omega)
      have stay : ¬ Btr (ga l (kidOf l i)) (ga l i) → down (f + 1) l i = l := by
        intro hb
        simp only [down]
        rw [if_pos hlt, if_neg hb]
      (refine Ev.up ?_; simp only [spec_HeapPop.l1, decT])
      simp only [r0, w1, specBetter_eq, rd_ga, btr_iff, List.length_cons, List.length_nil]
      by_cases hb : Btr (ga l (2 * i + 1)) (ga l i)
      · rw [decide_eq_true hb]
        (repeat (first | with_reducible refine Ev.bindS ?_ | (with_reducible refine Ev.ifp ?_ ?_; (· first | omega | assumption | rfl | (simp only [List.length_map, List.length_replicate, List.length_take, List.length_drop, List.length_append, List.length_cons, List.length_nil, List.length_set]; omega) | (simp; done))) | (with_reducible refine Ev.ifn ?_ ?_; (· first | omega | assumption | rfl | (simp only [List.length_map, List.length_replicate, List.length_take, List.length_drop, List.length_append, List.length_cons, List.length_nil, List.length_set]; omega) | (simp; done)))))
        refine second l i (2 * i + 1) _ (by omega) hl hlt (fun h2 hb2 => ?_) (fun h2 => ?_)
        · have ek : kidOf l i = 2 * i + 2 := by rw [kidOf, if_pos ⟨h2, hb2⟩]
          rw [ek] at swapped
          exact go l i (2 * i + 2) _ _ (by omega) h2 (by omega) (swapped (by unfold Btr at *; omega))
        · have ek : kidOf l i = 2 * i + 1 := by rw [kidOf, if_neg h2]
          rw [ek] at swapped
          exact go l i (2 * i + 1) _ _ (by omega) hlt (by omega) (swapped hb)
      · rw [decide_eq_false hb]
        (repeat (first | with_reducible refine Ev.bindS ?_ | (with_reducible refine Ev.ifp ?_ ?_; (· first | omega | assumption | rfl | (simp only [List.length_map, List.length_replicate, List.length_take, List.length_drop, List.length_append, List.length_cons, List.length_nil, List.length_set]; omega) | (simp; done))) | (with_reducible refine Ev.ifn ?_ ?_; (· first | omega | assumption | rfl | (simp only [List.length_map, List.length_replicate, List.length_take, List.length_drop, List.length_append, List.length_cons, List.length_nil, List.length_set]; omega) | (simp; done)))))
        refine second l i i _ (by omega) hl (by omega) (fun h2 hb2 => ?_) (fun h2 => ?_)
        · have ek : kidOf l i = 2 * i + 2 := by rw [kidOf, if_pos ⟨h2, by unfold Btr at *; omega⟩]
          rw [ek] at swapped
          exact go l i (2 * i + 2) _ _ (by omega) h2 (by omega) (swapped hb2)
        · have hn : ¬ Btr (ga l (kidOf l i)) (ga l i) := by
            rcases hcor with ek | ek
            · rw [ek]; exact hb
            · rw [ek] at hc ⊢
              exact fun hb2 => h2 ⟨hc, hb2⟩
          rw [stay hn]
          exact stop l i _
    · have e : down (f + 1) l i = l := by simp only [down]; rw [if_neg hlt]
      rw [e]
      (refine Ev.up ?_; simp only [spec_HeapPop.l1, decT])
      simp only [r0, w1, List.length_cons, List.length_nil]
      (repeat (first | with_reducible refine Ev.bindS ?_ | (with_reducible refine Ev.ifp ?_ ?_; (· first | omega | assumption | rfl | (simp only [List.length_map, List.length_replicate, List.length_take, List.length_drop, List.length_append, List.length_cons, List.length_nil, List.length_set]; omega) | (simp; done))) | (with_reducible refine Ev.ifn ?_ ?_; (· first | omega | assumption | rfl | (simp only [List.length_map, List.length_replicate, List.length_take, List.length_drop, List.length_append, List.length_cons, List.length_nil, List.length_set]; omega) | (simp; done)))))
      (refine Ev.up ?_; simp only [spec_HeapPop.l1, decT])
      simp only [r1, w2, List.length_cons, List.length_nil]
      (repeat (first | with_reducible refine Ev.bindS ?_ | (with_reducible refine Ev.ifp ?_ ?_; (· first | omega | assumption | rfl | (simp only [List.length_map, List.length_replicate, List.length_take, List.length_drop, List.length_append, List.length_cons, List.length_nil, List.length_set]; omega) | (simp; done))) | (with_reducible refine Ev.ifn ?_ ?_; (· first | omega | assumption | rfl | (simp only [List.length_map, List.length_replicate, List.length_take, List.length_drop, List.length_append, List.length_cons, List.length_nil, List.length_set]; omega) | (simp; done)))))
      exact stop l i _
theorem pop_impl (x : List S43) (hx : 0 < x.length) (f : Nat) : ∀ (l : List S43) (i : Nat), l.length ≤ f + i → l.length ≤ 1048576 → i ≤ l.length →
    Ev (fun k => impl_HeapPop.l0 k x l.length l i) (down f l i, (ga x 0).f0, (ga x 0).f1, true) := by
  have e1 : ∀ i : Nat, i ≤ 1048576 → wrap64 (wrap64 (2 * (i : Int)) + 1) = ((2 * i + 1 : Nat) : Int) := by
    intro i hi; rw [wrap_ok (n := 2 * (i : Int)) (by omega) (by omega), wrap_ok (by omega) (by omega)]; omega
  have e2 : ∀ i : Nat, i ≤ 1048576 → wrap64 (((2 * i + 1 : Nat) : Int) + 1) = ((2 * i + 2 : Nat) : Int) := by
    intro i hi; rw [wrap_ok (by omega) (by omega)]; omega
  have g0 : rd_T43 x 0 = ga x 0 := rfl
  induction f with
  | zero =>
    intro l i hf hl hi
    have e : down 0 l i = l := rfl
    rw [e]
    (refine Ev.up ?_; simp only [impl_HeapPop.l0, decT])
    simp only [e1 i (by omega), g0]
    (repeat (first | with_reducible refine Ev.bindS ?_ | (with_reducible refine Ev.ifp ?_ ?_; (· first | omega | assumption | rfl | (simp only [List.length_map, List.length_replicate, List.length_take, List.length_drop, List.length_append, List.length_cons, List.length_nil, List.length_set]; omega) | (simp; done))) | (with_reducible refine Ev.ifn ?_ ?_; (· first | omega | assumption | rfl | (simp only [List.length_map, List.length_replicate, List.length_take, List.length_drop, List.length_append, List.length_cons, List.length_nil, List.length_set]; omega) | (simp; done)))))
    exact Ev.val rfl
  | succ f ih =>
    intro l i hf hl hi
    by_cases hlt : 2 * i + 1 < l.length
    · obtain ⟨hc, hcor⟩ := kid_lt l i hlt
      -- the kid is told
      have tail : ∀ v : Bool, (if v = true then 2 * i + 2 else 2 * i + 1) = kidOf l i → Ev (fun k => impl_HeapPop.j3 k x l.length l i ((2 * i + 1 : Nat) : Int) v) (down (f + 1) l i, (ga x 0).f0, (ga x 0).f1, true) := by
        intro v hv
        (refine Ev.up ?_; simp only [impl_HeapPop.j3, decT])
        simp only [e2 i (by omega), better_eq, rd_ga, btr_iff, g0]
        cases v with
        | true =>
          rw [if_pos rfl] at hv
          rw [← hv] at hc
          by_cases hb : Btr (ga l (2 * i + 2)) (ga l i)
          · have e : down (f + 1) l i = down f (swap l i (2 * i + 2)) (2 * i + 2) := by simp only [down]; rw [if_pos hlt, ← hv, if_pos hb]
            have ih := ih (swap l i (2 * i + 2)) (2 * i + 2) (by rw [swap_len]; omega) (by rw [swap_len]; omega) (by rw [swap_len]; omega)
            rw [swap_len] at ih
            rw [e, decide_eq_true hb]
            (repeat (first | with_reducible refine Ev.bindS ?_ | (with_reducible refine Ev.ifp ?_ ?_; (· first | omega | assumption | rfl | (simp only [List.length_map, List.length_replicate, List.length_take, List.length_drop, List.length_append, List.length_cons, List.length_nil, List.length_set]; omega) | (simp; done))) | (with_reducible refine Ev.ifn ?_ ?_; (· first | omega | assumption | rfl | (simp only [List.length_map, List.length_replicate, List.length_take, List.length_drop, List.length_append, List.length_cons, List.length_nil, List.length_set]; omega) | (simp; done)))))
            exact ih
          · have e : down (f + 1) l i = l := by simp only [down]; rw [if_pos hlt, ← hv, if_neg hb]
            rw [e, decide_eq_false hb]
            (repeat (first | with_reducible refine Ev.bindS ?_ | (with_reducible refine Ev.ifp ?_ ?_; (· first | omega | assumption | rfl | (simp only [List.length_map, List.length_replicate, List.length_take, List.length_drop, List.length_append, List.length_cons, List.length_nil, List.length_set]; omega) | (simp; done))) | (with_reducible refine Ev.ifn ?_ ?_; (· first | omega | assumption | rfl | (simp only [List.length_map, List.length_replicate, List.length_take, List.length_drop, List.length_append, List.length_cons, List.length_nil, List.length_set]; omega) | (simp; done)))))
            exact Ev.val rfl
        | false =>
          rw [if_neg (by simp)] at hv
          by_cases hb : Btr (ga l (2 * i + 1)) (ga l i)
          · have e : down (f + 1) l i = down f (swap l i (2 * i + 1)) (2 * i + 1) := by simp only [down]; rw [if_pos hlt, ← hv, if_pos hb]
            have ih := ih (swap l i (2 * i + 1)) (2 * i + 1) (by rw [swap_len]; omega) (by rw [swap_len]; omega) (by rw [swap_len]; omega)
            rw [swap_len] at ih
            rw [e, decide_eq_true hb]
            (repeat (first | with_reducible refine Ev.bindS ?_ | (with_reducible refine Ev.ifp ?_ ?_; (· first | omega | assumption | rfl | (simp only [List.length_map, List.length_replicate, List.length_take, List.length_drop, List.length_append, List.length_cons, List.length_nil, List.length_set]; omega) | (simp; done))) | (with_reducible refine Ev.ifn ?_ ?_; (· first | omega | assumption | rfl | (simp only [List.length_map, List.length_replicate, List.length_take, List.length_drop, List.length_append, List.length_cons, List.length_nil, List.length_set]; omega) | (simp; done)))))
            exact ih
          · have e : down (f + 1) l i = l := by simp only [down]; rw [if_pos hlt, ← hv, if_neg hb]
            rw [e, decide_eq_false hb]
            (repeat (first | with_reducible refine Ev.bindS ?_ | (with_reducible refine Ev.ifp ?_ ?_; (· first | omega | assumption | rfl | (simp only [List.length_map, List.length_replicate, List.length_take, List.length_drop, List.length_append, List.length_cons, List.length_nil, List.length_set]; omega) | (simp; done))) | (with_reducible refine Ev.ifn ?_ ?_; (· first | omega | assumption | rfl | (simp only [List.length_map, List.length_replicate, List.length_take, List.length_drop, List.length_append, List.length_cons, List.length_nil, List.length_set]; omega) | (simp; done)))))
            exact Ev.val rfl
      (refine Ev.up ?_; simp only [impl_HeapPop.l0, decT])
      simp only [e1 i (by omega), e2 i (by omega), better_eq, rd_ga, btr_iff]
      by_cases h2 : 2 * i + 2 < l.length
      · (repeat (first | with_reducible refine Ev.bindS ?_ | (with_reducible refine Ev.ifp ?_ ?_; (· first | omega | assumption | rfl | (simp only [List.length_map, List.length_replicate, List.length_take, List.length_drop, List.length_append, List.length_cons, List.length_nil, List.length_set]; omega) | (simp; done))) | (with_reducible refine Ev.ifn ?_ ?_; (· first | omega | assumption | rfl | (simp only [List.length_map, List.length_replicate, List.length_take, List.length_drop, List.length_append, List.length_cons, List.length_nil, List.length_set]; omega) | (simp; done)))))
        refine tail _ ?_
        by_cases hb : Btr (ga l (2 * i + 2)) (ga l (2 * i + 1))
        · rw [decide_eq_true hb, if_pos rfl, kidOf, if_pos ⟨h2, hb⟩]
        · rw [decide_eq_false hb, if_neg (by simp), kidOf, if_neg (fun h => hb h.2)]
      · (repeat (first | with_reducible refine Ev.bindS ?_ | (with_reducible refine Ev.ifp ?_ ?_; (· first | omega | assumption | rfl | (simp only [List.length_map, List.length_replicate, List.length_take, List.length_drop, List.length_append, List.length_cons, List.length_nil, List.length_set]; omega) | (simp; done))) | (with_reducible refine Ev.ifn ?_ ?_; (· first | omega | assumption | rfl | (simp only [List.length_map, List.length_replicate, List.length_take, List.length_drop, List.length_append, List.length_cons, List.length_nil, List.length_set]; omega) | (simp; done)))))
        refine tail false ?_
        rw [if_neg (by simp), kidOf, if_neg (fun h => h2 h.1)]
    · have e : down (f + 1) l i = l := by simp only [down]; rw [if_neg hlt]
      rw [e]
      (refine Ev.up ?_; simp only [impl_HeapPop.l0, decT])
      simp only [e1 i (by omega), g0]
      (repeat (first | with_reducible refine Ev.bindS ?_ | (with_reducible refine Ev.ifp ?_ ?_; (· first | omega | assumption | rfl | (simp only [List.length_map, List.length_replicate, List.length_take, List.length_drop, List.length_append, List.length_cons, List.length_nil, List.length_set]; omega) | (simp; done))) | (with_reducible refine Ev.ifn ?_ ?_; (· first | omega | assumption | rfl | (simp only [List.length_map, List.length_replicate, List.length_take, List.length_drop, List.length_append, List.length_cons, List.length_nil, List.length_set]; omega) | (simp; done)))))
      exact Ev.val rfl
/-- The row that a pop sifts. -/
def popRow (l : List S43) : List S43 := (l.set 0 (ga l (l.length - 1))).take (l.length - 1)
def popRes (l : List S43) (v : Bool) : List S43 × Int × Int × Bool := if (heapOk l = true ∧ v = true) ∧ 0 < l.length then (down (l.length - 1) (popRow l) 0, (ga l 0).f0, (ga l 0).f1, true) else ([], 0, 0, false)
theorem popRow_len (l : List S43) : (popRow l).length = l.length - 1 := by
  rw [popRow, List.length_take, List.length_set]
  omega
theorem pop_ev (l : List S43) (hl : l.length ≤ 1048576) : ∃ v : Bool, (v = true ↔ IsH l) ∧ Ev (fun k => spec_HeapPop.f k l) (popRes l v) ∧ Ev (fun k => impl_HeapPop.f k l) (popRes l v) := by
  obtain ⟨v, hs, hi, hv⟩ := is_ev l hl
  have sno : Ev (fun k => spec_HeapPop.j0 k l true) ([], 0, 0, false) := by
    (refine Ev.up ?_; simp only [spec_HeapPop.j0, decT])
    (repeat (first | with_reducible refine Ev.bindS ?_ | (with_reducible refine Ev.ifp ?_ ?_; (· first | omega | assumption | rfl | (simp only [List.length_map, List.length_replicate, List.length_take, List.length_drop, List.length_append, List.length_cons, List.length_nil, List.length_set]; omega) | (simp; done))) | (with_reducible refine Ev.ifn ?_ ?_; (· first | omega | assumption | rfl | (simp only [List.length_map, List.length_replicate, List.length_take, List.length_drop, List.length_append, List.length_cons, List.length_nil, List.length_set]; omega) | (simp; done)))))
    exact Ev.val rfl
  have ino : Ev (fun k => impl_HeapPop.j0 k l true) ([], 0, 0, false) := by
    (refine Ev.up ?_; simp only [impl_HeapPop.j0, decT])
    (repeat (first | with_reducible refine Ev.bindS ?_ | (with_reducible refine Ev.ifp ?_ ?_; (· first | omega | assumption | rfl | (simp only [List.length_map, List.length_replicate, List.length_take, List.length_drop, List.length_append, List.length_cons, List.length_nil, List.length_set]; omega) | (simp; done))) | (with_reducible refine Ev.ifn ?_ ?_; (· first | omega | assumption | rfl | (simp only [List.length_map, List.length_replicate, List.length_take, List.length_drop, List.length_append, List.length_cons, List.length_nil, List.length_set]; omega) | (simp; done)))))
    exact Ev.val rfl
  have hrl := popRow_len l
  refine ⟨v, hv, ?_, ?_⟩
  · simp only [spec_HeapPop.f]
    refine Ev.bind (specHeap_ev l hl) ?_
    cases hk : heapOk l with
    | false =>
      have er : popRes l v = ([], 0, 0, false) := by rw [popRes, if_neg (by rw [hk]; simp)]
      rw [er]
      (repeat (first | with_reducible refine Ev.bindS ?_ | (with_reducible refine Ev.ifp ?_ ?_; (· first | omega | assumption | rfl | (simp only [List.length_map, List.length_replicate, List.length_take, List.length_drop, List.length_append, List.length_cons, List.length_nil, List.length_set]; omega) | (simp; done))) | (with_reducible refine Ev.ifn ?_ ?_; (· first | omega | assumption | rfl | (simp only [List.length_map, List.length_replicate, List.length_take, List.length_drop, List.length_append, List.length_cons, List.length_nil, List.length_set]; omega) | (simp; done)))))
      exact sno
    | true =>
      (repeat (first | with_reducible refine Ev.bindS ?_ | (with_reducible refine Ev.ifp ?_ ?_; (· first | omega | assumption | rfl | (simp only [List.length_map, List.length_replicate, List.length_take, List.length_drop, List.length_append, List.length_cons, List.length_nil, List.length_set]; omega) | (simp; done))) | (with_reducible refine Ev.ifn ?_ ?_; (· first | omega | assumption | rfl | (simp only [List.length_map, List.length_replicate, List.length_take, List.length_drop, List.length_append, List.length_cons, List.length_nil, List.length_set]; omega) | (simp; done)))))
      refine Ev.bind hs ?_
      cases v with
      | false =>
        have er : popRes l false = ([], 0, 0, false) := by rw [popRes, if_neg (by simp)]
        rw [er]
        (repeat (first | with_reducible refine Ev.bindS ?_ | (with_reducible refine Ev.ifp ?_ ?_; (· first | omega | assumption | rfl | (simp only [List.length_map, List.length_replicate, List.length_take, List.length_drop, List.length_append, List.length_cons, List.length_nil, List.length_set]; omega) | (simp; done))) | (with_reducible refine Ev.ifn ?_ ?_; (· first | omega | assumption | rfl | (simp only [List.length_map, List.length_replicate, List.length_take, List.length_drop, List.length_append, List.length_cons, List.length_nil, List.length_set]; omega) | (simp; done)))))
        exact sno
      | true =>
        (repeat (first | with_reducible refine Ev.bindS ?_ | (with_reducible refine Ev.ifp ?_ ?_; (· first | omega | assumption | rfl | (simp only [List.length_map, List.length_replicate, List.length_take, List.length_drop, List.length_append, List.length_cons, List.length_nil, List.length_set]; omega) | (simp; done))) | (with_reducible refine Ev.ifn ?_ ?_; (· first | omega | assumption | rfl | (simp only [List.length_map, List.length_replicate, List.length_take, List.length_drop, List.length_append, List.length_cons, List.length_nil, List.length_set]; omega) | (simp; done)))))
        by_cases h0 : l.length = 0
        · have er : popRes l true = ([], 0, 0, false) := by rw [popRes, if_neg (by omega)]
          have e : ((l.length : Int) == 0) = true := by rw [beq_iff_eq]; omega
          rw [er, e]
          exact sno
        · have er : popRes l true = (down (l.length - 1) (popRow l) 0, (ga l 0).f0, (ga l 0).f1, true) := by rw [popRes, if_pos ⟨⟨hk, rfl⟩, by omega⟩]
          have e : ((l.length : Int) == 0) = false := by rw [beq_eq_false_iff_ne]; omega
          have ew : wrap64 ((l.length : Int) - 1) = ((l.length - 1 : Nat) : Int) := by rw [wrap_ok (by omega) (by omega)]; omega
          have hloop := pop_spec (ga l 0).f0 (ga l 0).f1 (l.length - 1) (popRow l) 0 (by omega) (by omega) (by omega)
          rw [er, e]
          (refine Ev.up ?_; simp only [spec_HeapPop.j0, decT])
          (repeat (first | with_reducible refine Ev.bindS ?_ | (with_reducible refine Ev.ifp ?_ ?_; (· first | omega | assumption | rfl | (simp only [List.length_map, List.length_replicate, List.length_take, List.length_drop, List.length_append, List.length_cons, List.length_nil, List.length_set]; omega) | (simp; done))) | (with_reducible refine Ev.ifn ?_ ?_; (· first | omega | assumption | rfl | (simp only [List.length_map, List.length_replicate, List.length_take, List.length_drop, List.length_append, List.length_cons, List.length_nil, List.length_set]; omega) | (simp; done)))))
          simp only [List.nil_append]
          simp only [ew, rd_ga]
          (repeat (first | with_reducible refine Ev.bindS ?_ | (with_reducible refine Ev.ifp ?_ ?_; (· first | omega | assumption | rfl | (simp only [List.length_map, List.length_replicate, List.length_take, List.length_drop, List.length_append, List.length_cons, List.length_nil, List.length_set]; omega) | (simp; done))) | (with_reducible refine Ev.ifn ?_ ?_; (· first | omega | assumption | rfl | (simp only [List.length_map, List.length_replicate, List.length_take, List.length_drop, List.length_append, List.length_cons, List.length_nil, List.length_set]; omega) | (simp; done)))))
          exact hloop
  · simp only [impl_HeapPop.f]
    by_cases h0 : l.length = 0
    · have er : popRes l v = ([], 0, 0, false) := by rw [popRes, if_neg (by omega)]
      rw [er]
      (repeat (first | with_reducible refine Ev.bindS ?_ | (with_reducible refine Ev.ifp ?_ ?_; (· first | omega | assumption | rfl | (simp only [List.length_map, List.length_replicate, List.length_take, List.length_drop, List.length_append, List.length_cons, List.length_nil, List.length_set]; omega) | (simp; done))) | (with_reducible refine Ev.ifn ?_ ?_; (· first | omega | assumption | rfl | (simp only [List.length_map, List.length_replicate, List.length_take, List.length_drop, List.length_append, List.length_cons, List.length_nil, List.length_set]; omega) | (simp; done)))))
      exact ino
    · (repeat (first | with_reducible refine Ev.bindS ?_ | (with_reducible refine Ev.ifp ?_ ?_; (· first | omega | assumption | rfl | (simp only [List.length_map, List.length_replicate, List.length_take, List.length_drop, List.length_append, List.length_cons, List.length_nil, List.length_set]; omega) | (simp; done))) | (with_reducible refine Ev.ifn ?_ ?_; (· first | omega | assumption | rfl | (simp only [List.length_map, List.length_replicate, List.length_take, List.length_drop, List.length_append, List.length_cons, List.length_nil, List.length_set]; omega) | (simp; done)))))
      refine Ev.bind (implScores_ev l hl) ?_
      cases hk : heapOk l with
      | false =>
        have er : popRes l v = ([], 0, 0, false) := by rw [popRes, if_neg (by rw [hk]; simp)]
        rw [er]
        (repeat (first | with_reducible refine Ev.bindS ?_ | (with_reducible refine Ev.ifp ?_ ?_; (· first | omega | assumption | rfl | (simp only [List.length_map, List.length_replicate, List.length_take, List.length_drop, List.length_append, List.length_cons, List.length_nil, List.length_set]; omega) | (simp; done))) | (with_reducible refine Ev.ifn ?_ ?_; (· first | omega | assumption | rfl | (simp only [List.length_map, List.length_replicate, List.length_take, List.length_drop, List.length_append, List.length_cons, List.length_nil, List.length_set]; omega) | (simp; done)))))
        exact ino
      | true =>
        (repeat (first | with_reducible refine Ev.bindS ?_ | (with_reducible refine Ev.ifp ?_ ?_; (· first | omega | assumption | rfl | (simp only [List.length_map, List.length_replicate, List.length_take, List.length_drop, List.length_append, List.length_cons, List.length_nil, List.length_set]; omega) | (simp; done))) | (with_reducible refine Ev.ifn ?_ ?_; (· first | omega | assumption | rfl | (simp only [List.length_map, List.length_replicate, List.length_take, List.length_drop, List.length_append, List.length_cons, List.length_nil, List.length_set]; omega) | (simp; done)))))
        refine Ev.bind hi ?_
        cases v with
        | false =>
          have er : popRes l false = ([], 0, 0, false) := by rw [popRes, if_neg (by simp)]
          rw [er]
          exact ino
        | true =>
          have er : popRes l true = (down (l.length - 1) (popRow l) 0, (ga l 0).f0, (ga l 0).f1, true) := by rw [popRes, if_pos ⟨⟨hk, rfl⟩, by omega⟩]
          have ew : wrap64 ((l.length : Int) - 1) = ((l.length - 1 : Nat) : Int) := by rw [wrap_ok (by omega) (by omega)]; omega
          have hloop := pop_impl l (by omega) (l.length - 1) (popRow l) 0 (by omega) (by omega) (by omega)
          rw [hrl] at hloop
          have hj1 : Ev (fun k => impl_HeapPop.j1 k l ((l.length - 1 : Nat) : Int) (popRow l)) (down (l.length - 1) (popRow l) 0, (ga l 0).f0, (ga l 0).f1, true) := by
            (refine Ev.up ?_; simp only [impl_HeapPop.j1, decT])
            exact hloop
          have htl : (l.take (l.length - 1)).length = l.length - 1 := by rw [List.length_take]; omega
          rw [er]
          (refine Ev.up ?_; simp only [impl_HeapPop.j0, decT])
          simp only [ew, Int.toNat_natCast, clone_eq (l.take (l.length - 1)) (by omega), rd_ga]
          (repeat (first | with_reducible refine Ev.bindS ?_ | (with_reducible refine Ev.ifp ?_ ?_; (· first | omega | assumption | rfl | (simp only [List.length_map, List.length_replicate, List.length_take, List.length_drop, List.length_append, List.length_cons, List.length_nil, List.length_set]; omega) | (simp; done))) | (with_reducible refine Ev.ifn ?_ ?_; (· first | omega | assumption | rfl | (simp only [List.length_map, List.length_replicate, List.length_take, List.length_drop, List.length_append, List.length_cons, List.length_nil, List.length_set]; omega) | (simp; done)))))
          by_cases h1 : l.length - 1 = 0
          · (repeat (first | with_reducible refine Ev.bindS ?_ | (with_reducible refine Ev.ifp ?_ ?_; (· first | omega | assumption | rfl | (simp only [List.length_map, List.length_replicate, List.length_take, List.length_drop, List.length_append, List.length_cons, List.length_nil, List.length_set]; omega) | (simp; done))) | (with_reducible refine Ev.ifn ?_ ?_; (· first | omega | assumption | rfl | (simp only [List.length_map, List.length_replicate, List.length_take, List.length_drop, List.length_append, List.length_cons, List.length_nil, List.length_set]; omega) | (simp; done)))))
            have e : l.take (l.length - 1) = popRow l := by
              rw [popRow, h1, List.take_zero, List.take_zero]
            rw [e]
            exact hj1
          · (repeat (first | with_reducible refine Ev.bindS ?_ | (with_reducible refine Ev.ifp ?_ ?_; (· first | omega | assumption | rfl | (simp only [List.length_map, List.length_replicate, List.length_take, List.length_drop, List.length_append, List.length_cons, List.length_nil, List.length_set]; omega) | (simp; done))) | (with_reducible refine Ev.ifn ?_ ?_; (· first | omega | assumption | rfl | (simp only [List.length_map, List.length_replicate, List.length_take, List.length_drop, List.length_append, List.length_cons, List.length_nil, List.length_set]; omega) | (simp; done)))))
            have e : (l.take (l.length - 1)).set (0 : Int).toNat (⟨(ga l (l.length - 1)).f0, (ga l (l.length - 1)).f1⟩ : S43) = popRow l := by
              rw [popRow, List.take_set]
              rfl
            rw [e]
            exact hj1
end Go.Proofs.Ytehldgkpkjgocaa.Pure
namespace Go.Proofs.Ytehldgkpkjgocaa.Pure
open Go.RowKit Go.Proofs.YtehldgkpkjgocaaW.PrintWords Go.Proofs.YtehldgkpkjgocaaW.PrintLast Go.Proofs.YtehldgkpkjgocaaW.PrintMore

/-- A string's bytes, as numbers. -/
def nm (s : ByteArray) : List Int := s.data.toList.map fun b => (b.toNat : Int)
theorem nm_length (s : ByteArray) : (nm s).length = s.size := by
  rw [nm, List.length_map, Array.length_toList]; rfl
theorem u8_inj {a b : UInt8} (h : (a.toNat : Int) = (b.toNat : Int)) : a = b := UInt8.toNat_inj.1 (by omega)
theorem nm_inj {s t : ByteArray} (h : nm s = nm t) : s = t := by
  have : s.data.toList = t.data.toList := List.map_inj_right (fun a b h => u8_inj h) |>.1 h
  exact WideShapes.bytes_inj this
theorem toList_iff {s t : ByteArray} : s.toList = t.toList ↔ nm s = nm t := by
  rw [Lib.toList_data, Lib.toList_data, nm, nm]
  exact ⟨fun h => by rw [h], fun h => List.map_inj_right (fun a b h => u8_inj h) |>.1 h⟩
theorem toList_nil {s : ByteArray} : s.toList = ([] : List UInt8) ↔ nm s = [] := by
  rw [Lib.toList_data, nm]
  simp
theorem nm_range {s : ByteArray} {x : Int} (h : x ∈ nm s) : 0 ≤ x ∧ x < 256 := by
  obtain ⟨b, _, rfl⟩ := List.mem_map.1 h
  have := UInt8.toNat_lt b
  omega
theorem bt_nm (s : ByteArray) (i : Int) : bt s i = rd (nm s) i := (rd_bytesOf s i).symm
theorem nm_get {s : ByteArray} {i : Nat} {x : Int} (h : (nm s)[i]? = some x) : bt s (i : Int) = x := by rw [bt_nm]; exact rd_at h
theorem nm_extract (s : ByteArray) (a b : Nat) : nm (s.extract a b) = ((nm s).drop a).take (b - a) := by
  rw [nm, ← Lib.toList_data, Lib.extract_toList, List.map_take, List.map_drop]; rfl
theorem nm_tail (s : ByteArray) (a : Nat) : nm (s.extract a s.size) = (nm s).drop a := by
  rw [nm_extract]
  exact List.take_of_length_le (by rw [List.length_drop, nm_length]; omega)
/-- Bytes of a tail. -/
theorem bt_tail (s : ByteArray) (a : Nat) (i : Nat) : bt (s.extract a s.size) (i : Int) = bt s ((a + i : Nat) : Int) := by
  rw [bt_nm, bt_nm, nm_tail]
  have e : ((a + i : Nat) : Int).toNat = a + i := by omega
  simp only [rd, List.getD_eq_getElem?_getD, e, Int.toNat_natCast, List.getElem?_drop]
theorem nm_nums (xs : List Int) (h : ∀ x ∈ xs, 0 ≤ x ∧ x < 256) : nm (strOfNums xs) = xs := by
  rw [nm, strOfNums_data, List.map_map]
  conv => rhs; rw [← List.map_id xs]
  refine List.map_congr_left fun x hx => ?_
  have := h x hx
  simp only [Function.comp, id, UInt8.toNat_ofNat']
  omega
theorem nums_nm (s : ByteArray) : strOfNums (nm s) = s := nm_inj (nm_nums _ fun _ h => nm_range h)
theorem nm_append (s t : ByteArray) : nm (s ++ t) = nm s ++ nm t := by
  simp [nm]
theorem nm_empty : nm (⟨#[]⟩ : ByteArray) = [] := rfl
theorem or64 (i : Nat) (x y : Int) (hx0 : 0 ≤ x) (hx : x % 2 ^ i = 0) (hx1 : x < 2 ^ 62) (hy0 : 0 ≤ y) (hy : y < 2 ^ i) (hy1 : y < 2 ^ 62) : Go.bits .or .i64 x y = x + y :=
  bits_join .i64 62 (by decide) (fun n h0 h1 => by rw [IntKind.wrap_i64]; omega) i x y hx0 hx hx1 hy0 hy hy1
/-- A row is marked, element by element: c is the next mark. -/
theorem mark_ev {α γ : Type} (L : Nat → List α → γ → Int → Option (γ × List α)) (cn : Nat → γ) (e : Nat → α → α) (l : List α)
    (hend : ∀ k x, x.length = l.length → L (k + 1) x (cn l.length) (l.length : Int) = some (cn l.length, x))
    (hstep : ∀ (i : Nat) (y : α), l[i]? = some y → ∃ K, ∀ k (x : List α), K ≤ k → x.length = l.length → x[i]? = some y → L (k + 1) x (cn i) (i : Int) = L k (x.set i (e i y)) (cn (i + 1)) ((i + 1 : Nat) : Int)) :
    Ev (fun k => L k l (cn 0) 0) (cn l.length, l.mapIdx e) := by
  have := ev_down l.length (fun i => Ev (fun k => L k ((l.mapIdx e).take i ++ l.drop i) (cn i) (i : Int)) (cn l.length, l.mapIdx e)) ?_ ?_
  · simpa using this
  · refine ⟨1, fun k hk => ?_⟩
    obtain ⟨m, rfl⟩ : ∃ m, k = m + 1 := ⟨k - 1, by omega⟩
    dsimp only
    rw [hend _ _ (by simp)]
    simp only [List.drop_length, List.append_nil]
    rw [List.take_of_length_le (by simp)]
  · intro i hi ih
    have hx : l[i]? = some l[i] := List.getElem?_eq_getElem hi
    have hm : i = ((l.mapIdx e).take i).length := by simp; omega
    obtain ⟨K, hK⟩ := hstep i _ hx
    refine Ev.next (K := K) (fun k hk => ?_) ih
    have hd : l.drop i = l[i] :: l.drop (i + 1) := List.drop_eq_getElem_cons hi
    have hat : ((l.mapIdx e).take i ++ l.drop i)[i]? = some l[i] := by
      rw [List.getElem?_append_right (by omega), hd]
      have h0 : i - ((l.mapIdx e).take i).length = 0 := by omega
      rw [h0]; rfl
    rw [hK k _ hk (by simp; omega) hat]
    congr 1
    rw [List.set_append_right _ _ (by omega)]
    have h1 : i - ((l.mapIdx e).take i).length = 0 := by omega
    rw [h1, hd, List.set_cons_zero, List.take_succ_eq_append_getElem (by simpa using hi)]
    simp
/-- Two rows of one length, compared element by element. -/
theorem same_ev {α : Type} [DecidableEq α] (L : Nat → Int → Option Bool) (a b : List α) (hlen : a.length = b.length) (hend : ∀ k, L (k + 1) (a.length : Int) = some true)
    (hyes : ∀ k (i : Nat) x, i < a.length → a[i]? = some x → b[i]? = some x → L (k + 1) (i : Int) = L k ((i + 1 : Nat) : Int))
    (hno : ∀ k (i : Nat) x y, i < a.length → a[i]? = some x → b[i]? = some y → x ≠ y → L (k + 1) (i : Int) = some false) : Ev (fun k => L k 0) (decide (a = b)) := by
  have key : ∀ (t u : List α) (i : Nat), a.drop i = t → b.drop i = u → i ≤ a.length → Ev (fun k => L k (i : Int)) (decide (t = u)) := by
    intro t
    induction t with
    | nil =>
      intro u i h1 h2 hi
      have h3 := drop_len h1 hi
      have h4 := drop_len h2 (by omega)
      have e : i = a.length := by simpa using h3
      have hu : u = [] := List.length_eq_zero_iff.1 (by omega)
      subst hu
      refine Ev.up ?_
      rw [e]
      exact Ev.same (K := 0) (fun k _ => hend k) (Ev.val (by simp))
    | cons x t ih =>
      intro u i h1 h2 hi
      have h3 := drop_len h1 hi
      have h4 := drop_len h2 (by omega)
      cases u with
      | nil => simp at h3 h4; omega
      | cons y u =>
        obtain ⟨p1, p2, p3⟩ := drop_cons h1
        obtain ⟨q1, q2, q3⟩ := drop_cons h2
        by_cases hxy : x = y
        · subst hxy
          have := ih u (i + 1) p3 q3 (by omega)
          have e : decide (x :: t = x :: u) = decide (t = u) := by simp
          rw [e]
          exact Ev.up (Ev.same (K := 0) (fun k _ => hyes k i x (by omega) p2 q2) this)
        · exact Ev.up (Ev.same (K := 0) (fun k _ => hno k i x y (by omega) p2 q2 hxy) (Ev.val (by simp [hxy])))
  have h := key a b 0 rfl rfl (by omega)
  exact h
end Go.Proofs.Ytehldgkpkjgocaa.Pure
namespace Go.Proofs.Ytehldgkpkjgocaa.Pure
open Go.RowKit Go.Proofs.Ytehldgkpkjgocaa.Fn Go.Proofs.YtehldgkpkjgocaaW.PrintWords Go.Proofs.YtehldgkpkjgocaaW.PrintLast Go.Proofs.YtehldgkpkjgocaaW.PrintMore
set_option linter.unusedSimpArgs false
set_option linter.unusedVariables false

theorem Ev.uniq {α : Type} {g : Nat → Option α} {a b : α} (h1 : Ev g a) (h2 : Ev g b) : a = b := by
  obtain ⟨K1, e1⟩ := h1
  obtain ⟨K2, e2⟩ := h2
  have e1 := e1 (max K1 K2) (by omega)
  have e2 := e2 (max K1 K2) (by omega)
  rw [e1] at e2
  exact Option.some.inj e2
theorem u64_wrap (n : Int) : IntKind.u64.wrap n = n % 18446744073709551616 := by simp [IntKind.wrap, IntKind.bits, IntKind.signed]
theorem mask255 (y : Int) (h0 : 0 ≤ y) (h1 : y < 18446744073709551616) : 0 ≤ Go.bits .and .u64 y 255 ∧ Go.bits .and .u64 y 255 ≤ 255 := by
  have e : Go.bits .and .u64 y (2 ^ 8 - 1) = y % 2 ^ 8 := bits_mask .u64 64 (by decide) (fun n h0 h1 => by rw [u64_wrap]; omega) 8 (by decide) y h0 h1
  have e2 : ((2 : Int) ^ 8 - 1) = 255 := by decide
  rw [e2] at e
  rw [e]
  omega
/-- The code is made of bytes. -/
def Code (c : List Int) : Prop := ∀ y ∈ c, 0 ≤ y ∧ y ≤ 255
theorem next_some (c : List Int) (hc : Code c) (a s : Int) (h0 : 0 ≤ a) (h1 : a ≤ 2305843009213693952) : ∃ x s' : Int, spec_l1Cur_next.f c a s = some (x, a + 1, s') ∧ 0 ≤ x ∧ x ≤ 255 := by
  have ea : wrap64 (a + 1) = a + 1 := wrap_ok (by omega) (by omega)
  have hm : ∀ z : Int, 0 ≤ wrap64 (Go.bits .and .u64 (IntKind.u64.wrap z / 1099511627776) 255) ∧ wrap64 (Go.bits .and .u64 (IntKind.u64.wrap z / 1099511627776) 255) ≤ 255 := by
    intro z
    have h := mask255 (IntKind.u64.wrap z / 1099511627776) (by rw [u64_wrap]; omega) (by rw [u64_wrap]; omega)
    rw [wrap_ok (by omega) (by omega)]
    exact h
  have hr : a < (c.length : Int) → 0 ≤ wrap64 (rd c a) ∧ wrap64 (rd c a) ≤ 255 := by
    intro h
    have hx : c[a.toNat]? = some c[a.toNat] := List.getElem?_eq_getElem (by omega)
    have e : rd c a = c[a.toNat] := by
      have := rd_at hx
      rw [show ((a.toNat : Nat) : Int) = a by omega] at this
      exact this
    have hy := hc _ (List.mem_of_getElem? hx)
    rw [e, wrap_ok (by omega) (by omega)]
    exact hy
  simp only [spec_l1Cur_next.f, ea]
  by_cases h : a < (c.length : Int)
  · rw [if_pos h, if_pos h0]
    by_cases h2 : a + 1 ≤ (c.length : Int)
    · rw [if_pos h2]
      exact ⟨_, _, rfl, (hr h).1, (hr h).2⟩
    · rw [if_neg h2]
      exact ⟨_, _, rfl, (hm _).1, (hm _).2⟩
  · rw [if_neg h]
    by_cases h2 : a + 1 ≤ (c.length : Int)
    · rw [if_pos h2]
      exact ⟨_, _, rfl, by omega, by omega⟩
    · rw [if_neg h2]
      exact ⟨_, _, rfl, (hm _).1, (hm _).2⟩
theorem tmod_range (x n : Int) (h0 : 0 ≤ x) (h1 : 0 < n) : 0 ≤ Int.tmod x n ∧ Int.tmod x n < n := by
  rw [Int.tmod_eq_emod_of_nonneg h0]
  exact ⟨Int.emod_nonneg _ (by omega), Int.emod_lt_of_pos _ h1⟩
theorem pick_some (c : List Int) (hc : Code c) (a s : Int) (h0 : 0 ≤ a) (h1 : a ≤ 1152921504606846976) (n : Int) :
    ∃ x a' s' : Int, spec_l1Cur_pick.f c a s n = some (x, a', s') ∧ a ≤ a' ∧ a' ≤ a + 2 ∧ 0 ≤ x ∧ (0 < n → x < n) ∧ (n ≤ 0 → x = 0) := by
  simp only [spec_l1Cur_pick.f]
  by_cases hn : n ≤ 1
  · rw [if_pos hn]
    exact ⟨0, a, s, rfl, by omega, by omega, by omega, fun h => h, fun _ => rfl⟩
  · obtain ⟨x, s1, e1, b1, b2⟩ := next_some c hc a s h0 (by omega)
    rw [if_neg hn, e1, Option.bind_some]
    by_cases h2 : n > 200
    · obtain ⟨y, s2, e2, c1, c2⟩ := next_some c hc (a + 1) s1 (by omega) (by omega)
      have ew : wrap64 (wrap64 (x * 256) + y) = x * 256 + y := by rw [wrap_ok (n := x * 256) (by omega) (by omega), wrap_ok (by omega) (by omega)]
      have hr := tmod_range (x * 256 + y) n (by omega) (by omega)
      simp only [if_pos h2, e2, Option.bind_some, if_neg (show ¬ n = 0 by omega), ew]
      exact ⟨_, _, _, rfl, by omega, by omega, hr.1, fun _ => hr.2, fun h => by omega⟩
    · have hr := tmod_range x n (by omega) (by omega)
      simp only [if_neg h2, if_neg (show ¬ n = 0 by omega)]
      exact ⟨_, _, _, rfl, by omega, by omega, hr.1, fun _ => hr.2, fun h => by omega⟩
end Go.Proofs.Ytehldgkpkjgocaa.Pure
namespace Go.Proofs.Ytehldgkpkjgocaa.Pure
open Go.RowKit Go.Proofs.Ytehldgkpkjgocaa.Fn Go.Proofs.YtehldgkpkjgocaaW.PrintWords Go.Proofs.YtehldgkpkjgocaaW.PrintLast Go.Proofs.YtehldgkpkjgocaaW.PrintMore
set_option linter.unusedSimpArgs false
set_option linter.unusedVariables false

theorem one_some (c : List Int) (hc : Code c) (a s : Int) (h0 : 0 ≤ a) (h1 : a ≤ 1152921504606846976) (n : Int) :
    ∃ (x : Bool) (a' s' : Int), spec_l1Cur_one.f c a s n = some (x, a', s') ∧ a ≤ a' ∧ a' ≤ a + 2 := by
  obtain ⟨x, a', s', e, b1, b2, _⟩ := pick_some c hc a s h0 h1 n
  simp only [spec_l1Cur_one.f, e, Option.bind_some]
  exact ⟨_, _, _, rfl, b1, b2⟩
theorem push_len (l : List S43) (x : S43) (v : Bool) : (pushRes l x v).1.length ≤ l.length + 1 := by
  unfold pushRes
  split
  · dsimp only
    rw [up_len]
    simp
  · simp
theorem heap_loop (c : List Int) (hc : Code c) : ∀ (d : Nat) (l : List S43) (n a s : Int), n ≤ d → l.length + d ≤ 1000 → 0 ≤ a → a + 10 * d ≤ 1000000 →
    ∃ (l' : List S43) (a' s' : Int), l'.length ≤ 1000 ∧ a ≤ a' ∧ a' ≤ a + 10 * d + 10 ∧ Ev (fun k => spec_l1Cur_scoreHeap.l0 k l n c a s) (l', a', s') := by
  intro d
  induction d with
  | zero =>
    intro l n a s hn hl h0 h1
    by_cases hlen : (l.length : Int) > 1
    · obtain ⟨b, a1, s1, e1, p1, p2⟩ := one_some c hc a s h0 (by omega) 20
      cases b with
      | false =>
        refine ⟨l, a1, s1, by omega, by omega, by omega, ?_⟩
        (refine Ev.up ?_; simp only [spec_l1Cur_scoreHeap.l0, decT])
        rw [e1]
        (repeat (first | with_reducible refine Ev.bindS ?_ | (with_reducible refine Ev.ifp ?_ ?_; (· first | omega | assumption | rfl | (simp only [List.length_map, List.length_replicate, List.length_take, List.length_drop, List.length_append, List.length_cons, List.length_nil, List.length_set]; omega) | (simp; done))) | (with_reducible refine Ev.ifn ?_ ?_; (· first | omega | assumption | rfl | (simp only [List.length_map, List.length_replicate, List.length_take, List.length_drop, List.length_append, List.length_cons, List.length_nil, List.length_set]; omega) | (simp; done)))))
        exact Ev.val rfl
      | true =>
        have ew : wrap64 ((l.length : Int) - 1) = (l.length : Int) - 1 := wrap_ok (by omega) (by omega)
        refine ⟨l.set ((l.length : Int) - 1).toNat ⟨(rd_T43 l ((l.length : Int) - 1)).f0, wrap64 ((rd_T43 l ((l.length : Int) - 1)).f1 + 40)⟩, a1, s1, ?_, by omega, by omega, ?_⟩
        · simp only [List.length_set]; omega
        · (refine Ev.up ?_; simp only [spec_l1Cur_scoreHeap.l0, decT])
          rw [e1, ew]
          (repeat (first | with_reducible refine Ev.bindS ?_ | (with_reducible refine Ev.ifp ?_ ?_; (· first | omega | assumption | rfl | (simp only [List.length_map, List.length_replicate, List.length_take, List.length_drop, List.length_append, List.length_cons, List.length_nil, List.length_set]; omega) | (simp; done))) | (with_reducible refine Ev.ifn ?_ ?_; (· first | omega | assumption | rfl | (simp only [List.length_map, List.length_replicate, List.length_take, List.length_drop, List.length_append, List.length_cons, List.length_nil, List.length_set]; omega) | (simp; done)))))
          exact Ev.val rfl
    · refine ⟨l, a, s, by omega, by omega, by omega, ?_⟩
      (refine Ev.up ?_; simp only [spec_l1Cur_scoreHeap.l0, decT])
      (repeat (first | with_reducible refine Ev.bindS ?_ | (with_reducible refine Ev.ifp ?_ ?_; (· first | omega | assumption | rfl | (simp only [List.length_map, List.length_replicate, List.length_take, List.length_drop, List.length_append, List.length_cons, List.length_nil, List.length_set]; omega) | (simp; done))) | (with_reducible refine Ev.ifn ?_ ?_; (· first | omega | assumption | rfl | (simp only [List.length_map, List.length_replicate, List.length_take, List.length_drop, List.length_append, List.length_cons, List.length_nil, List.length_set]; omega) | (simp; done)))))
      exact Ev.val rfl
  | succ d ih =>
    intro l n a s hn hl h0 h1
    by_cases hpos : n > 0
    · obtain ⟨x, a1, s1, e1, p1, p2, _⟩ := pick_some c hc a s h0 (by omega) 20
      obtain ⟨y, a2, s2, e2, q1, q2, _⟩ := pick_some c hc a1 s1 (by omega) (by omega) 30
      obtain ⟨v, _, hs, _⟩ := push_ev l (by omega) x y
      have hpl := push_len l ⟨x, y⟩ v
      have en : wrap64 (n - 1) = n - 1 := wrap_ok (by omega) (by omega)
      cases hok : (pushRes l ⟨x, y⟩ v).2 with
      | true =>
        obtain ⟨l', a', s', r1, r2, r3, r4⟩ := ih (pushRes l ⟨x, y⟩ v).1 (n - 1) a2 s2 (by omega) (by omega) (by omega) (by omega)
        refine ⟨l', a', s', r1, by omega, by omega, ?_⟩
        (refine Ev.up ?_; simp only [spec_l1Cur_scoreHeap.l0, decT])
        rw [e1, en]
        (repeat (first | with_reducible refine Ev.bindS ?_ | (with_reducible refine Ev.ifp ?_ ?_; (· first | omega | assumption | rfl | (simp only [List.length_map, List.length_replicate, List.length_take, List.length_drop, List.length_append, List.length_cons, List.length_nil, List.length_set]; omega) | (simp; done))) | (with_reducible refine Ev.ifn ?_ ?_; (· first | omega | assumption | rfl | (simp only [List.length_map, List.length_replicate, List.length_take, List.length_drop, List.length_append, List.length_cons, List.length_nil, List.length_set]; omega) | (simp; done)))))
        rw [e2]
        (repeat (first | with_reducible refine Ev.bindS ?_ | (with_reducible refine Ev.ifp ?_ ?_; (· first | omega | assumption | rfl | (simp only [List.length_map, List.length_replicate, List.length_take, List.length_drop, List.length_append, List.length_cons, List.length_nil, List.length_set]; omega) | (simp; done))) | (with_reducible refine Ev.ifn ?_ ?_; (· first | omega | assumption | rfl | (simp only [List.length_map, List.length_replicate, List.length_take, List.length_drop, List.length_append, List.length_cons, List.length_nil, List.length_set]; omega) | (simp; done)))))
        refine Ev.bind hs ?_
        rw [hok]
        (repeat (first | with_reducible refine Ev.bindS ?_ | (with_reducible refine Ev.ifp ?_ ?_; (· first | omega | assumption | rfl | (simp only [List.length_map, List.length_replicate, List.length_take, List.length_drop, List.length_append, List.length_cons, List.length_nil, List.length_set]; omega) | (simp; done))) | (with_reducible refine Ev.ifn ?_ ?_; (· first | omega | assumption | rfl | (simp only [List.length_map, List.length_replicate, List.length_take, List.length_drop, List.length_append, List.length_cons, List.length_nil, List.length_set]; omega) | (simp; done)))))
        exact r4
      | false =>
        obtain ⟨l', a', s', r1, r2, r3, r4⟩ := ih l (n - 1) a2 s2 (by omega) (by omega) (by omega) (by omega)
        refine ⟨l', a', s', r1, by omega, by omega, ?_⟩
        (refine Ev.up ?_; simp only [spec_l1Cur_scoreHeap.l0, decT])
        rw [e1, en]
        (repeat (first | with_reducible refine Ev.bindS ?_ | (with_reducible refine Ev.ifp ?_ ?_; (· first | omega | assumption | rfl | (simp only [List.length_map, List.length_replicate, List.length_take, List.length_drop, List.length_append, List.length_cons, List.length_nil, List.length_set]; omega) | (simp; done))) | (with_reducible refine Ev.ifn ?_ ?_; (· first | omega | assumption | rfl | (simp only [List.length_map, List.length_replicate, List.length_take, List.length_drop, List.length_append, List.length_cons, List.length_nil, List.length_set]; omega) | (simp; done)))))
        rw [e2]
        (repeat (first | with_reducible refine Ev.bindS ?_ | (with_reducible refine Ev.ifp ?_ ?_; (· first | omega | assumption | rfl | (simp only [List.length_map, List.length_replicate, List.length_take, List.length_drop, List.length_append, List.length_cons, List.length_nil, List.length_set]; omega) | (simp; done))) | (with_reducible refine Ev.ifn ?_ ?_; (· first | omega | assumption | rfl | (simp only [List.length_map, List.length_replicate, List.length_take, List.length_drop, List.length_append, List.length_cons, List.length_nil, List.length_set]; omega) | (simp; done)))))
        refine Ev.bind hs ?_
        rw [hok]
        (repeat (first | with_reducible refine Ev.bindS ?_ | (with_reducible refine Ev.ifp ?_ ?_; (· first | omega | assumption | rfl | (simp only [List.length_map, List.length_replicate, List.length_take, List.length_drop, List.length_append, List.length_cons, List.length_nil, List.length_set]; omega) | (simp; done))) | (with_reducible refine Ev.ifn ?_ ?_; (· first | omega | assumption | rfl | (simp only [List.length_map, List.length_replicate, List.length_take, List.length_drop, List.length_append, List.length_cons, List.length_nil, List.length_set]; omega) | (simp; done)))))
        exact r4
    · obtain ⟨l', a', s', q1, q2, q3, q4⟩ := ih l n a s (by omega) (by omega) h0 (by omega)
      exact ⟨l', a', s', q1, q2, by omega, q4⟩
theorem heap_draw (c : List Int) (hc : Code c) (a s : Int) (h0 : 0 ≤ a) (h1 : a ≤ 100000) :
    ∃ (l : List S43) (a' s' : Int), l.length ≤ 1000 ∧ a ≤ a' ∧ a' ≤ a + 2000 ∧ Ev (fun k => spec_l1Cur_scoreHeap.f k c a s) (l, a', s') := by
  have start : ∀ (n a s : Int), 0 ≤ a → a ≤ 900000 → n ≤ 100 → ∃ (l : List S43) (a' s' : Int), l.length ≤ 1000 ∧ a ≤ a' ∧ a' ≤ a + 1010 ∧ Ev (fun k => spec_l1Cur_scoreHeap.j0 k [] n c a s) (l, a', s') := by
    intro n a s h0 h1 hn
    obtain ⟨l', a', s', r1, r2, r3, r4⟩ := heap_loop c hc 100 [] n a s (by omega) (by simp) (by omega) (by omega)
    refine ⟨l', a', s', r1, by omega, by omega, ?_⟩
    (refine Ev.up ?_; simp only [spec_l1Cur_scoreHeap.j0, decT])
    exact r4
  obtain ⟨x, a1, s1, e1, p1, p2, p3, p4, _⟩ := pick_some c hc a s h0 (by omega) 9
  obtain ⟨b, a2, s2, e2, q1, q2⟩ := one_some c hc a1 s1 (by omega) (by omega) 20
  have p4 := p4 (by omega)
  simp only [spec_l1Cur_scoreHeap.f, e1]
  cases b with
  | false =>
    obtain ⟨l, a', s', r1, r2, r3, r4⟩ := start x a2 s2 (by omega) (by omega) (by omega)
    refine ⟨l, a', s', r1, by omega, by omega, ?_⟩
    (repeat (first | with_reducible refine Ev.bindS ?_ | (with_reducible refine Ev.ifp ?_ ?_; (· first | omega | assumption | rfl | (simp only [List.length_map, List.length_replicate, List.length_take, List.length_drop, List.length_append, List.length_cons, List.length_nil, List.length_set]; omega) | (simp; done))) | (with_reducible refine Ev.ifn ?_ ?_; (· first | omega | assumption | rfl | (simp only [List.length_map, List.length_replicate, List.length_take, List.length_drop, List.length_append, List.length_cons, List.length_nil, List.length_set]; omega) | (simp; done)))))
    rw [e2]
    (repeat (first | with_reducible refine Ev.bindS ?_ | (with_reducible refine Ev.ifp ?_ ?_; (· first | omega | assumption | rfl | (simp only [List.length_map, List.length_replicate, List.length_take, List.length_drop, List.length_append, List.length_cons, List.length_nil, List.length_set]; omega) | (simp; done))) | (with_reducible refine Ev.ifn ?_ ?_; (· first | omega | assumption | rfl | (simp only [List.length_map, List.length_replicate, List.length_take, List.length_drop, List.length_append, List.length_cons, List.length_nil, List.length_set]; omega) | (simp; done)))))
    exact r4
  | true =>
    obtain ⟨y, a3, s3, e3, t1, t2, t3, t4, _⟩ := pick_some c hc a2 s2 (by omega) (by omega) 2
    have t4 := t4 (by omega)
    have ew : wrap64 (60 + y) = 60 + y := wrap_ok (by omega) (by omega)
    obtain ⟨l, a', s', r1, r2, r3, r4⟩ := start (60 + y) a3 s3 (by omega) (by omega) (by omega)
    refine ⟨l, a', s', r1, by omega, by omega, ?_⟩
    (repeat (first | with_reducible refine Ev.bindS ?_ | (with_reducible refine Ev.ifp ?_ ?_; (· first | omega | assumption | rfl | (simp only [List.length_map, List.length_replicate, List.length_take, List.length_drop, List.length_append, List.length_cons, List.length_nil, List.length_set]; omega) | (simp; done))) | (with_reducible refine Ev.ifn ?_ ?_; (· first | omega | assumption | rfl | (simp only [List.length_map, List.length_replicate, List.length_take, List.length_drop, List.length_append, List.length_cons, List.length_nil, List.length_set]; omega) | (simp; done)))))
    rw [e2]
    (repeat (first | with_reducible refine Ev.bindS ?_ | (with_reducible refine Ev.ifp ?_ ?_; (· first | omega | assumption | rfl | (simp only [List.length_map, List.length_replicate, List.length_take, List.length_drop, List.length_append, List.length_cons, List.length_nil, List.length_set]; omega) | (simp; done))) | (with_reducible refine Ev.ifn ?_ ?_; (· first | omega | assumption | rfl | (simp only [List.length_map, List.length_replicate, List.length_take, List.length_drop, List.length_append, List.length_cons, List.length_nil, List.length_set]; omega) | (simp; done)))))
    rw [e3]
    (repeat (first | with_reducible refine Ev.bindS ?_ | (with_reducible refine Ev.ifp ?_ ?_; (· first | omega | assumption | rfl | (simp only [List.length_map, List.length_replicate, List.length_take, List.length_drop, List.length_append, List.length_cons, List.length_nil, List.length_set]; omega) | (simp; done))) | (with_reducible refine Ev.ifn ?_ ?_; (· first | omega | assumption | rfl | (simp only [List.length_map, List.length_replicate, List.length_take, List.length_drop, List.length_append, List.length_cons, List.length_nil, List.length_set]; omega) | (simp; done)))))
    rw [ew]
    exact r4
theorem sameScores_ev (l : List S43) (hl : l.length ≤ 1048577) : Ev (fun k => laws_sameScores.f k l l) true := by
  have h := all_ev (fun k i => laws_sameScores.l0 k l l l.length i) l.length true ?_ ?_
  · simp only [laws_sameScores.f]
    (repeat (first | with_reducible refine Ev.bindS ?_ | (with_reducible refine Ev.ifp ?_ ?_; (· first | omega | assumption | rfl | (simp only [List.length_map, List.length_replicate, List.length_take, List.length_drop, List.length_append, List.length_cons, List.length_nil, List.length_set]; omega) | (simp; done))) | (with_reducible refine Ev.ifn ?_ ?_; (· first | omega | assumption | rfl | (simp only [List.length_map, List.length_replicate, List.length_take, List.length_drop, List.length_append, List.length_cons, List.length_nil, List.length_set]; omega) | (simp; done)))))
    exact h
  · intro k
    simp only [laws_sameScores.l0]
    rw [if_neg (by omega)]
  · intro i hi
    refine ⟨0, fun k _ => ?_⟩
    simp only [laws_sameScores.l0]
    rw [if_pos (by omega), if_pos (by omega), if_pos (by omega), if_pos (by omega), wrap_succ (by omega)]
    simp
theorem isHeap_both (l : List S43) (hl : l.length ≤ 1048576) : ∃ b : Bool, (b = true ↔ IsH l) ∧ Ev (fun k => spec_IsHeap.f k l) (if heapOk l = true then (b, true) else (false, false)) ∧ Ev (fun k => impl_IsHeap.f k l) (if heapOk l = true then (b, true) else (false, false)) := by
  obtain ⟨b, hs, hi, hb⟩ := is_ev l hl
  refine ⟨b, hb, ?_, ?_⟩
  · simp only [spec_IsHeap.f]
    refine Ev.bind (specHeap_ev l hl) ?_
    cases hk : heapOk l with
    | true => (repeat (first | with_reducible refine Ev.bindS ?_ | (with_reducible refine Ev.ifp ?_ ?_; (· first | omega | assumption | rfl | (simp only [List.length_map, List.length_replicate, List.length_take, List.length_drop, List.length_append, List.length_cons, List.length_nil, List.length_set]; omega) | (simp; done))) | (with_reducible refine Ev.ifn ?_ ?_; (· first | omega | assumption | rfl | (simp only [List.length_map, List.length_replicate, List.length_take, List.length_drop, List.length_append, List.length_cons, List.length_nil, List.length_set]; omega) | (simp; done))))); exact Ev.bind hs (Ev.val rfl)
    | false => (repeat (first | with_reducible refine Ev.bindS ?_ | (with_reducible refine Ev.ifp ?_ ?_; (· first | omega | assumption | rfl | (simp only [List.length_map, List.length_replicate, List.length_take, List.length_drop, List.length_append, List.length_cons, List.length_nil, List.length_set]; omega) | (simp; done))) | (with_reducible refine Ev.ifn ?_ ?_; (· first | omega | assumption | rfl | (simp only [List.length_map, List.length_replicate, List.length_take, List.length_drop, List.length_append, List.length_cons, List.length_nil, List.length_set]; omega) | (simp; done))))); exact Ev.val rfl
  · simp only [impl_IsHeap.f]
    refine Ev.bind (implScores_ev l hl) ?_
    cases hk : heapOk l with
    | true => (repeat (first | with_reducible refine Ev.bindS ?_ | (with_reducible refine Ev.ifp ?_ ?_; (· first | omega | assumption | rfl | (simp only [List.length_map, List.length_replicate, List.length_take, List.length_drop, List.length_append, List.length_cons, List.length_nil, List.length_set]; omega) | (simp; done))) | (with_reducible refine Ev.ifn ?_ ?_; (· first | omega | assumption | rfl | (simp only [List.length_map, List.length_replicate, List.length_take, List.length_drop, List.length_append, List.length_cons, List.length_nil, List.length_set]; omega) | (simp; done))))); exact Ev.bind hi (Ev.val rfl)
    | false => (repeat (first | with_reducible refine Ev.bindS ?_ | (with_reducible refine Ev.ifp ?_ ?_; (· first | omega | assumption | rfl | (simp only [List.length_map, List.length_replicate, List.length_take, List.length_drop, List.length_append, List.length_cons, List.length_nil, List.length_set]; omega) | (simp; done))) | (with_reducible refine Ev.ifn ?_ ?_; (· first | omega | assumption | rfl | (simp only [List.length_map, List.length_replicate, List.length_take, List.length_drop, List.length_append, List.length_cons, List.length_nil, List.length_set]; omega) | (simp; done))))); exact Ev.val rfl
theorem ga_popRow (l : List S43) (j : Nat) (hj : j < l.length - 1) : ga (popRow l) j = if j = 0 then ga l (l.length - 1) else ga l j := by
  have e : ga (popRow l) j = ga (l.set 0 (ga l (l.length - 1))) j := by
    simp only [popRow, ga, List.getD_eq_getElem?_getD, List.getElem?_take]
    rw [if_pos hj]
  rw [e, ga_set]
  by_cases h0 : j = 0
  · rw [if_pos ⟨h0.symm, by omega⟩, if_pos h0]
  · rw [if_neg (fun h => h0 h.1.symm), if_neg h0]
theorem popRow_heap {l : List S43} (h : IsH l) : IsH (down (l.length - 1) (popRow l) 0) := by
  have hlen := popRow_len l
  refine down_heap _ _ 0 (by omega) (fun j h0 hj hne => ?_) (fun j h0 hj hpar hpos => absurd hpos (by omega))
  rw [hlen] at hj
  rw [ga_popRow l j hj, if_neg (by omega), ga_popRow l ((j - 1) / 2) (by omega), if_neg hne]
  exact h j h0 (by omega)
theorem heapOk_sub {l l' : List S43} (h : heapOk l = true) (hm : ∀ y ∈ l', y ∈ l) (hl : l'.length ≤ l.length) : heapOk l' = true := by
  simp only [heapOk, Bool.and_eq_true, List.all_eq_true, decide_eq_true_eq] at h ⊢
  exact ⟨fun y hy => h.1 y (hm y hy), by omega⟩
theorem popRow_mem {l : List S43} (h0 : 0 < l.length) : ∀ y ∈ popRow l, y ∈ l := by
  intro y hy
  have hy := List.mem_of_mem_take hy
  rcases List.mem_or_eq_of_mem_set hy with h | h
  · exact h
  · rw [h]; exact ga_mem (by omega)
theorem half_ev (c : List Int) (hc : Code c) : Ev (fun k => laws_FnHeaps.j3 k c) true := by
  obtain ⟨l, a', s', hl, _, _, hd⟩ := heap_draw c hc 0 0 (by omega) (by omega)
  obtain ⟨v, _, ps, pi⟩ := pop_ev l (by omega)
  obtain ⟨b, _, hs, hi⟩ := isHeap_both l (by omega)
  have hpl : (popRes l v).1.length ≤ 1048577 := by
    unfold popRes
    split
    · dsimp only
      rw [down_len, popRow_len]
      omega
    · simp
  have hdraw : Ev (fun k => spec_DrawHeapPop.f k c) l := by
    simp only [spec_DrawHeapPop.f, spec_DrawIsHeap.f]
    refine Ev.bind (a := l) ?_ (Ev.val rfl)
    exact Ev.bind hd (Ev.val rfl)
  (refine Ev.up ?_; simp only [laws_FnHeaps.j3, decT])
  refine Ev.bind hdraw (Ev.bind pi (Ev.bind ps (Ev.bind hi (Ev.bind hs ?_))))
  simp only [beq_self_eq_true, Bool.and_self]
  (repeat (first | with_reducible refine Ev.bindS ?_ | (with_reducible refine Ev.ifp ?_ ?_; (· first | omega | assumption | rfl | (simp only [List.length_map, List.length_replicate, List.length_take, List.length_drop, List.length_append, List.length_cons, List.length_nil, List.length_set]; omega) | (simp; done))) | (with_reducible refine Ev.ifn ?_ ?_; (· first | omega | assumption | rfl | (simp only [List.length_map, List.length_replicate, List.length_take, List.length_drop, List.length_append, List.length_cons, List.length_nil, List.length_set]; omega) | (simp; done)))))
  refine Ev.bind (sameScores_ev _ hpl) ?_
  (repeat (first | with_reducible refine Ev.bindS ?_ | (with_reducible refine Ev.ifp ?_ ?_; (· first | omega | assumption | rfl | (simp only [List.length_map, List.length_replicate, List.length_take, List.length_drop, List.length_append, List.length_cons, List.length_nil, List.length_set]; omega) | (simp; done))) | (with_reducible refine Ev.ifn ?_ ?_; (· first | omega | assumption | rfl | (simp only [List.length_map, List.length_replicate, List.length_take, List.length_drop, List.length_append, List.length_cons, List.length_nil, List.length_set]; omega) | (simp; done)))))
  exact Ev.val rfl
theorem best_loop (c : List Int) (hhalf : Ev (fun k => laws_FnHeaps.j3 k c) true) (l : List S43) (hl : l.length ≤ 1048576) (h : IsH l) :
    Ev (fun k => laws_FnHeaps.l0 k c l l.length 0 (ga l 0).f0 (ga l 0).f1) true := by
  have key : ∀ (t : List S43) (i : Nat), l.drop i = t → i ≤ l.length → Ev (fun k => laws_FnHeaps.l0 k c l l.length i (ga l 0).f0 (ga l 0).f1) true := by
    intro t
    induction t with
    | nil =>
      intro i h2 hi
      have := drop_nil h2
      (refine Ev.up ?_; simp only [laws_FnHeaps.l0, decT])
      (repeat (first | with_reducible refine Ev.bindS ?_ | (with_reducible refine Ev.ifp ?_ ?_; (· first | omega | assumption | rfl | (simp only [List.length_map, List.length_replicate, List.length_take, List.length_drop, List.length_append, List.length_cons, List.length_nil, List.length_set]; omega) | (simp; done))) | (with_reducible refine Ev.ifn ?_ ?_; (· first | omega | assumption | rfl | (simp only [List.length_map, List.length_replicate, List.length_take, List.length_drop, List.length_append, List.length_cons, List.length_nil, List.length_set]; omega) | (simp; done)))))
      exact hhalf
    | cons x t ih =>
      intro i h2 hi
      obtain ⟨p1, p2, p3⟩ := drop_cons h2
      have ih := ih (i + 1) p3 (by omega)
      have hb := first_best h i i (Nat.le_refl _) (by omega)
      unfold Btr at hb
      (refine Ev.up ?_; simp only [laws_FnHeaps.l0, decT])
      rw [rd_ga, wrap_succ (by omega)]
      by_cases he : (ga l i).f1 = (ga l 0).f1
      · (repeat (first | with_reducible refine Ev.bindS ?_ | (with_reducible refine Ev.ifp ?_ ?_; (· first | omega | assumption | rfl | (simp only [List.length_map, List.length_replicate, List.length_take, List.length_drop, List.length_append, List.length_cons, List.length_nil, List.length_set]; omega) | (simp; done))) | (with_reducible refine Ev.ifn ?_ ?_; (· first | omega | assumption | rfl | (simp only [List.length_map, List.length_replicate, List.length_take, List.length_drop, List.length_append, List.length_cons, List.length_nil, List.length_set]; omega) | (simp; done)))))
        exact ih
      · (repeat (first | with_reducible refine Ev.bindS ?_ | (with_reducible refine Ev.ifp ?_ ?_; (· first | omega | assumption | rfl | (simp only [List.length_map, List.length_replicate, List.length_take, List.length_drop, List.length_append, List.length_cons, List.length_nil, List.length_set]; omega) | (simp; done))) | (with_reducible refine Ev.ifn ?_ ?_; (· first | omega | assumption | rfl | (simp only [List.length_map, List.length_replicate, List.length_take, List.length_drop, List.length_append, List.length_cons, List.length_nil, List.length_set]; omega) | (simp; done)))))
        exact ih
  exact key l 0 rfl (by omega)
theorem good_ev (c : List Int) (hhalf : Ev (fun k => laws_FnHeaps.j3 k c) true) (h p : List S43) (hp : p.length = h.length + 1) (hl : h.length ≤ 1000) (hk : heapOk p = true) (hh : IsH p) :
    Ev (fun k => laws_FnHeaps.j0 k c h p true false) true := by
  obtain ⟨b, hb, _, hi⟩ := isHeap_both p (by omega)
  obtain ⟨v, hv, _, pi⟩ := pop_ev p (by omega)
  have eb : b = true := hb.2 hh
  have ev : v = true := hv.2 hh
  have er : popRes p v = (down (p.length - 1) (popRow p) 0, (ga p 0).f0, (ga p 0).f1, true) := by rw [popRes, if_pos ⟨⟨hk, ev⟩, by omega⟩]
  rw [er] at pi
  rw [if_pos hk, eb] at hi
  have hql : (down (p.length - 1) (popRow p) 0).length = p.length - 1 := by rw [down_len, popRow_len]
  have hqk : heapOk (down (p.length - 1) (popRow p) 0) = true := heapOk_sub hk (fun y hy => popRow_mem (by omega) y (down_mem _ _ _ y hy)) (by omega)
  obtain ⟨b2, hb2, _, hi2⟩ := isHeap_both (down (p.length - 1) (popRow p) 0) (by omega)
  have eb2 : b2 = true := hb2.2 (popRow_heap hh)
  rw [if_pos hqk, eb2] at hi2
  have ew : wrap64 ((h.length : Int) + 1) = (p.length : Int) := by rw [wrap_ok (by omega) (by omega), hp]; omega
  have en : (((down (p.length - 1) (popRow p) 0).length : Int) != (h.length : Int)) = false := by
    rw [hql, bne_eq_false_iff_eq]; omega
  (refine Ev.up ?_; simp only [laws_FnHeaps.j0, decT])
  (repeat (first | with_reducible refine Ev.bindS ?_ | (with_reducible refine Ev.ifp ?_ ?_; (· first | omega | assumption | rfl | (simp only [List.length_map, List.length_replicate, List.length_take, List.length_drop, List.length_append, List.length_cons, List.length_nil, List.length_set]; omega) | (simp; done))) | (with_reducible refine Ev.ifn ?_ ?_; (· first | omega | assumption | rfl | (simp only [List.length_map, List.length_replicate, List.length_take, List.length_drop, List.length_append, List.length_cons, List.length_nil, List.length_set]; omega) | (simp; done)))))
  refine Ev.bind hi (Ev.bind pi (Ev.bind hi2 ?_))
  rw [ew, en]
  (repeat (first | with_reducible refine Ev.bindS ?_ | (with_reducible refine Ev.ifp ?_ ?_; (· first | omega | assumption | rfl | (simp only [List.length_map, List.length_replicate, List.length_take, List.length_drop, List.length_append, List.length_cons, List.length_nil, List.length_set]; omega) | (simp; done))) | (with_reducible refine Ev.ifn ?_ ?_; (· first | omega | assumption | rfl | (simp only [List.length_map, List.length_replicate, List.length_take, List.length_drop, List.length_append, List.length_cons, List.length_nil, List.length_set]; omega) | (simp; done)))))
  (refine Ev.up ?_; simp only [laws_FnHeaps.j1, decT])
  (repeat (first | with_reducible refine Ev.bindS ?_ | (with_reducible refine Ev.ifp ?_ ?_; (· first | omega | assumption | rfl | (simp only [List.length_map, List.length_replicate, List.length_take, List.length_drop, List.length_append, List.length_cons, List.length_nil, List.length_set]; omega) | (simp; done))) | (with_reducible refine Ev.ifn ?_ ?_; (· first | omega | assumption | rfl | (simp only [List.length_map, List.length_replicate, List.length_take, List.length_drop, List.length_append, List.length_cons, List.length_nil, List.length_set]; omega) | (simp; done)))))
  exact best_loop c hhalf p (by omega) hh
theorem FnHeaps : ∀ (l0 : List Int) (l1 : List Int), (l0.length ≤ maxLen ∧ ∀ y9 ∈ l0, (Lit.int .u8 y9).wf = true) → (l1.length ≤ maxLen ∧ ∀ y10 ∈ l1, (Lit.int .u8 y10).wf = true) → ∃ k, laws_FnHeaps.f k l0 l1 = some true := by
  intro c d ⟨_, hc2⟩ ⟨_, hd2⟩
  refine Ev.some (g := fun k => laws_FnHeaps.f k c d) ?_
  by_cases hw : wrap64 ((c.length : Int) + (d.length : Int)) > 1048576
  · simp only [laws_FnHeaps.f]
    (repeat (first | with_reducible refine Ev.bindS ?_ | (with_reducible refine Ev.ifp ?_ ?_; (· first | omega | assumption | rfl | (simp only [List.length_map, List.length_replicate, List.length_take, List.length_drop, List.length_append, List.length_cons, List.length_nil, List.length_set]; omega) | (simp; done))) | (with_reducible refine Ev.ifn ?_ ?_; (· first | omega | assumption | rfl | (simp only [List.length_map, List.length_replicate, List.length_take, List.length_drop, List.length_append, List.length_cons, List.length_nil, List.length_set]; omega) | (simp; done)))))
    exact Ev.val rfl
  have hc : Code c := fun y hy => bounds_u8 (hc2 y hy)
  have hd : Code d := fun y hy => bounds_u8 (hd2 y hy)
  have hhalf := half_ev d hd
  obtain ⟨h, a1, s1, hl, p1, p2, hdraw⟩ := heap_draw c hc 0 0 (by omega) (by omega)
  obtain ⟨x, a2, s2, e2, q1, q2, _⟩ := pick_some c hc a1 s1 (by omega) (by omega) 20
  obtain ⟨y, a3, s3, e3, t1, t2, _⟩ := pick_some c hc a2 s2 (by omega) (by omega) 9
  obtain ⟨z, a4, s4, e4, u1, u2, _⟩ := pick_some c hc a3 s3 (by omega) (by omega) 30
  have hdr : Ev (fun k => spec_DrawHeapPush.f k c) (h, wrap64 (x - wrap64 (Int.tdiv y 8)), z) := by
    simp only [spec_DrawHeapPush.f]
    refine Ev.bind hdraw ?_
    simp only [e2, e3, e4, Option.bind_some]
    exact Ev.val rfl
  generalize wrap64 (x - wrap64 (Int.tdiv y 8)) = w at hdr
  obtain ⟨v, hv, ps, pi⟩ := push_ev h (by omega) w z
  have hpl := push_len h ⟨w, z⟩ v
  simp only [laws_FnHeaps.f]
  (repeat (first | with_reducible refine Ev.bindS ?_ | (with_reducible refine Ev.ifp ?_ ?_; (· first | omega | assumption | rfl | (simp only [List.length_map, List.length_replicate, List.length_take, List.length_drop, List.length_append, List.length_cons, List.length_nil, List.length_set]; omega) | (simp; done))) | (with_reducible refine Ev.ifn ?_ ?_; (· first | omega | assumption | rfl | (simp only [List.length_map, List.length_replicate, List.length_take, List.length_drop, List.length_append, List.length_cons, List.length_nil, List.length_set]; omega) | (simp; done)))))
  refine Ev.bind hdr (Ev.bind pi (Ev.bind ps ?_))
  simp only [bne_self_eq_false]
  (repeat (first | with_reducible refine Ev.bindS ?_ | (with_reducible refine Ev.ifp ?_ ?_; (· first | omega | assumption | rfl | (simp only [List.length_map, List.length_replicate, List.length_take, List.length_drop, List.length_append, List.length_cons, List.length_nil, List.length_set]; omega) | (simp; done))) | (with_reducible refine Ev.ifn ?_ ?_; (· first | omega | assumption | rfl | (simp only [List.length_map, List.length_replicate, List.length_take, List.length_drop, List.length_append, List.length_cons, List.length_nil, List.length_set]; omega) | (simp; done)))))
  refine Ev.bind (sameScores_ev _ (by omega)) ?_
  by_cases hok : heapOk (h ++ [⟨w, z⟩]) = true ∧ v = true
  · have er : pushRes h ⟨w, z⟩ v = (up h.length (h ++ [⟨w, z⟩]) h.length, true) := by rw [pushRes, if_pos hok]
    have hh := hv.1 hok.2
    have hlen : (h ++ [(⟨w, z⟩ : S43)]).length = h.length + 1 := by simp
    have happ : ∀ j, j < h.length → ga (h ++ [(⟨w, z⟩ : S43)]) j = ga h j := by
      intro j hj
      simp only [ga, List.getD_eq_getElem?_getD, List.getElem?_append_left hj]
    have hup : IsH (up h.length (h ++ [⟨w, z⟩]) h.length) := by
      refine up_heap _ _ _ (Nat.le_refl _) (by omega) (fun j h0 hj hne => ?_) (fun j h0 hj hpar hpos => by omega)
      rw [happ j (by omega), happ ((j - 1) / 2) (by omega)]
      exact hh j h0 (by omega)
    have hpk : heapOk (up h.length (h ++ [⟨w, z⟩]) h.length) = true := heapOk_sub hok.1 (up_mem _ _ _ (by omega)) (by rw [up_len]; omega)
    rw [er]
    exact good_ev d hhalf h _ (by rw [up_len, hlen]) hl hpk hup
  · have er : pushRes h ⟨w, z⟩ v = ([], false) := by rw [pushRes, if_neg hok]
    rw [er]
    (refine Ev.up ?_; simp only [laws_FnHeaps.j0, decT])
    (repeat (first | with_reducible refine Ev.bindS ?_ | (with_reducible refine Ev.ifp ?_ ?_; (· first | omega | assumption | rfl | (simp only [List.length_map, List.length_replicate, List.length_take, List.length_drop, List.length_append, List.length_cons, List.length_nil, List.length_set]; omega) | (simp; done))) | (with_reducible refine Ev.ifn ?_ ?_; (· first | omega | assumption | rfl | (simp only [List.length_map, List.length_replicate, List.length_take, List.length_drop, List.length_append, List.length_cons, List.length_nil, List.length_set]; omega) | (simp; done)))))
    exact hhalf
end Go.Proofs.Ytehldgkpkjgocaa.Pure
namespace Go.Proofs.Ytehldgkpkjgocaa.OpenA
open Go.RowKit Go.Deep Go.ChangeShapes Go.Joins Go.Proofs.YtehldgkpkjgocaaW Go.Proofs.YtehldgkpkjgocaaW.PrintWords

/-- What can be read as data of type t can be read as kind d, and is well formed. -/
def Op (P : Program) (t : TypeId) {α : Type} (d : Kd α) (Wf : α → Prop) : Prop :=
  ∀ {H : Type} {enc : TypeId × Value → H} {w : World} {base : Nat} {spare : Nat → Bool} {held : Bool} {fuel : Nat} {cs : List Value} {x : DataW H × List MemPlace},
    DataW.trod enc P w base spare held fuel t cs = some x → ∃ a : α, d.K w a cs ∧ Wf a

variable {P : Program} {t e : TypeId}

theorem op_int {k : IntKind} (hu : P.underlying t = some (.int k)) : Op P t (Kd.int k) (fun n => (Lit.int k n).wf = true) := by
  intro H enc w base spare held fuel cs x h
  obtain ⟨n, rfl, _, hw⟩ := DataW.trod_int hu h
  exact ⟨n, rfl, hw⟩
theorem op_bool (hu : P.underlying t = some .bool) : Op P t Kd.bool (fun _ => True) := by
  intro H enc w base spare held fuel cs x h
  obtain ⟨b, rfl, _⟩ := DataW.trod_bool hu h
  exact ⟨b, rfl, trivial⟩
theorem op_string (hu : P.underlying t = some .string) : Op P t Kd.string (fun s => s.size ≤ maxLen) := by
  intro H enc w base spare held fuel cs x h
  obtain ⟨s, rfl, _, hs⟩ := DataW.trod_string hu h
  exact ⟨s, rfl, hs⟩
theorem cells_of {w : World} {base : Nat} {a : Addr} {n : Nat} {cs : List Value} (h : w.cells? base a n = some cs) : cs.length = n ∧ ∀ j u, cs[j]? = some u → w.cell? (a.add j) = some u := by
  unfold World.cells? at h
  split at h
  · have hl := mapM_some_length h
    refine ⟨by simpa using hl, fun j u hj => ?_⟩
    have hlt : j < n := by
      have := (List.getElem?_eq_some_iff.1 hj).1
      have : cs.length = n := by simpa using hl
      omega
    have := mapM_some_get h j j (by simp [hlt])
    rw [hj] at this
    exact this
  · simp at h
theorem op_slice {α : Type} {d : Kd α} {Wf : α → Prop} (hu : P.underlying t = some (.slice e)) (hc : P.cellsOf e = d.sz) (h : Op P e d Wf) :
    Op P t (Kd.slice e d) (fun xs => xs.length ≤ maxLen ∧ ∀ x ∈ xs, Wf x) := by
  intro H enc w base spare held fuel cs x hf
  rcases open_slice hu hf with ⟨rfl, _⟩ | ⟨a, len, cap, m, n, D, Pl, rfl, _, hl, hm, hmm, hxe, hall⟩
  · exact ⟨[], ⟨none, 0, rfl, Nat.le_refl _, rfl, by simp, fun h => absurd h (by simp)⟩, by simp, by simp⟩
  · have hlm : len ≤ m := by rw [hmm]; split <;> omega
    have hx : ∀ i, i < len → ∃ y : α × List Value, w.cells? base (a.add (i * P.cellsOf e)) (P.cellsOf e) = some y.2 ∧ d.K w y.1 y.2 ∧ Wf y.1 := by
      intro i hi
      obtain ⟨cs', h1, h2⟩ := hall i (by omega)
      obtain ⟨y, h3, h4⟩ := h h2
      exact ⟨⟨y, cs'⟩, h1, h3, h4⟩
    have hx' : ∃ ys : List (α × List Value), ys.length = len ∧ ∀ i y, ys[i]? = some y → w.cells? base (a.add (i * P.cellsOf e)) (P.cellsOf e) = some y.2 ∧ d.K w y.1 y.2 ∧ Wf y.1 := by
      clear hall hf hmm hlm hl hm hxe
      induction len with
      | zero => exact ⟨[], rfl, by simp⟩
      | succ len ih =>
        obtain ⟨ys, h1, h2⟩ := ih (fun i hi => hx i (by omega))
        obtain ⟨y, hy⟩ := hx len (by omega)
        refine ⟨ys ++ [y], by simp [h1], fun i z hz => ?_⟩
        rcases Nat.lt_or_ge i ys.length with hi | hi
        · rw [List.getElem?_append_left hi] at hz
          exact h2 i z hz
        · rw [List.getElem?_append_right hi] at hz
          have h0 : i - ys.length = 0 := by
            rcases Nat.eq_zero_or_pos (i - ys.length) with h0 | h0
            · exact h0
            · rw [List.getElem?_eq_none (by simp; omega)] at hz
              cases hz
          rw [h0] at hz
          have hz' : y = z := by simpa using hz
          have : i = len := by omega
          subst this
          subst hz'
          exact hy
    obtain ⟨ys, hl2, hys⟩ := hx'
    have hlen : (ys.map (·.1)).length = len := by simp [hl2]
    refine ⟨ys.map (·.1), ⟨some a, cap, by rw [hlen], by omega, ?_⟩, by simp only [maxLen] at *; omega, ?_⟩
    · refine ⟨rfl, by rw [hlen]; simp only [maxLen] at hm; omega, fun _ => ⟨a, rfl, fun j p hj => ?_⟩⟩
      rw [List.getElem?_map] at hj
      obtain ⟨y, hy, rfl⟩ := Option.map_eq_some_iff.1 hj
      obtain ⟨h1, h2, _⟩ := hys j y hy
      obtain ⟨h3, h4⟩ := cells_of h1
      refine ⟨y.2, by rw [h3, hc], h2, fun i u hu => ?_⟩
      have := h4 i u hu
      rw [PrintWords.add_add, hc] at this
      exact this
    · intro x hx
      obtain ⟨y, hy, rfl⟩ := List.mem_map.1 hx
      obtain ⟨i, hi⟩ := List.mem_iff_getElem?.1 hy
      exact (hys i y hi).2.2

theorem len1 {l : List Value} (h : l.length = 1) : ∃ a, l = [a] := by
  match l, h with
  | [a], _ => exact ⟨a, rfl⟩
theorem len2 {l : List Value} (h : l.length = 2) : ∃ a b, l = [a, b] := by
  match l, h with
  | [a, b], _ => exact ⟨a, b, rfl⟩
theorem len3 {l : List Value} (h : l.length = 3) : ∃ a b c, l = [a, b, c] := by
  match l, h with
  | [a, b, c], _ => exact ⟨a, b, c, rfl⟩
theorem len4 {l : List Value} (h : l.length = 4) : ∃ a b c d, l = [a, b, c, d] := by
  match l, h with
  | [a, b, c, d], _ => exact ⟨a, b, c, d, rfl⟩

theorem fields_of {H : Type} {enc : TypeId × Value → H} {w : World} {base : Nat} {spare : Nat → Bool} {held : Bool} {fuel : Nat} {cs : List Value} {x : DataW H × List MemPlace} {fs : Array Field}
    (hs : P.underlying t = some (.struct fs)) (hone : oneCellFields P fs = true) (hC : P.cellsOf t = fs.size) (h : DataW.trod enc P w base spare held fuel t cs = some x) :
    cs.length = fs.size ∧ ∃ n, ∀ (i : Nat) (f : Field) (v : Value), fs[i]? = some f → cs[i]? = some v → ∃ y, DataW.trod enc P w base spare held n f.type [v] = some y := by
  obtain ⟨xs, n, _, _, hl, hx, hf⟩ := DataW.trod_struct hs h
  refine ⟨hl.trans hC, n, fun i f v hi hv => ?_⟩
  have h1 := hf i f hi
  obtain ⟨h2, h3⟩ := hone_of hone i f hi
  have hlt : i < fs.size := (Array.getElem?_eq_some_iff.1 hi).1
  have h4 : xs[i]? = some (xs[i]'(by omega)) := List.getElem?_eq_getElem (by omega)
  have h5 : (cs.drop f.offset).take (P.cellsOf f.type) = [v] := by
    rw [h2, h3]
    have hlt2 : i < cs.length := by omega
    rw [List.getElem?_eq_getElem hlt2] at hv
    injection hv with hv
    rw [List.drop_eq_getElem_cons hlt2, hv]
    simp
  rw [h5, h4] at h1
  exact ⟨_, h1⟩

theorem op_struct1 {α S : Type} {d0 : Kd α} {W0 : α → Prop} {f0 : Field} {f : S → α} (mk : α → S) (hf : ∀ a, f (mk a) = a)
    (hs : P.underlying t = some (.struct #[f0])) (hone : oneCellFields P #[f0] = true) (hC : P.cellsOf t = 1) (h0 : Op P f0.type d0 W0) :
    Op P t (Kd.iso d0 f) (fun x => W0 (f x)) := by
  intro H enc w base spare held fuel cs x h
  obtain ⟨hl, n, hF⟩ := fields_of hs hone hC h
  obtain ⟨c0, rfl⟩ := len1 hl
  obtain ⟨y0, k0⟩ := hF 0 f0 c0 rfl rfl
  obtain ⟨a0, q0, w0⟩ := h0 k0
  exact ⟨mk a0, by show d0.K w (f (mk a0)) [c0]; rw [hf]; exact q0, by show W0 (f (mk a0)); rw [hf]; exact w0⟩
theorem op_struct2 {α β S : Type} {d0 : Kd α} {d1 : Kd β} {W0 : α → Prop} {W1 : β → Prop} {f0 f1 : Field} {f : S → α × β} (mk : α → β → S) (hf : ∀ a b, f (mk a b) = (a, b))
    (hs : P.underlying t = some (.struct #[f0, f1])) (hone : oneCellFields P #[f0, f1] = true) (hC : P.cellsOf t = 2) (h0 : Op P f0.type d0 W0) (h1 : Op P f1.type d1 W1) :
    Op P t (Kd.iso (Kd.pair d0 d1) f) (fun x => W0 (f x).1 ∧ W1 (f x).2) := by
  intro H enc w base spare held fuel cs x h
  obtain ⟨hl, n, hF⟩ := fields_of hs hone hC h
  obtain ⟨c0, c1, rfl⟩ := len2 hl
  obtain ⟨y0, k0⟩ := hF 0 f0 c0 rfl rfl
  obtain ⟨y1, k1⟩ := hF 1 f1 c1 rfl rfl
  obtain ⟨a0, q0, w0⟩ := h0 k0
  obtain ⟨a1, q1, w1⟩ := h1 k1
  exact ⟨mk a0 a1, ⟨[c0], [c1], rfl, by rw [hf]; exact q0, by rw [hf]; exact q1⟩, by dsimp only; rw [hf]; exact ⟨w0, w1⟩⟩
theorem op_struct3 {α β γ S : Type} {d0 : Kd α} {d1 : Kd β} {d2 : Kd γ} {W0 : α → Prop} {W1 : β → Prop} {W2 : γ → Prop} {f0 f1 f2 : Field} {f : S → α × β × γ} (mk : α → β → γ → S) (hf : ∀ a b c, f (mk a b c) = (a, b, c))
    (hs : P.underlying t = some (.struct #[f0, f1, f2])) (hone : oneCellFields P #[f0, f1, f2] = true) (hC : P.cellsOf t = 3) (h0 : Op P f0.type d0 W0) (h1 : Op P f1.type d1 W1) (h2 : Op P f2.type d2 W2) :
    Op P t (Kd.iso (Kd.pair d0 (Kd.pair d1 d2)) f) (fun x => W0 (f x).1 ∧ W1 (f x).2.1 ∧ W2 (f x).2.2) := by
  intro H enc w base spare held fuel cs x h
  obtain ⟨hl, n, hF⟩ := fields_of hs hone hC h
  obtain ⟨c0, c1, c2, rfl⟩ := len3 hl
  obtain ⟨y0, k0⟩ := hF 0 f0 c0 rfl rfl
  obtain ⟨y1, k1⟩ := hF 1 f1 c1 rfl rfl
  obtain ⟨y2, k2⟩ := hF 2 f2 c2 rfl rfl
  obtain ⟨a0, q0, w0⟩ := h0 k0
  obtain ⟨a1, q1, w1⟩ := h1 k1
  obtain ⟨a2, q2, w2⟩ := h2 k2
  exact ⟨mk a0 a1 a2, ⟨[c0], [c1, c2], rfl, by rw [hf]; exact q0, [c1], [c2], rfl, by rw [hf]; exact q1, by rw [hf]; exact q2⟩, by dsimp only; rw [hf]; exact ⟨w0, w1, w2⟩⟩
theorem op_struct4 {α β γ δ S : Type} {d0 : Kd α} {d1 : Kd β} {d2 : Kd γ} {d3 : Kd δ} {W0 : α → Prop} {W1 : β → Prop} {W2 : γ → Prop} {W3 : δ → Prop} {f0 f1 f2 f3 : Field} {f : S → α × β × γ × δ} (mk : α → β → γ → δ → S) (hf : ∀ a b c d, f (mk a b c d) = (a, b, c, d))
    (hs : P.underlying t = some (.struct #[f0, f1, f2, f3])) (hone : oneCellFields P #[f0, f1, f2, f3] = true) (hC : P.cellsOf t = 4) (h0 : Op P f0.type d0 W0) (h1 : Op P f1.type d1 W1) (h2 : Op P f2.type d2 W2) (h3 : Op P f3.type d3 W3) :
    Op P t (Kd.iso (Kd.pair d0 (Kd.pair d1 (Kd.pair d2 d3))) f) (fun x => W0 (f x).1 ∧ W1 (f x).2.1 ∧ W2 (f x).2.2.1 ∧ W3 (f x).2.2.2) := by
  intro H enc w base spare held fuel cs x h
  obtain ⟨hl, n, hF⟩ := fields_of hs hone hC h
  obtain ⟨c0, c1, c2, c3, rfl⟩ := len4 hl
  obtain ⟨y0, k0⟩ := hF 0 f0 c0 rfl rfl
  obtain ⟨y1, k1⟩ := hF 1 f1 c1 rfl rfl
  obtain ⟨y2, k2⟩ := hF 2 f2 c2 rfl rfl
  obtain ⟨y3, k3⟩ := hF 3 f3 c3 rfl rfl
  obtain ⟨a0, q0, w0⟩ := h0 k0
  obtain ⟨a1, q1, w1⟩ := h1 k1
  obtain ⟨a2, q2, w2⟩ := h2 k2
  obtain ⟨a3, q3, w3⟩ := h3 k3
  exact ⟨mk a0 a1 a2 a3, ⟨[c0], [c1, c2, c3], rfl, by rw [hf]; exact q0, [c1], [c2, c3], rfl, by rw [hf]; exact q1, [c2], [c3], rfl, by rw [hf]; exact q2, by rw [hf]; exact q3⟩, by dsimp only; rw [hf]; exact ⟨w0, w1, w2, w3⟩⟩

/-- A struct's value, by its list of cells. -/
theorem agg_of {cs : Array Value} {l : List Value} (h : cs.toList = l) : cs = l.toArray := by
  cases cs
  simp at h
  simp [h]
end Go.Proofs.Ytehldgkpkjgocaa.OpenA
namespace Go.Proofs.Ytehldgkpkjgocaa.fnHeaps
open Go.ChangeShapes Go.WideShapes Go.ChangeAt Go.RowKit Go.Proofs.Ytehldgkpkjgocaa.Fn Go.Proofs.YtehldgkpkjgocaaW.PrintWords Go.Proofs.Ytehldgkpkjgocaa.OpenA
open Go.ChangeMaps (open_string shut_string)
set_option linter.unusedVariables false
theorem own : ownKnob Try.prog.godebug = none := by kernel_rfl
theorem laidOut : laidOutB Try.prog = true := by kernel_rfl
set_option maxRecDepth 100000 in
theorem lifted (os : Os) (started : os.Started) (H : Type) (enc : TypeId × Value → H) :
    ReturnsInHanded {} Try.checked os 9 .any (Rows.fnHeapsSpec.pre6 enc Try.prog Try.f9 Rows.fnHeapsRow.domain false) (Rows.fnHeapsSpec.post enc Try.prog Try.f9 false true false false) := by
  refine returnsInHanded_of_change_sized (C := Try.checked) own started (by kernel_rfl) Try.func9
    (ChangeSpec.witness6 (enc := enc) (C := Try.checked) false ⟨#[], #[.slice none 0 0, .slice none 0 0], []⟩ 8 (by kernel_rfl) (by kernel_rfl) (by kernel_rfl) (by kernel_rfl)) ?_
  intro W base args ds gs before hval0 hW hcnd hsz0 _
  have hsz : (DataW.weightsEach Try.prog (Try.f9.params.toList ++ Rows.fnHeapsSpec.plain.varTypes Try.prog) (ds ++ gs)).all (· ≤ reachBytes) = true := hsz0
  have hval : ∀ (j : Nat) t v, Try.f9.params[j]? = some t → args[j]? = some v → Value.okWide Try.prog W .any base t v := hval0
  have hW' := hW
  obtain ⟨p, q, hA0, hV, rfl, hfz, hnd⟩ := hW
  have hA : DataW.TrodAll enc Try.prog W 0 (fun _ => true) true Try.f9.params.toList args.toList ds p := hA0
  rw [Try.params9] at hA hval hsz
  obtain ⟨v0, vs0, d0, ds0, p0, q0, hargs, rfl, rfl, h0, r0⟩ := trodAll_cons hA
  obtain ⟨v1, vs1, d1, ds1, p1, q1, rfl, rfl, rfl, h1, r1⟩ := trodAll_cons r0
  obtain ⟨rfl, rfl, rfl⟩ := trodAll_nil r1
  obtain rfl : args = #[v0, v1] := by cases args; simp_all
  obtain ⟨rfl, rfl⟩ := trodVars_none hV
  obtain ⟨a0, len0, cap0, rfl⟩ := okWide_slice Try.underlying50 (hval 0 50 v0 rfl rfl)
  have k0 := h0
  have lt0 : ∀ x ∈ p0, x.block < W.heap.size := by obtain ⟨m, hm⟩ := k0; exact DataW.trod_lt m _ _ _ hm
  obtain ⟨fuel0, hf0⟩ := h0
  obtain ⟨l0, hK0, hw0⟩ := (op_slice Try.underlying50 (by kernel_rfl) (op_int Try.underlying5)) hf0
  obtain ⟨A0, c0, e0, hc0, hr0⟩ := hK0
  simp [Value.cells] at e0
  obtain ⟨rfl, rfl, rfl⟩ := e0
  obtain ⟨a1, len1, cap1, rfl⟩ := okWide_slice Try.underlying50 (hval 1 50 v1 rfl rfl)
  have k1 := h1
  have lt1 : ∀ x ∈ p1, x.block < W.heap.size := by obtain ⟨m, hm⟩ := k1; exact DataW.trod_lt m _ _ _ hm
  obtain ⟨fuel1, hf1⟩ := h1
  obtain ⟨l1, hK1, hw1⟩ := (op_slice Try.underlying50 (by kernel_rfl) (op_int Try.underlying5)) hf1
  obtain ⟨A1, c1, e1, hc1, hr1⟩ := hK1
  simp [Value.cells] at e1
  obtain ⟨rfl, rfl, rfl⟩ := e1
  clear hA0 hval0 hsz0 hsz
  obtain ⟨k, h⟩ := Pure.FnHeaps l0 l1 hw0 hw1
  refine (laws_FnHeaps.calls k _ _ l0 _ _ l1 true W hr0 hc0 hr1 hc1 h rfl).mono fun e W' ⟨he, bel0⟩ => ?_
  have bel : Below W.heap.size W W' := bel0
  subst he
  exact ⟨_, rfl, _, _, _, [], _, [], hW', trodAll_mk1 (shut_bool Try.underlying4 _), (trodAll_cons_mk (Below.trod laidOut (by kernel_rfl) (of_decide_eq_true (by kernel_rfl)) k0 bel lt0) (trodAll_cons_mk (Below.trod laidOut (by kernel_rfl) (of_decide_eq_true (by kernel_rfl)) k1 bel lt1) trodAll_mk0)), rfl, bel.frame _, fun h => by cases h⟩
theorem over : Rows.fnHeapsRow.holds Try.pinned (OpenSpec.ofChange Rows.fnHeapsSpec) :=
  OpenClaim.holds_of_wide 9 Try.f9 rfl rfl rfl rfl rfl rfl rfl ⟨rfl, rfl, rfl, rfl, rfl⟩ rfl rfl rfl rfl rfl (by kernel_rfl) Try.func9 (by kernel_rfl)
    (of_decide_eq_true (by kernel_rfl)) (by unfold Func.isWrapper; first | (rw [if_pos (by decide +kernel)]; kernel_rfl) | (rw [if_neg (by decide +kernel)]; exact ⟨rfl, rfl⟩))
    (fun os started H enc _ => lifted os started H enc)
theorem proved : Rows.FnHeapsSaid := over
#print axioms proved
end Go.Proofs.Ytehldgkpkjgocaa.fnHeaps
namespace Go.Proofs.Ytehldgkpkjgocaa
/-- The row, under a short name, for the claim. -/
theorem fnHeaps_holds : Rows.FnHeapsSaid := fnHeaps.proved
end Go.Proofs.Ytehldgkpkjgocaa
