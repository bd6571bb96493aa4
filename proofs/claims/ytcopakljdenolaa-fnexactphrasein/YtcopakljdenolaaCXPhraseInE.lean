/- The law FnExactPhraseIn holds of the given program: at every input it answers true and leaves its arguments as they were; no condition. This text: part 5 of what its proof reaches. -/
import Derived.Test.YtcopakljdenolaaCXPhraseInA
import Derived.Test.YtcopakljdenolaaCXPhraseInB
import Derived.Test.YtcopakljdenolaaCXPhraseInC
import Derived.Test.YtcopakljdenolaaCXPhraseInD
namespace Go.Proofs.Ytcopakljdenolaa.Fn
open Go.RowKit Go.Proofs.YtcopakljdenolaaW.PrintWords Go.Proofs.YtcopakljdenolaaW.PrintLast Go.Proofs.YtcopakljdenolaaW.PrintMore
attribute [local go_sem] max2_int min2_int max_two min_two max_three min_three max_four min_four   -- for this text's walks alone
set_option linter.unusedVariables false
set_option linter.unusedSimpArgs false

/-! ### impl_GoodPosts: function 32 -/
mutual
def impl_GoodPosts.l0 : Nat → List (S57) → List (S57) → Int → Int → Option (Bool)
  | 0, _, _, _, _ => none
  | k + 1, x0, x10, x11, x12 => if x12 < x11 then (if 0 ≤ x12 then (if x12 < (x10.length : Int) then ((impl_within.f ((rd_T57 x10 x12).f0) 0 11).bind fun t252 => (if t252 = true then (if x12 > 0 then (if 0 ≤ (wrap64 (x12 - 1)) then (if (wrap64 (x12 - 1)) < (x0.length : Int) then (if ((rd_T57 x0 (wrap64 (x12 - 1))).f0) ≥ ((rd_T57 x10 x12).f0) then (impl_GoodPosts.j1 k x0 x10 x11 x12 true ((rd_T57 x10 x12).f0) ((rd_T57 x10 x12).f1)) else ((impl_within.f (((rd_T57 x10 x12).f1).length : Int) 1 20).bind fun t254 => (impl_GoodPosts.j1 k x0 x10 x11 x12 (!t254) ((rd_T57 x10 x12).f0) ((rd_T57 x10 x12).f1)))) else (none)) else (none)) else ((impl_within.f (((rd_T57 x10 x12).f1).length : Int) 1 20).bind fun t255 => (impl_GoodPosts.j1 k x0 x10 x11 x12 (!t255) ((rd_T57 x10 x12).f0) ((rd_T57 x10 x12).f1)))) else (impl_GoodPosts.j1 k x0 x10 x11 x12 true ((rd_T57 x10 x12).f0) ((rd_T57 x10 x12).f1)))) else (none)) else (none)) else (some true)
def impl_GoodPosts.j1 : Nat → List (S57) → List (S57) → Int → Int → Bool → Int → List Int → Option (Bool)
  | 0, _, _, _, _, _, _, _ => none
  | k + 1, x0, x10, x11, x12, x42, x252000, x252001 => if x42 = true then (some false) else (impl_GoodPosts.l1 k x0 x10 x11 x12 x252001 (x252001.length : Int) 0 x252000 x252001)
def impl_GoodPosts.l1 : Nat → List (S57) → List (S57) → Int → Int → List Int → Int → Int → Int → List Int → Option (Bool)
  | 0, _, _, _, _, _, _, _, _, _ => none
  | k + 1, x0, x10, x11, x12, x44, x45, x46, x252000, x252001 => if x46 < x45 then (if 0 ≤ x46 then (if x46 < (x44.length : Int) then ((impl_within.f (rd x44 x46) 0 19).bind fun t257 => (if t257 = true then (if x46 > 0 then (if 0 ≤ (wrap64 (x46 - 1)) then (if (wrap64 (x46 - 1)) < (x252001.length : Int) then (if (rd x252001 (wrap64 (x46 - 1))) ≥ (rd x44 x46) then (some false) else (impl_GoodPosts.l1 k x0 x10 x11 x12 x44 x45 (wrap64 (x46 + 1)) x252000 x252001)) else (none)) else (none)) else (impl_GoodPosts.l1 k x0 x10 x11 x12 x44 x45 (wrap64 (x46 + 1)) x252000 x252001)) else (some false))) else (none)) else (none)) else (impl_GoodPosts.l0 k x0 x10 x11 (wrap64 (x12 + 1)))
end
def impl_GoodPosts.f (k : Nat) (l0 : List (S57)) : Option (Bool) := if (l0.length : Int) > 12 then (some false) else (impl_GoodPosts.l0 k l0 l0 (l0.length : Int) 0)
theorem impl_GoodPosts.mono_l : ∀ k, (∀ y0 y1 y2 y3, LeO (impl_GoodPosts.l0 k y0 y1 y2 y3) (impl_GoodPosts.l0 (k + 1) y0 y1 y2 y3)) ∧ (∀ y0 y1 y2 y3 y4 y5 y6, LeO (impl_GoodPosts.j1 k y0 y1 y2 y3 y4 y5 y6) (impl_GoodPosts.j1 (k + 1) y0 y1 y2 y3 y4 y5 y6)) ∧ (∀ y0 y1 y2 y3 y4 y5 y6 y7 y8, LeO (impl_GoodPosts.l1 k y0 y1 y2 y3 y4 y5 y6 y7 y8) (impl_GoodPosts.l1 (k + 1) y0 y1 y2 y3 y4 y5 y6 y7 y8))
  | 0 => ⟨fun _ _ _ _ r h => by simp [impl_GoodPosts.l0] at h, fun _ _ _ _ _ _ _ r h => by simp [impl_GoodPosts.j1] at h, fun _ _ _ _ _ _ _ _ _ r h => by simp [impl_GoodPosts.l1] at h⟩
  | k + 1 => by
    obtain ⟨ih0, ih1, ih2⟩ := impl_GoodPosts.mono_l k
    refine ⟨?_, ?_, ?_⟩
    · intro y0 y1 y2 y3
      unfold impl_GoodPosts.l0
      repeat' first
      | (with_reducible exact ih0 _ _ _ _)
      | (with_reducible exact ih1 _ _ _ _ _ _ _)
      | (with_reducible exact ih2 _ _ _ _ _ _ _ _ _)
      | (with_reducible exact LeO.refl _)
      | (with_reducible exact LeO.none _)
      | (with_reducible refine LeO.ite ?_ ?_)
      | (with_reducible refine LeO.bind ?_ (fun _ => ?_))
      | exact ih0 _ _ _ _
      | exact ih1 _ _ _ _ _ _ _
      | exact ih2 _ _ _ _ _ _ _ _ _
      | exact LeO.none _
      | refine LeO.ite ?_ ?_
      | refine LeO.bind ?_ (fun _ => ?_)
    · intro y0 y1 y2 y3 y4 y5 y6
      unfold impl_GoodPosts.j1
      repeat' first
      | (with_reducible exact ih0 _ _ _ _)
      | (with_reducible exact ih1 _ _ _ _ _ _ _)
      | (with_reducible exact ih2 _ _ _ _ _ _ _ _ _)
      | (with_reducible exact LeO.refl _)
      | (with_reducible exact LeO.none _)
      | (with_reducible refine LeO.ite ?_ ?_)
      | (with_reducible refine LeO.bind ?_ (fun _ => ?_))
      | exact ih0 _ _ _ _
      | exact ih1 _ _ _ _ _ _ _
      | exact ih2 _ _ _ _ _ _ _ _ _
      | exact LeO.none _
      | refine LeO.ite ?_ ?_
      | refine LeO.bind ?_ (fun _ => ?_)
    · intro y0 y1 y2 y3 y4 y5 y6 y7 y8
      unfold impl_GoodPosts.l1
      repeat' first
      | (with_reducible exact ih0 _ _ _ _)
      | (with_reducible exact ih1 _ _ _ _ _ _ _)
      | (with_reducible exact ih2 _ _ _ _ _ _ _ _ _)
      | (with_reducible exact LeO.refl _)
      | (with_reducible exact LeO.none _)
      | (with_reducible refine LeO.ite ?_ ?_)
      | (with_reducible refine LeO.bind ?_ (fun _ => ?_))
      | exact ih0 _ _ _ _
      | exact ih1 _ _ _ _ _ _ _
      | exact ih2 _ _ _ _ _ _ _ _ _
      | exact LeO.none _
      | refine LeO.ite ?_ ?_
      | refine LeO.bind ?_ (fun _ => ?_)
theorem impl_GoodPosts.mono : ∀ a0 k, LeO (impl_GoodPosts.f k a0) (impl_GoodPosts.f (k + 1) a0) := by
  intro a0 k
  obtain ⟨ih0, ih1, ih2⟩ := impl_GoodPosts.mono_l k
  unfold impl_GoodPosts.f
  repeat' first
      | (with_reducible exact ih0 _ _ _ _)
      | (with_reducible exact ih1 _ _ _ _ _ _ _)
      | (with_reducible exact ih2 _ _ _ _ _ _ _ _ _)
      | (with_reducible exact LeO.refl _)
      | (with_reducible exact LeO.none _)
      | (with_reducible refine LeO.ite ?_ ?_)
      | (with_reducible refine LeO.bind ?_ (fun _ => ?_))
      | exact ih0 _ _ _ _
      | exact ih1 _ _ _ _ _ _ _
      | exact ih2 _ _ _ _ _ _ _ _ _
      | exact LeO.none _
      | refine LeO.ite ?_ ?_
      | refine LeO.bind ?_ (fun _ => ?_)
set_option maxHeartbeats 8000000 in
set_option maxRecDepth 100000 in
theorem impl_GoodPosts.calls (k : Nat) (A0 : Option Addr) (c0 : Nat) (l0 : List (S57)) (r : Bool) (w : World) (hr0 : Kd.C k57 w A0 l0.length l0) (hc0 : l0.length ≤ c0) (h : impl_GoodPosts.f k l0 = some r) :
    Calls Try.prog 32 #[.slice A0 l0.length c0] w fun e w' => e = .returned (.bool r) ∧ Below w.heap.size w w' := by
  have hu57 := Try.underlying57
  have HR0 := Aside0.mk hr0
  have HC0 := Aside0.mk hc0
  clear hr0 hc0
  have HB := Aside0.mk (Below.refl w.heap.size w)
  have H : (if (l0.length : Int) > 12 then (some false) else (impl_GoodPosts.l0 k l0 l0 (l0.length : Int) 0)) = some r := h
  clear h
  by_cases c2 : (l0.length : Int) > 12
  · rw [if_pos c2] at H
    have c2b0 : decide (12 < (l0.length : Int)) = true := decide_eq_true c2
    have c2b1 : decide (12 < l0.length) = true := decide_eq_true (by omega)
    clear c2
    obtain rfl := Option.some.inj H
    go_enter Try.func32, Try.ntmps32
    go_wp2
    repeat (go_quiet (fail); try go_wp2)
    go_ret
    exact ⟨by first | rfl | (simp [errW_none, errW_some] <;> rfl) | (simp [*, errW_none, errW_some] <;> rfl), by repeat (first | (with_reducible first | exact HB.out | apply below_alloc | apply pw_below_drewN | apply below_drew1) | exact HB.out)⟩
  · rw [if_neg c2] at H
    have c2b0 : decide (12 < (l0.length : Int)) = false := decide_eq_false c2
    have c2b1 : decide (12 < l0.length) = false := decide_eq_false (by omega)
    clear c2
    have H' := Aside0.mk H
    clear H
    go_enter Try.func32, Try.ntmps32
    go_wp2
    repeat (go_quiet (fail); try go_wp2)
    go_loopg [12] k (fun kq v12 w' => ∃ (x12_1 : Int), v12 = .int .i64 x12_1 ∧ Aside0 (impl_GoodPosts.l0 kq l0 l0 (l0.length : Int) x12_1 = some r) ∧ Aside0 (kq ≤ k) ∧ Aside0 (Below w.heap.size w w'))
    case atStart => exact ⟨(0), (by first | rfl | (simp; done) | (simp [*]; done)), H', ⟨Nat.le_refl _⟩, ⟨by repeat (first | (with_reducible first | exact HB.out | apply below_alloc | apply pw_below_drewN | apply below_drew1) | exact HB.out)⟩⟩
    case round =>
      clear H'
      try clear c2
      try clear c2b0
      try clear c2b1
      try clear p2
      obtain ⟨x12_1, rfl, HA, HK1, HB⟩ := hrel
      cases gk with
      | zero => exact absurd HA.out (by simp [impl_GoodPosts.l0])
      | succ k1 =>
        have H := HA.out
        clear HA
        simp only [impl_GoodPosts.l0] at H
        by_cases c3 : x12_1 < (l0.length : Int)
        · rw [if_pos c3] at H
          have c3b0 : decide (x12_1 < (l0.length : Int)) = true := decide_eq_true c3
          clear c3
          by_cases c4 : 0 ≤ x12_1
          · rw [if_pos c4] at H
            have c4b0 : decide (0 ≤ x12_1) = true := decide_eq_true c4
            clear c4
            by_cases c5 : x12_1 < (l0.length : Int)
            · rw [if_pos c5] at H
              have c5b0 : decide (x12_1 < (l0.length : Int)) = true := decide_eq_true c5
              clear c5
              have HC6 := Aside0.mk H
              clear H
              have p250 : 0 ≤ (x12_1 : Int) := of_decide_eq_true (by first | (with_reducible assumption) | assumption)
              have q250 : x12_1 < (l0.length : Int) := of_decide_eq_true (by first | (with_reducible assumption) | assumption)
              obtain ⟨ad250, A250_1, c250_1, e250, hx250_0, hx250_1, hl250_1, hi250_1⟩ := at_T57 HR0.out x12_1 p250 q250
              cases e250
              replace hx250_0 := (HB.out.cell (World.block_lt_of_cell? w _ hx250_0)).trans hx250_0
              replace hx250_1 := (HB.out.cell (World.block_lt_of_cell? w _ hx250_1)).trans hx250_1
              have HR250_1 := Aside0.mk hi250_1
              have HC250_1 := Aside0.mk hl250_1
              clear hi250_1 hl250_1
              replace p250 := eq_true p250
              replace q250 := eq_true q250
              go_upto_region 6 with (first | ((with_reducible refine gate_dst (N := 4) rfl ?_); (try (refine gate_guard (by rfl) ?_; dsimp only)); refine box_event ?hg (N := 4) ?hd (cs := #[.int .i64 0, .slice none 0 0]) (t := 57) ?hr ?_; (case hd => rfl); (case hg => rfl); (case hr => first | (go_simp; done) | (go_simp; rfl)); intro gb251 hg w7 hbox hb; have n0_ := Aside0.mk (below_step (by repeat (first | (with_reducible first | exact HB.out | apply below_alloc | apply pw_below_drewN | apply below_drew1) | exact HB.out)) hb); have n1_ := Aside0.mk (hbox); have n2_ := Aside0.mk ((by rw [hg]; exact (below_size (by repeat (first | (with_reducible first | exact HB.out | apply below_alloc | apply pw_below_drewN | apply below_drew1) | exact HB.out))) : w.heap.size ≤ gb251)); have n3_ := Aside0.mk ((by rw [hg]; exact (below_size (by repeat (first | (with_reducible first | exact HB.out | apply below_alloc | apply pw_below_drewN | apply below_drew1) | exact HB.out))) : w.heap.size ≤ gb251)); clear HB; have HB := n0_; have BK251 := n1_; have GW251 := n2_; have GE251 := n3_; clear n0_ n1_ n2_ n3_; clear hb hbox hg; have hcz8_0 : w7.cell? ⟨gb251, 0, none⟩ = some (.int .i64 0) := (blk_cell BK251.out 0).trans rfl; have hcz8_1 : w7.cell? ⟨gb251, 1, none⟩ = some (.slice none 0 0) := (blk_cell BK251.out 1).trans rfl; have hfz8_0 := blk_frozen BK251.out 0; have hfz8_1 := blk_frozen BK251.out 1))
              repeat (go_quiet (first | ((with_reducible refine gate_dst (N := 4) rfl ?_); (try (refine gate_guard (by rfl) ?_; dsimp only)); refine box_event ?hg (N := 4) ?hd (cs := #[.int .i64 0, .slice none 0 0]) (t := 57) ?hr ?_; (case hd => rfl); (case hg => rfl); (case hr => first | (go_simp; done) | (go_simp; rfl)); intro gb251 hg w7 hbox hb; have n0_ := Aside0.mk (below_step (by repeat (first | (with_reducible first | exact HB.out | apply below_alloc | apply pw_below_drewN | apply below_drew1) | exact HB.out)) hb); have n1_ := Aside0.mk (hbox); have n2_ := Aside0.mk ((by rw [hg]; exact (below_size (by repeat (first | (with_reducible first | exact HB.out | apply below_alloc | apply pw_below_drewN | apply below_drew1) | exact HB.out))) : w.heap.size ≤ gb251)); have n3_ := Aside0.mk ((by rw [hg]; exact (below_size (by repeat (first | (with_reducible first | exact HB.out | apply below_alloc | apply pw_below_drewN | apply below_drew1) | exact HB.out))) : w.heap.size ≤ gb251)); clear HB; have HB := n0_; have BK251 := n1_; have GW251 := n2_; have GE251 := n3_; clear n0_ n1_ n2_ n3_; clear hb hbox hg; have hcz8_0 : w7.cell? ⟨gb251, 0, none⟩ = some (.int .i64 0) := (blk_cell BK251.out 0).trans rfl; have hcz8_1 : w7.cell? ⟨gb251, 1, none⟩ = some (.slice none 0 0) := (blk_cell BK251.out 1).trans rfl; have hfz8_0 := blk_frozen BK251.out 0; have hfz8_1 := blk_frozen BK251.out 1)); go_upto_region 6 with (first | ((with_reducible refine gate_dst (N := 4) rfl ?_); (try (refine gate_guard (by rfl) ?_; dsimp only)); refine box_event ?hg (N := 4) ?hd (cs := #[.int .i64 0, .slice none 0 0]) (t := 57) ?hr ?_; (case hd => rfl); (case hg => rfl); (case hr => first | (go_simp; done) | (go_simp; rfl)); intro gb251 hg w7 hbox hb; have n0_ := Aside0.mk (below_step (by repeat (first | (with_reducible first | exact HB.out | apply below_alloc | apply pw_below_drewN | apply below_drew1) | exact HB.out)) hb); have n1_ := Aside0.mk (hbox); have n2_ := Aside0.mk ((by rw [hg]; exact (below_size (by repeat (first | (with_reducible first | exact HB.out | apply below_alloc | apply pw_below_drewN | apply below_drew1) | exact HB.out))) : w.heap.size ≤ gb251)); have n3_ := Aside0.mk ((by rw [hg]; exact (below_size (by repeat (first | (with_reducible first | exact HB.out | apply below_alloc | apply pw_below_drewN | apply below_drew1) | exact HB.out))) : w.heap.size ≤ gb251)); clear HB; have HB := n0_; have BK251 := n1_; have GW251 := n2_; have GE251 := n3_; clear n0_ n1_ n2_ n3_; clear hb hbox hg; have hcz8_0 : w7.cell? ⟨gb251, 0, none⟩ = some (.int .i64 0) := (blk_cell BK251.out 0).trans rfl; have hcz8_1 : w7.cell? ⟨gb251, 1, none⟩ = some (.slice none 0 0) := (blk_cell BK251.out 1).trans rfl; have hfz8_0 := blk_frozen BK251.out 0; have hfz8_1 := blk_frozen BK251.out 1)))
              (try simp only [Act.put, List.setIfInBounds_toArray, List.set_cons_zero, List.set_cons_succ])
              go_cut [42] (fun v42 wc => ∃ (kq : Nat) (x42_5 : Bool), v42 = .bool x42_5 ∧ Aside0 (impl_GoodPosts.j1 kq l0 l0 (l0.length : Int) x12_1 x42_5 ((rd_T57 l0 x12_1).f0) ((rd_T57 l0 x12_1).f1) = some r) ∧ Aside0 (kq ≤ k1) ∧ Aside0 (wc.heap[gb251]? = some (.cells #[.int .i64 ((rd_T57 l0 x12_1).f0), (.slice A250_1 ((rd_T57 l0 x12_1).f1).length c250_1)] 57 (0, 0))) ∧ Aside0 (Below w.heap.size w wc))
              case first =>
                have H := HC6.out
                clear HC6
                replace H := Option.bind_eq_some_iff.mp H
                obtain ⟨t252, A90, H⟩ := H
                replace H : (if t252 = true then (if x12_1 > 0 then (if 0 ≤ (wrap64 (x12_1 - 1)) then (if (wrap64 (x12_1 - 1)) < (l0.length : Int) then (if ((rd_T57 l0 (wrap64 (x12_1 - 1))).f0) ≥ ((rd_T57 l0 x12_1).f0) then (impl_GoodPosts.j1 k1 l0 l0 (l0.length : Int) x12_1 true ((rd_T57 l0 x12_1).f0) ((rd_T57 l0 x12_1).f1)) else ((impl_within.f (((rd_T57 l0 x12_1).f1).length : Int) 1 20).bind fun t254 => (impl_GoodPosts.j1 k1 l0 l0 (l0.length : Int) x12_1 (!t254) ((rd_T57 l0 x12_1).f0) ((rd_T57 l0 x12_1).f1)))) else (none)) else (none)) else ((impl_within.f (((rd_T57 l0 x12_1).f1).length : Int) 1 20).bind fun t255 => (impl_GoodPosts.j1 k1 l0 l0 (l0.length : Int) x12_1 (!t255) ((rd_T57 l0 x12_1).f0) ((rd_T57 l0 x12_1).f1)))) else (impl_GoodPosts.j1 k1 l0 l0 (l0.length : Int) x12_1 true ((rd_T57 l0 x12_1).f0) ((rd_T57 l0 x12_1).f1))) = some r := H
                have A9 := Aside0.mk A90
                clear A90
                by_cases c10 : t252 = true
                · subst c10
                  have H1 : (if x12_1 > 0 then (if 0 ≤ (wrap64 (x12_1 - 1)) then (if (wrap64 (x12_1 - 1)) < (l0.length : Int) then (if ((rd_T57 l0 (wrap64 (x12_1 - 1))).f0) ≥ ((rd_T57 l0 x12_1).f0) then (impl_GoodPosts.j1 k1 l0 l0 (l0.length : Int) x12_1 true ((rd_T57 l0 x12_1).f0) ((rd_T57 l0 x12_1).f1)) else ((impl_within.f (((rd_T57 l0 x12_1).f1).length : Int) 1 20).bind fun t254 => (impl_GoodPosts.j1 k1 l0 l0 (l0.length : Int) x12_1 (!t254) ((rd_T57 l0 x12_1).f0) ((rd_T57 l0 x12_1).f1)))) else (none)) else (none)) else ((impl_within.f (((rd_T57 l0 x12_1).f1).length : Int) 1 20).bind fun t255 => (impl_GoodPosts.j1 k1 l0 l0 (l0.length : Int) x12_1 (!t255) ((rd_T57 l0 x12_1).f0) ((rd_T57 l0 x12_1).f1)))) = some r := by rw [if_pos rfl] at H; exact H
                  clear H
                  have H := H1
                  clear H1
                  by_cases c11 : x12_1 > 0
                  · rw [if_pos c11] at H
                    have c11b0 : decide (0 < x12_1) = true := decide_eq_true c11
                    clear c11
                    (first | rw [c11b0] | (simp only [i64_w, i32_w]; rw [c11b0]) | rw [c11b1] | skip)
                    obtain ⟨ji12, hji12⟩ : ∃ j_ : Int, (wrap64 (x12_1 - 1)) = j_ := ⟨_, rfl⟩
                    replace H : (if 0 ≤ (ji12) then (if (ji12) < (l0.length : Int) then (if ((rd_T57 l0 (ji12)).f0) ≥ ((rd_T57 l0 x12_1).f0) then (impl_GoodPosts.j1 k1 l0 l0 (l0.length : Int) x12_1 true ((rd_T57 l0 x12_1).f0) ((rd_T57 l0 x12_1).f1)) else ((impl_within.f (((rd_T57 l0 x12_1).f1).length : Int) 1 20).bind fun t254 => (impl_GoodPosts.j1 k1 l0 l0 (l0.length : Int) x12_1 (!t254) ((rd_T57 l0 x12_1).f0) ((rd_T57 l0 x12_1).f1)))) else (none)) else (none)) = some r := by first | (rw [hji12] at H; exact H) | (simp only [hji12] at H ⊢; exact H)
                    (try rw [hji12] at A9)
                    have hji12w : (IntKind.i64.wrap (x12_1 - 1)) = ji12 := (i64_w _).trans hji12
                    by_cases c13 : 0 ≤ (ji12)
                    · rw [if_pos c13] at H
                      have c13b0 : decide (0 ≤ (ji12)) = true := decide_eq_true c13
                      clear c13
                      by_cases c14 : (ji12) < (l0.length : Int)
                      · rw [if_pos c14] at H
                        have c14b0 : decide ((ji12) < (l0.length : Int)) = true := decide_eq_true c14
                        clear c14
                        by_cases c15 : ((rd_T57 l0 (ji12)).f0) ≥ ((rd_T57 l0 x12_1).f0)
                        · rw [if_pos c15] at H
                          have c15b0 : decide (((rd_T57 l0 x12_1).f0) ≤ ((rd_T57 l0 (ji12)).f0)) = true := decide_eq_true c15
                          clear c15
                          have H' := Aside0.mk H
                          clear H
                          have hcz16_0 : w7.cell? ⟨gb251, 0, none⟩ = some (.int .i64 0) := (blk_cell BK251.out 0).trans rfl
                          have hcz16_1 : w7.cell? ⟨gb251, 1, none⟩ = some (.slice none 0 0) := (blk_cell BK251.out 1).trans rfl
                          have hfz16_0 := blk_frozen BK251.out 0
                          have hfz16_1 := blk_frozen BK251.out 1
                          go_wp2_with (first | (go_at_call 70; (with_reducible refine (impl_within.calls ((rd_T57 l0 x12_1).f0) 0 11 true _ A9.out).mono ?_); rintro e w' ⟨rfl, ⟨nd, rfl⟩⟩; (try first | exact ⟨rfl, _, World.drewN_drewN _ _ _⟩ | exact ⟨rfl, _, Eq.trans (World.drewN_drewN _ _ _) (congrArg (World.drewN _) (Nat.add_assoc _ _ _))⟩); have p253 : 0 ≤ ((ji12) : Int) := of_decide_eq_true (by first | (with_reducible assumption) | assumption); have q253 : (ji12) < (l0.length : Int) := of_decide_eq_true (by first | (with_reducible assumption) | assumption); obtain ⟨ad253, A253_1, c253_1, e253, hx253_0, hx253_1, hl253_1, hi253_1⟩ := at_T57 HR0.out (ji12) p253 q253; obtain rfl : ad250 = ad253 := (by injection e253); have hn253_0 : ad250.block ≠ gb251 := Nat.ne_of_lt (Nat.lt_of_lt_of_le (by have := World.block_lt_of_cell? _ _ hx253_0; first | rwa [add_block] at this | exact this) GW251.out); have hn253_1 : ad250.block ≠ gb251 := Nat.ne_of_lt (Nat.lt_of_lt_of_le (by have := World.block_lt_of_cell? _ _ hx253_0; first | rwa [add_block] at this | exact this) GW251.out); replace hx253_0 := (HB.out.cell (World.block_lt_of_cell? w _ hx253_0)).trans hx253_0; replace hx253_1 := (HB.out.cell (World.block_lt_of_cell? w _ hx253_1)).trans hx253_1; have HR253_1 := Aside0.mk hi253_1; have HC253_1 := Aside0.mk hl253_1; clear hi253_1 hl253_1; replace hx253_0 := (cell_far (p := ⟨gb251, 0, none⟩) (by first | (rw [add_block]; exact hn253_0) | (show (Addr.add _ _).block ≠ _; rw [add_block]; exact hn253_0) | exact hn253_0) (.int .i64 ((rd_T57 l0 x12_1).f0))).trans hx253_0; replace hx253_1 := (cell_far (p := ⟨gb251, 0, none⟩) (by first | (rw [add_block]; exact hn253_0) | (show (Addr.add _ _).block ≠ _; rw [add_block]; exact hn253_0) | exact hn253_0) (.int .i64 ((rd_T57 l0 x12_1).f0))).trans hx253_1; replace hx253_0 := (cell_far (p := ⟨gb251, 1, none⟩) (by first | (rw [add_block]; exact hn253_1) | (show (Addr.add _ _).block ≠ _; rw [add_block]; exact hn253_1) | exact hn253_1) (.slice A250_1 ((rd_T57 l0 x12_1).f1).length c250_1)).trans hx253_0; replace hx253_1 := (cell_far (p := ⟨gb251, 1, none⟩) (by first | (rw [add_block]; exact hn253_1) | (show (Addr.add _ _).block ≠ _; rw [add_block]; exact hn253_1) | exact hn253_1) (.slice A250_1 ((rd_T57 l0 x12_1).f1).length c250_1)).trans hx253_1; (try have hy253_0 := fun (n_ : Nat) => (show ((((w7.drewN n_).setCell ⟨gb251, 0, none⟩ (.int .i64 ((rd_T57 l0 x12_1).f0))).setCell ⟨gb251, 1, none⟩ (.slice A250_1 ((rd_T57 l0 x12_1).f1).length c250_1))).cell? _ = some _ from hx253_0)); (try have hy253_1 := fun (n_ : Nat) => (show ((((w7.drewN n_).setCell ⟨gb251, 0, none⟩ (.int .i64 ((rd_T57 l0 x12_1).f0))).setCell ⟨gb251, 1, none⟩ (.slice A250_1 ((rd_T57 l0 x12_1).f1).length c250_1))).cell? _ = some _ from hx253_1)); clear hn253_0; clear hn253_1; replace p253 := eq_true p253; replace q253 := eq_true q253))
                          repeat (go_quiet (first | (go_at_call 70; (with_reducible refine (impl_within.calls ((rd_T57 l0 x12_1).f0) 0 11 true _ A9.out).mono ?_); rintro e w' ⟨rfl, ⟨nd, rfl⟩⟩; (try first | exact ⟨rfl, _, World.drewN_drewN _ _ _⟩ | exact ⟨rfl, _, Eq.trans (World.drewN_drewN _ _ _) (congrArg (World.drewN _) (Nat.add_assoc _ _ _))⟩); have p253 : 0 ≤ ((ji12) : Int) := of_decide_eq_true (by first | (with_reducible assumption) | assumption); have q253 : (ji12) < (l0.length : Int) := of_decide_eq_true (by first | (with_reducible assumption) | assumption); obtain ⟨ad253, A253_1, c253_1, e253, hx253_0, hx253_1, hl253_1, hi253_1⟩ := at_T57 HR0.out (ji12) p253 q253; obtain rfl : ad250 = ad253 := (by injection e253); have hn253_0 : ad250.block ≠ gb251 := Nat.ne_of_lt (Nat.lt_of_lt_of_le (by have := World.block_lt_of_cell? _ _ hx253_0; first | rwa [add_block] at this | exact this) GW251.out); have hn253_1 : ad250.block ≠ gb251 := Nat.ne_of_lt (Nat.lt_of_lt_of_le (by have := World.block_lt_of_cell? _ _ hx253_0; first | rwa [add_block] at this | exact this) GW251.out); replace hx253_0 := (HB.out.cell (World.block_lt_of_cell? w _ hx253_0)).trans hx253_0; replace hx253_1 := (HB.out.cell (World.block_lt_of_cell? w _ hx253_1)).trans hx253_1; have HR253_1 := Aside0.mk hi253_1; have HC253_1 := Aside0.mk hl253_1; clear hi253_1 hl253_1; replace hx253_0 := (cell_far (p := ⟨gb251, 0, none⟩) (by first | (rw [add_block]; exact hn253_0) | (show (Addr.add _ _).block ≠ _; rw [add_block]; exact hn253_0) | exact hn253_0) (.int .i64 ((rd_T57 l0 x12_1).f0))).trans hx253_0; replace hx253_1 := (cell_far (p := ⟨gb251, 0, none⟩) (by first | (rw [add_block]; exact hn253_0) | (show (Addr.add _ _).block ≠ _; rw [add_block]; exact hn253_0) | exact hn253_0) (.int .i64 ((rd_T57 l0 x12_1).f0))).trans hx253_1; replace hx253_0 := (cell_far (p := ⟨gb251, 1, none⟩) (by first | (rw [add_block]; exact hn253_1) | (show (Addr.add _ _).block ≠ _; rw [add_block]; exact hn253_1) | exact hn253_1) (.slice A250_1 ((rd_T57 l0 x12_1).f1).length c250_1)).trans hx253_0; replace hx253_1 := (cell_far (p := ⟨gb251, 1, none⟩) (by first | (rw [add_block]; exact hn253_1) | (show (Addr.add _ _).block ≠ _; rw [add_block]; exact hn253_1) | exact hn253_1) (.slice A250_1 ((rd_T57 l0 x12_1).f1).length c250_1)).trans hx253_1; (try have hy253_0 := fun (n_ : Nat) => (show ((((w7.drewN n_).setCell ⟨gb251, 0, none⟩ (.int .i64 ((rd_T57 l0 x12_1).f0))).setCell ⟨gb251, 1, none⟩ (.slice A250_1 ((rd_T57 l0 x12_1).f1).length c250_1))).cell? _ = some _ from hx253_0)); (try have hy253_1 := fun (n_ : Nat) => (show ((((w7.drewN n_).setCell ⟨gb251, 0, none⟩ (.int .i64 ((rd_T57 l0 x12_1).f0))).setCell ⟨gb251, 1, none⟩ (.slice A250_1 ((rd_T57 l0 x12_1).f1).length c250_1))).cell? _ = some _ from hx253_1)); clear hn253_0; clear hn253_1; replace p253 := eq_true p253; replace q253 := eq_true q253)); try go_wp2_with (first | (go_at_call 70; (with_reducible refine (impl_within.calls ((rd_T57 l0 x12_1).f0) 0 11 true _ A9.out).mono ?_); rintro e w' ⟨rfl, ⟨nd, rfl⟩⟩; (try first | exact ⟨rfl, _, World.drewN_drewN _ _ _⟩ | exact ⟨rfl, _, Eq.trans (World.drewN_drewN _ _ _) (congrArg (World.drewN _) (Nat.add_assoc _ _ _))⟩); have p253 : 0 ≤ ((ji12) : Int) := of_decide_eq_true (by first | (with_reducible assumption) | assumption); have q253 : (ji12) < (l0.length : Int) := of_decide_eq_true (by first | (with_reducible assumption) | assumption); obtain ⟨ad253, A253_1, c253_1, e253, hx253_0, hx253_1, hl253_1, hi253_1⟩ := at_T57 HR0.out (ji12) p253 q253; obtain rfl : ad250 = ad253 := (by injection e253); have hn253_0 : ad250.block ≠ gb251 := Nat.ne_of_lt (Nat.lt_of_lt_of_le (by have := World.block_lt_of_cell? _ _ hx253_0; first | rwa [add_block] at this | exact this) GW251.out); have hn253_1 : ad250.block ≠ gb251 := Nat.ne_of_lt (Nat.lt_of_lt_of_le (by have := World.block_lt_of_cell? _ _ hx253_0; first | rwa [add_block] at this | exact this) GW251.out); replace hx253_0 := (HB.out.cell (World.block_lt_of_cell? w _ hx253_0)).trans hx253_0; replace hx253_1 := (HB.out.cell (World.block_lt_of_cell? w _ hx253_1)).trans hx253_1; have HR253_1 := Aside0.mk hi253_1; have HC253_1 := Aside0.mk hl253_1; clear hi253_1 hl253_1; replace hx253_0 := (cell_far (p := ⟨gb251, 0, none⟩) (by first | (rw [add_block]; exact hn253_0) | (show (Addr.add _ _).block ≠ _; rw [add_block]; exact hn253_0) | exact hn253_0) (.int .i64 ((rd_T57 l0 x12_1).f0))).trans hx253_0; replace hx253_1 := (cell_far (p := ⟨gb251, 0, none⟩) (by first | (rw [add_block]; exact hn253_0) | (show (Addr.add _ _).block ≠ _; rw [add_block]; exact hn253_0) | exact hn253_0) (.int .i64 ((rd_T57 l0 x12_1).f0))).trans hx253_1; replace hx253_0 := (cell_far (p := ⟨gb251, 1, none⟩) (by first | (rw [add_block]; exact hn253_1) | (show (Addr.add _ _).block ≠ _; rw [add_block]; exact hn253_1) | exact hn253_1) (.slice A250_1 ((rd_T57 l0 x12_1).f1).length c250_1)).trans hx253_0; replace hx253_1 := (cell_far (p := ⟨gb251, 1, none⟩) (by first | (rw [add_block]; exact hn253_1) | (show (Addr.add _ _).block ≠ _; rw [add_block]; exact hn253_1) | exact hn253_1) (.slice A250_1 ((rd_T57 l0 x12_1).f1).length c250_1)).trans hx253_1; (try have hy253_0 := fun (n_ : Nat) => (show ((((w7.drewN n_).setCell ⟨gb251, 0, none⟩ (.int .i64 ((rd_T57 l0 x12_1).f0))).setCell ⟨gb251, 1, none⟩ (.slice A250_1 ((rd_T57 l0 x12_1).f1).length c250_1))).cell? _ = some _ from hx253_0)); (try have hy253_1 := fun (n_ : Nat) => (show ((((w7.drewN n_).setCell ⟨gb251, 0, none⟩ (.int .i64 ((rd_T57 l0 x12_1).f0))).setCell ⟨gb251, 1, none⟩ (.slice A250_1 ((rd_T57 l0 x12_1).f1).length c250_1))).cell? _ = some _ from hx253_1)); clear hn253_0; clear hn253_1; replace p253 := eq_true p253; replace q253 := eq_true q253)))
                          first | go_meet | (simp only [← hji12]; go_meet)
                          case rel => exact ⟨_, (true), (by first | rfl | (simp; done) | (simp [*]; done)), (by first | exact H' | (simp only [hji12]; exact H') | (simp only [← hji12] at H' ⊢; exact H')), ⟨by have := HK1.out; first | omega | exact Nat.le_refl _⟩, ⟨by (with_reducible repeat (first | refine blk_drewN ?_ _ | refine blk_drew ?_ | refine blk_alloc ?_ _)); refine blk_put (cs := #[.int .i64 ((rd_T57 l0 x12_1).f0), .slice none 0 0]) ?_ 1 _ rfl; (with_reducible repeat (first | refine blk_drewN ?_ _ | refine blk_drew ?_ | refine blk_alloc ?_ _)); refine blk_put (cs := #[.int .i64 0, .slice none 0 0]) ?_ 0 _ rfl; (with_reducible repeat (first | refine blk_drewN ?_ _ | refine blk_drew ?_ | refine blk_alloc ?_ _)); exact BK251.out⟩, ⟨by repeat (first | (with_reducible first | exact HB.out | apply below_alloc | apply pw_below_drewN | apply below_drew1 | refine below_set ?_ GE251.out) | exact HB.out)⟩⟩
                        · rw [if_neg c15] at H
                          have c15b0 : decide (((rd_T57 l0 x12_1).f0) ≤ ((rd_T57 l0 (ji12)).f0)) = false := decide_eq_false c15
                          clear c15
                          replace H := Option.bind_eq_some_iff.mp H
                          obtain ⟨t254, A170, H⟩ := H
                          replace H : (impl_GoodPosts.j1 k1 l0 l0 (l0.length : Int) x12_1 (!t254) ((rd_T57 l0 x12_1).f0) ((rd_T57 l0 x12_1).f1)) = some r := H
                          have A17 := Aside0.mk A170
                          clear A170
                          have H' := Aside0.mk H
                          clear H
                          have hcz18_0 : w7.cell? ⟨gb251, 0, none⟩ = some (.int .i64 0) := (blk_cell BK251.out 0).trans rfl
                          have hcz18_1 : w7.cell? ⟨gb251, 1, none⟩ = some (.slice none 0 0) := (blk_cell BK251.out 1).trans rfl
                          have hfz18_0 := blk_frozen BK251.out 0
                          have hfz18_1 := blk_frozen BK251.out 1
                          go_wp2_with (first | (go_at_call 70; (with_reducible refine (impl_within.calls ((rd_T57 l0 x12_1).f0) 0 11 true _ A9.out).mono ?_); rintro e w' ⟨rfl, ⟨nd, rfl⟩⟩; (try first | exact ⟨rfl, _, World.drewN_drewN _ _ _⟩ | exact ⟨rfl, _, Eq.trans (World.drewN_drewN _ _ _) (congrArg (World.drewN _) (Nat.add_assoc _ _ _))⟩); have p253 : 0 ≤ ((ji12) : Int) := of_decide_eq_true (by first | (with_reducible assumption) | assumption); have q253 : (ji12) < (l0.length : Int) := of_decide_eq_true (by first | (with_reducible assumption) | assumption); obtain ⟨ad253, A253_1, c253_1, e253, hx253_0, hx253_1, hl253_1, hi253_1⟩ := at_T57 HR0.out (ji12) p253 q253; obtain rfl : ad250 = ad253 := (by injection e253); have hn253_0 : ad250.block ≠ gb251 := Nat.ne_of_lt (Nat.lt_of_lt_of_le (by have := World.block_lt_of_cell? _ _ hx253_0; first | rwa [add_block] at this | exact this) GW251.out); have hn253_1 : ad250.block ≠ gb251 := Nat.ne_of_lt (Nat.lt_of_lt_of_le (by have := World.block_lt_of_cell? _ _ hx253_0; first | rwa [add_block] at this | exact this) GW251.out); replace hx253_0 := (HB.out.cell (World.block_lt_of_cell? w _ hx253_0)).trans hx253_0; replace hx253_1 := (HB.out.cell (World.block_lt_of_cell? w _ hx253_1)).trans hx253_1; have HR253_1 := Aside0.mk hi253_1; have HC253_1 := Aside0.mk hl253_1; clear hi253_1 hl253_1; replace hx253_0 := (cell_far (p := ⟨gb251, 0, none⟩) (by first | (rw [add_block]; exact hn253_0) | (show (Addr.add _ _).block ≠ _; rw [add_block]; exact hn253_0) | exact hn253_0) (.int .i64 ((rd_T57 l0 x12_1).f0))).trans hx253_0; replace hx253_1 := (cell_far (p := ⟨gb251, 0, none⟩) (by first | (rw [add_block]; exact hn253_0) | (show (Addr.add _ _).block ≠ _; rw [add_block]; exact hn253_0) | exact hn253_0) (.int .i64 ((rd_T57 l0 x12_1).f0))).trans hx253_1; replace hx253_0 := (cell_far (p := ⟨gb251, 1, none⟩) (by first | (rw [add_block]; exact hn253_1) | (show (Addr.add _ _).block ≠ _; rw [add_block]; exact hn253_1) | exact hn253_1) (.slice A250_1 ((rd_T57 l0 x12_1).f1).length c250_1)).trans hx253_0; replace hx253_1 := (cell_far (p := ⟨gb251, 1, none⟩) (by first | (rw [add_block]; exact hn253_1) | (show (Addr.add _ _).block ≠ _; rw [add_block]; exact hn253_1) | exact hn253_1) (.slice A250_1 ((rd_T57 l0 x12_1).f1).length c250_1)).trans hx253_1; (try have hy253_0 := fun (n_ : Nat) => (show ((((w7.drewN n_).setCell ⟨gb251, 0, none⟩ (.int .i64 ((rd_T57 l0 x12_1).f0))).setCell ⟨gb251, 1, none⟩ (.slice A250_1 ((rd_T57 l0 x12_1).f1).length c250_1))).cell? _ = some _ from hx253_0)); (try have hy253_1 := fun (n_ : Nat) => (show ((((w7.drewN n_).setCell ⟨gb251, 0, none⟩ (.int .i64 ((rd_T57 l0 x12_1).f0))).setCell ⟨gb251, 1, none⟩ (.slice A250_1 ((rd_T57 l0 x12_1).f1).length c250_1))).cell? _ = some _ from hx253_1)); clear hn253_0; clear hn253_1; replace p253 := eq_true p253; replace q253 := eq_true q253) | (go_at_call 70; (with_reducible refine (impl_within.calls (((rd_T57 l0 x12_1).f1).length : Int) 1 20 t254 _ A17.out).mono ?_); rintro e w' ⟨rfl, ⟨nd, rfl⟩⟩; (try first | exact ⟨rfl, _, World.drewN_drewN _ _ _⟩ | exact ⟨rfl, _, Eq.trans (World.drewN_drewN _ _ _) (congrArg (World.drewN _) (Nat.add_assoc _ _ _))⟩)))
                          repeat (go_quiet (first | (go_at_call 70; (with_reducible refine (impl_within.calls ((rd_T57 l0 x12_1).f0) 0 11 true _ A9.out).mono ?_); rintro e w' ⟨rfl, ⟨nd, rfl⟩⟩; (try first | exact ⟨rfl, _, World.drewN_drewN _ _ _⟩ | exact ⟨rfl, _, Eq.trans (World.drewN_drewN _ _ _) (congrArg (World.drewN _) (Nat.add_assoc _ _ _))⟩); have p253 : 0 ≤ ((ji12) : Int) := of_decide_eq_true (by first | (with_reducible assumption) | assumption); have q253 : (ji12) < (l0.length : Int) := of_decide_eq_true (by first | (with_reducible assumption) | assumption); obtain ⟨ad253, A253_1, c253_1, e253, hx253_0, hx253_1, hl253_1, hi253_1⟩ := at_T57 HR0.out (ji12) p253 q253; obtain rfl : ad250 = ad253 := (by injection e253); have hn253_0 : ad250.block ≠ gb251 := Nat.ne_of_lt (Nat.lt_of_lt_of_le (by have := World.block_lt_of_cell? _ _ hx253_0; first | rwa [add_block] at this | exact this) GW251.out); have hn253_1 : ad250.block ≠ gb251 := Nat.ne_of_lt (Nat.lt_of_lt_of_le (by have := World.block_lt_of_cell? _ _ hx253_0; first | rwa [add_block] at this | exact this) GW251.out); replace hx253_0 := (HB.out.cell (World.block_lt_of_cell? w _ hx253_0)).trans hx253_0; replace hx253_1 := (HB.out.cell (World.block_lt_of_cell? w _ hx253_1)).trans hx253_1; have HR253_1 := Aside0.mk hi253_1; have HC253_1 := Aside0.mk hl253_1; clear hi253_1 hl253_1; replace hx253_0 := (cell_far (p := ⟨gb251, 0, none⟩) (by first | (rw [add_block]; exact hn253_0) | (show (Addr.add _ _).block ≠ _; rw [add_block]; exact hn253_0) | exact hn253_0) (.int .i64 ((rd_T57 l0 x12_1).f0))).trans hx253_0; replace hx253_1 := (cell_far (p := ⟨gb251, 0, none⟩) (by first | (rw [add_block]; exact hn253_0) | (show (Addr.add _ _).block ≠ _; rw [add_block]; exact hn253_0) | exact hn253_0) (.int .i64 ((rd_T57 l0 x12_1).f0))).trans hx253_1; replace hx253_0 := (cell_far (p := ⟨gb251, 1, none⟩) (by first | (rw [add_block]; exact hn253_1) | (show (Addr.add _ _).block ≠ _; rw [add_block]; exact hn253_1) | exact hn253_1) (.slice A250_1 ((rd_T57 l0 x12_1).f1).length c250_1)).trans hx253_0; replace hx253_1 := (cell_far (p := ⟨gb251, 1, none⟩) (by first | (rw [add_block]; exact hn253_1) | (show (Addr.add _ _).block ≠ _; rw [add_block]; exact hn253_1) | exact hn253_1) (.slice A250_1 ((rd_T57 l0 x12_1).f1).length c250_1)).trans hx253_1; (try have hy253_0 := fun (n_ : Nat) => (show ((((w7.drewN n_).setCell ⟨gb251, 0, none⟩ (.int .i64 ((rd_T57 l0 x12_1).f0))).setCell ⟨gb251, 1, none⟩ (.slice A250_1 ((rd_T57 l0 x12_1).f1).length c250_1))).cell? _ = some _ from hx253_0)); (try have hy253_1 := fun (n_ : Nat) => (show ((((w7.drewN n_).setCell ⟨gb251, 0, none⟩ (.int .i64 ((rd_T57 l0 x12_1).f0))).setCell ⟨gb251, 1, none⟩ (.slice A250_1 ((rd_T57 l0 x12_1).f1).length c250_1))).cell? _ = some _ from hx253_1)); clear hn253_0; clear hn253_1; replace p253 := eq_true p253; replace q253 := eq_true q253) | (go_at_call 70; (with_reducible refine (impl_within.calls (((rd_T57 l0 x12_1).f1).length : Int) 1 20 t254 _ A17.out).mono ?_); rintro e w' ⟨rfl, ⟨nd, rfl⟩⟩; (try first | exact ⟨rfl, _, World.drewN_drewN _ _ _⟩ | exact ⟨rfl, _, Eq.trans (World.drewN_drewN _ _ _) (congrArg (World.drewN _) (Nat.add_assoc _ _ _))⟩))); try go_wp2_with (first | (go_at_call 70; (with_reducible refine (impl_within.calls ((rd_T57 l0 x12_1).f0) 0 11 true _ A9.out).mono ?_); rintro e w' ⟨rfl, ⟨nd, rfl⟩⟩; (try first | exact ⟨rfl, _, World.drewN_drewN _ _ _⟩ | exact ⟨rfl, _, Eq.trans (World.drewN_drewN _ _ _) (congrArg (World.drewN _) (Nat.add_assoc _ _ _))⟩); have p253 : 0 ≤ ((ji12) : Int) := of_decide_eq_true (by first | (with_reducible assumption) | assumption); have q253 : (ji12) < (l0.length : Int) := of_decide_eq_true (by first | (with_reducible assumption) | assumption); obtain ⟨ad253, A253_1, c253_1, e253, hx253_0, hx253_1, hl253_1, hi253_1⟩ := at_T57 HR0.out (ji12) p253 q253; obtain rfl : ad250 = ad253 := (by injection e253); have hn253_0 : ad250.block ≠ gb251 := Nat.ne_of_lt (Nat.lt_of_lt_of_le (by have := World.block_lt_of_cell? _ _ hx253_0; first | rwa [add_block] at this | exact this) GW251.out); have hn253_1 : ad250.block ≠ gb251 := Nat.ne_of_lt (Nat.lt_of_lt_of_le (by have := World.block_lt_of_cell? _ _ hx253_0; first | rwa [add_block] at this | exact this) GW251.out); replace hx253_0 := (HB.out.cell (World.block_lt_of_cell? w _ hx253_0)).trans hx253_0; replace hx253_1 := (HB.out.cell (World.block_lt_of_cell? w _ hx253_1)).trans hx253_1; have HR253_1 := Aside0.mk hi253_1; have HC253_1 := Aside0.mk hl253_1; clear hi253_1 hl253_1; replace hx253_0 := (cell_far (p := ⟨gb251, 0, none⟩) (by first | (rw [add_block]; exact hn253_0) | (show (Addr.add _ _).block ≠ _; rw [add_block]; exact hn253_0) | exact hn253_0) (.int .i64 ((rd_T57 l0 x12_1).f0))).trans hx253_0; replace hx253_1 := (cell_far (p := ⟨gb251, 0, none⟩) (by first | (rw [add_block]; exact hn253_0) | (show (Addr.add _ _).block ≠ _; rw [add_block]; exact hn253_0) | exact hn253_0) (.int .i64 ((rd_T57 l0 x12_1).f0))).trans hx253_1; replace hx253_0 := (cell_far (p := ⟨gb251, 1, none⟩) (by first | (rw [add_block]; exact hn253_1) | (show (Addr.add _ _).block ≠ _; rw [add_block]; exact hn253_1) | exact hn253_1) (.slice A250_1 ((rd_T57 l0 x12_1).f1).length c250_1)).trans hx253_0; replace hx253_1 := (cell_far (p := ⟨gb251, 1, none⟩) (by first | (rw [add_block]; exact hn253_1) | (show (Addr.add _ _).block ≠ _; rw [add_block]; exact hn253_1) | exact hn253_1) (.slice A250_1 ((rd_T57 l0 x12_1).f1).length c250_1)).trans hx253_1; (try have hy253_0 := fun (n_ : Nat) => (show ((((w7.drewN n_).setCell ⟨gb251, 0, none⟩ (.int .i64 ((rd_T57 l0 x12_1).f0))).setCell ⟨gb251, 1, none⟩ (.slice A250_1 ((rd_T57 l0 x12_1).f1).length c250_1))).cell? _ = some _ from hx253_0)); (try have hy253_1 := fun (n_ : Nat) => (show ((((w7.drewN n_).setCell ⟨gb251, 0, none⟩ (.int .i64 ((rd_T57 l0 x12_1).f0))).setCell ⟨gb251, 1, none⟩ (.slice A250_1 ((rd_T57 l0 x12_1).f1).length c250_1))).cell? _ = some _ from hx253_1)); clear hn253_0; clear hn253_1; replace p253 := eq_true p253; replace q253 := eq_true q253) | (go_at_call 70; (with_reducible refine (impl_within.calls (((rd_T57 l0 x12_1).f1).length : Int) 1 20 t254 _ A17.out).mono ?_); rintro e w' ⟨rfl, ⟨nd, rfl⟩⟩; (try first | exact ⟨rfl, _, World.drewN_drewN _ _ _⟩ | exact ⟨rfl, _, Eq.trans (World.drewN_drewN _ _ _) (congrArg (World.drewN _) (Nat.add_assoc _ _ _))⟩))))
                          first | go_meet | (simp only [← hji12]; go_meet)
                          case rel => exact ⟨_, (!t254), (by first | rfl | (simp; done) | (simp [*]; done)), (by first | exact H' | (simp only [hji12]; exact H') | (simp only [← hji12] at H' ⊢; exact H')), ⟨by have := HK1.out; first | omega | exact Nat.le_refl _⟩, ⟨by (with_reducible repeat (first | refine blk_drewN ?_ _ | refine blk_drew ?_ | refine blk_alloc ?_ _)); refine blk_put (cs := #[.int .i64 ((rd_T57 l0 x12_1).f0), .slice none 0 0]) ?_ 1 _ rfl; (with_reducible repeat (first | refine blk_drewN ?_ _ | refine blk_drew ?_ | refine blk_alloc ?_ _)); refine blk_put (cs := #[.int .i64 0, .slice none 0 0]) ?_ 0 _ rfl; (with_reducible repeat (first | refine blk_drewN ?_ _ | refine blk_drew ?_ | refine blk_alloc ?_ _)); exact BK251.out⟩, ⟨by repeat (first | (with_reducible first | exact HB.out | apply below_alloc | apply pw_below_drewN | apply below_drew1 | refine below_set ?_ GE251.out) | exact HB.out)⟩⟩
                      · rw [if_neg c14] at H
                        exact absurd H (by simp)
                    · rw [if_neg c13] at H
                      exact absurd H (by simp)
                  · rw [if_neg c11] at H
                    have c11b0 : decide (0 < x12_1) = false := decide_eq_false c11
                    clear c11
                    (first | rw [c11b0] | (simp only [i64_w, i32_w]; rw [c11b0]) | rw [c11b1] | skip)
                    replace H := Option.bind_eq_some_iff.mp H
                    obtain ⟨t255, A190, H⟩ := H
                    replace H : (impl_GoodPosts.j1 k1 l0 l0 (l0.length : Int) x12_1 (!t255) ((rd_T57 l0 x12_1).f0) ((rd_T57 l0 x12_1).f1)) = some r := H
                    have A19 := Aside0.mk A190
                    clear A190
                    have H' := Aside0.mk H
                    clear H
                    have hcz20_0 : w7.cell? ⟨gb251, 0, none⟩ = some (.int .i64 0) := (blk_cell BK251.out 0).trans rfl
                    have hcz20_1 : w7.cell? ⟨gb251, 1, none⟩ = some (.slice none 0 0) := (blk_cell BK251.out 1).trans rfl
                    have hfz20_0 := blk_frozen BK251.out 0
                    have hfz20_1 := blk_frozen BK251.out 1
                    go_wp2_with (first | (go_at_call 70; (with_reducible refine (impl_within.calls ((rd_T57 l0 x12_1).f0) 0 11 true _ A9.out).mono ?_); rintro e w' ⟨rfl, ⟨nd, rfl⟩⟩; (try first | exact ⟨rfl, _, World.drewN_drewN _ _ _⟩ | exact ⟨rfl, _, Eq.trans (World.drewN_drewN _ _ _) (congrArg (World.drewN _) (Nat.add_assoc _ _ _))⟩)) | (go_at_call 70; (with_reducible refine (impl_within.calls (((rd_T57 l0 x12_1).f1).length : Int) 1 20 t255 _ A19.out).mono ?_); rintro e w' ⟨rfl, ⟨nd, rfl⟩⟩; (try first | exact ⟨rfl, _, World.drewN_drewN _ _ _⟩ | exact ⟨rfl, _, Eq.trans (World.drewN_drewN _ _ _) (congrArg (World.drewN _) (Nat.add_assoc _ _ _))⟩)))
                    repeat (go_quiet (first | (go_at_call 70; (with_reducible refine (impl_within.calls ((rd_T57 l0 x12_1).f0) 0 11 true _ A9.out).mono ?_); rintro e w' ⟨rfl, ⟨nd, rfl⟩⟩; (try first | exact ⟨rfl, _, World.drewN_drewN _ _ _⟩ | exact ⟨rfl, _, Eq.trans (World.drewN_drewN _ _ _) (congrArg (World.drewN _) (Nat.add_assoc _ _ _))⟩)) | (go_at_call 70; (with_reducible refine (impl_within.calls (((rd_T57 l0 x12_1).f1).length : Int) 1 20 t255 _ A19.out).mono ?_); rintro e w' ⟨rfl, ⟨nd, rfl⟩⟩; (try first | exact ⟨rfl, _, World.drewN_drewN _ _ _⟩ | exact ⟨rfl, _, Eq.trans (World.drewN_drewN _ _ _) (congrArg (World.drewN _) (Nat.add_assoc _ _ _))⟩))); try go_wp2_with (first | (go_at_call 70; (with_reducible refine (impl_within.calls ((rd_T57 l0 x12_1).f0) 0 11 true _ A9.out).mono ?_); rintro e w' ⟨rfl, ⟨nd, rfl⟩⟩; (try first | exact ⟨rfl, _, World.drewN_drewN _ _ _⟩ | exact ⟨rfl, _, Eq.trans (World.drewN_drewN _ _ _) (congrArg (World.drewN _) (Nat.add_assoc _ _ _))⟩)) | (go_at_call 70; (with_reducible refine (impl_within.calls (((rd_T57 l0 x12_1).f1).length : Int) 1 20 t255 _ A19.out).mono ?_); rintro e w' ⟨rfl, ⟨nd, rfl⟩⟩; (try first | exact ⟨rfl, _, World.drewN_drewN _ _ _⟩ | exact ⟨rfl, _, Eq.trans (World.drewN_drewN _ _ _) (congrArg (World.drewN _) (Nat.add_assoc _ _ _))⟩))))
                    go_meet
                    case rel => exact ⟨_, (!t255), (by first | rfl | (simp; done) | (simp [*]; done)), H', ⟨by have := HK1.out; first | omega | exact Nat.le_refl _⟩, ⟨by (with_reducible repeat (first | refine blk_drewN ?_ _ | refine blk_drew ?_ | refine blk_alloc ?_ _)); refine blk_put (cs := #[.int .i64 ((rd_T57 l0 x12_1).f0), .slice none 0 0]) ?_ 1 _ rfl; (with_reducible repeat (first | refine blk_drewN ?_ _ | refine blk_drew ?_ | refine blk_alloc ?_ _)); refine blk_put (cs := #[.int .i64 0, .slice none 0 0]) ?_ 0 _ rfl; (with_reducible repeat (first | refine blk_drewN ?_ _ | refine blk_drew ?_ | refine blk_alloc ?_ _)); exact BK251.out⟩, ⟨by repeat (first | (with_reducible first | exact HB.out | apply below_alloc | apply pw_below_drewN | apply below_drew1 | refine below_set ?_ GE251.out) | exact HB.out)⟩⟩
                · replace c10 := Bool.eq_false_iff.mpr c10
                  subst c10
                  have H1 : (impl_GoodPosts.j1 k1 l0 l0 (l0.length : Int) x12_1 true ((rd_T57 l0 x12_1).f0) ((rd_T57 l0 x12_1).f1)) = some r := by rw [if_neg (show ¬ (false = true) by decide)] at H; exact H
                  clear H
                  have H := H1
                  clear H1
                  have H' := Aside0.mk H
                  clear H
                  have hcz21_0 : w7.cell? ⟨gb251, 0, none⟩ = some (.int .i64 0) := (blk_cell BK251.out 0).trans rfl
                  have hcz21_1 : w7.cell? ⟨gb251, 1, none⟩ = some (.slice none 0 0) := (blk_cell BK251.out 1).trans rfl
                  have hfz21_0 := blk_frozen BK251.out 0
                  have hfz21_1 := blk_frozen BK251.out 1
                  go_wp2_with (first | (go_at_call 70; (with_reducible refine (impl_within.calls ((rd_T57 l0 x12_1).f0) 0 11 false _ A9.out).mono ?_); rintro e w' ⟨rfl, ⟨nd, rfl⟩⟩; (try first | exact ⟨rfl, _, World.drewN_drewN _ _ _⟩ | exact ⟨rfl, _, Eq.trans (World.drewN_drewN _ _ _) (congrArg (World.drewN _) (Nat.add_assoc _ _ _))⟩)))
                  repeat (go_quiet (first | (go_at_call 70; (with_reducible refine (impl_within.calls ((rd_T57 l0 x12_1).f0) 0 11 false _ A9.out).mono ?_); rintro e w' ⟨rfl, ⟨nd, rfl⟩⟩; (try first | exact ⟨rfl, _, World.drewN_drewN _ _ _⟩ | exact ⟨rfl, _, Eq.trans (World.drewN_drewN _ _ _) (congrArg (World.drewN _) (Nat.add_assoc _ _ _))⟩))); try go_wp2_with (first | (go_at_call 70; (with_reducible refine (impl_within.calls ((rd_T57 l0 x12_1).f0) 0 11 false _ A9.out).mono ?_); rintro e w' ⟨rfl, ⟨nd, rfl⟩⟩; (try first | exact ⟨rfl, _, World.drewN_drewN _ _ _⟩ | exact ⟨rfl, _, Eq.trans (World.drewN_drewN _ _ _) (congrArg (World.drewN _) (Nat.add_assoc _ _ _))⟩))))
                  go_meet
                  case rel => exact ⟨_, (true), (by first | rfl | (simp; done) | (simp [*]; done)), H', ⟨by have := HK1.out; first | omega | exact Nat.le_refl _⟩, ⟨by (with_reducible repeat (first | refine blk_drewN ?_ _ | refine blk_drew ?_ | refine blk_alloc ?_ _)); refine blk_put (cs := #[.int .i64 ((rd_T57 l0 x12_1).f0), .slice none 0 0]) ?_ 1 _ rfl; (with_reducible repeat (first | refine blk_drewN ?_ _ | refine blk_drew ?_ | refine blk_alloc ?_ _)); refine blk_put (cs := #[.int .i64 0, .slice none 0 0]) ?_ 0 _ rfl; (with_reducible repeat (first | refine blk_drewN ?_ _ | refine blk_drew ?_ | refine blk_alloc ?_ _)); exact BK251.out⟩, ⟨by repeat (first | (with_reducible first | exact HB.out | apply below_alloc | apply pw_below_drewN | apply below_drew1 | refine below_set ?_ GE251.out) | exact HB.out)⟩⟩
              case rest =>
                clear HC6
                try clear c1
                try clear c2
                try clear c2b0
                try clear c2b1
                try clear p2
                try clear q2
                try clear hx2
                try clear c3
                try clear c3b0
                try clear c4
                try clear c4b0
                try clear c5
                try clear c5b0
                try clear p6
                try clear c10
                try clear c11
                try clear c11b0
                try clear c11b1
                try clear c13
                try clear c13b0
                try clear c14
                try clear c14b0
                try clear c15
                try clear c15b0
                try clear hcz16_0
                try clear hcz16_1
                try clear hcz18_0
                try clear hcz18_1
                try clear hcz20_0
                try clear hcz20_1
                try clear hcz21_0
                try clear hcz21_1
                try clear hcz8_0
                try clear hcz8_1
                try clear hfz16_0
                try clear hfz16_1
                try clear hfz18_0
                try clear hfz18_1
                try clear hfz20_0
                try clear hfz20_1
                try clear hfz21_0
                try clear hfz21_1
                try clear hfz8_0
                try clear hfz8_1
                try clear hx250_0
                try clear hx250_1
                try clear hx253_0
                try clear hx253_1
                try clear p2
                try clear p250
                try clear p253
                try clear q250
                try clear q253
                obtain ⟨kq, x42_5, rfl, HA, HJ5, BK251, HB⟩ := hcut
                cases kq with
                | zero => exact absurd HA.out (by simp [impl_GoodPosts.j1])
                | succ kj5 =>
                  have H := HA.out
                  clear HA
                  simp only [impl_GoodPosts.j1] at H
                  by_cases c22 : x42_5 = true
                  · subst c22
                    have H1 : (some false) = some r := by rw [if_pos rfl] at H; exact H
                    clear H
                    have H := H1
                    clear H1
                    obtain rfl := Option.some.inj H
                    go_wp2
                    repeat (go_quiet (fail); try go_wp2)
                    go_ret
                    exact ⟨by first | rfl | (simp [errW_none, errW_some] <;> rfl) | (simp [*, errW_none, errW_some] <;> rfl), by repeat (first | (with_reducible first | exact HB.out | apply below_alloc | apply pw_below_drewN | apply below_drew1 | refine below_set ?_ GE251.out) | exact HB.out)⟩
                  · replace c22 := Bool.eq_false_iff.mpr c22
                    subst c22
                    have H1 : (impl_GoodPosts.l1 kj5 l0 l0 (l0.length : Int) x12_1 ((rd_T57 l0 x12_1).f1) (((rd_T57 l0 x12_1).f1).length : Int) 0 ((rd_T57 l0 x12_1).f0) ((rd_T57 l0 x12_1).f1)) = some r := by rw [if_neg (show ¬ (false = true) by decide)] at H; exact H
                    clear H
                    have H := H1
                    clear H1
                    have H' := Aside0.mk H
                    clear H
                    have hcz23_0 : wc.cell? ⟨gb251, 0, none⟩ = some (.int .i64 ((rd_T57 l0 x12_1).f0)) := (blk_cell BK251.out 0).trans rfl
                    have hcz23_1 : wc.cell? ⟨gb251, 1, none⟩ = some (.slice A250_1 ((rd_T57 l0 x12_1).f1).length c250_1) := (blk_cell BK251.out 1).trans rfl
                    have hfz23_0 := blk_frozen BK251.out 0
                    have hfz23_1 := blk_frozen BK251.out 1
                    go_wp2
                    repeat (go_quiet (fail); try go_wp2)
                    go_loopg [46] kj5 (fun kq v46 w' => ∃ (x46_3 : Int), v46 = .int .i64 x46_3 ∧ Aside0 (impl_GoodPosts.l1 kq l0 l0 (l0.length : Int) x12_1 ((rd_T57 l0 x12_1).f1) (((rd_T57 l0 x12_1).f1).length : Int) x46_3 ((rd_T57 l0 x12_1).f0) ((rd_T57 l0 x12_1).f1) = some r) ∧ Aside0 (kq ≤ kj5) ∧ Aside0 (w'.heap[gb251]? = some (.cells #[.int .i64 ((rd_T57 l0 x12_1).f0), (.slice A250_1 ((rd_T57 l0 x12_1).f1).length c250_1)] 57 (0, 0))) ∧ Aside0 (Below w.heap.size w w'))
                    case atStart => exact ⟨(0), (by first | rfl | (simp; done) | (simp [*]; done)), H', ⟨Nat.le_refl _⟩, ⟨by (with_reducible repeat (first | refine blk_drewN ?_ _ | refine blk_drew ?_ | refine blk_alloc ?_ _)); exact BK251.out⟩, ⟨by repeat (first | (with_reducible first | exact HB.out | apply below_alloc | apply pw_below_drewN | apply below_drew1 | refine below_set ?_ GE251.out) | exact HB.out)⟩⟩
                    case round =>
                      clear H'
                      try clear c1
                      try clear c2
                      try clear c2b0
                      try clear c2b1
                      try clear p2
                      try clear q2
                      try clear hx2
                      try clear c3
                      try clear c3b0
                      try clear c4
                      try clear c4b0
                      try clear c5
                      try clear c5b0
                      try clear p6
                      try clear c10
                      try clear c11
                      try clear c11b0
                      try clear c11b1
                      try clear c13
                      try clear c13b0
                      try clear c14
                      try clear c14b0
                      try clear c15
                      try clear c15b0
                      try clear c22
                      try clear hcz16_0
                      try clear hcz16_1
                      try clear hcz18_0
                      try clear hcz18_1
                      try clear hcz20_0
                      try clear hcz20_1
                      try clear hcz21_0
                      try clear hcz21_1
                      try clear hcz23_0
                      try clear hcz23_1
                      try clear hcz8_0
                      try clear hcz8_1
                      try clear hfz16_0
                      try clear hfz16_1
                      try clear hfz18_0
                      try clear hfz18_1
                      try clear hfz20_0
                      try clear hfz20_1
                      try clear hfz21_0
                      try clear hfz21_1
                      try clear hfz23_0
                      try clear hfz23_1
                      try clear hfz8_0
                      try clear hfz8_1
                      try clear hx250_0
                      try clear hx250_1
                      try clear hx253_0
                      try clear hx253_1
                      try clear p2
                      try clear p250
                      try clear p253
                      try clear p6
                      try clear q2
                      try clear q250
                      try clear q253
                      obtain ⟨x46_3, rfl, HA, HK3, BK251, HB⟩ := hrel
                      cases gk with
                      | zero => exact absurd HA.out (by simp [impl_GoodPosts.l1])
                      | succ k3 =>
                        have H := HA.out
                        clear HA
                        simp only [impl_GoodPosts.l1] at H
                        by_cases c24 : x46_3 < (((rd_T57 l0 x12_1).f1).length : Int)
                        · rw [if_pos c24] at H
                          have c24b0 : decide (x46_3 < (((rd_T57 l0 x12_1).f1).length : Int)) = true := decide_eq_true c24
                          clear c24
                          by_cases c25 : 0 ≤ x46_3
                          · rw [if_pos c25] at H
                            have c25b0 : decide (0 ≤ x46_3) = true := decide_eq_true c25
                            clear c25
                            by_cases c26 : x46_3 < (((rd_T57 l0 x12_1).f1).length : Int)
                            · rw [if_pos c26] at H
                              have c26b0 : decide (x46_3 < (((rd_T57 l0 x12_1).f1).length : Int)) = true := decide_eq_true c26
                              clear c26
                              replace H := Option.bind_eq_some_iff.mp H
                              obtain ⟨t257, A270, H⟩ := H
                              replace H : (if t257 = true then (if x46_3 > 0 then (if 0 ≤ (wrap64 (x46_3 - 1)) then (if (wrap64 (x46_3 - 1)) < (((rd_T57 l0 x12_1).f1).length : Int) then (if (rd ((rd_T57 l0 x12_1).f1) (wrap64 (x46_3 - 1))) ≥ (rd ((rd_T57 l0 x12_1).f1) x46_3) then (some false) else (impl_GoodPosts.l1 k3 l0 l0 (l0.length : Int) x12_1 ((rd_T57 l0 x12_1).f1) (((rd_T57 l0 x12_1).f1).length : Int) (wrap64 (x46_3 + 1)) ((rd_T57 l0 x12_1).f0) ((rd_T57 l0 x12_1).f1))) else (none)) else (none)) else (impl_GoodPosts.l1 k3 l0 l0 (l0.length : Int) x12_1 ((rd_T57 l0 x12_1).f1) (((rd_T57 l0 x12_1).f1).length : Int) (wrap64 (x46_3 + 1)) ((rd_T57 l0 x12_1).f0) ((rd_T57 l0 x12_1).f1))) else (some false)) = some r := H
                              have A27 := Aside0.mk A270
                              clear A270
                              by_cases c28 : t257 = true
                              · subst c28
                                have H1 : (if x46_3 > 0 then (if 0 ≤ (wrap64 (x46_3 - 1)) then (if (wrap64 (x46_3 - 1)) < (((rd_T57 l0 x12_1).f1).length : Int) then (if (rd ((rd_T57 l0 x12_1).f1) (wrap64 (x46_3 - 1))) ≥ (rd ((rd_T57 l0 x12_1).f1) x46_3) then (some false) else (impl_GoodPosts.l1 k3 l0 l0 (l0.length : Int) x12_1 ((rd_T57 l0 x12_1).f1) (((rd_T57 l0 x12_1).f1).length : Int) (wrap64 (x46_3 + 1)) ((rd_T57 l0 x12_1).f0) ((rd_T57 l0 x12_1).f1))) else (none)) else (none)) else (impl_GoodPosts.l1 k3 l0 l0 (l0.length : Int) x12_1 ((rd_T57 l0 x12_1).f1) (((rd_T57 l0 x12_1).f1).length : Int) (wrap64 (x46_3 + 1)) ((rd_T57 l0 x12_1).f0) ((rd_T57 l0 x12_1).f1))) = some r := by rw [if_pos rfl] at H; exact H
                                clear H
                                have H := H1
                                clear H1
                                by_cases c29 : x46_3 > 0
                                · rw [if_pos c29] at H
                                  have c29b0 : decide (0 < x46_3) = true := decide_eq_true c29
                                  clear c29
                                  obtain ⟨ji30, hji30⟩ : ∃ j_ : Int, (wrap64 (x46_3 - 1)) = j_ := ⟨_, rfl⟩
                                  replace H : (if 0 ≤ (ji30) then (if (ji30) < (((rd_T57 l0 x12_1).f1).length : Int) then (if (rd ((rd_T57 l0 x12_1).f1) (ji30)) ≥ (rd ((rd_T57 l0 x12_1).f1) x46_3) then (some false) else (impl_GoodPosts.l1 k3 l0 l0 (l0.length : Int) x12_1 ((rd_T57 l0 x12_1).f1) (((rd_T57 l0 x12_1).f1).length : Int) (wrap64 (x46_3 + 1)) ((rd_T57 l0 x12_1).f0) ((rd_T57 l0 x12_1).f1))) else (none)) else (none)) = some r := by first | (rw [hji30] at H; exact H) | (simp only [hji30] at H ⊢; exact H)
                                  (try rw [hji30] at A27)
                                  have hji30w : (IntKind.i64.wrap (x46_3 - 1)) = ji30 := (i64_w _).trans hji30
                                  by_cases c31 : 0 ≤ (ji30)
                                  · rw [if_pos c31] at H
                                    have c31b0 : decide (0 ≤ (ji30)) = true := decide_eq_true c31
                                    clear c31
                                    by_cases c32 : (ji30) < (((rd_T57 l0 x12_1).f1).length : Int)
                                    · rw [if_pos c32] at H
                                      have c32b0 : decide ((ji30) < (((rd_T57 l0 x12_1).f1).length : Int)) = true := decide_eq_true c32
                                      clear c32
                                      by_cases c33 : (rd ((rd_T57 l0 x12_1).f1) (ji30)) ≥ (rd ((rd_T57 l0 x12_1).f1) x46_3)
                                      · rw [if_pos c33] at H
                                        have c33b0 : decide ((rd ((rd_T57 l0 x12_1).f1) x46_3) ≤ (rd ((rd_T57 l0 x12_1).f1) (ji30))) = true := decide_eq_true c33
                                        clear c33
                                        obtain rfl := Option.some.inj H
                                        have p256 : 0 ≤ (x46_3 : Int) := of_decide_eq_true (by first | (with_reducible assumption) | assumption)
                                        have q256 : x46_3 < (((rd_T57 l0 x12_1).f1).length : Int) := of_decide_eq_true (by first | (with_reducible assumption) | assumption)
                                        obtain ⟨ad256, e256, hx256_0⟩ := Kd.at_int HR250_1.out x46_3 p256 q256
                                        cases e256
                                        replace hx256_0 := (HB.out.cell (World.block_lt_of_cell? w _ hx256_0)).trans hx256_0
                                        replace p256 := eq_true p256
                                        replace q256 := eq_true q256
                                        go_wp2_with (first | (go_at_call 70; (with_reducible refine (impl_within.calls (rd ((rd_T57 l0 x12_1).f1) x46_3) 0 19 true _ A27.out).mono ?_); rintro e w' ⟨rfl, ⟨nd, rfl⟩⟩; (try first | exact ⟨rfl, _, World.drewN_drewN _ _ _⟩ | exact ⟨rfl, _, Eq.trans (World.drewN_drewN _ _ _) (congrArg (World.drewN _) (Nat.add_assoc _ _ _))⟩); have hcz34_0 : wr.cell? ⟨gb251, 0, none⟩ = some (.int .i64 ((rd_T57 l0 x12_1).f0)) := (blk_cell BK251.out 0).trans rfl; have hcz34_1 : wr.cell? ⟨gb251, 1, none⟩ = some (.slice (some ad256) ((rd_T57 l0 x12_1).f1).length c250_1) := (blk_cell BK251.out 1).trans rfl; have hfz34_0 := blk_frozen BK251.out 0; have hfz34_1 := blk_frozen BK251.out 1; have p258 : 0 ≤ ((ji30) : Int) := of_decide_eq_true (by first | (with_reducible assumption) | assumption); have q258 : (ji30) < (((rd_T57 l0 x12_1).f1).length : Int) := of_decide_eq_true (by first | (with_reducible assumption) | assumption); obtain ⟨ad258, e258, hx258_0⟩ := Kd.at_int HR250_1.out (ji30) p258 q258; obtain rfl : ad256 = ad258 := (by injection e258); replace hx258_0 := (HB.out.cell (World.block_lt_of_cell? w _ hx258_0)).trans hx258_0; replace p258 := eq_true p258; replace q258 := eq_true q258))
                                        repeat (go_quiet (first | (go_at_call 70; (with_reducible refine (impl_within.calls (rd ((rd_T57 l0 x12_1).f1) x46_3) 0 19 true _ A27.out).mono ?_); rintro e w' ⟨rfl, ⟨nd, rfl⟩⟩; (try first | exact ⟨rfl, _, World.drewN_drewN _ _ _⟩ | exact ⟨rfl, _, Eq.trans (World.drewN_drewN _ _ _) (congrArg (World.drewN _) (Nat.add_assoc _ _ _))⟩); have hcz34_0 : wr.cell? ⟨gb251, 0, none⟩ = some (.int .i64 ((rd_T57 l0 x12_1).f0)) := (blk_cell BK251.out 0).trans rfl; have hcz34_1 : wr.cell? ⟨gb251, 1, none⟩ = some (.slice (some ad256) ((rd_T57 l0 x12_1).f1).length c250_1) := (blk_cell BK251.out 1).trans rfl; have hfz34_0 := blk_frozen BK251.out 0; have hfz34_1 := blk_frozen BK251.out 1; have p258 : 0 ≤ ((ji30) : Int) := of_decide_eq_true (by first | (with_reducible assumption) | assumption); have q258 : (ji30) < (((rd_T57 l0 x12_1).f1).length : Int) := of_decide_eq_true (by first | (with_reducible assumption) | assumption); obtain ⟨ad258, e258, hx258_0⟩ := Kd.at_int HR250_1.out (ji30) p258 q258; obtain rfl : ad256 = ad258 := (by injection e258); replace hx258_0 := (HB.out.cell (World.block_lt_of_cell? w _ hx258_0)).trans hx258_0; replace p258 := eq_true p258; replace q258 := eq_true q258)); try go_wp2_with (first | (go_at_call 70; (with_reducible refine (impl_within.calls (rd ((rd_T57 l0 x12_1).f1) x46_3) 0 19 true _ A27.out).mono ?_); rintro e w' ⟨rfl, ⟨nd, rfl⟩⟩; (try first | exact ⟨rfl, _, World.drewN_drewN _ _ _⟩ | exact ⟨rfl, _, Eq.trans (World.drewN_drewN _ _ _) (congrArg (World.drewN _) (Nat.add_assoc _ _ _))⟩); have hcz34_0 : wr.cell? ⟨gb251, 0, none⟩ = some (.int .i64 ((rd_T57 l0 x12_1).f0)) := (blk_cell BK251.out 0).trans rfl; have hcz34_1 : wr.cell? ⟨gb251, 1, none⟩ = some (.slice (some ad256) ((rd_T57 l0 x12_1).f1).length c250_1) := (blk_cell BK251.out 1).trans rfl; have hfz34_0 := blk_frozen BK251.out 0; have hfz34_1 := blk_frozen BK251.out 1; have p258 : 0 ≤ ((ji30) : Int) := of_decide_eq_true (by first | (with_reducible assumption) | assumption); have q258 : (ji30) < (((rd_T57 l0 x12_1).f1).length : Int) := of_decide_eq_true (by first | (with_reducible assumption) | assumption); obtain ⟨ad258, e258, hx258_0⟩ := Kd.at_int HR250_1.out (ji30) p258 q258; obtain rfl : ad256 = ad258 := (by injection e258); replace hx258_0 := (HB.out.cell (World.block_lt_of_cell? w _ hx258_0)).trans hx258_0; replace p258 := eq_true p258; replace q258 := eq_true q258)))
                                        go_ret
                                        exact ⟨by first | rfl | (simp [errW_none, errW_some] <;> rfl) | (simp only [← hji30]; first | rfl | (simp [errW_none, errW_some] <;> rfl)) | (simp [*, errW_none, errW_some] <;> rfl), by repeat (first | (with_reducible first | exact HB.out | apply below_alloc | apply pw_below_drewN | apply below_drew1 | refine below_set ?_ GE251.out) | exact HB.out)⟩
                                      · rw [if_neg c33] at H
                                        have c33b0 : decide ((rd ((rd_T57 l0 x12_1).f1) x46_3) ≤ (rd ((rd_T57 l0 x12_1).f1) (ji30))) = false := decide_eq_false c33
                                        clear c33
                                        have H' := Aside0.mk H
                                        clear H
                                        have p256 : 0 ≤ (x46_3 : Int) := of_decide_eq_true (by first | (with_reducible assumption) | assumption)
                                        have q256 : x46_3 < (((rd_T57 l0 x12_1).f1).length : Int) := of_decide_eq_true (by first | (with_reducible assumption) | assumption)
                                        obtain ⟨ad256, e256, hx256_0⟩ := Kd.at_int HR250_1.out x46_3 p256 q256
                                        cases e256
                                        replace hx256_0 := (HB.out.cell (World.block_lt_of_cell? w _ hx256_0)).trans hx256_0
                                        replace p256 := eq_true p256
                                        replace q256 := eq_true q256
                                        go_wp2_with (first | (go_at_call 70; (with_reducible refine (impl_within.calls (rd ((rd_T57 l0 x12_1).f1) x46_3) 0 19 true _ A27.out).mono ?_); rintro e w' ⟨rfl, ⟨nd, rfl⟩⟩; (try first | exact ⟨rfl, _, World.drewN_drewN _ _ _⟩ | exact ⟨rfl, _, Eq.trans (World.drewN_drewN _ _ _) (congrArg (World.drewN _) (Nat.add_assoc _ _ _))⟩); have hcz35_0 : wr.cell? ⟨gb251, 0, none⟩ = some (.int .i64 ((rd_T57 l0 x12_1).f0)) := (blk_cell BK251.out 0).trans rfl; have hcz35_1 : wr.cell? ⟨gb251, 1, none⟩ = some (.slice (some ad256) ((rd_T57 l0 x12_1).f1).length c250_1) := (blk_cell BK251.out 1).trans rfl; have hfz35_0 := blk_frozen BK251.out 0; have hfz35_1 := blk_frozen BK251.out 1; have p258 : 0 ≤ ((ji30) : Int) := of_decide_eq_true (by first | (with_reducible assumption) | assumption); have q258 : (ji30) < (((rd_T57 l0 x12_1).f1).length : Int) := of_decide_eq_true (by first | (with_reducible assumption) | assumption); obtain ⟨ad258, e258, hx258_0⟩ := Kd.at_int HR250_1.out (ji30) p258 q258; obtain rfl : ad256 = ad258 := (by injection e258); replace hx258_0 := (HB.out.cell (World.block_lt_of_cell? w _ hx258_0)).trans hx258_0; replace p258 := eq_true p258; replace q258 := eq_true q258))
                                        repeat (go_quiet (first | (go_at_call 70; (with_reducible refine (impl_within.calls (rd ((rd_T57 l0 x12_1).f1) x46_3) 0 19 true _ A27.out).mono ?_); rintro e w' ⟨rfl, ⟨nd, rfl⟩⟩; (try first | exact ⟨rfl, _, World.drewN_drewN _ _ _⟩ | exact ⟨rfl, _, Eq.trans (World.drewN_drewN _ _ _) (congrArg (World.drewN _) (Nat.add_assoc _ _ _))⟩); have hcz35_0 : wr.cell? ⟨gb251, 0, none⟩ = some (.int .i64 ((rd_T57 l0 x12_1).f0)) := (blk_cell BK251.out 0).trans rfl; have hcz35_1 : wr.cell? ⟨gb251, 1, none⟩ = some (.slice (some ad256) ((rd_T57 l0 x12_1).f1).length c250_1) := (blk_cell BK251.out 1).trans rfl; have hfz35_0 := blk_frozen BK251.out 0; have hfz35_1 := blk_frozen BK251.out 1; have p258 : 0 ≤ ((ji30) : Int) := of_decide_eq_true (by first | (with_reducible assumption) | assumption); have q258 : (ji30) < (((rd_T57 l0 x12_1).f1).length : Int) := of_decide_eq_true (by first | (with_reducible assumption) | assumption); obtain ⟨ad258, e258, hx258_0⟩ := Kd.at_int HR250_1.out (ji30) p258 q258; obtain rfl : ad256 = ad258 := (by injection e258); replace hx258_0 := (HB.out.cell (World.block_lt_of_cell? w _ hx258_0)).trans hx258_0; replace p258 := eq_true p258; replace q258 := eq_true q258)); try go_wp2_with (first | (go_at_call 70; (with_reducible refine (impl_within.calls (rd ((rd_T57 l0 x12_1).f1) x46_3) 0 19 true _ A27.out).mono ?_); rintro e w' ⟨rfl, ⟨nd, rfl⟩⟩; (try first | exact ⟨rfl, _, World.drewN_drewN _ _ _⟩ | exact ⟨rfl, _, Eq.trans (World.drewN_drewN _ _ _) (congrArg (World.drewN _) (Nat.add_assoc _ _ _))⟩); have hcz35_0 : wr.cell? ⟨gb251, 0, none⟩ = some (.int .i64 ((rd_T57 l0 x12_1).f0)) := (blk_cell BK251.out 0).trans rfl; have hcz35_1 : wr.cell? ⟨gb251, 1, none⟩ = some (.slice (some ad256) ((rd_T57 l0 x12_1).f1).length c250_1) := (blk_cell BK251.out 1).trans rfl; have hfz35_0 := blk_frozen BK251.out 0; have hfz35_1 := blk_frozen BK251.out 1; have p258 : 0 ≤ ((ji30) : Int) := of_decide_eq_true (by first | (with_reducible assumption) | assumption); have q258 : (ji30) < (((rd_T57 l0 x12_1).f1).length : Int) := of_decide_eq_true (by first | (with_reducible assumption) | assumption); obtain ⟨ad258, e258, hx258_0⟩ := Kd.at_int HR250_1.out (ji30) p258 q258; obtain rfl : ad256 = ad258 := (by injection e258); replace hx258_0 := (HB.out.cell (World.block_lt_of_cell? w _ hx258_0)).trans hx258_0; replace p258 := eq_true p258; replace q258 := eq_true q258)))
                                        go_roundg k3
                                        case measure => have := HK1.out; have := HJ5.out; have := HK3.out; omega
                                        case rel => exact ⟨(wrap64 (x46_3 + 1)), (by first | rfl | (simp; done) | (simp [*]; done)), H', ⟨by have := HK1.out; have := HJ5.out; have := HK3.out; omega⟩, ⟨by (with_reducible repeat (first | refine blk_drewN ?_ _ | refine blk_drew ?_ | refine blk_alloc ?_ _)); exact BK251.out⟩, ⟨by repeat (first | (with_reducible first | exact HB.out | apply below_alloc | apply pw_below_drewN | apply below_drew1 | refine below_set ?_ GE251.out) | exact HB.out)⟩⟩
                                    · rw [if_neg c32] at H
                                      exact absurd H (by simp)
                                  · rw [if_neg c31] at H
                                    exact absurd H (by simp)
                                · rw [if_neg c29] at H
                                  have c29b0 : decide (0 < x46_3) = false := decide_eq_false c29
                                  clear c29
                                  have H' := Aside0.mk H
                                  clear H
                                  have p256 : 0 ≤ (x46_3 : Int) := of_decide_eq_true (by first | (with_reducible assumption) | assumption)
                                  have q256 : x46_3 < (((rd_T57 l0 x12_1).f1).length : Int) := of_decide_eq_true (by first | (with_reducible assumption) | assumption)
                                  obtain ⟨ad256, e256, hx256_0⟩ := Kd.at_int HR250_1.out x46_3 p256 q256
                                  cases e256
                                  replace hx256_0 := (HB.out.cell (World.block_lt_of_cell? w _ hx256_0)).trans hx256_0
                                  replace p256 := eq_true p256
                                  replace q256 := eq_true q256
                                  go_wp2_with (first | (go_at_call 70; (with_reducible refine (impl_within.calls (rd ((rd_T57 l0 x12_1).f1) x46_3) 0 19 true _ A27.out).mono ?_); rintro e w' ⟨rfl, ⟨nd, rfl⟩⟩; (try first | exact ⟨rfl, _, World.drewN_drewN _ _ _⟩ | exact ⟨rfl, _, Eq.trans (World.drewN_drewN _ _ _) (congrArg (World.drewN _) (Nat.add_assoc _ _ _))⟩)))
                                  repeat (go_quiet (first | (go_at_call 70; (with_reducible refine (impl_within.calls (rd ((rd_T57 l0 x12_1).f1) x46_3) 0 19 true _ A27.out).mono ?_); rintro e w' ⟨rfl, ⟨nd, rfl⟩⟩; (try first | exact ⟨rfl, _, World.drewN_drewN _ _ _⟩ | exact ⟨rfl, _, Eq.trans (World.drewN_drewN _ _ _) (congrArg (World.drewN _) (Nat.add_assoc _ _ _))⟩))); try go_wp2_with (first | (go_at_call 70; (with_reducible refine (impl_within.calls (rd ((rd_T57 l0 x12_1).f1) x46_3) 0 19 true _ A27.out).mono ?_); rintro e w' ⟨rfl, ⟨nd, rfl⟩⟩; (try first | exact ⟨rfl, _, World.drewN_drewN _ _ _⟩ | exact ⟨rfl, _, Eq.trans (World.drewN_drewN _ _ _) (congrArg (World.drewN _) (Nat.add_assoc _ _ _))⟩))))
                                  go_roundg k3
                                  case measure => have := HK1.out; have := HJ5.out; have := HK3.out; omega
                                  case rel => exact ⟨(wrap64 (x46_3 + 1)), (by first | rfl | (simp; done) | (simp [*]; done)), H', ⟨by have := HK1.out; have := HJ5.out; have := HK3.out; omega⟩, ⟨by (with_reducible repeat (first | refine blk_drewN ?_ _ | refine blk_drew ?_ | refine blk_alloc ?_ _)); exact BK251.out⟩, ⟨by repeat (first | (with_reducible first | exact HB.out | apply below_alloc | apply pw_below_drewN | apply below_drew1 | refine below_set ?_ GE251.out) | exact HB.out)⟩⟩
                              · replace c28 := Bool.eq_false_iff.mpr c28
                                subst c28
                                have H1 : (some false) = some r := by rw [if_neg (show ¬ (false = true) by decide)] at H; exact H
                                clear H
                                have H := H1
                                clear H1
                                obtain rfl := Option.some.inj H
                                have p256 : 0 ≤ (x46_3 : Int) := of_decide_eq_true (by first | (with_reducible assumption) | assumption)
                                have q256 : x46_3 < (((rd_T57 l0 x12_1).f1).length : Int) := of_decide_eq_true (by first | (with_reducible assumption) | assumption)
                                obtain ⟨ad256, e256, hx256_0⟩ := Kd.at_int HR250_1.out x46_3 p256 q256
                                cases e256
                                replace hx256_0 := (HB.out.cell (World.block_lt_of_cell? w _ hx256_0)).trans hx256_0
                                replace p256 := eq_true p256
                                replace q256 := eq_true q256
                                go_wp2_with (first | (go_at_call 70; (with_reducible refine (impl_within.calls (rd ((rd_T57 l0 x12_1).f1) x46_3) 0 19 false _ A27.out).mono ?_); rintro e w' ⟨rfl, ⟨nd, rfl⟩⟩; (try first | exact ⟨rfl, _, World.drewN_drewN _ _ _⟩ | exact ⟨rfl, _, Eq.trans (World.drewN_drewN _ _ _) (congrArg (World.drewN _) (Nat.add_assoc _ _ _))⟩)))
                                repeat (go_quiet (first | (go_at_call 70; (with_reducible refine (impl_within.calls (rd ((rd_T57 l0 x12_1).f1) x46_3) 0 19 false _ A27.out).mono ?_); rintro e w' ⟨rfl, ⟨nd, rfl⟩⟩; (try first | exact ⟨rfl, _, World.drewN_drewN _ _ _⟩ | exact ⟨rfl, _, Eq.trans (World.drewN_drewN _ _ _) (congrArg (World.drewN _) (Nat.add_assoc _ _ _))⟩))); try go_wp2_with (first | (go_at_call 70; (with_reducible refine (impl_within.calls (rd ((rd_T57 l0 x12_1).f1) x46_3) 0 19 false _ A27.out).mono ?_); rintro e w' ⟨rfl, ⟨nd, rfl⟩⟩; (try first | exact ⟨rfl, _, World.drewN_drewN _ _ _⟩ | exact ⟨rfl, _, Eq.trans (World.drewN_drewN _ _ _) (congrArg (World.drewN _) (Nat.add_assoc _ _ _))⟩))))
                                go_ret
                                exact ⟨by first | rfl | (simp [errW_none, errW_some] <;> rfl) | (simp [*, errW_none, errW_some] <;> rfl), by repeat (first | (with_reducible first | exact HB.out | apply below_alloc | apply pw_below_drewN | apply below_drew1 | refine below_set ?_ GE251.out) | exact HB.out)⟩
                            · rw [if_neg c26] at H
                              exact absurd H (by simp)
                          · rw [if_neg c25] at H
                            exact absurd H (by simp)
                        · rw [if_neg c24] at H
                          have c24b0 : decide (x46_3 < (((rd_T57 l0 x12_1).f1).length : Int)) = false := decide_eq_false c24
                          clear c24
                          have H' := Aside0.mk H
                          clear H
                          go_wp2
                          repeat (go_quiet (fail); try go_wp2)
                          go_roundg k3
                          case measure => have := HK1.out; have := HJ5.out; have := HK3.out; omega
                          case rel => exact ⟨(wrap64 (x12_1 + 1)), (by first | rfl | (simp; done) | (simp [*]; done)), H', ⟨by have := HK1.out; have := HJ5.out; have := HK3.out; omega⟩, ⟨by repeat (first | (with_reducible first | exact HB.out | apply below_alloc | apply pw_below_drewN | apply below_drew1 | refine below_set ?_ GE251.out) | exact HB.out)⟩⟩
            · rw [if_neg c5] at H
              exact absurd H (by simp)
          · rw [if_neg c4] at H
            exact absurd H (by simp)
        · rw [if_neg c3] at H
          have c3b0 : decide (x12_1 < (l0.length : Int)) = false := decide_eq_false c3
          clear c3
          obtain rfl := Option.some.inj H
          go_wp2
          repeat (go_quiet (fail); try go_wp2)
          go_ret
          exact ⟨by first | rfl | (simp [errW_none, errW_some] <;> rfl) | (simp [*, errW_none, errW_some] <;> rfl), by repeat (first | (with_reducible first | exact HB.out | apply below_alloc | apply pw_below_drewN | apply below_drew1) | exact HB.out)⟩

end Go.Proofs.Ytcopakljdenolaa.Fn
namespace Go.Proofs.Ytcopakljdenolaa.Fn
open Go.RowKit Go.Proofs.YtcopakljdenolaaW.PrintWords Go.Proofs.YtcopakljdenolaaW.PrintLast Go.Proofs.YtcopakljdenolaaW.PrintMore
attribute [local go_sem] max2_int min2_int max_two min_two max_three min_three max_four min_four   -- for this text's walks alone
set_option linter.unusedVariables false
set_option linter.unusedSimpArgs false

/-! ### laws_szIntS: function 97 -/
def laws_szIntS.f (l0 : List Int) (a1 : Int) : Option (Int) := if (wrap64 (a1 - (l0.length : Int))) < 0 then (some (-1)) else (some (wrap64 (a1 - (l0.length : Int))))
set_option maxHeartbeats 8000000 in
set_option maxRecDepth 100000 in
theorem laws_szIntS.calls (A0 : Option Addr) (c0 : Nat) (l0 : List Int) (a1 : Int) (r : Int) (w : World) (hr0 : Kd.C (Kd.int .i64) w A0 l0.length l0) (hc0 : l0.length ≤ c0) (h : laws_szIntS.f l0 a1 = some r) :
    Calls Try.prog 97 #[.slice A0 l0.length c0, .int .i64 a1] w fun e w' => e = .returned (.int .i64 r) ∧ Drawn0 w w' := by
  have HR0 := Aside0.mk hr0
  have HC0 := Aside0.mk hc0
  clear hr0 hc0
  have H : (if (wrap64 (a1 - (l0.length : Int))) < 0 then (some (-1)) else (some (wrap64 (a1 - (l0.length : Int))))) = some r := h
  clear h
  by_cases c3 : (wrap64 (a1 - (l0.length : Int))) < 0
  · rw [if_pos c3] at H
    have c3b0 : decide ((wrap64 (a1 - (l0.length : Int))) < 0) = true := decide_eq_true c3
    clear c3
    obtain rfl := Option.some.inj H
    go_enter Try.func97, Try.ntmps97
    go_wp2
    go_ret
    exact ⟨by first | rfl | (simp; done) | (simp [*]; done), by repeat (first | exact Drawn0.refl _ | apply Drawn0.step)⟩
  · rw [if_neg c3] at H
    have c3b0 : decide ((wrap64 (a1 - (l0.length : Int))) < 0) = false := decide_eq_false c3
    clear c3
    obtain rfl := Option.some.inj H
    go_enter Try.func97, Try.ntmps97
    go_wp2
    go_ret
    exact ⟨by first | rfl | (simp; done) | (simp [*]; done), by repeat (first | exact Drawn0.refl _ | apply Drawn0.step)⟩

end Go.Proofs.Ytcopakljdenolaa.Fn
namespace Go.Proofs.Ytcopakljdenolaa.Fn
open Go.RowKit Go.Proofs.YtcopakljdenolaaW.PrintWords Go.Proofs.YtcopakljdenolaaW.PrintLast Go.Proofs.YtcopakljdenolaaW.PrintMore
attribute [local go_sem] max2_int min2_int max_two min_two max_three min_three max_four min_four   -- for this text's walks alone
set_option linter.unusedVariables false
set_option linter.unusedSimpArgs false

/-! ### laws_szPost: function 66 -/
def laws_szPost.f (a0_0 : Int) (l0_1 : List Int) (a1 : Int) : Option (Int) := (laws_szIntS.f l0_1 a1).bind fun t218 => (if t218 < 0 then (some (-1)) else (some t218))
set_option maxHeartbeats 8000000 in
set_option maxRecDepth 100000 in
theorem laws_szPost.calls (a0_0 : Int) (A0_1 : Option Addr) (c0_1 : Nat) (l0_1 : List Int) (a1 : Int) (r : Int) (w : World) (hr0_1 : Kd.C (Kd.int .i64) w A0_1 l0_1.length l0_1) (hc0_1 : l0_1.length ≤ c0_1) (h : laws_szPost.f a0_0 l0_1 a1 = some r) :
    Calls Try.prog 66 #[.agg #[.int .i64 a0_0, .slice A0_1 l0_1.length c0_1], .int .i64 a1] w fun e w' => e = .returned (.int .i64 r) ∧ Below w.heap.size w w' := by
  have hu75 := Try.underlying75
  have HR0_1 := Aside0.mk hr0_1
  have HC0_1 := Aside0.mk hc0_1
  clear hr0_1 hc0_1
  have HB := Aside0.mk (Below.refl w.heap.size w)
  have H : ((laws_szIntS.f l0_1 a1).bind fun t218 => (if t218 < 0 then (some (-1)) else (some t218))) = some r := h
  clear h
  replace H := Option.bind_eq_some_iff.mp H
  obtain ⟨t218, A30, H⟩ := H
  replace H : (if t218 < 0 then (some (-1)) else (some t218)) = some r := H
  have A3 := Aside0.mk A30
  clear A30
  by_cases c4 : t218 < 0
  · rw [if_pos c4] at H
    have c4b0 : decide (t218 < 0) = true := decide_eq_true c4
    clear c4
    obtain rfl := Option.some.inj H
    go_enter Try.func66, Try.ntmps66
    go_wp2_with (first | ((with_reducible refine gate_dst (N := 2) rfl ?_); refine box_event ?hg (N := 2) ?hd (cs := #[.int .i64 a0_0, .slice A0_1 l0_1.length c0_1]) (t := 75) ?hr ?_; (case hd => rfl); (case hg => rfl); (case hr => first | (go_simp; done) | (go_simp; rfl)); intro gb217 hg w5 hbox hb; have n0_ := Aside0.mk (below_step (by repeat (first | (with_reducible first | exact HB.out | apply below_alloc | apply pw_below_drewN | apply below_drew1) | exact HB.out)) hb); have n1_ := Aside0.mk (hbox); have n2_ := Aside0.mk ((by rw [hg]; exact (below_size (by repeat (first | (with_reducible first | exact HB.out | apply below_alloc | apply pw_below_drewN | apply below_drew1) | exact HB.out))) : w.heap.size ≤ gb217)); have n3_ := Aside0.mk ((by rw [hg]; exact (below_size (by repeat (first | (with_reducible first | exact HB.out | apply below_alloc | apply pw_below_drewN | apply below_drew1) | exact HB.out))) : w.heap.size ≤ gb217)); clear HB; have HB := n0_; have BK217 := n1_; have GW217 := n2_; have GE217 := n3_; clear n0_ n1_ n2_ n3_; clear hb hbox hg; have hcz6_0 : w5.cell? ⟨gb217, 0, none⟩ = some (.int .i64 a0_0) := (blk_cell BK217.out 0).trans rfl; have hcz6_1 : w5.cell? ⟨gb217, 1, none⟩ = some (.slice A0_1 l0_1.length c0_1) := (blk_cell BK217.out 1).trans rfl; have hfz6_0 := blk_frozen BK217.out 0; have hfz6_1 := blk_frozen BK217.out 1) | ((with_reducible refine gate_callee (f := 97) rfl ?_); refine goesL_ (some 8) rfl rfl Try.func97 (by kernel_rfl) rfl #[.slice A0_1 l0_1.length c0_1, .int .i64 a1] rfl (by (try simp only [List.map_toArray, List.map_cons, List.map_nil]); first | done | rfl | (simp only [List.length_drop, List.length_take]; rfl)) ?_; (with_reducible refine (laws_szIntS.calls _ _ l0_1 a1 t218 _ ?side1 ?side2 A3.out).mono ?_); (case side1 => repeat (first | exact (Kd.C_below HR0_1.out HB.out) | (with_reducible refine Kd.C_alloc ?_ _) | (with_reducible refine Kd.C_drewN ?_ _) | (with_reducible refine Kd.C_drew ?_))); (case side2 => exact HC0_1.out); rintro e w' ⟨rfl, ⟨nd, rfl⟩⟩; refine ⟨_, rfl, ?_⟩))
    go_ret
    exact ⟨by first | rfl | (simp [errW_none, errW_some] <;> rfl) | (simp [*, errW_none, errW_some] <;> rfl), by repeat (first | (with_reducible first | exact HB.out | apply below_alloc | apply pw_below_drewN | apply below_drew1 | refine below_set ?_ GE217.out) | exact HB.out)⟩
  · rw [if_neg c4] at H
    have c4b0 : decide (t218 < 0) = false := decide_eq_false c4
    clear c4
    obtain rfl := Option.some.inj H
    go_enter Try.func66, Try.ntmps66
    go_wp2_with (first | ((with_reducible refine gate_dst (N := 2) rfl ?_); refine box_event ?hg (N := 2) ?hd (cs := #[.int .i64 a0_0, .slice A0_1 l0_1.length c0_1]) (t := 75) ?hr ?_; (case hd => rfl); (case hg => rfl); (case hr => first | (go_simp; done) | (go_simp; rfl)); intro gb217 hg w7 hbox hb; have n0_ := Aside0.mk (below_step (by repeat (first | (with_reducible first | exact HB.out | apply below_alloc | apply pw_below_drewN | apply below_drew1) | exact HB.out)) hb); have n1_ := Aside0.mk (hbox); have n2_ := Aside0.mk ((by rw [hg]; exact (below_size (by repeat (first | (with_reducible first | exact HB.out | apply below_alloc | apply pw_below_drewN | apply below_drew1) | exact HB.out))) : w.heap.size ≤ gb217)); have n3_ := Aside0.mk ((by rw [hg]; exact (below_size (by repeat (first | (with_reducible first | exact HB.out | apply below_alloc | apply pw_below_drewN | apply below_drew1) | exact HB.out))) : w.heap.size ≤ gb217)); clear HB; have HB := n0_; have BK217 := n1_; have GW217 := n2_; have GE217 := n3_; clear n0_ n1_ n2_ n3_; clear hb hbox hg; have hcz8_0 : w7.cell? ⟨gb217, 0, none⟩ = some (.int .i64 a0_0) := (blk_cell BK217.out 0).trans rfl; have hcz8_1 : w7.cell? ⟨gb217, 1, none⟩ = some (.slice A0_1 l0_1.length c0_1) := (blk_cell BK217.out 1).trans rfl; have hfz8_0 := blk_frozen BK217.out 0; have hfz8_1 := blk_frozen BK217.out 1) | ((with_reducible refine gate_callee (f := 97) rfl ?_); refine goesL_ (some 8) rfl rfl Try.func97 (by kernel_rfl) rfl #[.slice A0_1 l0_1.length c0_1, .int .i64 a1] rfl (by (try simp only [List.map_toArray, List.map_cons, List.map_nil]); first | done | rfl | (simp only [List.length_drop, List.length_take]; rfl)) ?_; (with_reducible refine (laws_szIntS.calls _ _ l0_1 a1 t218 _ ?side1 ?side2 A3.out).mono ?_); (case side1 => repeat (first | exact (Kd.C_below HR0_1.out HB.out) | (with_reducible refine Kd.C_alloc ?_ _) | (with_reducible refine Kd.C_drewN ?_ _) | (with_reducible refine Kd.C_drew ?_))); (case side2 => exact HC0_1.out); rintro e w' ⟨rfl, ⟨nd, rfl⟩⟩; refine ⟨_, rfl, ?_⟩))
    go_ret
    exact ⟨by first | rfl | (simp [errW_none, errW_some] <;> rfl) | (simp [*, errW_none, errW_some] <;> rfl), by repeat (first | (with_reducible first | exact HB.out | apply below_alloc | apply pw_below_drewN | apply below_drew1 | refine below_set ?_ GE217.out) | exact HB.out)⟩

end Go.Proofs.Ytcopakljdenolaa.Fn
namespace Go.Proofs.Ytcopakljdenolaa.Fn
open Go.RowKit Go.Proofs.YtcopakljdenolaaW.PrintWords Go.Proofs.YtcopakljdenolaaW.PrintLast Go.Proofs.YtcopakljdenolaaW.PrintMore
attribute [local go_sem] max2_int min2_int max_two min_two max_three min_three max_four min_four   -- for this text's walks alone
set_option linter.unusedVariables false
set_option linter.unusedSimpArgs false

/-! ### laws_szPostS: function 29 -/
def laws_szPostS.l0 : Nat → List (S75) → Int → Int → Option (Int)
  | 0, _, _, _ => none
  | k + 1, x0, x1, x5 => if x5 < (x0.length : Int) then (if 0 ≤ x5 then ((laws_szPost.f ((rd_T75 x0 x5).f0) ((rd_T75 x0 x5).f1) x1).bind fun t220 => (if t220 < 0 then (some (-1)) else (laws_szPostS.l0 k x0 t220 (wrap64 (x5 + 1))))) else (none)) else (some x1)
def laws_szPostS.f (k : Nat) (l0 : List (S75)) (a1 : Int) : Option (Int) := if (wrap64 (a1 - (l0.length : Int))) < 0 then (some (-1)) else (laws_szPostS.l0 k l0 (wrap64 (a1 - (l0.length : Int))) 0)
theorem laws_szPostS.mono_l : ∀ k, (∀ y0 y1 y2, LeO (laws_szPostS.l0 k y0 y1 y2) (laws_szPostS.l0 (k + 1) y0 y1 y2))
  | 0 => fun _ _ _ r h => by simp [laws_szPostS.l0] at h
  | k + 1 => by
    have ih0 := laws_szPostS.mono_l k
    · intro y0 y1 y2
      unfold laws_szPostS.l0
      repeat' first
      | (with_reducible exact ih0 _ _ _)
      | (with_reducible exact LeO.refl _)
      | (with_reducible exact LeO.none _)
      | (with_reducible refine LeO.ite ?_ ?_)
      | (with_reducible refine LeO.bind ?_ (fun _ => ?_))
      | exact ih0 _ _ _
      | exact LeO.none _
      | refine LeO.ite ?_ ?_
      | refine LeO.bind ?_ (fun _ => ?_)
theorem laws_szPostS.mono : ∀ a0 a1 k, LeO (laws_szPostS.f k a0 a1) (laws_szPostS.f (k + 1) a0 a1) := by
  intro a0 a1 k
  have ih0 := laws_szPostS.mono_l k
  unfold laws_szPostS.f
  repeat' first
      | (with_reducible exact ih0 _ _ _)
      | (with_reducible exact LeO.refl _)
      | (with_reducible exact LeO.none _)
      | (with_reducible refine LeO.ite ?_ ?_)
      | (with_reducible refine LeO.bind ?_ (fun _ => ?_))
      | exact ih0 _ _ _
      | exact LeO.none _
      | refine LeO.ite ?_ ?_
      | refine LeO.bind ?_ (fun _ => ?_)
set_option maxHeartbeats 8000000 in
set_option maxRecDepth 100000 in
theorem laws_szPostS.calls (k : Nat) (A0 : Option Addr) (c0 : Nat) (l0 : List (S75)) (a1 : Int) (r : Int) (w : World) (hr0 : Kd.C k75 w A0 l0.length l0) (hc0 : l0.length ≤ c0) (h : laws_szPostS.f k l0 a1 = some r) :
    Calls Try.prog 29 #[.slice A0 l0.length c0, .int .i64 a1] w fun e w' => e = .returned (.int .i64 r) ∧ Below w.heap.size w w' := by
  have hu75 := Try.underlying75
  have HR0 := Aside0.mk hr0
  have HC0 := Aside0.mk hc0
  clear hr0 hc0
  have HB := Aside0.mk (Below.refl w.heap.size w)
  have H : (if (wrap64 (a1 - (l0.length : Int))) < 0 then (some (-1)) else (laws_szPostS.l0 k l0 (wrap64 (a1 - (l0.length : Int))) 0)) = some r := h
  clear h
  by_cases c3 : (wrap64 (a1 - (l0.length : Int))) < 0
  · rw [if_pos c3] at H
    have c3b0 : decide ((wrap64 (a1 - (l0.length : Int))) < 0) = true := decide_eq_true c3
    clear c3
    obtain rfl := Option.some.inj H
    go_enter Try.func29, Try.ntmps29
    go_wp2
    go_ret
    exact ⟨by first | rfl | (simp [errW_none, errW_some] <;> rfl) | (simp [*, errW_none, errW_some] <;> rfl), by repeat (first | (with_reducible first | exact HB.out | apply below_alloc | apply pw_below_drewN | apply below_drew1) | exact HB.out)⟩
  · rw [if_neg c3] at H
    have c3b0 : decide ((wrap64 (a1 - (l0.length : Int))) < 0) = false := decide_eq_false c3
    clear c3
    have H' := Aside0.mk H
    clear H
    go_enter Try.func29, Try.ntmps29
    go_wp2
    go_loopg [1, 5] k (fun kq v1 v5 w' => ∃ (x1_1 : Int) (x5_1 : Int), v1 = .int .i64 x1_1 ∧ v5 = .int .i64 x5_1 ∧ Aside0 (laws_szPostS.l0 kq l0 x1_1 x5_1 = some r) ∧ Aside0 (kq ≤ k) ∧ Aside0 (Below w.heap.size w w'))
    case atStart => exact ⟨(wrap64 (a1 - (l0.length : Int))), (0), (by first | rfl | (simp; done) | (simp [*]; done)), (by first | rfl | (simp; done) | (simp [*]; done)), H', ⟨Nat.le_refl _⟩, ⟨by repeat (first | (with_reducible first | exact HB.out | apply below_alloc | apply pw_below_drewN | apply below_drew1) | exact HB.out)⟩⟩
    case round =>
      clear H'
      try clear c2
      try clear p2
      try clear c3
      try clear c3b0
      obtain ⟨x1_1, x5_1, rfl, rfl, HA, HK1, HB⟩ := hrel
      cases gk with
      | zero => exact absurd HA.out (by simp [laws_szPostS.l0])
      | succ k1 =>
        have H := HA.out
        clear HA
        simp only [laws_szPostS.l0] at H
        by_cases c4 : x5_1 < (l0.length : Int)
        · rw [if_pos c4] at H
          have c4b0 : decide (x5_1 < (l0.length : Int)) = true := decide_eq_true c4
          clear c4
          by_cases c5 : 0 ≤ x5_1
          · rw [if_pos c5] at H
            have c5b0 : decide (0 ≤ x5_1) = true := decide_eq_true c5
            clear c5
            replace H := Option.bind_eq_some_iff.mp H
            obtain ⟨t220, A60, H⟩ := H
            replace H : (if t220 < 0 then (some (-1)) else (laws_szPostS.l0 k1 l0 t220 (wrap64 (x5_1 + 1)))) = some r := H
            have A6 := Aside0.mk A60
            clear A60
            by_cases c7 : t220 < 0
            · rw [if_pos c7] at H
              have c7b0 : decide (t220 < 0) = true := decide_eq_true c7
              clear c7
              obtain rfl := Option.some.inj H
              have p219 : 0 ≤ (x5_1 : Int) := of_decide_eq_true (by first | (with_reducible assumption) | assumption)
              have q219 : x5_1 < (l0.length : Int) := of_decide_eq_true (by first | (with_reducible assumption) | assumption)
              obtain ⟨ad219, A219_1, c219_1, e219, hx219_0, hx219_1, hl219_1, hi219_1⟩ := at_T75 HR0.out x5_1 p219 q219
              cases e219
              replace hx219_0 := (HB.out.cell (World.block_lt_of_cell? w _ hx219_0)).trans hx219_0
              replace hx219_1 := (HB.out.cell (World.block_lt_of_cell? w _ hx219_1)).trans hx219_1
              have HR219_1 := Aside0.mk hi219_1
              have HC219_1 := Aside0.mk hl219_1
              clear hi219_1 hl219_1
              replace p219 := eq_true p219
              replace q219 := eq_true q219
              go_wp2_with (first | ((with_reducible refine gate_callee (f := 66) rfl ?_); refine goesL_ (some 23) rfl rfl Try.func66 (by kernel_rfl) rfl #[.agg #[.int .i64 ((rd_T75 l0 x5_1).f0), .slice A219_1 ((rd_T75 l0 x5_1).f1).length c219_1], .int .i64 x1_1] rfl (by (try simp only [List.map_toArray, List.map_cons, List.map_nil]); first | done | rfl | (simp only [List.length_drop, List.length_take]; rfl)) ?_; (with_reducible refine (laws_szPost.calls ((rd_T75 l0 x5_1).f0) _ _ ((rd_T75 l0 x5_1).f1) x1_1 t220 _ ?side1 ?side2 A6.out).mono ?_); (case side1 => repeat (first | exact (Kd.C_below HR219_1.out HB.out) | (with_reducible refine Kd.C_alloc ?_ _) | (with_reducible refine Kd.C_drewN ?_ _) | (with_reducible refine Kd.C_drew ?_))); (case side2 => exact HC219_1.out); rintro e w8 ⟨rfl, hb⟩; refine ⟨_, rfl, ?_⟩; have n0_ := Aside0.mk (below_step (by repeat (first | (with_reducible first | exact HB.out | apply below_alloc | apply pw_below_drewN | apply below_drew1) | exact HB.out)) hb); clear HB; have HB := n0_; clear n0_; (try clear hb); (try clear hb2); (try clear hk); (try clear hi)))
              go_ret
              exact ⟨by first | rfl | (simp [errW_none, errW_some] <;> rfl) | (simp [*, errW_none, errW_some] <;> rfl), by repeat (first | (with_reducible first | exact HB.out | apply below_alloc | apply pw_below_drewN | apply below_drew1) | exact HB.out)⟩
            · rw [if_neg c7] at H
              have c7b0 : decide (t220 < 0) = false := decide_eq_false c7
              clear c7
              have H' := Aside0.mk H
              clear H
              have p219 : 0 ≤ (x5_1 : Int) := of_decide_eq_true (by first | (with_reducible assumption) | assumption)
              have q219 : x5_1 < (l0.length : Int) := of_decide_eq_true (by first | (with_reducible assumption) | assumption)
              obtain ⟨ad219, A219_1, c219_1, e219, hx219_0, hx219_1, hl219_1, hi219_1⟩ := at_T75 HR0.out x5_1 p219 q219
              cases e219
              replace hx219_0 := (HB.out.cell (World.block_lt_of_cell? w _ hx219_0)).trans hx219_0
              replace hx219_1 := (HB.out.cell (World.block_lt_of_cell? w _ hx219_1)).trans hx219_1
              have HR219_1 := Aside0.mk hi219_1
              have HC219_1 := Aside0.mk hl219_1
              clear hi219_1 hl219_1
              replace p219 := eq_true p219
              replace q219 := eq_true q219
              go_wp2_with (first | ((with_reducible refine gate_callee (f := 66) rfl ?_); refine goesL_ (some 23) rfl rfl Try.func66 (by kernel_rfl) rfl #[.agg #[.int .i64 ((rd_T75 l0 x5_1).f0), .slice A219_1 ((rd_T75 l0 x5_1).f1).length c219_1], .int .i64 x1_1] rfl (by (try simp only [List.map_toArray, List.map_cons, List.map_nil]); first | done | rfl | (simp only [List.length_drop, List.length_take]; rfl)) ?_; (with_reducible refine (laws_szPost.calls ((rd_T75 l0 x5_1).f0) _ _ ((rd_T75 l0 x5_1).f1) x1_1 t220 _ ?side1 ?side2 A6.out).mono ?_); (case side1 => repeat (first | exact (Kd.C_below HR219_1.out HB.out) | (with_reducible refine Kd.C_alloc ?_ _) | (with_reducible refine Kd.C_drewN ?_ _) | (with_reducible refine Kd.C_drew ?_))); (case side2 => exact HC219_1.out); rintro e w9 ⟨rfl, hb⟩; refine ⟨_, rfl, ?_⟩; have n0_ := Aside0.mk (below_step (by repeat (first | (with_reducible first | exact HB.out | apply below_alloc | apply pw_below_drewN | apply below_drew1) | exact HB.out)) hb); clear HB; have HB := n0_; clear n0_; (try clear hb); (try clear hb2); (try clear hk); (try clear hi)))
              go_roundg k1
              case measure => have := HK1.out; omega
              case rel => exact ⟨(t220), (wrap64 (x5_1 + 1)), (by first | rfl | (simp; done) | (simp [*]; done)), (by first | rfl | (simp; done) | (simp [*]; done)), H', ⟨by have := HK1.out; omega⟩, ⟨by repeat (first | (with_reducible first | exact HB.out | apply below_alloc | apply pw_below_drewN | apply below_drew1) | exact HB.out)⟩⟩
          · rw [if_neg c5] at H
            exact absurd H (by simp)
        · rw [if_neg c4] at H
          have c4b0 : decide (x5_1 < (l0.length : Int)) = false := decide_eq_false c4
          clear c4
          obtain rfl := Option.some.inj H
          go_wp2
          go_ret
          exact ⟨by first | rfl | (simp [errW_none, errW_some] <;> rfl) | (simp [*, errW_none, errW_some] <;> rfl), by repeat (first | (with_reducible first | exact HB.out | apply below_alloc | apply pw_below_drewN | apply below_drew1) | exact HB.out)⟩

end Go.Proofs.Ytcopakljdenolaa.Fn
namespace Go.Proofs.Ytcopakljdenolaa.Fn
open Go.RowKit Go.Proofs.YtcopakljdenolaaW.PrintWords Go.Proofs.YtcopakljdenolaaW.PrintLast Go.Proofs.YtcopakljdenolaaW.PrintMore
attribute [local go_sem] max2_int min2_int max_two min_two max_three min_three max_four min_four   -- for this text's walks alone
set_option linter.unusedVariables false
set_option linter.unusedSimpArgs false

/-! ### laws_toPost: function 69 -/
def laws_toPost.f (k : Nat) (a0_0 : Int) (l0_1 : List Int) : Option (Int × List Int) := (laws_toIntS.f k l0_1).bind fun t238 => (some (a0_0, t238))
theorem laws_toPost.mono : ∀ a0 a1 k, LeO (laws_toPost.f k a0 a1) (laws_toPost.f (k + 1) a0 a1) := by
  intro a0 a1 k
  unfold laws_toPost.f
  repeat' first
      | (with_reducible exact laws_toIntS.mono _ _)
      | (with_reducible exact LeO.refl _)
      | (with_reducible exact LeO.none _)
      | (with_reducible refine LeO.ite ?_ ?_)
      | (with_reducible refine LeO.bind ?_ (fun _ => ?_))
      | exact laws_toIntS.mono _ _
      | exact LeO.none _
      | refine LeO.ite ?_ ?_
      | refine LeO.bind ?_ (fun _ => ?_)
set_option maxHeartbeats 8000000 in
set_option maxRecDepth 100000 in
theorem laws_toPost.calls (k : Nat) (a0_0 : Int) (A0_1 : Option Addr) (c0_1 : Nat) (l0_1 : List Int) (r1 : Int) (r2 : List Int) (w : World) (hr0_1 : Kd.C (Kd.int .i64) w A0_1 l0_1.length l0_1) (hc0_1 : l0_1.length ≤ c0_1) (h : laws_toPost.f k a0_0 l0_1 = some (r1, r2)) :
    Calls Try.prog 69 #[.agg #[.int .i64 a0_0, .slice A0_1 l0_1.length c0_1]] w fun e w' => ∃ v1_ : Value, e = .returned (.agg #[.int .i64 r1, v1_]) ∧ Kd.R (Kd.int .i64) 3 w' w.heap.size (fun _ => True) v1_ r2 ∧ Below w.heap.size w w' := by
  have hu75 := Try.underlying75
  have hu57 := Try.underlying57
  have HR0_1 := Aside0.mk hr0_1
  have HC0_1 := Aside0.mk hc0_1
  clear hr0_1 hc0_1
  have HB := Aside0.mk (Below.refl w.heap.size w)
  have H : ((laws_toIntS.f k l0_1).bind fun t238 => (some (a0_0, t238))) = some (r1, r2) := h
  clear h
  replace H := Option.bind_eq_some_iff.mp H
  obtain ⟨t238, A20, H⟩ := H
  replace H : (some (a0_0, t238)) = some (r1, r2) := H
  have A2 := Aside0.mk A20
  clear A20
  simp only [Option.some.injEq, Prod.mk.injEq] at H
  obtain ⟨rfl, rfl⟩ := H
  go_enter Try.func69, Try.ntmps69
  go_wp2_with (first | ((with_reducible refine gate_dst (N := 1) rfl ?_); refine box_event ?hg (N := 1) ?hd (cs := #[.int .i64 a0_0, .slice A0_1 l0_1.length c0_1]) (t := 75) ?hr ?_; (case hd => rfl); (case hg => rfl); (case hr => first | (go_simp; done) | (go_simp; rfl)); intro gb235 hg w3 hbox hb; have n0_ := Aside0.mk (below_step (by repeat (first | (with_reducible first | exact HB.out | apply below_alloc | apply pw_below_drewN | apply below_drew1) | exact HB.out)) hb); have n1_ := Aside0.mk (hbox); have n2_ := Aside0.mk ((by rw [hg]; exact (below_size (by repeat (first | (with_reducible first | exact HB.out | apply below_alloc | apply pw_below_drewN | apply below_drew1) | exact HB.out))) : w.heap.size ≤ gb235)); have n3_ := Aside0.mk ((by rw [hg]; exact (below_size (by repeat (first | (with_reducible first | exact HB.out | apply below_alloc | apply pw_below_drewN | apply below_drew1) | exact HB.out))) : w.heap.size ≤ gb235)); clear HB; have HB := n0_; have BK235 := n1_; have GW235 := n2_; have GE235 := n3_; clear n0_ n1_ n2_ n3_; clear hb hbox hg) | ((with_reducible refine gate_dst (N := 2) rfl ?_); refine box_event ?hg (N := 2) ?hd (cs := #[.int .i64 0, .slice none 0 0]) (t := 57) ?hr ?_; (case hd => rfl); (case hg => rfl); (case hr => first | (go_simp; done) | (go_simp; rfl)); intro gb236 hg w4 hbox hb; have n0_ := Aside0.mk (blk_below (g := gb235) (o := .cells #[.int .i64 a0_0, .slice A0_1 l0_1.length c0_1] 75 (0, 0)) (by (with_reducible repeat (first | refine blk_drewN ?_ _ | refine blk_drew ?_ | refine blk_alloc ?_ _)); exact BK235.out) hb); have n1_ := Aside0.mk (below_step (by repeat (first | (with_reducible first | exact HB.out | apply below_alloc | apply pw_below_drewN | apply below_drew1 | refine below_set ?_ GE235.out) | exact HB.out)) hb); have n2_ := Aside0.mk (hbox); have n3_ := Aside0.mk ((by rw [hg]; exact (below_size (by repeat (first | (with_reducible first | exact HB.out | apply below_alloc | apply pw_below_drewN | apply below_drew1 | refine below_set ?_ GE235.out) | exact HB.out))) : w.heap.size ≤ gb236)); have n4_ := Aside0.mk ((by rw [hg]; exact (below_size (by repeat (first | (with_reducible first | exact HB.out | apply below_alloc | apply pw_below_drewN | apply below_drew1 | refine below_set ?_ GE235.out) | exact HB.out))) : w.heap.size ≤ gb236)); have n5_ := Aside0.mk ((by rw [hg]; exact Nat.ne_of_lt (blk_lt (g := gb235) (o := .cells #[.int .i64 a0_0, .slice A0_1 l0_1.length c0_1] 75 (0, 0)) (by (with_reducible repeat (first | refine blk_drewN ?_ _ | refine blk_drew ?_ | refine blk_alloc ?_ _)); exact BK235.out)) : gb235 ≠ gb236)); have n6_ := Aside0.mk ((by rw [hg]; exact Nat.ne_of_gt (blk_lt (g := gb235) (o := .cells #[.int .i64 a0_0, .slice A0_1 l0_1.length c0_1] 75 (0, 0)) (by (with_reducible repeat (first | refine blk_drewN ?_ _ | refine blk_drew ?_ | refine blk_alloc ?_ _)); exact BK235.out)) : gb236 ≠ gb235)); clear BK235; clear HB; have BK235 := n0_; have HB := n1_; have BK236 := n2_; have GW236 := n3_; have GE236 := n4_; have NB235_236 := n5_; have NB236_235 := n6_; clear n0_ n1_ n2_ n3_ n4_ n5_ n6_; clear hb hbox hg) | ((with_reducible refine gate_dst (N := 3) rfl ?_); refine box_event ?hg (N := 3) ?hd (cs := #[.int .i64 0, .slice none 0 0]) (t := 57) ?hr ?_; (case hd => rfl); (case hg => rfl); (case hr => first | (go_simp; done) | (go_simp; rfl)); intro gb237 hg w5 hbox hb; have n0_ := Aside0.mk (blk_below (g := gb235) (o := .cells #[.int .i64 a0_0, .slice A0_1 l0_1.length c0_1] 75 (0, 0)) (by (with_reducible repeat (first | refine blk_drewN ?_ _ | refine blk_drew ?_ | refine blk_alloc ?_ _)); exact BK235.out) hb); have n1_ := Aside0.mk (blk_below (g := gb236) (o := .cells #[.int .i64 0, .slice none 0 0] 57 (0, 0)) (by (with_reducible repeat (first | refine blk_drewN ?_ _ | refine blk_drew ?_ | refine blk_alloc ?_ _)); exact BK236.out) hb); have n2_ := Aside0.mk (below_step (by repeat (first | (with_reducible first | exact HB.out | apply below_alloc | apply pw_below_drewN | apply below_drew1 | refine below_set ?_ GE235.out | refine below_set ?_ GE236.out) | exact HB.out)) hb); have n3_ := Aside0.mk (hbox); have n4_ := Aside0.mk ((by rw [hg]; exact (below_size (by repeat (first | (with_reducible first | exact HB.out | apply below_alloc | apply pw_below_drewN | apply below_drew1 | refine below_set ?_ GE235.out | refine below_set ?_ GE236.out) | exact HB.out))) : w.heap.size ≤ gb237)); have n5_ := Aside0.mk ((by rw [hg]; exact (below_size (by repeat (first | (with_reducible first | exact HB.out | apply below_alloc | apply pw_below_drewN | apply below_drew1 | refine below_set ?_ GE235.out | refine below_set ?_ GE236.out) | exact HB.out))) : w.heap.size ≤ gb237)); have n6_ := Aside0.mk ((by rw [hg]; exact Nat.ne_of_lt (blk_lt (g := gb235) (o := .cells #[.int .i64 a0_0, .slice A0_1 l0_1.length c0_1] 75 (0, 0)) (by (with_reducible repeat (first | refine blk_drewN ?_ _ | refine blk_drew ?_ | refine blk_alloc ?_ _)); exact BK235.out)) : gb235 ≠ gb237)); have n7_ := Aside0.mk ((by rw [hg]; exact Nat.ne_of_gt (blk_lt (g := gb235) (o := .cells #[.int .i64 a0_0, .slice A0_1 l0_1.length c0_1] 75 (0, 0)) (by (with_reducible repeat (first | refine blk_drewN ?_ _ | refine blk_drew ?_ | refine blk_alloc ?_ _)); exact BK235.out)) : gb237 ≠ gb235)); have n8_ := Aside0.mk ((by rw [hg]; exact Nat.ne_of_lt (blk_lt (g := gb236) (o := .cells #[.int .i64 0, .slice none 0 0] 57 (0, 0)) (by (with_reducible repeat (first | refine blk_drewN ?_ _ | refine blk_drew ?_ | refine blk_alloc ?_ _)); exact BK236.out)) : gb236 ≠ gb237)); have n9_ := Aside0.mk ((by rw [hg]; exact Nat.ne_of_gt (blk_lt (g := gb236) (o := .cells #[.int .i64 0, .slice none 0 0] 57 (0, 0)) (by (with_reducible repeat (first | refine blk_drewN ?_ _ | refine blk_drew ?_ | refine blk_alloc ?_ _)); exact BK236.out)) : gb237 ≠ gb236)); clear BK235; clear BK236; clear HB; have BK235 := n0_; have BK236 := n1_; have HB := n2_; have BK237 := n3_; have GW237 := n4_; have GE237 := n5_; have NB235_237 := n6_; have NB237_235 := n7_; have NB236_237 := n8_; have NB237_236 := n9_; clear n0_ n1_ n2_ n3_ n4_ n5_ n6_ n7_ n8_ n9_; clear hb hbox hg; have hnb6 := NB235_236.out; have hnc6 := NB236_235.out; have hnb7 := NB235_237.out; have hnc7 := NB237_235.out; have hcz8_0 : w5.cell? ⟨gb235, 0, none⟩ = some (.int .i64 a0_0) := (blk_cell BK235.out 0).trans rfl; have hcz8_1 : w5.cell? ⟨gb235, 1, none⟩ = some (.slice A0_1 l0_1.length c0_1) := (blk_cell BK235.out 1).trans rfl; have hfz8_0 := blk_frozen BK235.out 0; have hfz8_1 := blk_frozen BK235.out 1; have hnb9 := NB237_236.out; have hnc9 := NB236_237.out; have hcz10_0 : w5.cell? ⟨gb237, 0, none⟩ = some (.int .i64 0) := (blk_cell BK237.out 0).trans rfl; have hcz10_1 : w5.cell? ⟨gb237, 1, none⟩ = some (.slice none 0 0) := (blk_cell BK237.out 1).trans rfl; have hfz10_0 := blk_frozen BK237.out 0; have hfz10_1 := blk_frozen BK237.out 1) | ((with_reducible refine gate_callee (f := 98) rfl ?_); refine goesL_ (some 9) rfl rfl Try.func98 (by kernel_rfl) rfl #[.slice A0_1 l0_1.length c0_1] rfl (by (try simp only [List.map_toArray, List.map_cons, List.map_nil]); first | done | rfl | (simp only [List.length_drop, List.length_take]; rfl)) ?_; (with_reducible refine (laws_toIntS.calls k _ _ l0_1 t238 _ ?side1 ?side2 A2.out).mono ?_); (case side1 => exact Kd.C_below HR0_1.out (by repeat (first | (with_reducible first | exact HB.out | apply below_alloc | apply pw_below_drewN | apply below_drew1 | refine below_set ?_ GE235.out | refine below_set ?_ GE236.out | refine below_set ?_ GE237.out) | exact HB.out))); (case side2 => exact HC0_1.out); rintro e w11 ⟨v239, rfl, ho0, hb⟩; refine ⟨_, rfl, ?_⟩; have n0_ := Aside0.mk (Kd.R_lower ho0 (below_size (by repeat (first | (with_reducible first | exact HB.out | apply below_alloc | apply pw_below_drewN | apply below_drew1 | refine below_set ?_ GE235.out | refine below_set ?_ GE236.out | refine below_set ?_ GE237.out) | exact HB.out)))); have n1_ := Aside0.mk (blk_below (g := gb235) (o := .cells #[.int .i64 a0_0, .slice A0_1 l0_1.length c0_1] 75 (0, 0)) (by (with_reducible repeat (first | refine blk_drewN ?_ _ | refine blk_drew ?_ | refine blk_alloc ?_ _)); refine blk_far ?_ NB235_237.out _; (with_reducible repeat (first | refine blk_drewN ?_ _ | refine blk_drew ?_ | refine blk_alloc ?_ _)); exact BK235.out) hb); have n2_ := Aside0.mk (blk_below (g := gb236) (o := .cells #[.int .i64 0, .slice none 0 0] 57 (0, 0)) (by (with_reducible repeat (first | refine blk_drewN ?_ _ | refine blk_drew ?_ | refine blk_alloc ?_ _)); refine blk_far ?_ NB236_237.out _; (with_reducible repeat (first | refine blk_drewN ?_ _ | refine blk_drew ?_ | refine blk_alloc ?_ _)); exact BK236.out) hb); have n3_ := Aside0.mk (blk_below (g := gb237) (o := .cells #[.int .i64 a0_0, .slice none 0 0] 57 (0, 0)) (by (with_reducible repeat (first | refine blk_drewN ?_ _ | refine blk_drew ?_ | refine blk_alloc ?_ _)); refine blk_put (cs := #[.int .i64 0, .slice none 0 0]) ?_ 0 _ rfl; (with_reducible repeat (first | refine blk_drewN ?_ _ | refine blk_drew ?_ | refine blk_alloc ?_ _)); exact BK237.out) hb); have n4_ := Aside0.mk (below_step (by repeat (first | (with_reducible first | exact HB.out | apply below_alloc | apply pw_below_drewN | apply below_drew1 | refine below_set ?_ GE235.out | refine below_set ?_ GE236.out | refine below_set ?_ GE237.out) | exact HB.out)) hb); clear BK235; clear BK236; clear BK237; clear HB; have HO240 := n0_; have BK235 := n1_; have BK236 := n2_; have BK237 := n3_; have HB := n4_; clear n0_ n1_ n2_ n3_ n4_; (try clear hb); (try clear hb2); (try clear hk); (try clear hi); (try clear ho0); obtain ⟨Ao12, co12, eo12⟩ := Kd.R_slice HO240.out; subst eo12; have hcz13_0 : w11.cell? ⟨gb237, 0, none⟩ = some (.int .i64 a0_0) := (blk_cell BK237.out 0).trans rfl; have hcz13_1 : w11.cell? ⟨gb237, 1, none⟩ = some (.slice none 0 0) := (blk_cell BK237.out 1).trans rfl; have hfz13_0 := blk_frozen BK237.out 0; have hfz13_1 := blk_frozen BK237.out 1; have hcz14_0 : w11.cell? ⟨gb236, 0, none⟩ = some (.int .i64 0) := (blk_cell BK236.out 0).trans rfl; have hcz14_1 : w11.cell? ⟨gb236, 1, none⟩ = some (.slice none 0 0) := (blk_cell BK236.out 1).trans rfl; have hfz14_0 := blk_frozen BK236.out 0; have hfz14_1 := blk_frozen BK236.out 1))
  refine bodyPost_ret (results_cell_row rfl _ _ gb236 57 #[.int .i64 a0_0, .slice Ao12 t238.length co12] (0, 0) _ rfl (by (with_reducible repeat (first | refine blk_drewN ?_ _ | refine blk_drew ?_ | refine blk_alloc ?_ _)); refine blk_put (cs := #[.int .i64 a0_0, .slice none 0 0]) ?_ 1 _ rfl; (with_reducible repeat (first | refine blk_drewN ?_ _ | refine blk_drew ?_ | refine blk_alloc ?_ _)); refine blk_put (cs := #[.int .i64 0, .slice none 0 0]) ?_ 0 _ rfl; (with_reducible repeat (first | refine blk_drewN ?_ _ | refine blk_drew ?_ | refine blk_alloc ?_ _)); refine blk_far ?_ NB236_237.out _; (with_reducible repeat (first | refine blk_drewN ?_ _ | refine blk_drew ?_ | refine blk_alloc ?_ _)); exact BK236.out) Try.underlying57 rfl (by kernel_rfl)) rfl ?_
  exact ⟨_, by first | rfl | (simp [errW_none, errW_some] <;> rfl) | (simp [*, errW_none, errW_some] <;> rfl), by (with_reducible repeat (first | apply Kd.R_alloc | apply Kd.R_drewN | apply Kd.R_drew)); exact Kd.R_mono (Kd.R_far (p := ⟨gb236, 1, none⟩) (Kd.R_far (p := ⟨gb236, 0, none⟩) (Kd.R_far (p := ⟨gb237, 1, none⟩) (Kd.R_types (Kd.R_types HO240.out BK237.out (by decide)) BK236.out (by decide)) (fun _ hk => hk.1.2) (.slice Ao12 t238.length co12)) (fun _ hk => hk.2) (.int .i64 a0_0)) (fun _ hk => hk.2) (.slice Ao12 t238.length co12)) (fun _ hk => trivial), by repeat (first | (with_reducible first | exact HB.out | apply below_alloc | apply pw_below_drewN | apply below_drew1 | refine below_set ?_ GE235.out | refine below_set ?_ GE236.out | refine below_set ?_ GE237.out) | exact HB.out)⟩

end Go.Proofs.Ytcopakljdenolaa.Fn
namespace Go.Proofs.Ytcopakljdenolaa.Fn
open Go.RowKit Go.Proofs.YtcopakljdenolaaW.PrintWords Go.Proofs.YtcopakljdenolaaW.PrintLast Go.Proofs.YtcopakljdenolaaW.PrintMore
attribute [local go_sem] max2_int min2_int max_two min_two max_three min_three max_four min_four   -- for this text's walks alone
set_option linter.unusedVariables false
set_option linter.unusedSimpArgs false

/-! ### laws_toPostS: function 31 -/
def laws_toPostS.l0 : Nat → List (S75) → List (S57) → Int → Option ((List (S57)))
  | 0, _, _, _ => none
  | k + 1, x0, x3, x4 => if x4 < (x0.length : Int) then (if 0 ≤ x4 then ((laws_toPost.f k ((rd_T75 x0 x4).f0) ((rd_T75 x0 x4).f1)).bind fun bt245 => (if x4 < (x3.length : Int) then (laws_toPostS.l0 k x0 (x3.set (x4 : Int).toNat (⟨bt245.1, bt245.2⟩ : S57)) (wrap64 (x4 + 1))) else (none))) else (none)) else (some x3)
def laws_toPostS.f (k : Nat) (l0 : List (S75)) : Option ((List (S57))) := if 0 ≤ (l0.length : Int) then (if ((l0.length : Int) : Int).toNat ≤ 8796093022208 then (laws_toPostS.l0 k l0 (List.replicate ((l0.length : Int) : Int).toNat z57) 0) else (none)) else (none)
theorem laws_toPostS.mono_l : ∀ k, (∀ y0 y1 y2, LeO (laws_toPostS.l0 k y0 y1 y2) (laws_toPostS.l0 (k + 1) y0 y1 y2))
  | 0 => fun _ _ _ r h => by simp [laws_toPostS.l0] at h
  | k + 1 => by
    have ih0 := laws_toPostS.mono_l k
    · intro y0 y1 y2
      unfold laws_toPostS.l0
      repeat' first
      | (with_reducible exact ih0 _ _ _)
      | (with_reducible exact laws_toPost.mono _ _ _)
      | (with_reducible exact LeO.refl _)
      | (with_reducible exact LeO.none _)
      | (with_reducible refine LeO.ite ?_ ?_)
      | (with_reducible refine LeO.bind ?_ (fun _ => ?_))
      | exact ih0 _ _ _
      | exact laws_toPost.mono _ _ _
      | exact LeO.none _
      | refine LeO.ite ?_ ?_
      | refine LeO.bind ?_ (fun _ => ?_)
theorem laws_toPostS.mono : ∀ a0 k, LeO (laws_toPostS.f k a0) (laws_toPostS.f (k + 1) a0) := by
  intro a0 k
  have ih0 := laws_toPostS.mono_l k
  unfold laws_toPostS.f
  repeat' first
      | (with_reducible exact ih0 _ _ _)
      | (with_reducible exact laws_toPost.mono _ _ _)
      | (with_reducible exact LeO.refl _)
      | (with_reducible exact LeO.none _)
      | (with_reducible refine LeO.ite ?_ ?_)
      | (with_reducible refine LeO.bind ?_ (fun _ => ?_))
      | exact ih0 _ _ _
      | exact laws_toPost.mono _ _ _
      | exact LeO.none _
      | refine LeO.ite ?_ ?_
      | refine LeO.bind ?_ (fun _ => ?_)
set_option maxHeartbeats 8000000 in
set_option maxRecDepth 100000 in
theorem laws_toPostS.calls (k : Nat) (A0 : Option Addr) (c0 : Nat) (l0 : List (S75)) (r : List (S57)) (w : World) (hr0 : Kd.C k75 w A0 l0.length l0) (hc0 : l0.length ≤ c0) (h : laws_toPostS.f k l0 = some r) :
    Calls Try.prog 31 #[.slice A0 l0.length c0] w fun e w' => ∃ v0_ : Value, e = .returned (v0_) ∧ Kd.S k57 57 w' w.heap.size (fun _ => True) v0_ r ∧ Below w.heap.size w w' := by
  have hu75 := Try.underlying75
  have hu57 := Try.underlying57
  have HR0 := Aside0.mk hr0
  have HC0 := Aside0.mk hc0
  clear hr0 hc0
  have HB := Aside0.mk (Below.refl w.heap.size w)
  have H : (if 0 ≤ (l0.length : Int) then (if ((l0.length : Int) : Int).toNat ≤ 8796093022208 then (laws_toPostS.l0 k l0 (List.replicate ((l0.length : Int) : Int).toNat z57) 0) else (none)) else (none)) = some r := h
  clear h
  by_cases c2 : 0 ≤ (l0.length : Int)
  · rw [if_pos c2] at H
    have c2b0 := eq_true c2
    have c2b1 : decide (0 ≤ (l0.length : Int)) = true := decide_eq_true c2
    clear c2
    by_cases c3 : ((l0.length : Int) : Int).toNat ≤ 8796093022208
    · rw [if_pos c3] at H
      have c3b0 := eq_true c3
      have c3b1 : decide (((l0.length : Int) : Int).toNat ≤ 8796093022208) = true := decide_eq_true c3
      clear c3
      obtain ⟨y241, hy241⟩ : ∃ y_ : List (S57), y_ = (List.replicate ((l0.length : Int) : Int).toNat z57) := ⟨_, rfl⟩
      replace H : (laws_toPostS.l0 k l0 y241 0) = some r := by first | (rw [hy241]; with_reducible exact H) | (have H2_ := (Option.bind_some _ _).symm.trans H; rw [hy241]; with_reducible exact H2_) | (have H2_ := (Option.bind_some _ _).symm.trans H; with_reducible exact H2_) | with_reducible exact H | (rw [hy241]; exact H) | exact H
      have Ny241 := Aside0.mk hy241
      clear hy241
      have H' := Aside0.mk H
      clear H
      go_enter Try.func31, Try.ntmps31
      go_wp2_with (first | ((with_reducible refine gate_dst (N := 7) rfl ?_); refine Kd.S_make k57 _ 57 rfl (N := 7) rfl 28 _ _ rfl (l0.length : Int) rfl rfl Try.underlying28 (.agg #[(.int .i64 0), (.slice none 0 0)]) 32 info57 rfl (by decide) (by omega) z57 (ok := fun _ => True) (okp := fun _ => True) (k57_mkM _ _ _ z57 (Kd.R_nil _ _ _ _ _)) (fun _ hk => hk) trivial (of_decide_eq_true (by first | (with_reducible assumption) | assumption)) (Nat.le_trans (Nat.mul_le_mul_right _ (of_decide_eq_true (by first | (with_reducible assumption) | assumption) : (l0.length : Int).toNat ≤ 8796093022208)) (by omega)) (Below.refl _ _) (Nat.le_refl _) ?_; intro v242 w4 ho5 hb hg_ hnew_; clear hg_ hnew_; (first | rw [← Ny241.out] at ho5 | (simp only [Int.reduceToNat] at ho5; rw [← Ny241.out] at ho5)); have n0_ := Aside0.mk (Kd.S_lower ho5 (below_size (by repeat (first | (with_reducible first | exact HB.out | apply below_alloc | apply pw_below_drewN | apply below_drew1) | exact HB.out)))); have n1_ := Aside0.mk (below_step (by repeat (first | (with_reducible first | exact HB.out | apply below_alloc | apply pw_below_drewN | apply below_drew1) | exact HB.out)) hb); clear HB; have HO243 := n0_; have HB := n1_; clear n0_ n1_; clear hb ho5))
      go_loopg [4] k (fun kq v4 w' => ∃ (x3_1 : List (S57)) (x4_1 : Int), v4 = .int .i64 x4_1 ∧ Aside0 (laws_toPostS.l0 kq l0 x3_1 x4_1 = some r) ∧ Aside0 (kq ≤ k) ∧ Aside0 (Kd.S k57 57 w' w.heap.size (fun _ => True) v242 x3_1) ∧ Aside0 (Below w.heap.size w w'))
      case atStart => exact ⟨(y241), (0), (by first | rfl | (simp; done) | (simp [*]; done)), H', ⟨Nat.le_refl _⟩, ⟨by (with_reducible repeat (first | apply Kd.S_alloc | apply Kd.S_drewN | apply Kd.S_drew)); exact HO243.out⟩, ⟨by repeat (first | (with_reducible first | exact HB.out | apply below_alloc | apply pw_below_drewN | apply below_drew1) | exact HB.out)⟩⟩
      case round =>
        clear H'
        try clear c2
        try clear c2b0
        try clear c2b1
        try clear p2
        try clear c3
        try clear c3b0
        try clear c3b1
        obtain ⟨x3_1, x4_1, rfl, HA, HK1, HO_3, HB⟩ := hrel
        cases gk with
        | zero => exact absurd HA.out (by simp [laws_toPostS.l0])
        | succ k1 =>
          have H := HA.out
          clear HA
          simp only [laws_toPostS.l0] at H
          by_cases c6 : x4_1 < (l0.length : Int)
          · rw [if_pos c6] at H
            have c6b0 : decide (x4_1 < (l0.length : Int)) = true := decide_eq_true c6
            clear c6
            by_cases c7 : 0 ≤ x4_1
            · rw [if_pos c7] at H
              have c7b0 : decide (0 ≤ x4_1) = true := decide_eq_true c7
              clear c7
              replace H := Option.bind_eq_some_iff.mp H
              obtain ⟨⟨t245, t246⟩, A80, H⟩ := H
              replace H : (if x4_1 < (x3_1.length : Int) then (laws_toPostS.l0 k1 l0 (x3_1.set (x4_1 : Int).toNat (⟨t245, t246⟩ : S57)) (wrap64 (x4_1 + 1))) else (none)) = some r := H
              have A8 := Aside0.mk A80
              clear A80
              by_cases c9 : x4_1 < (x3_1.length : Int)
              · rw [if_pos c9] at H
                have c9b0 : decide (x4_1 < (x3_1.length : Int)) = true := decide_eq_true c9
                clear c9
                obtain ⟨y249, hy249⟩ : ∃ y_ : List (S57), y_ = (x3_1.set (x4_1 : Int).toNat (⟨t245, t246⟩ : S57)) := ⟨_, rfl⟩
                replace H : (laws_toPostS.l0 k1 l0 y249 (wrap64 (x4_1 + 1))) = some r := by first | (rw [hy249]; with_reducible exact H) | (have H2_ := (Option.bind_some _ _).symm.trans H; rw [hy249]; with_reducible exact H2_) | (have H2_ := (Option.bind_some _ _).symm.trans H; with_reducible exact H2_) | with_reducible exact H | (rw [hy249]; exact H) | exact H
                have Ny249 := Aside0.mk hy249
                clear hy249
                have H' := Aside0.mk H
                clear H
                have p244 : 0 ≤ (x4_1 : Int) := of_decide_eq_true (by first | (with_reducible assumption) | assumption)
                have q244 : x4_1 < (l0.length : Int) := of_decide_eq_true (by first | (with_reducible assumption) | assumption)
                obtain ⟨ad244, A244_1, c244_1, e244, hx244_0, hx244_1, hl244_1, hi244_1⟩ := at_T75 HR0.out x4_1 p244 q244
                cases e244
                replace hx244_0 := (HB.out.cell (World.block_lt_of_cell? w _ hx244_0)).trans hx244_0
                replace hx244_1 := (HB.out.cell (World.block_lt_of_cell? w _ hx244_1)).trans hx244_1
                have HR244_1 := Aside0.mk hi244_1
                have HC244_1 := Aside0.mk hl244_1
                clear hi244_1 hl244_1
                replace p244 := eq_true p244
                replace q244 := eq_true q244
                go_wp2_with (first | ((with_reducible refine gate_callee (f := 69) rfl ?_); refine goesL_ (some 20) rfl rfl Try.func69 (by kernel_rfl) rfl #[.agg #[.int .i64 ((rd_T75 l0 x4_1).f0), .slice A244_1 ((rd_T75 l0 x4_1).f1).length c244_1]] rfl (by (try simp only [List.map_toArray, List.map_cons, List.map_nil]); first | done | rfl | (simp only [List.length_drop, List.length_take]; rfl)) ?_; (with_reducible refine (laws_toPost.calls k1 ((rd_T75 l0 x4_1).f0) _ _ ((rd_T75 l0 x4_1).f1) t245 t246 _ ?side1 ?side2 A8.out).mono ?_); (case side1 => repeat (first | exact (Kd.C_below HR244_1.out HB.out) | (with_reducible refine Kd.C_alloc ?_ _) | (with_reducible refine Kd.C_drewN ?_ _) | (with_reducible refine Kd.C_drew ?_))); (case side2 => exact HC244_1.out); rintro e w11 ⟨v247, rfl, ho0, hb⟩; refine ⟨_, rfl, ?_⟩; have n0_ := Aside0.mk (Kd.S_elder' (by (with_reducible repeat (first | apply Kd.S_alloc | apply Kd.S_drewN | apply Kd.S_drew)); exact HO_3.out) (Kd.R_base ho0) hb); have n1_ := Aside0.mk (Kd.R_lower ho0 (below_size (by repeat (first | (with_reducible first | exact HB.out | apply below_alloc | apply pw_below_drewN | apply below_drew1) | exact HB.out)))); have n2_ := Aside0.mk (below_step (by repeat (first | (with_reducible first | exact HB.out | apply below_alloc | apply pw_below_drewN | apply below_drew1) | exact HB.out)) hb); clear HO_3; clear HB; have HO_3 := n0_; have HO248 := n1_; have HB := n2_; clear n0_ n1_ n2_; (try clear hb); (try clear hb2); (try clear hk); (try clear hi); (try clear ho0); have p10 : 0 ≤ (x4_1 : Int) := of_decide_eq_true (by first | (with_reducible assumption) | assumption); have q10 : (x4_1 : Int) < ((x3_1.length : Int) : Int) := of_decide_eq_true (by first | (with_reducible assumption) | assumption); obtain ⟨go10, co10, eo10, gb10, gl10, cl10, HG10⟩ := Kd.S_form HO_3.out (by omega); (first | cases eo10 | (injection eo10 with ea_ en_ ec_; (first | subst ea_ | (injection ea_ with ea_; subst ea_)); subst ec_; clear en_)); have GB10 := Aside0.mk gb10; have GG10 := Aside0.mk HG10; clear gb10 gl10 HG10; obtain ⟨_, ce10, hcl10, hM10, hcc10, hfr10, _, _⟩ := Kd.S_elem HO_3.out z57 (x4_1 : Int) p10 q10; obtain ⟨ve10_1, rfl, ge10_1⟩ := k57_openM hM10; have hx10_0 : w11.cell? ⟨go10, (x4_1 : Int).toNat * 2, none⟩ = some (.int .i64 ((rd_T57 x3_1 x4_1).f0)) := hcc10 0 _ rfl; have hx10_1 : w11.cell? ⟨go10, (x4_1 : Int).toNat * 2 + 1, none⟩ = some (ve10_1) := hcc10 1 _ rfl; have hf10_0 : w11.frozen? ⟨go10, (x4_1 : Int).toNat * 2, none⟩ = false := hfr10 0; have hf10_1 : w11.frozen? ⟨go10, (x4_1 : Int).toNat * 2 + 1, none⟩ = false := hfr10 1; clear hcl10 hcc10 hfr10; (try clear hM10); replace p10 := eq_true p10; replace q10 := eq_true q10; obtain ⟨Ao14, co14, eo14⟩ := Kd.R_slice HO248.out; subst eo14; have n_ := Aside0.mk (Kd.S_mono (ok' := (fun k_ => some k_ ≠ (.slice Ao14 t246.length co14 : Value).ownBlock)) HO_3.out (fun k_ hk => hk.2)); clear HO_3; have HO_3 := n_; clear n_; have HX12 := Aside0.mk (show Kd.S k57 57 w11 w.heap.size (fun k_ => ((fun _ => True)) k_ ∧ ¬ ((fun k_ => some k_ = (.slice Ao14 t246.length co14 : Value).ownBlock)) k_) (.slice (some ⟨go10, 0, none⟩) x3_1.length co10) x3_1 from (by (with_reducible repeat (first | apply Kd.S_alloc | apply Kd.S_drewN | apply Kd.S_drew)); exact Kd.S_mono HO_3.out (fun k_ hk => ⟨trivial, fun e_ => hk e_⟩))); obtain ⟨oki12, ce12, hcl12, hM12, hcc12, hfr12, hoki12, hH12⟩ := Kd.S_elem HX12.out z57 (x4_1 : Int) (of_decide_eq_true (by first | (with_reducible assumption) | assumption)) (by have h_ : (x4_1 : Int) < ((x3_1.length : Int) : Int) := of_decide_eq_true (by first | (with_reducible assumption) | assumption); first | exact h_ | (have e_ := (Kd.S_reads' HO_3.out).1; omega) | simpa using h_); obtain ⟨ve12_1, rfl, ge12_1⟩ := k57_openM hM12; have HP12 := Kd.S_seg hH12 (of_decide_eq_true (by first | (with_reducible assumption) | assumption)) (by have h_ : (x4_1 : Int) < ((x3_1.length : Int) : Int) := of_decide_eq_true (by first | (with_reducible assumption) | assumption); first | exact h_ | (have e_ := (Kd.S_reads' HO_3.out).1; omega) | simpa using h_) (seg := [.int .i64 t245, .slice Ao14 t246.length co14]) (j := 0) (show 2 ≤ 2 from by decide) (x' := (⟨t245, t246⟩ : S57)) (k57_mkM _ _ _ (⟨t245, t246⟩ : S57) (Kd.R_mono (Kd.R_tight rfl (Kd.R_mono (ok' := fun k_ => ((fun _ => True)) k_ ∧ k_ ≠ go10) (Kd.R_apart' (HO248.out) (Kd.S_typed HO_3.out) (by decide)) (fun k_ hk => ⟨trivial, fun e_ => (hk.2) (by rw [e_]; rfl)⟩))) (fun _ h_ => Or.inr (h_)))) (fun _ hk => hk) (fun k_ hk_ => ((Kd.R_mono (ok' := fun k_ => ((fun _ => True)) k_ ∧ k_ ≠ go10) (Kd.R_apart' (HO248.out) (Kd.S_typed HO_3.out) (by decide)) (fun k_ hk => ⟨trivial, fun e_ => (hk.2) (by rw [e_]; rfl)⟩))).1 k_ hk_.symm); have hx12_0 := hcc12 0 _ rfl; (try simp only [show (k57).sz = 2 from rfl, Nat.mul_one, Nat.add_zero] at hx12_0); have hf12_0 := hfr12 0; (try simp only [show (k57).sz = 2 from rfl, Nat.mul_one, Nat.add_zero] at hf12_0); have hx12_1 := hcc12 1 _ rfl; (try simp only [show (k57).sz = 2 from rfl, Nat.mul_one, Nat.add_zero] at hx12_1); have hf12_1 := hfr12 1; (try simp only [show (k57).sz = 2 from rfl, Nat.mul_one, Nat.add_zero] at hf12_1); clear hcl12 hcc12 hfr12 hoki12 hH12; (try clear hM12)) | ((with_reducible refine gate_store (t := 57) (p := 21) rfl ?_); refine store_event (t := 57) (p := 21) (v := ?vo_w13) (w1 := ((w11.setCell ⟨go10, (x4_1 : Int).toNat * 2, none⟩ (.int .i64 t245)).setCell ⟨go10, (x4_1 : Int).toNat * 2 + 1, none⟩ (.slice Ao14 t246.length co14))) ?hg ?ho ?hn ?hr ?_; (case ho => rfl); (case hg => rfl); (case hn => rfl); (case hr => first | (go_simp; done) | (go_simp; rfl)); intro w13 hw; have hg : w11.grownBy w13 (some go10) := (by rw [hw]; exact HP12.2); have hp_ : Kd.S k57 57 w13 w.heap.size (fun _ => True) (.slice (some ⟨go10, 0, none⟩) x3_1.length co10) y249 := (by rw [hw, Ny249.out]; exact HP12.1); clear HP12; have n0_ := Aside0.mk (hp_); have n1_ := Aside0.mk ((by rw [hw]; exact below_set (below_set (HB.out) GB10.out) GB10.out : Below w.heap.size w w13)); clear HO_3; clear HB; clear HO248; have HO_3 := n0_; have HB := n1_; clear n0_ n1_; clear hg hw hp_))
                go_roundg k1
                case measure => have := HK1.out; omega
                case rel => exact ⟨(y249), (wrap64 (x4_1 + 1)), (by first | rfl | (simp; done) | (simp [*]; done)), H', ⟨by have := HK1.out; omega⟩, ⟨by (with_reducible repeat (first | apply Kd.S_alloc | apply Kd.S_drewN | apply Kd.S_drew)); exact HO_3.out⟩, ⟨by repeat (first | (with_reducible first | exact HB.out | apply below_alloc | apply pw_below_drewN | apply below_drew1) | exact HB.out)⟩⟩
              · rw [if_neg c9] at H
                exact absurd H (by simp)
            · rw [if_neg c7] at H
              exact absurd H (by simp)
          · rw [if_neg c6] at H
            have c6b0 : decide (x4_1 < (l0.length : Int)) = false := decide_eq_false c6
            clear c6
            obtain rfl := Option.some.inj H
            go_wp2
            go_ret
            exact ⟨_, by first | rfl | (simp [errW_none, errW_some] <;> rfl) | (simp [*, errW_none, errW_some] <;> rfl), by (with_reducible repeat (first | apply Kd.S_alloc | apply Kd.S_drewN | apply Kd.S_drew)); exact HO_3.out, by repeat (first | (with_reducible first | exact HB.out | apply below_alloc | apply pw_below_drewN | apply below_drew1) | exact HB.out)⟩
    · rw [if_neg c3] at H
      exact absurd H (by simp)
  · rw [if_neg c2] at H
    exact absurd H (by simp)

end Go.Proofs.Ytcopakljdenolaa.Fn
namespace Go.Proofs.Ytcopakljdenolaa.Pure
open Go.RowKit Go.Proofs.Ytcopakljdenolaa.Fn Go.Proofs.YtcopakljdenolaaW.PrintWords Go.Proofs.YtcopakljdenolaaW.PrintLast Go.Proofs.YtcopakljdenolaaW.PrintMore
set_option linter.unusedSimpArgs false
set_option linter.unusedVariables false

def rise (l : List Int) : List Int → Nat → Bool
  | [], _ => true
  | x :: t, i => decide (0 ≤ x ∧ x ≤ 19) && ((decide (i = 0) || !decide (rd l ((i - 1 : Nat) : Int) ≥ x)) && rise l t (i + 1))
theorem rise_ev (l : List Int) (hl : l.length ≤ 1048576) (t : List Int) : ∀ i, l.drop i = t → i ≤ l.length → Ev (fun k => spec_l1Rising.l0 k l 0 19 l l.length i) (rise l t i) := by
  induction t with
  | nil =>
    intro i h _
    have := drop_nil h
    (refine Ev.up ?_; simp only [spec_l1Rising.l0, decT])
    (repeat (first | with_reducible refine Ev.bindS ?_ | (with_reducible refine Ev.ifp ?_ ?_; (· first | omega | assumption | rfl | (simp only [List.length_map, List.length_replicate, List.length_take, List.length_drop, List.length_append, List.length_cons, List.length_nil, List.length_set]; omega) | (simp; done))) | (with_reducible refine Ev.ifn ?_ ?_; (· first | omega | assumption | rfl | (simp only [List.length_map, List.length_replicate, List.length_take, List.length_drop, List.length_append, List.length_cons, List.length_nil, List.length_set]; omega) | (simp; done)))))
    exact Ev.val rfl
  | cons x t ih =>
    intro i h hi
    obtain ⟨h1, h2, h3⟩ := drop_cons h
    have ih := ih (i + 1) h3 (by omega)
    (refine Ev.up ?_; simp only [spec_l1Rising.l0, decT])
    rw [rd_at h2, wrap_succ (by omega), specIn_eq]
    simp only [rise]
    (repeat (first | with_reducible refine Ev.bindS ?_ | (with_reducible refine Ev.ifp ?_ ?_; (· first | omega | assumption | rfl | (simp only [List.length_map, List.length_replicate, List.length_take, List.length_drop, List.length_append, List.length_cons, List.length_nil, List.length_set]; omega) | (simp; done))) | (with_reducible refine Ev.ifn ?_ ?_; (· first | omega | assumption | rfl | (simp only [List.length_map, List.length_replicate, List.length_take, List.length_drop, List.length_append, List.length_cons, List.length_nil, List.length_set]; omega) | (simp; done)))))
    by_cases hx : 0 ≤ x ∧ x ≤ 19
    · simp only [decT]
      rw [decide_eq_true hx, Bool.true_and]
      (repeat (first | with_reducible refine Ev.bindS ?_ | (with_reducible refine Ev.ifp ?_ ?_; (· first | omega | assumption | rfl | (simp only [List.length_map, List.length_replicate, List.length_take, List.length_drop, List.length_append, List.length_cons, List.length_nil, List.length_set]; omega) | (simp; done))) | (with_reducible refine Ev.ifn ?_ ?_; (· first | omega | assumption | rfl | (simp only [List.length_map, List.length_replicate, List.length_take, List.length_drop, List.length_append, List.length_cons, List.length_nil, List.length_set]; omega) | (simp; done)))))
      by_cases h0 : i = 0
      · rw [decide_eq_true h0, Bool.true_or, Bool.true_and]
        (repeat (first | with_reducible refine Ev.bindS ?_ | (with_reducible refine Ev.ifp ?_ ?_; (· first | omega | assumption | rfl | (simp only [List.length_map, List.length_replicate, List.length_take, List.length_drop, List.length_append, List.length_cons, List.length_nil, List.length_set]; omega) | (simp; done))) | (with_reducible refine Ev.ifn ?_ ?_; (· first | omega | assumption | rfl | (simp only [List.length_map, List.length_replicate, List.length_take, List.length_drop, List.length_append, List.length_cons, List.length_nil, List.length_set]; omega) | (simp; done)))))
        exact ih
      · have e : wrap64 ((i : Int) - 1) = ((i - 1 : Nat) : Int) := by rw [wrap_ok (by omega) (by omega)]; omega
        rw [decide_eq_false h0, Bool.false_or, e]
        (repeat (first | with_reducible refine Ev.bindS ?_ | (with_reducible refine Ev.ifp ?_ ?_; (· first | omega | assumption | rfl | (simp only [List.length_map, List.length_replicate, List.length_take, List.length_drop, List.length_append, List.length_cons, List.length_nil, List.length_set]; omega) | (simp; done))) | (with_reducible refine Ev.ifn ?_ ?_; (· first | omega | assumption | rfl | (simp only [List.length_map, List.length_replicate, List.length_take, List.length_drop, List.length_append, List.length_cons, List.length_nil, List.length_set]; omega) | (simp; done)))))
        by_cases hp : rd l ((i - 1 : Nat) : Int) ≥ x
        · (repeat (first | with_reducible refine Ev.bindS ?_ | (with_reducible refine Ev.ifp ?_ ?_; (· first | omega | assumption | rfl | (simp only [List.length_map, List.length_replicate, List.length_take, List.length_drop, List.length_append, List.length_cons, List.length_nil, List.length_set]; omega) | (simp; done))) | (with_reducible refine Ev.ifn ?_ ?_; (· first | omega | assumption | rfl | (simp only [List.length_map, List.length_replicate, List.length_take, List.length_drop, List.length_append, List.length_cons, List.length_nil, List.length_set]; omega) | (simp; done)))))
          exact Ev.val (by simp [hp])
        · (repeat (first | with_reducible refine Ev.bindS ?_ | (with_reducible refine Ev.ifp ?_ ?_; (· first | omega | assumption | rfl | (simp only [List.length_map, List.length_replicate, List.length_take, List.length_drop, List.length_append, List.length_cons, List.length_nil, List.length_set]; omega) | (simp; done))) | (with_reducible refine Ev.ifn ?_ ?_; (· first | omega | assumption | rfl | (simp only [List.length_map, List.length_replicate, List.length_take, List.length_drop, List.length_append, List.length_cons, List.length_nil, List.length_set]; omega) | (simp; done)))))
          simpa [hp] using ih
    · simp only [decT]
      rw [decide_eq_false hx]
      (repeat (first | with_reducible refine Ev.bindS ?_ | (with_reducible refine Ev.ifp ?_ ?_; (· first | omega | assumption | rfl | (simp only [List.length_map, List.length_replicate, List.length_take, List.length_drop, List.length_append, List.length_cons, List.length_nil, List.length_set]; omega) | (simp; done))) | (with_reducible refine Ev.ifn ?_ ?_; (· first | omega | assumption | rfl | (simp only [List.length_map, List.length_replicate, List.length_take, List.length_drop, List.length_append, List.length_cons, List.length_nil, List.length_set]; omega) | (simp; done)))))
      exact Ev.val rfl
theorem rise_at {l : List Int} (t : List Int) : ∀ i, l.drop i = t → rise l t i = true → ∀ j x, i ≤ j → l[j]? = some x → (0 ≤ x ∧ x ≤ 19) ∧ (0 < j → rd l ((j - 1 : Nat) : Int) < x) := by
  induction t with
  | nil =>
    intro i h _ j x hj hx
    have := drop_nil h
    have := (List.getElem?_eq_some_iff.1 hx).1
    omega
  | cons y t ih =>
    intro i h hr j x hj hx
    obtain ⟨h1, h2, h3⟩ := drop_cons h
    simp only [rise, Bool.and_eq_true, decide_eq_true_eq, Bool.or_eq_true, Bool.not_eq_true', decide_eq_false_iff_not] at hr
    rcases Nat.lt_or_ge i j with hlt | hge
    · exact ih (i + 1) h3 hr.2.2 j x (by omega) hx
    · have e : j = i := by omega
      subst e
      rw [h2] at hx
      injection hx with hx
      subst hx
      refine ⟨hr.1, fun h0 => ?_⟩
      rcases hr.2.1 with h | h
      · omega
      · omega
theorem rise_len {l : List Int} (h : rise l l 0 = true) : l.length ≤ 20 := by
  have key : ∀ (j : Nat) (x : Int), l[j]? = some x → (j : Int) ≤ x := by
    intro j
    induction j with
    | zero => intro x hx; have := (rise_at l 0 rfl h 0 x (by omega) hx).1.1; omega
    | succ j ih =>
      intro x hx
      have hlt := (List.getElem?_eq_some_iff.1 hx).1
      have hj : l[j]? = some l[j] := List.getElem?_eq_getElem (by omega)
      have h1 := ih _ hj
      have h2 := (rise_at l 0 rfl h (j + 1) x (by omega) hx).2 (by omega)
      rw [show j + 1 - 1 = j by omega, rd_at hj] at h2
      omega
  rcases Nat.eq_zero_or_pos l.length with h0 | h0
  · omega
  · have hj : l[l.length - 1]? = some l[l.length - 1] := List.getElem?_eq_getElem (by omega)
    have h1 := key _ _ hj
    have h2 := (rise_at l 0 rfl h _ _ (by omega) hj).1.2
    omega
/-- A row of posts is good from i on. -/
def postsOk (l : List S57) : List S57 → Nat → Bool
  | [], _ => true
  | p :: t, i => decide (0 ≤ p.f0 ∧ p.f0 ≤ 11) && ((decide (i = 0) || !decide ((rd_T57 l ((i - 1 : Nat) : Int)).f0 ≥ p.f0)) && ((decide (1 ≤ p.f1.length) && rise p.f1 p.f1 0) && postsOk l t (i + 1)))
def Fit (l : List S57) : Prop := l.length ≤ 1048576 ∧ ∀ p ∈ l, p.f1.length ≤ 1048576
theorem specGood_ev (l : List S57) (hl : Fit l) : Ev (fun k => spec_GoodPosts.f k l) (postsOk l l 0 && decide ((l.length : Int) ≤ 12)) := by
  have hl1 := hl.1
  have key : ∀ (t : List S57) (i : Nat), l.drop i = t → i ≤ l.length → Ev (fun k => spec_GoodPosts.l0 k l l l.length i) (postsOk l t i && decide ((l.length : Int) ≤ 12)) := by
    intro t
    induction t with
    | nil =>
      intro i h hi
      have := drop_nil h
      (refine Ev.up ?_; simp only [spec_GoodPosts.l0, decT])
      (repeat (first | with_reducible refine Ev.bindS ?_ | (with_reducible refine Ev.ifp ?_ ?_; (· first | omega | assumption | rfl | (simp only [List.length_map, List.length_replicate, List.length_take, List.length_drop, List.length_append, List.length_cons, List.length_nil, List.length_set]; omega) | (simp; done))) | (with_reducible refine Ev.ifn ?_ ?_; (· first | omega | assumption | rfl | (simp only [List.length_map, List.length_replicate, List.length_take, List.length_drop, List.length_append, List.length_cons, List.length_nil, List.length_set]; omega) | (simp; done)))))
      exact Ev.val (by simp [postsOk])
    | cons p t ih =>
      intro i h hi
      obtain ⟨p1, p2, p3⟩ := drop_cons h
      have ih := ih (i + 1) p3 (by omega)
      have hp := hl.2 p (List.mem_of_getElem? p2)
      have hrise := rise_ev p.f1 hp p.f1 0 rfl (by omega)
      (refine Ev.up ?_; simp only [spec_GoodPosts.l0, decT])
      rw [rd57_at p2, wrap_succ (by omega), specIn_eq]
      simp only [postsOk]
      -- the tail: some places, rising
      have tail : ∀ (hpre : True), Ev (fun k => if (p.f1.length : Int) = 0 then some false else (spec_l1Rising.f k p.f1 0 19).bind fun t229 => if t229 = true then spec_GoodPosts.l0 k l l l.length ((i + 1 : Nat) : Int) else some false)
          (((decide (1 ≤ p.f1.length) && rise p.f1 p.f1 0) && postsOk l t (i + 1)) && decide ((l.length : Int) ≤ 12)) := by
        intro _
        by_cases h0 : p.f1.length = 0
        · rw [decide_eq_false (p := 1 ≤ p.f1.length) (by omega)]
          (repeat (first | with_reducible refine Ev.bindS ?_ | (with_reducible refine Ev.ifp ?_ ?_; (· first | omega | assumption | rfl | (simp only [List.length_map, List.length_replicate, List.length_take, List.length_drop, List.length_append, List.length_cons, List.length_nil, List.length_set]; omega) | (simp; done))) | (with_reducible refine Ev.ifn ?_ ?_; (· first | omega | assumption | rfl | (simp only [List.length_map, List.length_replicate, List.length_take, List.length_drop, List.length_append, List.length_cons, List.length_nil, List.length_set]; omega) | (simp; done)))))
          exact Ev.val (by simp)
        · rw [decide_eq_true (p := 1 ≤ p.f1.length) (by omega), Bool.true_and]
          (repeat (first | with_reducible refine Ev.bindS ?_ | (with_reducible refine Ev.ifp ?_ ?_; (· first | omega | assumption | rfl | (simp only [List.length_map, List.length_replicate, List.length_take, List.length_drop, List.length_append, List.length_cons, List.length_nil, List.length_set]; omega) | (simp; done))) | (with_reducible refine Ev.ifn ?_ ?_; (· first | omega | assumption | rfl | (simp only [List.length_map, List.length_replicate, List.length_take, List.length_drop, List.length_append, List.length_cons, List.length_nil, List.length_set]; omega) | (simp; done)))))
          refine Ev.bind (g := fun k => spec_l1Rising.f k p.f1 0 19) hrise ?_
          cases rise p.f1 p.f1 0 with
          | true => rw [Bool.true_and]; (repeat (first | with_reducible refine Ev.bindS ?_ | (with_reducible refine Ev.ifp ?_ ?_; (· first | omega | assumption | rfl | (simp only [List.length_map, List.length_replicate, List.length_take, List.length_drop, List.length_append, List.length_cons, List.length_nil, List.length_set]; omega) | (simp; done))) | (with_reducible refine Ev.ifn ?_ ?_; (· first | omega | assumption | rfl | (simp only [List.length_map, List.length_replicate, List.length_take, List.length_drop, List.length_append, List.length_cons, List.length_nil, List.length_set]; omega) | (simp; done))))); exact ih
          | false => (repeat (first | with_reducible refine Ev.bindS ?_ | (with_reducible refine Ev.ifp ?_ ?_; (· first | omega | assumption | rfl | (simp only [List.length_map, List.length_replicate, List.length_take, List.length_drop, List.length_append, List.length_cons, List.length_nil, List.length_set]; omega) | (simp; done))) | (with_reducible refine Ev.ifn ?_ ?_; (· first | omega | assumption | rfl | (simp only [List.length_map, List.length_replicate, List.length_take, List.length_drop, List.length_append, List.length_cons, List.length_nil, List.length_set]; omega) | (simp; done))))); exact Ev.val (by simp)
      (repeat (first | with_reducible refine Ev.bindS ?_ | (with_reducible refine Ev.ifp ?_ ?_; (· first | omega | assumption | rfl | (simp only [List.length_map, List.length_replicate, List.length_take, List.length_drop, List.length_append, List.length_cons, List.length_nil, List.length_set]; omega) | (simp; done))) | (with_reducible refine Ev.ifn ?_ ?_; (· first | omega | assumption | rfl | (simp only [List.length_map, List.length_replicate, List.length_take, List.length_drop, List.length_append, List.length_cons, List.length_nil, List.length_set]; omega) | (simp; done)))))
      by_cases hx : 0 ≤ p.f0 ∧ p.f0 ≤ 11
      · simp only [decT]
        rw [decide_eq_true hx, Bool.true_and]
        (repeat (first | with_reducible refine Ev.bindS ?_ | (with_reducible refine Ev.ifp ?_ ?_; (· first | omega | assumption | rfl | (simp only [List.length_map, List.length_replicate, List.length_take, List.length_drop, List.length_append, List.length_cons, List.length_nil, List.length_set]; omega) | (simp; done))) | (with_reducible refine Ev.ifn ?_ ?_; (· first | omega | assumption | rfl | (simp only [List.length_map, List.length_replicate, List.length_take, List.length_drop, List.length_append, List.length_cons, List.length_nil, List.length_set]; omega) | (simp; done)))))
        by_cases h0 : i = 0
        · rw [decide_eq_true h0, Bool.true_or, Bool.true_and]
          refine Ev.ifn (by omega) ?_
          exact tail trivial
        · have e : wrap64 ((i : Int) - 1) = ((i - 1 : Nat) : Int) := by rw [wrap_ok (by omega) (by omega)]; omega
          rw [decide_eq_false h0, Bool.false_or, e]
          refine Ev.ifp (by omega) (Ev.ifp (by omega) (Ev.ifp (by omega) ?_))
          by_cases hq : (rd_T57 l ((i - 1 : Nat) : Int)).f0 ≥ p.f0
          · refine Ev.ifp hq ?_
            exact Ev.val (by simp [hq])
          · refine Ev.ifn hq ?_
            rw [decide_eq_false hq, Bool.not_false, Bool.true_and]
            exact tail trivial
      · simp only [decT]
        rw [decide_eq_false hx]
        (repeat (first | with_reducible refine Ev.bindS ?_ | (with_reducible refine Ev.ifp ?_ ?_; (· first | omega | assumption | rfl | (simp only [List.length_map, List.length_replicate, List.length_take, List.length_drop, List.length_append, List.length_cons, List.length_nil, List.length_set]; omega) | (simp; done))) | (with_reducible refine Ev.ifn ?_ ?_; (· first | omega | assumption | rfl | (simp only [List.length_map, List.length_replicate, List.length_take, List.length_drop, List.length_append, List.length_cons, List.length_nil, List.length_set]; omega) | (simp; done)))))
        exact Ev.val (by simp)
  exact key l 0 rfl (by omega)
theorem implRise_ev (l0 : List S57) (m : Int) (i : Nat) (f0 : Int) (l : List Int) (hl : l.length ≤ 1048576) (r : Bool) (hr : Ev (fun k => impl_GoodPosts.l0 k l0 l0 m (wrap64 ((i : Int) + 1))) r) :
    ∀ (t : List Int) (j : Nat), l.drop j = t → j ≤ l.length → Ev (fun k => impl_GoodPosts.l1 k l0 l0 m i l l.length j f0 l) (rise l t j && r) := by
  intro t
  induction t with
  | nil =>
    intro j h _
    have := drop_nil h
    (refine Ev.up ?_; simp only [impl_GoodPosts.l1, decT])
    (repeat (first | with_reducible refine Ev.bindS ?_ | (with_reducible refine Ev.ifp ?_ ?_; (· first | omega | assumption | rfl | (simp only [List.length_map, List.length_replicate, List.length_take, List.length_drop, List.length_append, List.length_cons, List.length_nil, List.length_set]; omega) | (simp; done))) | (with_reducible refine Ev.ifn ?_ ?_; (· first | omega | assumption | rfl | (simp only [List.length_map, List.length_replicate, List.length_take, List.length_drop, List.length_append, List.length_cons, List.length_nil, List.length_set]; omega) | (simp; done)))))
    exact hr
  | cons x t ih =>
    intro j h hi
    obtain ⟨h1, h2, h3⟩ := drop_cons h
    have ih := ih (j + 1) h3 (by omega)
    (refine Ev.up ?_; simp only [impl_GoodPosts.l1, decT])
    rw [rd_at h2, wrap_succ (i := j) (by omega), within_eq]
    simp only [rise]
    (repeat (first | with_reducible refine Ev.bindS ?_ | (with_reducible refine Ev.ifp ?_ ?_; (· first | omega | assumption | rfl | (simp only [List.length_map, List.length_replicate, List.length_take, List.length_drop, List.length_append, List.length_cons, List.length_nil, List.length_set]; omega) | (simp; done))) | (with_reducible refine Ev.ifn ?_ ?_; (· first | omega | assumption | rfl | (simp only [List.length_map, List.length_replicate, List.length_take, List.length_drop, List.length_append, List.length_cons, List.length_nil, List.length_set]; omega) | (simp; done)))))
    by_cases hx : 0 ≤ x ∧ x ≤ 19
    · simp only [decT]
      rw [decide_eq_true hx, Bool.true_and]
      (repeat (first | with_reducible refine Ev.bindS ?_ | (with_reducible refine Ev.ifp ?_ ?_; (· first | omega | assumption | rfl | (simp only [List.length_map, List.length_replicate, List.length_take, List.length_drop, List.length_append, List.length_cons, List.length_nil, List.length_set]; omega) | (simp; done))) | (with_reducible refine Ev.ifn ?_ ?_; (· first | omega | assumption | rfl | (simp only [List.length_map, List.length_replicate, List.length_take, List.length_drop, List.length_append, List.length_cons, List.length_nil, List.length_set]; omega) | (simp; done)))))
      by_cases h0 : j = 0
      · rw [decide_eq_true h0, Bool.true_or, Bool.true_and]
        (repeat (first | with_reducible refine Ev.bindS ?_ | (with_reducible refine Ev.ifp ?_ ?_; (· first | omega | assumption | rfl | (simp only [List.length_map, List.length_replicate, List.length_take, List.length_drop, List.length_append, List.length_cons, List.length_nil, List.length_set]; omega) | (simp; done))) | (with_reducible refine Ev.ifn ?_ ?_; (· first | omega | assumption | rfl | (simp only [List.length_map, List.length_replicate, List.length_take, List.length_drop, List.length_append, List.length_cons, List.length_nil, List.length_set]; omega) | (simp; done)))))
        exact ih
      · have e : wrap64 ((j : Int) - 1) = ((j - 1 : Nat) : Int) := by rw [wrap_ok (by omega) (by omega)]; omega
        rw [decide_eq_false h0, Bool.false_or, e]
        (repeat (first | with_reducible refine Ev.bindS ?_ | (with_reducible refine Ev.ifp ?_ ?_; (· first | omega | assumption | rfl | (simp only [List.length_map, List.length_replicate, List.length_take, List.length_drop, List.length_append, List.length_cons, List.length_nil, List.length_set]; omega) | (simp; done))) | (with_reducible refine Ev.ifn ?_ ?_; (· first | omega | assumption | rfl | (simp only [List.length_map, List.length_replicate, List.length_take, List.length_drop, List.length_append, List.length_cons, List.length_nil, List.length_set]; omega) | (simp; done)))))
        by_cases hp : rd l ((j - 1 : Nat) : Int) ≥ x
        · (repeat (first | with_reducible refine Ev.bindS ?_ | (with_reducible refine Ev.ifp ?_ ?_; (· first | omega | assumption | rfl | (simp only [List.length_map, List.length_replicate, List.length_take, List.length_drop, List.length_append, List.length_cons, List.length_nil, List.length_set]; omega) | (simp; done))) | (with_reducible refine Ev.ifn ?_ ?_; (· first | omega | assumption | rfl | (simp only [List.length_map, List.length_replicate, List.length_take, List.length_drop, List.length_append, List.length_cons, List.length_nil, List.length_set]; omega) | (simp; done)))))
          exact Ev.val (by simp [hp])
        · (repeat (first | with_reducible refine Ev.bindS ?_ | (with_reducible refine Ev.ifp ?_ ?_; (· first | omega | assumption | rfl | (simp only [List.length_map, List.length_replicate, List.length_take, List.length_drop, List.length_append, List.length_cons, List.length_nil, List.length_set]; omega) | (simp; done))) | (with_reducible refine Ev.ifn ?_ ?_; (· first | omega | assumption | rfl | (simp only [List.length_map, List.length_replicate, List.length_take, List.length_drop, List.length_append, List.length_cons, List.length_nil, List.length_set]; omega) | (simp; done)))))
          simpa [hp] using ih
    · simp only [decT]
      rw [decide_eq_false hx]
      (repeat (first | with_reducible refine Ev.bindS ?_ | (with_reducible refine Ev.ifp ?_ ?_; (· first | omega | assumption | rfl | (simp only [List.length_map, List.length_replicate, List.length_take, List.length_drop, List.length_append, List.length_cons, List.length_nil, List.length_set]; omega) | (simp; done))) | (with_reducible refine Ev.ifn ?_ ?_; (· first | omega | assumption | rfl | (simp only [List.length_map, List.length_replicate, List.length_take, List.length_drop, List.length_append, List.length_cons, List.length_nil, List.length_set]; omega) | (simp; done)))))
      exact Ev.val (by simp)
theorem implGood_ev (l : List S57) (hl : Fit l) : Ev (fun k => impl_GoodPosts.f k l) (postsOk l l 0 && decide ((l.length : Int) ≤ 12)) := by
  have hl1 := hl.1
  have key : ∀ (t : List S57) (i : Nat), l.drop i = t → i ≤ l.length → Ev (fun k => impl_GoodPosts.l0 k l l l.length i) (postsOk l t i) := by
    intro t
    induction t with
    | nil =>
      intro i h hi
      have := drop_nil h
      (refine Ev.up ?_; simp only [impl_GoodPosts.l0, decT])
      (repeat (first | with_reducible refine Ev.bindS ?_ | (with_reducible refine Ev.ifp ?_ ?_; (· first | omega | assumption | rfl | (simp only [List.length_map, List.length_replicate, List.length_take, List.length_drop, List.length_append, List.length_cons, List.length_nil, List.length_set]; omega) | (simp; done))) | (with_reducible refine Ev.ifn ?_ ?_; (· first | omega | assumption | rfl | (simp only [List.length_map, List.length_replicate, List.length_take, List.length_drop, List.length_append, List.length_cons, List.length_nil, List.length_set]; omega) | (simp; done)))))
      exact Ev.val rfl
    | cons p t ih =>
      intro i h hi
      obtain ⟨p1, p2, p3⟩ := drop_cons h
      have ih := ih (i + 1) p3 (by omega)
      have hp := hl.2 p (List.mem_of_getElem? p2)
      have hw : wrap64 ((i : Int) + 1) = ((i + 1 : Nat) : Int) := wrap_succ (by omega)
      have hbad : ∀ f0 f1, Ev (fun k => impl_GoodPosts.j1 k l l l.length i true f0 f1) false := by
        intro f0 f1
        (refine Ev.up ?_; simp only [impl_GoodPosts.j1, decT])
        (repeat (first | with_reducible refine Ev.bindS ?_ | (with_reducible refine Ev.ifp ?_ ?_; (· first | omega | assumption | rfl | (simp only [List.length_map, List.length_replicate, List.length_take, List.length_drop, List.length_append, List.length_cons, List.length_nil, List.length_set]; omega) | (simp; done))) | (with_reducible refine Ev.ifn ?_ ?_; (· first | omega | assumption | rfl | (simp only [List.length_map, List.length_replicate, List.length_take, List.length_drop, List.length_append, List.length_cons, List.length_nil, List.length_set]; omega) | (simp; done)))))
        exact Ev.val rfl
      have tail : ∀ (hpre : True), Ev (fun k => (impl_within.f (p.f1.length : Int) 1 20).bind fun t255 => impl_GoodPosts.j1 k l l l.length i (!t255) p.f0 p.f1)
          ((decide (1 ≤ p.f1.length) && rise p.f1 p.f1 0) && postsOk l t (i + 1)) := by
        intro _
        rw [within_eq]
        by_cases h0 : 1 ≤ (p.f1.length : Int) ∧ (p.f1.length : Int) ≤ 20
        · rw [decide_eq_true h0, decide_eq_true (p := 1 ≤ p.f1.length) (by omega), Bool.true_and]
          (repeat (first | with_reducible refine Ev.bindS ?_ | (with_reducible refine Ev.ifp ?_ ?_; (· first | omega | assumption | rfl | (simp only [List.length_map, List.length_replicate, List.length_take, List.length_drop, List.length_append, List.length_cons, List.length_nil, List.length_set]; omega) | (simp; done))) | (with_reducible refine Ev.ifn ?_ ?_; (· first | omega | assumption | rfl | (simp only [List.length_map, List.length_replicate, List.length_take, List.length_drop, List.length_append, List.length_cons, List.length_nil, List.length_set]; omega) | (simp; done)))))
          (refine Ev.up ?_; simp only [impl_GoodPosts.j1, decT])
          (repeat (first | with_reducible refine Ev.bindS ?_ | (with_reducible refine Ev.ifp ?_ ?_; (· first | omega | assumption | rfl | (simp only [List.length_map, List.length_replicate, List.length_take, List.length_drop, List.length_append, List.length_cons, List.length_nil, List.length_set]; omega) | (simp; done))) | (with_reducible refine Ev.ifn ?_ ?_; (· first | omega | assumption | rfl | (simp only [List.length_map, List.length_replicate, List.length_take, List.length_drop, List.length_append, List.length_cons, List.length_nil, List.length_set]; omega) | (simp; done)))))
          exact implRise_ev l l.length i p.f0 p.f1 hp _ (by rw [hw]; exact ih) p.f1 0 rfl (by omega)
        · have e : (decide (1 ≤ p.f1.length) && rise p.f1 p.f1 0) = false := by
            by_cases h1 : 1 ≤ p.f1.length
            · cases h2 : rise p.f1 p.f1 0 with
              | false => simp
              | true => have := rise_len h2; omega
            · simp [h1]
          rw [decide_eq_false h0, e]
          (repeat (first | with_reducible refine Ev.bindS ?_ | (with_reducible refine Ev.ifp ?_ ?_; (· first | omega | assumption | rfl | (simp only [List.length_map, List.length_replicate, List.length_take, List.length_drop, List.length_append, List.length_cons, List.length_nil, List.length_set]; omega) | (simp; done))) | (with_reducible refine Ev.ifn ?_ ?_; (· first | omega | assumption | rfl | (simp only [List.length_map, List.length_replicate, List.length_take, List.length_drop, List.length_append, List.length_cons, List.length_nil, List.length_set]; omega) | (simp; done)))))
          exact hbad _ _
      (refine Ev.up ?_; simp only [impl_GoodPosts.l0, decT])
      rw [rd57_at p2, within_eq]
      simp only [postsOk]
      (repeat (first | with_reducible refine Ev.bindS ?_ | (with_reducible refine Ev.ifp ?_ ?_; (· first | omega | assumption | rfl | (simp only [List.length_map, List.length_replicate, List.length_take, List.length_drop, List.length_append, List.length_cons, List.length_nil, List.length_set]; omega) | (simp; done))) | (with_reducible refine Ev.ifn ?_ ?_; (· first | omega | assumption | rfl | (simp only [List.length_map, List.length_replicate, List.length_take, List.length_drop, List.length_append, List.length_cons, List.length_nil, List.length_set]; omega) | (simp; done)))))
      by_cases hx : 0 ≤ p.f0 ∧ p.f0 ≤ 11
      · simp only [decT]
        rw [decide_eq_true hx, Bool.true_and]
        (repeat (first | with_reducible refine Ev.bindS ?_ | (with_reducible refine Ev.ifp ?_ ?_; (· first | omega | assumption | rfl | (simp only [List.length_map, List.length_replicate, List.length_take, List.length_drop, List.length_append, List.length_cons, List.length_nil, List.length_set]; omega) | (simp; done))) | (with_reducible refine Ev.ifn ?_ ?_; (· first | omega | assumption | rfl | (simp only [List.length_map, List.length_replicate, List.length_take, List.length_drop, List.length_append, List.length_cons, List.length_nil, List.length_set]; omega) | (simp; done)))))
        by_cases h0 : i = 0
        · rw [decide_eq_true h0, Bool.true_or, Bool.true_and]
          refine Ev.ifn (by omega) ?_
          exact tail trivial
        · have e : wrap64 ((i : Int) - 1) = ((i - 1 : Nat) : Int) := by rw [wrap_ok (by omega) (by omega)]; omega
          rw [decide_eq_false h0, Bool.false_or, e]
          refine Ev.ifp (by omega) (Ev.ifp (by omega) (Ev.ifp (by omega) ?_))
          by_cases hq : (rd_T57 l ((i - 1 : Nat) : Int)).f0 ≥ p.f0
          · refine Ev.ifp hq ?_
            rw [decide_eq_true hq]
            exact hbad _ _
          · refine Ev.ifn hq ?_
            rw [decide_eq_false hq, Bool.not_false, Bool.true_and]
            exact tail trivial
      · simp only [decT]
        rw [decide_eq_false hx]
        (repeat (first | with_reducible refine Ev.bindS ?_ | (with_reducible refine Ev.ifp ?_ ?_; (· first | omega | assumption | rfl | (simp only [List.length_map, List.length_replicate, List.length_take, List.length_drop, List.length_append, List.length_cons, List.length_nil, List.length_set]; omega) | (simp; done))) | (with_reducible refine Ev.ifn ?_ ?_; (· first | omega | assumption | rfl | (simp only [List.length_map, List.length_replicate, List.length_take, List.length_drop, List.length_append, List.length_cons, List.length_nil, List.length_set]; omega) | (simp; done)))))
        exact hbad _ _
  simp only [impl_GoodPosts.f]
  by_cases h : (l.length : Int) > 12
  · rw [decide_eq_false (p := (l.length : Int) ≤ 12) (by omega), Bool.and_false]
    (repeat (first | with_reducible refine Ev.bindS ?_ | (with_reducible refine Ev.ifp ?_ ?_; (· first | omega | assumption | rfl | (simp only [List.length_map, List.length_replicate, List.length_take, List.length_drop, List.length_append, List.length_cons, List.length_nil, List.length_set]; omega) | (simp; done))) | (with_reducible refine Ev.ifn ?_ ?_; (· first | omega | assumption | rfl | (simp only [List.length_map, List.length_replicate, List.length_take, List.length_drop, List.length_append, List.length_cons, List.length_nil, List.length_set]; omega) | (simp; done)))))
    exact Ev.val rfl
  · rw [decide_eq_true (p := (l.length : Int) ≤ 12) (by omega), Bool.and_true]
    (repeat (first | with_reducible refine Ev.bindS ?_ | (with_reducible refine Ev.ifp ?_ ?_; (· first | omega | assumption | rfl | (simp only [List.length_map, List.length_replicate, List.length_take, List.length_drop, List.length_append, List.length_cons, List.length_nil, List.length_set]; omega) | (simp; done))) | (with_reducible refine Ev.ifn ?_ ?_; (· first | omega | assumption | rfl | (simp only [List.length_map, List.length_replicate, List.length_take, List.length_drop, List.length_append, List.length_cons, List.length_nil, List.length_set]; omega) | (simp; done)))))
    exact key l 0 rfl (by omega)
/-- The laws' helpers on rows of posts. -/
def cv (x : S75) : S57 := ⟨x.f0, x.f1⟩
theorem rd75_at {l : List S75} {i : Nat} {x : S75} (h : l[i]? = some x) : rd_T75 l (i : Int) = x := getD_at h
theorem szInt_eq (l : List Int) (hl : l.length ≤ maxLen) (a : Int) (h0 : 0 ≤ a) (h1 : a ≤ 1048576) : laws_szIntS.f l a = some (if (l.length : Int) > a then (-1 : Int) else (a - (l.length : Int))) := by
  unfold laws_szIntS.f
  simp only [maxLen] at hl
  have e : wrap64 (a - (l.length : Int)) = a - (l.length : Int) := wrap_ok (by omega) (by omega)
  rw [e]
  by_cases h : (l.length : Int) > a
  · rw [if_pos h, if_pos (by omega)]
  · rw [if_neg h, if_neg (by omega)]
theorem szPosts_ev (l : List S75) (hl : l.length ≤ maxLen) (hs : ∀ y ∈ l, y.f1.length ≤ maxLen) (a : Int) (h0 : 0 ≤ a) (h1 : a ≤ 1048576) :
    ∃ r : Int, Ev (fun k => laws_szPostS.f k l a) r ∧ r ≤ a ∧ (0 ≤ r → (l.length : Int) ≤ a ∧ ∀ y ∈ l, (y.f1.length : Int) ≤ a) := by
  have hl' := hl
  simp only [maxLen] at hl
  have key : ∀ (t : List S75) (i : Nat) (m : Int), l.drop i = t → i ≤ l.length → 0 ≤ m → m ≤ a →
      ∃ r : Int, Ev (fun k => laws_szPostS.l0 k l m i) r ∧ r ≤ a ∧ (0 ≤ r → ∀ y ∈ t, (y.f1.length : Int) ≤ a) := by
    intro t
    induction t with
    | nil =>
      intro i m h _ _ hm
      have := drop_nil h
      exact ⟨m, by (refine Ev.up ?_; simp only [laws_szPostS.l0, decT]); (repeat (first | with_reducible refine Ev.bindS ?_ | (with_reducible refine Ev.ifp ?_ ?_; (· first | omega | assumption | rfl | (simp only [List.length_map, List.length_replicate, List.length_take, List.length_drop, List.length_append, List.length_cons, List.length_nil, List.length_set]; omega) | (simp; done))) | (with_reducible refine Ev.ifn ?_ ?_; (· first | omega | assumption | rfl | (simp only [List.length_map, List.length_replicate, List.length_take, List.length_drop, List.length_append, List.length_cons, List.length_nil, List.length_set]; omega) | (simp; done))))); exact Ev.val rfl, hm, by simp⟩
    | cons x t ih =>
      intro i m h hi hm0 hm
      obtain ⟨p1, p2, p3⟩ := drop_cons h
      have hx := hs x (List.mem_of_getElem? p2)
      by_cases hlt : (x.f1.length : Int) > m
      · refine ⟨-1, ?_, by omega, by omega⟩
        (refine Ev.up ?_; simp only [laws_szPostS.l0, decT])
        rw [rd75_at p2]
        simp only [laws_szPost.f, szInt_eq x.f1 hx m hm0 (by omega), if_pos hlt]
        (repeat (first | with_reducible refine Ev.bindS ?_ | (with_reducible refine Ev.ifp ?_ ?_; (· first | omega | assumption | rfl | (simp only [List.length_map, List.length_replicate, List.length_take, List.length_drop, List.length_append, List.length_cons, List.length_nil, List.length_set]; omega) | (simp; done))) | (with_reducible refine Ev.ifn ?_ ?_; (· first | omega | assumption | rfl | (simp only [List.length_map, List.length_replicate, List.length_take, List.length_drop, List.length_append, List.length_cons, List.length_nil, List.length_set]; omega) | (simp; done)))))
        exact Ev.val rfl
      · obtain ⟨r, q1, q2, q3⟩ := ih (i + 1) (m - x.f1.length) p3 (by omega) (by omega) (by omega)
        refine ⟨r, ?_, q2, fun hr y hy => ?_⟩
        · (refine Ev.up ?_; simp only [laws_szPostS.l0, decT])
          rw [rd75_at p2, wrap_succ (by omega)]
          simp only [laws_szPost.f, szInt_eq x.f1 hx m hm0 (by omega), if_neg hlt, Option.bind_some, if_neg (show ¬ (m - (x.f1.length : Int)) < 0 by omega)]
          (repeat (first | with_reducible refine Ev.bindS ?_ | (with_reducible refine Ev.ifp ?_ ?_; (· first | omega | assumption | rfl | (simp only [List.length_map, List.length_replicate, List.length_take, List.length_drop, List.length_append, List.length_cons, List.length_nil, List.length_set]; omega) | (simp; done))) | (with_reducible refine Ev.ifn ?_ ?_; (· first | omega | assumption | rfl | (simp only [List.length_map, List.length_replicate, List.length_take, List.length_drop, List.length_append, List.length_cons, List.length_nil, List.length_set]; omega) | (simp; done)))))
          exact q1
        · rcases List.mem_cons.1 hy with rfl | hy
          · omega
          · exact q3 hr y hy
  have e : wrap64 (a - (l.length : Int)) = a - (l.length : Int) := wrap_ok (by omega) (by omega)
  by_cases hlt : a - (l.length : Int) < 0
  · refine ⟨-1, ?_, by omega, by omega⟩
    simp only [laws_szPostS.f, e]
    (repeat (first | with_reducible refine Ev.bindS ?_ | (with_reducible refine Ev.ifp ?_ ?_; (· first | omega | assumption | rfl | (simp only [List.length_map, List.length_replicate, List.length_take, List.length_drop, List.length_append, List.length_cons, List.length_nil, List.length_set]; omega) | (simp; done))) | (with_reducible refine Ev.ifn ?_ ?_; (· first | omega | assumption | rfl | (simp only [List.length_map, List.length_replicate, List.length_take, List.length_drop, List.length_append, List.length_cons, List.length_nil, List.length_set]; omega) | (simp; done)))))
    exact Ev.val rfl
  · obtain ⟨r, q1, q2, q3⟩ := key l 0 (a - l.length) rfl (by omega) (by omega) (by omega)
    refine ⟨r, ?_, q2, fun hr => ⟨by omega, q3 hr⟩⟩
    simp only [laws_szPostS.f, e]
    (repeat (first | with_reducible refine Ev.bindS ?_ | (with_reducible refine Ev.ifp ?_ ?_; (· first | omega | assumption | rfl | (simp only [List.length_map, List.length_replicate, List.length_take, List.length_drop, List.length_append, List.length_cons, List.length_nil, List.length_set]; omega) | (simp; done))) | (with_reducible refine Ev.ifn ?_ ?_; (· first | omega | assumption | rfl | (simp only [List.length_map, List.length_replicate, List.length_take, List.length_drop, List.length_append, List.length_cons, List.length_nil, List.length_set]; omega) | (simp; done)))))
    exact q1
theorem toPosts_ev (l : List S75) (hl : l.length ≤ 1048576) (hs : ∀ y ∈ l, y.f1.length ≤ 1048576) : Ev (fun k => laws_toPostS.f k l) (l.map cv) := by
  have h := copy_ev (fun k x3 i => laws_toPostS.l0 k l x3 i) cv z57 l ?_ ?_
  · simp only [laws_toPostS.f, Int.toNat_natCast]
    (repeat (first | with_reducible refine Ev.bindS ?_ | (with_reducible refine Ev.ifp ?_ ?_; (· first | omega | assumption | rfl | (simp only [List.length_map, List.length_replicate, List.length_take, List.length_drop, List.length_append, List.length_cons, List.length_nil, List.length_set]; omega) | (simp; done))) | (with_reducible refine Ev.ifn ?_ ?_; (· first | omega | assumption | rfl | (simp only [List.length_map, List.length_replicate, List.length_take, List.length_drop, List.length_append, List.length_cons, List.length_nil, List.length_set]; omega) | (simp; done)))))
    exact h
  · intro k x3
    simp only [laws_toPostS.l0]
    rw [if_neg (by omega)]
  · intro i x hx
    have hlt := (List.getElem?_eq_some_iff.1 hx).1
    obtain ⟨K, hK⟩ := toInts_ev x.f1 (hs x (List.mem_of_getElem? hx))
    refine ⟨K, fun k x3 hk h3 => ?_⟩
    have hk := hK k hk
    dsimp only at hk
    simp only [laws_toPostS.l0]
    rw [if_pos (by omega), if_pos (by omega), rd75_at hx]
    simp only [laws_toPost.f, hk, Option.bind_some]
    rw [if_pos (by omega), wrap_succ (by omega), Int.toNat_natCast]
    rfl
theorem eqPosts_ev (l : List S57) (hl : Fit l) : Ev (fun k => laws_eqPostS.f k l l) true := by
  have hl1 := hl.1
  have h := all_ev (fun k i => laws_eqPostS.l0 k l l i) l.length true ?_ ?_
  · simp only [laws_eqPostS.f]
    (repeat (first | with_reducible refine Ev.bindS ?_ | (with_reducible refine Ev.ifp ?_ ?_; (· first | omega | assumption | rfl | (simp only [List.length_map, List.length_replicate, List.length_take, List.length_drop, List.length_append, List.length_cons, List.length_nil, List.length_set]; omega) | (simp; done))) | (with_reducible refine Ev.ifn ?_ ?_; (· first | omega | assumption | rfl | (simp only [List.length_map, List.length_replicate, List.length_take, List.length_drop, List.length_append, List.length_cons, List.length_nil, List.length_set]; omega) | (simp; done)))))
    exact h
  · intro k
    simp only [laws_eqPostS.l0]
    rw [if_neg (by omega)]
  · intro i hi
    have hx : l[i]? = some l[i] := List.getElem?_eq_getElem hi
    obtain ⟨K, hK⟩ := eqInts_ev (l[i]).f1 (hl.2 _ (List.getElem_mem hi))
    refine ⟨K, fun k hk => ?_⟩
    have hk := hK k hk
    dsimp only at hk
    simp only [laws_eqPostS.l0]
    rw [if_pos (by omega), if_pos (by omega), if_pos (by omega), rd57_at hx, wrap_succ (by omega)]
    simp only [laws_eqPost.f, hk, Option.bind_some, if_true]
end Go.Proofs.Ytcopakljdenolaa.Pure
namespace Go.Proofs.Ytcopakljdenolaa.Pure
open Go.RowKit Go.Proofs.YtcopakljdenolaaW.PrintWords Go.Proofs.YtcopakljdenolaaW.PrintLast Go.Proofs.YtcopakljdenolaaW.PrintMore
def Evt (P : Nat → Prop) : Prop := ∃ K, ∀ k, K ≤ k → P k
theorem Evt.and {P Q : Nat → Prop} (h : Evt P) (k : Evt Q) : Evt (fun n => P n ∧ Q n) := by
  obtain ⟨K, h⟩ := h
  obtain ⟨K', k⟩ := k
  exact ⟨max K K', fun n hn => ⟨h n (by omega), k n (by omega)⟩⟩
theorem Evt.const {p : Prop} (h : p) : Evt (fun _ => p) := ⟨0, fun _ _ => h⟩
theorem Evt.ex {α : Type} {P : Nat → α → Prop} (x : α) (h : Evt (fun n => P n x)) : Evt (fun n => ∃ x, P n x) := by
  obtain ⟨K, h⟩ := h
  exact ⟨K, fun n hn => ⟨x, h n hn⟩⟩
theorem Evt.inl {P Q : Nat → Prop} (h : Evt P) : Evt (fun n => P n ∨ Q n) := by
  obtain ⟨K, h⟩ := h
  exact ⟨K, fun n hn => .inl (h n hn)⟩
theorem Evt.inr {P Q : Nat → Prop} (h : Evt Q) : Evt (fun n => P n ∨ Q n) := by
  obtain ⟨K, h⟩ := h
  exact ⟨K, fun n hn => .inr (h n hn)⟩
theorem Evt.now {P : Nat → Prop} (h : Evt P) : ∃ k, P k := by
  obtain ⟨K, h⟩ := h
  exact ⟨K, h K (Nat.le_refl _)⟩
theorem Evt.of {α : Type} {g : Nat → Option α} {r : α} (h : Ev g r) : Evt (fun n => g n = some r) := h
end Go.Proofs.Ytcopakljdenolaa.Pure
namespace Go.Proofs.Ytcopakljdenolaa.Pure
open Go.RowKit Go.Proofs.Ytcopakljdenolaa.Fn Go.Proofs.YtcopakljdenolaaW.PrintWords Go.Proofs.YtcopakljdenolaaW.PrintLast Go.Proofs.YtcopakljdenolaaW.PrintMore
set_option linter.unusedSimpArgs false
set_option linter.unusedVariables false

def marked (l : List Int) (c : Int) : List Int := l.mapIdx fun i _ => c + (i : Int)
theorem markInts_far (l : List Int) (hl : l.length ≤ 1048576) (c : Int) (h0 : 0 < c) (h1 : c ≤ 4611686018427387904) :
    Ev (fun k => laws_markIntS.f k l c) (c + l.length, marked l c) := by
  have h := mark_ev (fun k x c i => laws_markIntS.l0 k x c i) (fun i => c + (i : Int)) (fun i _ => c + (i : Int)) l ?_ ?_
  · simpa [laws_markIntS.f, marked] using h
  · intro k x hx
    simp only [laws_markIntS.l0]
    rw [if_neg (by omega)]
  · intro i y hy
    have hlt : i < l.length := (List.getElem?_eq_some_iff.1 hy).1
    refine ⟨0, fun k x _ hx _ => ?_⟩
    simp only [laws_markIntS.l0]
    have e : wrap64 (c + (i : Int) + 1) = c + ((i + 1 : Nat) : Int) := by rw [wrap_ok (by omega) (by omega)]; omega
    rw [if_pos (by omega), if_pos (by omega), e, wrap_succ (by omega), Int.toNat_natCast]
theorem heldInts_far (l : List Int) (hl : l.length ≤ 1048576) (c : Int) (h0 : 0 < c) (h1 : c ≤ 4611686018427387904) :
    Ev (fun k => laws_heldIntS.f k (marked l c) c) (c + l.length) := by
  have h := all_ev (fun k i => laws_heldIntS.l0 k (marked l c) (c + i) i) l.length (c + l.length) ?_ ?_
  · simpa [laws_heldIntS.f] using h
  · intro k
    simp only [laws_heldIntS.l0]
    rw [if_neg (by simp [marked])]
  · intro i hi
    refine ⟨0, fun k _ => ?_⟩
    have hat : rd (marked l c) (i : Int) = c + (i : Int) := rd_at (by simp [marked, hi])
    have e : wrap64 (c + (i : Int) + 1) = c + ((i + 1 : Nat) : Int) := by rw [wrap_ok (by omega) (by omega)]; omega
    simp only [laws_heldIntS.l0, hat]
    rw [if_pos (by simp [marked]; omega), if_pos (by omega), if_pos trivial, e, wrap_succ (by omega)]
def endP : List S57 → Int → Int
  | [], c => c
  | p :: t, c => endP t (c + 1 + p.f1.length)
def markP : List S57 → Int → List S57
  | [], _ => []
  | p :: t, c => ⟨c, marked p.f1 (c + 1)⟩ :: markP t (c + 1 + p.f1.length)
theorem markP_len (l : List S57) : ∀ c, (markP l c).length = l.length := by
  induction l with
  | nil => intro c; rfl
  | cons p t ih => intro c; simp only [markP, List.length_cons, ih]
theorem endP_le (l : List S57) : ∀ c, c ≤ endP l c := by
  induction l with
  | nil => intro c; exact Int.le_refl _
  | cons p t ih => intro c; have := ih (c + 1 + p.f1.length); simp only [endP]; omega
theorem markPosts_loop (t : List S57) (hs : ∀ p ∈ t, p.f1.length ≤ 1048576) : ∀ (done : List S57) (c : Int), 0 < c → done.length + t.length ≤ 1048576 → c + 2097152 * (t.length : Int) ≤ 4611686018427387904 →
    Ev (fun k => laws_markPostS.l0 k (done ++ t) c (done.length : Int)) (endP t c, done ++ markP t c) := by
  induction t with
  | nil =>
    intro done c h0 h1 h2
    (refine Ev.up ?_; simp only [laws_markPostS.l0, decT])
    simp only [List.append_nil]
    (repeat (first | with_reducible refine Ev.bindS ?_ | (with_reducible refine Ev.ifp ?_ ?_; (· first | omega | assumption | rfl | (simp only [List.length_map, List.length_replicate, List.length_take, List.length_drop, List.length_append, List.length_cons, List.length_nil, List.length_set]; omega) | (simp; done))) | (with_reducible refine Ev.ifn ?_ ?_; (· first | omega | assumption | rfl | (simp only [List.length_map, List.length_replicate, List.length_take, List.length_drop, List.length_append, List.length_cons, List.length_nil, List.length_set]; omega) | (simp; done)))))
    exact Ev.val (by simp [endP, markP])
  | cons p t ih =>
    intro done c h0 h1 h2
    have hp := hs p List.mem_cons_self
    simp only [List.length_cons] at h1 h2
    have hx : (done ++ p :: t)[done.length]? = some p := by simp
    have e1 : wrap64 (c + 1) = c + 1 := wrap_ok (by omega) (by omega)
    have ih := ih (fun q hq => hs q (List.mem_cons_of_mem _ hq)) (done ++ [⟨c, marked p.f1 (c + 1)⟩]) (c + 1 + p.f1.length) (by omega) (by simp; omega) (by omega)
    have e2 : done ++ [(⟨c, marked p.f1 (c + 1)⟩ : S57)] ++ t = (done ++ p :: t).set done.length ⟨c, marked p.f1 (c + 1)⟩ := by
      rw [List.set_append_right _ _ (Nat.le_refl _), Nat.sub_self, List.set_cons_zero, List.append_assoc]; rfl
    have e3 : ((done ++ [(⟨c, marked p.f1 (c + 1)⟩ : S57)]).length : Int) = ((done.length + 1 : Nat) : Int) := by simp
    rw [e2, e3] at ih
    simp only [endP, markP]
    rw [List.append_assoc] at ih
    (refine Ev.up ?_; simp only [laws_markPostS.l0, decT])
    rw [rd57_at hx, e1, wrap_succ (i := done.length) (by omega), Int.toNat_natCast]
    (repeat (first | with_reducible refine Ev.bindS ?_ | (with_reducible refine Ev.ifp ?_ ?_; (· first | omega | assumption | rfl | (simp only [List.length_map, List.length_replicate, List.length_take, List.length_drop, List.length_append, List.length_cons, List.length_nil, List.length_set]; omega) | (simp; done))) | (with_reducible refine Ev.ifn ?_ ?_; (· first | omega | assumption | rfl | (simp only [List.length_map, List.length_replicate, List.length_take, List.length_drop, List.length_append, List.length_cons, List.length_nil, List.length_set]; omega) | (simp; done)))))
    refine Ev.bind (markInts_far p.f1 hp (c + 1) (by omega) (by omega)) ?_
    exact ih
theorem heldPosts_loop (t : List S57) (hs : ∀ p ∈ t, p.f1.length ≤ 1048576) : ∀ (L : List S57) (i : Nat) (c : Int), L.drop i = markP t c → 0 < c → i + t.length ≤ 1048576 → c + 2097152 * (t.length : Int) ≤ 4611686018427387904 →
    Ev (fun k => laws_heldPostS.l0 k L c (i : Int)) (endP t c) := by
  induction t with
  | nil =>
    intro L i c hd h0 h1 h2
    have := drop_nil hd
    (refine Ev.up ?_; simp only [laws_heldPostS.l0, decT])
    (repeat (first | with_reducible refine Ev.bindS ?_ | (with_reducible refine Ev.ifp ?_ ?_; (· first | omega | assumption | rfl | (simp only [List.length_map, List.length_replicate, List.length_take, List.length_drop, List.length_append, List.length_cons, List.length_nil, List.length_set]; omega) | (simp; done))) | (with_reducible refine Ev.ifn ?_ ?_; (· first | omega | assumption | rfl | (simp only [List.length_map, List.length_replicate, List.length_take, List.length_drop, List.length_append, List.length_cons, List.length_nil, List.length_set]; omega) | (simp; done)))))
    exact Ev.val rfl
  | cons p t ih =>
    intro L i c hd h0 h1 h2
    have hp := hs p List.mem_cons_self
    simp only [List.length_cons] at h1 h2
    simp only [markP] at hd
    obtain ⟨p1, p2, p3⟩ := drop_cons hd
    have e1 : wrap64 (c + 1) = c + 1 := wrap_ok (by omega) (by omega)
    have ih := ih (fun q hq => hs q (List.mem_cons_of_mem _ hq)) L (i + 1) (c + 1 + p.f1.length) p3 (by omega) (by omega) (by omega)
    simp only [endP]
    (refine Ev.up ?_; simp only [laws_heldPostS.l0, decT])
    rw [rd57_at p2, e1, wrap_succ (i := i) (by omega)]
    (repeat (first | with_reducible refine Ev.bindS ?_ | (with_reducible refine Ev.ifp ?_ ?_; (· first | omega | assumption | rfl | (simp only [List.length_map, List.length_replicate, List.length_take, List.length_drop, List.length_append, List.length_cons, List.length_nil, List.length_set]; omega) | (simp; done))) | (with_reducible refine Ev.ifn ?_ ?_; (· first | omega | assumption | rfl | (simp only [List.length_map, List.length_replicate, List.length_take, List.length_drop, List.length_append, List.length_cons, List.length_nil, List.length_set]; omega) | (simp; done)))))
    refine Ev.bind (heldInts_far p.f1 hp (c + 1) (by omega) (by omega)) ?_
    (repeat (first | with_reducible refine Ev.bindS ?_ | (with_reducible refine Ev.ifp ?_ ?_; (· first | omega | assumption | rfl | (simp only [List.length_map, List.length_replicate, List.length_take, List.length_drop, List.length_append, List.length_cons, List.length_nil, List.length_set]; omega) | (simp; done))) | (with_reducible refine Ev.ifn ?_ ?_; (· first | omega | assumption | rfl | (simp only [List.length_map, List.length_replicate, List.length_take, List.length_drop, List.length_append, List.length_cons, List.length_nil, List.length_set]; omega) | (simp; done)))))
    exact ih
theorem markPosts_ev (l : List S57) (hl : Fit l) (c : Int) (h0 : 0 < c) (h1 : c ≤ 4398046511104) : Ev (fun k => laws_markPostS.f k l c) (endP l c, markP l c) := by
  have := markPosts_loop l hl.2 [] c h0 (by have := hl.1; simp; omega) (by have := hl.1; omega)
  simpa [laws_markPostS.f] using this
theorem heldPosts_ev (l : List S57) (hl : Fit l) (c : Int) (h0 : 0 < c) (h1 : c ≤ 4398046511104) : Ev (fun k => laws_heldPostS.f k (markP l c) c) (endP l c) :=
  heldPosts_loop l hl.2 (markP l c) 0 c rfl h0 (by have := hl.1; omega) (by have := hl.1; omega)
theorem endP_max (l : List S57) (hs : ∀ p ∈ l, p.f1.length ≤ 1048576) : ∀ c, endP l c ≤ c + 1048577 * (l.length : Int) := by
  induction l with
  | nil => intro c; simp [endP]
  | cons p t ih =>
    intro c
    have hp := hs p List.mem_cons_self
    have := ih (fun q hq => hs q (List.mem_cons_of_mem _ hq)) (c + 1 + p.f1.length)
    simp only [endP, List.length_cons]
    omega
theorem places_len (w s : ByteArray) (hs : s.size ≤ 1048575) : (places w s).length ≤ 1048576 := by
  have h1 := placesFrom_len w (wordsOf s) 0 []
  have h2 := words_len (nm s) eS []
  have h3 := nm_length s
  simp only [List.length_nil] at *
  show (placesFrom w (wordsOf s) 0 []).length ≤ _
  have : (wordsOf s).length = (wordsFrom (nm s) eS []).length := rfl
  omega
theorem postsFrom_fit (w : ByteArray) (t : List ByteArray) (ht : ∀ s ∈ t, s.size ≤ 1048575) : ∀ (i : Nat) (acc : List S57), (∀ p ∈ acc, p.f1.length ≤ 1048576) → ∀ p ∈ postsFrom w t i acc, p.f1.length ≤ 1048576 := by
  induction t with
  | nil => intro i acc h p hp; exact h p hp
  | cons s t ih =>
    intro i acc h p hp
    simp only [postsFrom] at hp
    split at hp
    · refine ih (fun s' h' => ht s' (List.mem_cons_of_mem _ h')) (i + 1) _ (fun q hq => ?_) p hp
      rcases List.mem_append.1 hq with hq | hq
      · exact h q hq
      · rw [List.mem_singleton.1 hq]
        exact places_len w s (ht s List.mem_cons_self)
    · exact ih (fun s' h' => ht s' (List.mem_cons_of_mem _ h')) (i + 1) acc h p hp
theorem docsOk_small {l : List ByteArray} (h : docsOk l = true) : ∀ s ∈ l, s.size ≤ 120 := by
  intro s hs
  rw [docsOk, Bool.and_eq_true, List.all_eq_true] at h
  have h2 := h.2 s hs
  rcases doc_cases s with ⟨_, h3⟩ | ⟨_, _, h3⟩ | ⟨h1, _, _⟩
  · rw [h3] at h2; cases h2
  · rw [h3] at h2; cases h2
  · omega
theorem postsRes_fit (l : List ByteArray) (w : ByteArray) (hl : Small l) : Fit (postsRes l w).1 := by
  refine ⟨postsRes_len l w hl, ?_⟩
  unfold postsRes
  split
  · rename_i h
    exact postsFrom_fit w l (fun s hs => by have := docsOk_small h.1 s hs; omega) 0 [] (fun p hp => by cases hp)
  · intro p hp; cases hp
end Go.Proofs.Ytcopakljdenolaa.Pure
namespace Go.Proofs.Ytcopakljdenolaa.Fn
open Go.RowKit Go.Proofs.YtcopakljdenolaaW.PrintWords Go.Proofs.YtcopakljdenolaaW.PrintLast Go.Proofs.YtcopakljdenolaaW.PrintMore
attribute [local go_sem] max2_int min2_int max_two min_two max_three min_three max_four min_four   -- for this text's walks alone
set_option linter.unusedVariables false
set_option linter.unusedSimpArgs false

/-! ### impl_MeetPosts: function 34 -/
def impl_MeetPosts.f (k : Nat) (l0 : List (S57)) (l1 : List (S57)) (a2 : Int) : Option ((List (S57)) × Bool) := (impl_GoodPosts.f k l0).bind fun t300 => (if t300 = true then ((impl_GoodPosts.f k l1).bind fun t301 => (if t301 = true then ((impl_within.f a2 (-20) 20).bind fun t302 => (if t302 = true then ((impl_meet.f k l0 l1 a2).bind fun t303 => (some (t303, true))) else (some (([] : List (S57)), false)))) else (some (([] : List (S57)), false)))) else (some (([] : List (S57)), false)))
theorem impl_MeetPosts.mono : ∀ a0 a1 a2 k, LeO (impl_MeetPosts.f k a0 a1 a2) (impl_MeetPosts.f (k + 1) a0 a1 a2) := by
  intro a0 a1 a2 k
  unfold impl_MeetPosts.f
  repeat' first
      | (with_reducible exact impl_GoodPosts.mono _ _)
      | (with_reducible exact impl_meet.mono _ _ _ _)
      | (with_reducible exact LeO.refl _)
      | (with_reducible exact LeO.none _)
      | (with_reducible refine LeO.ite ?_ ?_)
      | (with_reducible refine LeO.bind ?_ (fun _ => ?_))
      | exact impl_GoodPosts.mono _ _
      | exact impl_meet.mono _ _ _ _
      | exact LeO.none _
      | refine LeO.ite ?_ ?_
      | refine LeO.bind ?_ (fun _ => ?_)
set_option maxHeartbeats 8000000 in
set_option maxRecDepth 100000 in
theorem impl_MeetPosts.calls (k : Nat) (A0 : Option Addr) (c0 : Nat) (l0 : List (S57)) (A1 : Option Addr) (c1 : Nat) (l1 : List (S57)) (a2 : Int) (r1 : List (S57)) (r2 : Bool) (w : World) (hr0 : Kd.C k57 w A0 l0.length l0) (hc0 : l0.length ≤ c0) (hr1 : Kd.C k57 w A1 l1.length l1) (hc1 : l1.length ≤ c1) (h : impl_MeetPosts.f k l0 l1 a2 = some (r1, r2)) :
    Calls Try.prog 34 #[.slice A0 l0.length c0, .slice A1 l1.length c1, .int .i64 a2] w fun e w' => ∃ v0_ : Value, e = .returned (.tuple #[v0_, .bool r2]) ∧ Kd.S k57 57 w' w.heap.size (fun _ => True) v0_ r1 ∧ Below w.heap.size w w' := by
  have HR0 := Aside0.mk hr0
  have HC0 := Aside0.mk hc0
  clear hr0 hc0
  have HR1 := Aside0.mk hr1
  have HC1 := Aside0.mk hc1
  clear hr1 hc1
  have HB := Aside0.mk (Below.refl w.heap.size w)
  have H : ((impl_GoodPosts.f k l0).bind fun t300 => (if t300 = true then ((impl_GoodPosts.f k l1).bind fun t301 => (if t301 = true then ((impl_within.f a2 (-20) 20).bind fun t302 => (if t302 = true then ((impl_meet.f k l0 l1 a2).bind fun t303 => (some (t303, true))) else (some (([] : List (S57)), false)))) else (some (([] : List (S57)), false)))) else (some (([] : List (S57)), false)))) = some (r1, r2) := h
  clear h
  replace H := Option.bind_eq_some_iff.mp H
  obtain ⟨t300, A40, H⟩ := H
  replace H : (if t300 = true then ((impl_GoodPosts.f k l1).bind fun t301 => (if t301 = true then ((impl_within.f a2 (-20) 20).bind fun t302 => (if t302 = true then ((impl_meet.f k l0 l1 a2).bind fun t303 => (some (t303, true))) else (some (([] : List (S57)), false)))) else (some (([] : List (S57)), false)))) else (some (([] : List (S57)), false))) = some (r1, r2) := H
  have A4 := Aside0.mk A40
  clear A40
  by_cases c5 : t300 = true
  · subst c5
    have H1 : ((impl_GoodPosts.f k l1).bind fun t301 => (if t301 = true then ((impl_within.f a2 (-20) 20).bind fun t302 => (if t302 = true then ((impl_meet.f k l0 l1 a2).bind fun t303 => (some (t303, true))) else (some (([] : List (S57)), false)))) else (some (([] : List (S57)), false)))) = some (r1, r2) := by rw [if_pos rfl] at H; exact H
    clear H
    have H := H1
    clear H1
    replace H := Option.bind_eq_some_iff.mp H
    obtain ⟨t301, A60, H⟩ := H
    replace H : (if t301 = true then ((impl_within.f a2 (-20) 20).bind fun t302 => (if t302 = true then ((impl_meet.f k l0 l1 a2).bind fun t303 => (some (t303, true))) else (some (([] : List (S57)), false)))) else (some (([] : List (S57)), false))) = some (r1, r2) := H
    have A6 := Aside0.mk A60
    clear A60
    by_cases c7 : t301 = true
    · subst c7
      have H1 : ((impl_within.f a2 (-20) 20).bind fun t302 => (if t302 = true then ((impl_meet.f k l0 l1 a2).bind fun t303 => (some (t303, true))) else (some (([] : List (S57)), false)))) = some (r1, r2) := by rw [if_pos rfl] at H; exact H
      clear H
      have H := H1
      clear H1
      replace H := Option.bind_eq_some_iff.mp H
      obtain ⟨t302, A80, H⟩ := H
      replace H : (if t302 = true then ((impl_meet.f k l0 l1 a2).bind fun t303 => (some (t303, true))) else (some (([] : List (S57)), false))) = some (r1, r2) := H
      have A8 := Aside0.mk A80
      clear A80
      by_cases c9 : t302 = true
      · subst c9
        have H1 : ((impl_meet.f k l0 l1 a2).bind fun t303 => (some (t303, true))) = some (r1, r2) := by rw [if_pos rfl] at H; exact H
        clear H
        have H := H1
        clear H1
        replace H := Option.bind_eq_some_iff.mp H
        obtain ⟨t303, A100, H⟩ := H
        replace H : (some (t303, true)) = some (r1, r2) := H
        have A10 := Aside0.mk A100
        clear A100
        simp only [Option.some.injEq, Prod.mk.injEq] at H
        obtain ⟨rfl, rfl⟩ := H
        go_enter Try.func34, Try.ntmps34
        go_wp2_with (first | ((with_reducible refine gate_callee (f := 32) rfl ?_); refine goesL_ (some 9) rfl rfl Try.func32 (by kernel_rfl) rfl #[.slice A0 l0.length c0] rfl (by (try simp only [List.map_toArray, List.map_cons, List.map_nil]); first | done | rfl | (simp only [List.length_drop, List.length_take]; rfl)) ?_; (with_reducible refine (impl_GoodPosts.calls k _ _ l0 true _ ?side1 ?side2 A4.out).mono ?_); (case side1 => repeat (first | exact HR0.out | (with_reducible refine Kd.C_alloc ?_ _) | (with_reducible refine Kd.C_drewN ?_ _) | (with_reducible refine Kd.C_drew ?_))); (case side2 => exact HC0.out); rintro e w11 ⟨rfl, hb⟩; refine ⟨_, rfl, ?_⟩; have n0_ := Aside0.mk (below_step (by repeat (first | (with_reducible first | exact HB.out | apply below_alloc | apply pw_below_drewN | apply below_drew1) | exact HB.out)) hb); clear HB; have HB := n0_; clear n0_; (try clear hb); (try clear hb2); (try clear hk); (try clear hi)) | (go_at_call 32; (with_reducible refine (impl_GoodPosts.calls k _ _ l1 true _ ?side1 ?side2 A6.out).mono ?_); (case side1 => repeat (first | exact (Kd.C_below HR1.out HB.out) | (with_reducible refine Kd.C_alloc ?_ _) | (with_reducible refine Kd.C_drewN ?_ _) | (with_reducible refine Kd.C_drew ?_))); (case side2 => exact HC1.out); rintro e w12 ⟨rfl, hb⟩; have n0_ := Aside0.mk (below_step (by repeat (first | (with_reducible first | exact HB.out | apply below_alloc | apply pw_below_drewN | apply below_drew1) | exact HB.out)) hb); clear HB; have HB := n0_; clear n0_; (try clear hb); (try clear hb2); (try clear hk); (try clear hi)) | (go_at_call 70; (with_reducible refine (impl_within.calls a2 (-20) 20 true _ A8.out).mono ?_); rintro e w' ⟨rfl, ⟨nd, rfl⟩⟩) | ((with_reducible refine gate_callee (f := 72) rfl ?_); refine goesL_ (some 24) rfl rfl Try.func72 (by kernel_rfl) rfl #[.slice A0 l0.length c0, .slice A1 l1.length c1, .int .i64 a2] rfl (by (try simp only [List.map_toArray, List.map_cons, List.map_nil]); first | done | rfl | (simp only [List.length_drop, List.length_take]; rfl)) ?_; (with_reducible refine (impl_meet.calls k _ _ l0 _ _ l1 a2 t303 _ ?side1 ?side2 ?side3 ?side4 A10.out).mono ?_); (case side1 => repeat (first | exact (Kd.C_below HR0.out (by repeat (first | (with_reducible first | exact HB.out | apply below_alloc | apply pw_below_drewN | apply below_drew1) | exact HB.out))) | (with_reducible refine Kd.C_alloc ?_ _) | (with_reducible refine Kd.C_drewN ?_ _) | (with_reducible refine Kd.C_drew ?_))); (case side2 => exact HC0.out); (case side3 => repeat (first | exact (Kd.C_below HR1.out (by repeat (first | (with_reducible first | exact HB.out | apply below_alloc | apply pw_below_drewN | apply below_drew1) | exact HB.out))) | (with_reducible refine Kd.C_alloc ?_ _) | (with_reducible refine Kd.C_drewN ?_ _) | (with_reducible refine Kd.C_drew ?_))); (case side4 => exact HC1.out); rintro e w13 ⟨v304, rfl, ho0, hb⟩; refine ⟨_, rfl, ?_⟩; have n0_ := Aside0.mk (Kd.S_lower ho0 (below_size (by repeat (first | (with_reducible first | exact HB.out | apply below_alloc | apply pw_below_drewN | apply below_drew1) | exact HB.out)))); have n1_ := Aside0.mk (below_step (by repeat (first | (with_reducible first | exact HB.out | apply below_alloc | apply pw_below_drewN | apply below_drew1) | exact HB.out)) hb); clear HB; have HO305 := n0_; have HB := n1_; clear n0_ n1_; (try clear hb); (try clear hb2); (try clear hk); (try clear hi); (try clear ho0)))
        go_ret2
        exact ⟨_, by first | rfl | (simp [errW_none, errW_some] <;> rfl) | (simp [*, errW_none, errW_some] <;> rfl), by (with_reducible repeat (first | apply Kd.S_alloc | apply Kd.S_drewN | apply Kd.S_drew)); exact HO305.out, by repeat (first | (with_reducible first | exact HB.out | apply below_alloc | apply pw_below_drewN | apply below_drew1) | exact HB.out)⟩
      · replace c9 := Bool.eq_false_iff.mpr c9
        subst c9
        have H1 : (some (([] : List (S57)), false)) = some (r1, r2) := by rw [if_neg (show ¬ (false = true) by decide)] at H; exact H
        clear H
        have H := H1
        clear H1
        simp only [Option.some.injEq, Prod.mk.injEq] at H
        obtain ⟨rfl, rfl⟩ := H
        go_enter Try.func34, Try.ntmps34
        go_wp2_with (first | ((with_reducible refine gate_callee (f := 32) rfl ?_); refine goesL_ (some 9) rfl rfl Try.func32 (by kernel_rfl) rfl #[.slice A0 l0.length c0] rfl (by (try simp only [List.map_toArray, List.map_cons, List.map_nil]); first | done | rfl | (simp only [List.length_drop, List.length_take]; rfl)) ?_; (with_reducible refine (impl_GoodPosts.calls k _ _ l0 true _ ?side1 ?side2 A4.out).mono ?_); (case side1 => repeat (first | exact HR0.out | (with_reducible refine Kd.C_alloc ?_ _) | (with_reducible refine Kd.C_drewN ?_ _) | (with_reducible refine Kd.C_drew ?_))); (case side2 => exact HC0.out); rintro e w14 ⟨rfl, hb⟩; refine ⟨_, rfl, ?_⟩; have n0_ := Aside0.mk (below_step (by repeat (first | (with_reducible first | exact HB.out | apply below_alloc | apply pw_below_drewN | apply below_drew1) | exact HB.out)) hb); clear HB; have HB := n0_; clear n0_; (try clear hb); (try clear hb2); (try clear hk); (try clear hi)) | (go_at_call 32; (with_reducible refine (impl_GoodPosts.calls k _ _ l1 true _ ?side1 ?side2 A6.out).mono ?_); (case side1 => repeat (first | exact (Kd.C_below HR1.out HB.out) | (with_reducible refine Kd.C_alloc ?_ _) | (with_reducible refine Kd.C_drewN ?_ _) | (with_reducible refine Kd.C_drew ?_))); (case side2 => exact HC1.out); rintro e w15 ⟨rfl, hb⟩; have n0_ := Aside0.mk (below_step (by repeat (first | (with_reducible first | exact HB.out | apply below_alloc | apply pw_below_drewN | apply below_drew1) | exact HB.out)) hb); clear HB; have HB := n0_; clear n0_; (try clear hb); (try clear hb2); (try clear hk); (try clear hi)) | (go_at_call 70; (with_reducible refine (impl_within.calls a2 (-20) 20 false _ A8.out).mono ?_); rintro e w' ⟨rfl, ⟨nd, rfl⟩⟩))
        go_ret2
        exact ⟨_, by first | rfl | (simp [errW_none, errW_some] <;> rfl) | (simp [*, errW_none, errW_some] <;> rfl), by first | exact Kd.S_nil _ _ _ _ _ | exact Kd.N_nil _ _ _ _ _ | exact Kd.V_nil _ _ _ _ _ | exact Kd.Q_nil _ _ _ _ _ | exact Kd.R_nil _ _ _ _ _, by repeat (first | (with_reducible first | exact HB.out | apply below_alloc | apply pw_below_drewN | apply below_drew1) | exact HB.out)⟩
    · replace c7 := Bool.eq_false_iff.mpr c7
      subst c7
      have H1 : (some (([] : List (S57)), false)) = some (r1, r2) := by rw [if_neg (show ¬ (false = true) by decide)] at H; exact H
      clear H
      have H := H1
      clear H1
      simp only [Option.some.injEq, Prod.mk.injEq] at H
      obtain ⟨rfl, rfl⟩ := H
      go_enter Try.func34, Try.ntmps34
      go_wp2_with (first | ((with_reducible refine gate_callee (f := 32) rfl ?_); refine goesL_ (some 9) rfl rfl Try.func32 (by kernel_rfl) rfl #[.slice A0 l0.length c0] rfl (by (try simp only [List.map_toArray, List.map_cons, List.map_nil]); first | done | rfl | (simp only [List.length_drop, List.length_take]; rfl)) ?_; (with_reducible refine (impl_GoodPosts.calls k _ _ l0 true _ ?side1 ?side2 A4.out).mono ?_); (case side1 => repeat (first | exact HR0.out | (with_reducible refine Kd.C_alloc ?_ _) | (with_reducible refine Kd.C_drewN ?_ _) | (with_reducible refine Kd.C_drew ?_))); (case side2 => exact HC0.out); rintro e w16 ⟨rfl, hb⟩; refine ⟨_, rfl, ?_⟩; have n0_ := Aside0.mk (below_step (by repeat (first | (with_reducible first | exact HB.out | apply below_alloc | apply pw_below_drewN | apply below_drew1) | exact HB.out)) hb); clear HB; have HB := n0_; clear n0_; (try clear hb); (try clear hb2); (try clear hk); (try clear hi)) | (go_at_call 32; (with_reducible refine (impl_GoodPosts.calls k _ _ l1 false _ ?side1 ?side2 A6.out).mono ?_); (case side1 => repeat (first | exact (Kd.C_below HR1.out HB.out) | (with_reducible refine Kd.C_alloc ?_ _) | (with_reducible refine Kd.C_drewN ?_ _) | (with_reducible refine Kd.C_drew ?_))); (case side2 => exact HC1.out); rintro e w17 ⟨rfl, hb⟩; have n0_ := Aside0.mk (below_step (by repeat (first | (with_reducible first | exact HB.out | apply below_alloc | apply pw_below_drewN | apply below_drew1) | exact HB.out)) hb); clear HB; have HB := n0_; clear n0_; (try clear hb); (try clear hb2); (try clear hk); (try clear hi)))
      go_ret2
      exact ⟨_, by first | rfl | (simp [errW_none, errW_some] <;> rfl) | (simp [*, errW_none, errW_some] <;> rfl), by first | exact Kd.S_nil _ _ _ _ _ | exact Kd.N_nil _ _ _ _ _ | exact Kd.V_nil _ _ _ _ _ | exact Kd.Q_nil _ _ _ _ _ | exact Kd.R_nil _ _ _ _ _, by repeat (first | (with_reducible first | exact HB.out | apply below_alloc | apply pw_below_drewN | apply below_drew1) | exact HB.out)⟩
  · replace c5 := Bool.eq_false_iff.mpr c5
    subst c5
    have H1 : (some (([] : List (S57)), false)) = some (r1, r2) := by rw [if_neg (show ¬ (false = true) by decide)] at H; exact H
    clear H
    have H := H1
    clear H1
    simp only [Option.some.injEq, Prod.mk.injEq] at H
    obtain ⟨rfl, rfl⟩ := H
    go_enter Try.func34, Try.ntmps34
    go_wp2_with (first | ((with_reducible refine gate_callee (f := 32) rfl ?_); refine goesL_ (some 9) rfl rfl Try.func32 (by kernel_rfl) rfl #[.slice A0 l0.length c0] rfl (by (try simp only [List.map_toArray, List.map_cons, List.map_nil]); first | done | rfl | (simp only [List.length_drop, List.length_take]; rfl)) ?_; (with_reducible refine (impl_GoodPosts.calls k _ _ l0 false _ ?side1 ?side2 A4.out).mono ?_); (case side1 => repeat (first | exact HR0.out | (with_reducible refine Kd.C_alloc ?_ _) | (with_reducible refine Kd.C_drewN ?_ _) | (with_reducible refine Kd.C_drew ?_))); (case side2 => exact HC0.out); rintro e w18 ⟨rfl, hb⟩; refine ⟨_, rfl, ?_⟩; have n0_ := Aside0.mk (below_step (by repeat (first | (with_reducible first | exact HB.out | apply below_alloc | apply pw_below_drewN | apply below_drew1) | exact HB.out)) hb); clear HB; have HB := n0_; clear n0_; (try clear hb); (try clear hb2); (try clear hk); (try clear hi)))
    go_ret2
    exact ⟨_, by first | rfl | (simp [errW_none, errW_some] <;> rfl) | (simp [*, errW_none, errW_some] <;> rfl), by first | exact Kd.S_nil _ _ _ _ _ | exact Kd.N_nil _ _ _ _ _ | exact Kd.V_nil _ _ _ _ _ | exact Kd.Q_nil _ _ _ _ _ | exact Kd.R_nil _ _ _ _ _, by repeat (first | (with_reducible first | exact HB.out | apply below_alloc | apply pw_below_drewN | apply below_drew1) | exact HB.out)⟩

end Go.Proofs.Ytcopakljdenolaa.Fn
namespace Go.Proofs.Ytcopakljdenolaa.Fn
open Go.RowKit Go.Proofs.YtcopakljdenolaaW.PrintWords Go.Proofs.YtcopakljdenolaaW.PrintLast Go.Proofs.YtcopakljdenolaaW.PrintMore
attribute [local go_sem] max2_int min2_int max_two min_two max_three min_three max_four min_four   -- for this text's walks alone
set_option linter.unusedVariables false
set_option linter.unusedSimpArgs false

/-! ### spec_MeetPosts: function 33 -/
def spec_MeetPosts.f (k : Nat) (l0 : List (S57)) (l1 : List (S57)) (a2 : Int) : Option ((List (S57)) × Bool) := (spec_GoodPosts.f k l0).bind fun t291 => (if t291 = true then ((spec_GoodPosts.f k l1).bind fun t292 => (if t292 = true then ((spec_l1In.f a2 (-20) 20).bind fun t293 => (if t293 = true then ((spec_l9Meet.f k l0 l1 a2).bind fun t294 => (some (t294, true))) else (some (([] : List (S57)), false)))) else (some (([] : List (S57)), false)))) else (some (([] : List (S57)), false)))
theorem spec_MeetPosts.mono : ∀ a0 a1 a2 k, LeO (spec_MeetPosts.f k a0 a1 a2) (spec_MeetPosts.f (k + 1) a0 a1 a2) := by
  intro a0 a1 a2 k
  unfold spec_MeetPosts.f
  repeat' first
      | (with_reducible exact spec_GoodPosts.mono _ _)
      | (with_reducible exact spec_l9Meet.mono _ _ _ _)
      | (with_reducible exact LeO.refl _)
      | (with_reducible exact LeO.none _)
      | (with_reducible refine LeO.ite ?_ ?_)
      | (with_reducible refine LeO.bind ?_ (fun _ => ?_))
      | exact spec_GoodPosts.mono _ _
      | exact spec_l9Meet.mono _ _ _ _
      | exact LeO.none _
      | refine LeO.ite ?_ ?_
      | refine LeO.bind ?_ (fun _ => ?_)
set_option maxHeartbeats 8000000 in
set_option maxRecDepth 100000 in
theorem spec_MeetPosts.calls (k : Nat) (A0 : Option Addr) (c0 : Nat) (l0 : List (S57)) (A1 : Option Addr) (c1 : Nat) (l1 : List (S57)) (a2 : Int) (r1 : List (S57)) (r2 : Bool) (w : World) (hr0 : Kd.C k57 w A0 l0.length l0) (hc0 : l0.length ≤ c0) (hr1 : Kd.C k57 w A1 l1.length l1) (hc1 : l1.length ≤ c1) (h : spec_MeetPosts.f k l0 l1 a2 = some (r1, r2)) :
    Calls Try.prog 33 #[.slice A0 l0.length c0, .slice A1 l1.length c1, .int .i64 a2] w fun e w' => ∃ v0_ : Value, e = .returned (.tuple #[v0_, .bool r2]) ∧ Kd.S k57 57 w' w.heap.size (fun _ => True) v0_ r1 ∧ Below w.heap.size w w' := by
  have HR0 := Aside0.mk hr0
  have HC0 := Aside0.mk hc0
  clear hr0 hc0
  have HR1 := Aside0.mk hr1
  have HC1 := Aside0.mk hc1
  clear hr1 hc1
  have HB := Aside0.mk (Below.refl w.heap.size w)
  have H : ((spec_GoodPosts.f k l0).bind fun t291 => (if t291 = true then ((spec_GoodPosts.f k l1).bind fun t292 => (if t292 = true then ((spec_l1In.f a2 (-20) 20).bind fun t293 => (if t293 = true then ((spec_l9Meet.f k l0 l1 a2).bind fun t294 => (some (t294, true))) else (some (([] : List (S57)), false)))) else (some (([] : List (S57)), false)))) else (some (([] : List (S57)), false)))) = some (r1, r2) := h
  clear h
  replace H := Option.bind_eq_some_iff.mp H
  obtain ⟨t291, A40, H⟩ := H
  replace H : (if t291 = true then ((spec_GoodPosts.f k l1).bind fun t292 => (if t292 = true then ((spec_l1In.f a2 (-20) 20).bind fun t293 => (if t293 = true then ((spec_l9Meet.f k l0 l1 a2).bind fun t294 => (some (t294, true))) else (some (([] : List (S57)), false)))) else (some (([] : List (S57)), false)))) else (some (([] : List (S57)), false))) = some (r1, r2) := H
  have A4 := Aside0.mk A40
  clear A40
  by_cases c5 : t291 = true
  · subst c5
    have H1 : ((spec_GoodPosts.f k l1).bind fun t292 => (if t292 = true then ((spec_l1In.f a2 (-20) 20).bind fun t293 => (if t293 = true then ((spec_l9Meet.f k l0 l1 a2).bind fun t294 => (some (t294, true))) else (some (([] : List (S57)), false)))) else (some (([] : List (S57)), false)))) = some (r1, r2) := by rw [if_pos rfl] at H; exact H
    clear H
    have H := H1
    clear H1
    replace H := Option.bind_eq_some_iff.mp H
    obtain ⟨t292, A60, H⟩ := H
    replace H : (if t292 = true then ((spec_l1In.f a2 (-20) 20).bind fun t293 => (if t293 = true then ((spec_l9Meet.f k l0 l1 a2).bind fun t294 => (some (t294, true))) else (some (([] : List (S57)), false)))) else (some (([] : List (S57)), false))) = some (r1, r2) := H
    have A6 := Aside0.mk A60
    clear A60
    by_cases c7 : t292 = true
    · subst c7
      have H1 : ((spec_l1In.f a2 (-20) 20).bind fun t293 => (if t293 = true then ((spec_l9Meet.f k l0 l1 a2).bind fun t294 => (some (t294, true))) else (some (([] : List (S57)), false)))) = some (r1, r2) := by rw [if_pos rfl] at H; exact H
      clear H
      have H := H1
      clear H1
      replace H := Option.bind_eq_some_iff.mp H
      obtain ⟨t293, A80, H⟩ := H
      replace H : (if t293 = true then ((spec_l9Meet.f k l0 l1 a2).bind fun t294 => (some (t294, true))) else (some (([] : List (S57)), false))) = some (r1, r2) := H
      have A8 := Aside0.mk A80
      clear A80
      by_cases c9 : t293 = true
      · subst c9
        have H1 : ((spec_l9Meet.f k l0 l1 a2).bind fun t294 => (some (t294, true))) = some (r1, r2) := by rw [if_pos rfl] at H; exact H
        clear H
        have H := H1
        clear H1
        replace H := Option.bind_eq_some_iff.mp H
        obtain ⟨t294, A100, H⟩ := H
        replace H : (some (t294, true)) = some (r1, r2) := H
        have A10 := Aside0.mk A100
        clear A100
        simp only [Option.some.injEq, Prod.mk.injEq] at H
        obtain ⟨rfl, rfl⟩ := H
        go_enter Try.func33, Try.ntmps33
        go_wp2_with (first | ((with_reducible refine gate_callee (f := 30) rfl ?_); refine goesL_ (some 9) rfl rfl Try.func30 (by kernel_rfl) rfl #[.slice A0 l0.length c0] rfl (by (try simp only [List.map_toArray, List.map_cons, List.map_nil]); first | done | rfl | (simp only [List.length_drop, List.length_take]; rfl)) ?_; (with_reducible refine (spec_GoodPosts.calls k _ _ l0 true _ ?side1 ?side2 A4.out).mono ?_); (case side1 => repeat (first | exact HR0.out | (with_reducible refine Kd.C_alloc ?_ _) | (with_reducible refine Kd.C_drewN ?_ _) | (with_reducible refine Kd.C_drew ?_))); (case side2 => exact HC0.out); rintro e w11 ⟨rfl, hb⟩; refine ⟨_, rfl, ?_⟩; have n0_ := Aside0.mk (below_step (by repeat (first | (with_reducible first | exact HB.out | apply below_alloc | apply pw_below_drewN | apply below_drew1) | exact HB.out)) hb); clear HB; have HB := n0_; clear n0_; (try clear hb); (try clear hb2); (try clear hk); (try clear hi)) | (go_at_call 30; (with_reducible refine (spec_GoodPosts.calls k _ _ l1 true _ ?side1 ?side2 A6.out).mono ?_); (case side1 => repeat (first | exact (Kd.C_below HR1.out HB.out) | (with_reducible refine Kd.C_alloc ?_ _) | (with_reducible refine Kd.C_drewN ?_ _) | (with_reducible refine Kd.C_drew ?_))); (case side2 => exact HC1.out); rintro e w12 ⟨rfl, hb⟩; have n0_ := Aside0.mk (below_step (by repeat (first | (with_reducible first | exact HB.out | apply below_alloc | apply pw_below_drewN | apply below_drew1) | exact HB.out)) hb); clear HB; have HB := n0_; clear n0_; (try clear hb); (try clear hb2); (try clear hk); (try clear hi)) | (go_at_call 67; (with_reducible refine (spec_l1In.calls a2 (-20) 20 true _ A8.out).mono ?_); rintro e w' ⟨rfl, ⟨nd, rfl⟩⟩) | ((with_reducible refine gate_callee (f := 71) rfl ?_); refine goesL_ (some 24) rfl rfl Try.func71 (by kernel_rfl) rfl #[.slice A0 l0.length c0, .slice A1 l1.length c1, .int .i64 a2] rfl (by (try simp only [List.map_toArray, List.map_cons, List.map_nil]); first | done | rfl | (simp only [List.length_drop, List.length_take]; rfl)) ?_; (with_reducible refine (spec_l9Meet.calls k _ _ l0 _ _ l1 a2 t294 _ ?side1 ?side2 ?side3 ?side4 A10.out).mono ?_); (case side1 => repeat (first | exact (Kd.C_below HR0.out (by repeat (first | (with_reducible first | exact HB.out | apply below_alloc | apply pw_below_drewN | apply below_drew1) | exact HB.out))) | (with_reducible refine Kd.C_alloc ?_ _) | (with_reducible refine Kd.C_drewN ?_ _) | (with_reducible refine Kd.C_drew ?_))); (case side2 => exact HC0.out); (case side3 => repeat (first | exact (Kd.C_below HR1.out (by repeat (first | (with_reducible first | exact HB.out | apply below_alloc | apply pw_below_drewN | apply below_drew1) | exact HB.out))) | (with_reducible refine Kd.C_alloc ?_ _) | (with_reducible refine Kd.C_drewN ?_ _) | (with_reducible refine Kd.C_drew ?_))); (case side4 => exact HC1.out); rintro e w13 ⟨v295, rfl, ho0, hb⟩; refine ⟨_, rfl, ?_⟩; have n0_ := Aside0.mk (Kd.S_lower ho0 (below_size (by repeat (first | (with_reducible first | exact HB.out | apply below_alloc | apply pw_below_drewN | apply below_drew1) | exact HB.out)))); have n1_ := Aside0.mk (below_step (by repeat (first | (with_reducible first | exact HB.out | apply below_alloc | apply pw_below_drewN | apply below_drew1) | exact HB.out)) hb); clear HB; have HO296 := n0_; have HB := n1_; clear n0_ n1_; (try clear hb); (try clear hb2); (try clear hk); (try clear hi); (try clear ho0)))
        go_ret2
        exact ⟨_, by first | rfl | (simp [errW_none, errW_some] <;> rfl) | (simp [*, errW_none, errW_some] <;> rfl), by (with_reducible repeat (first | apply Kd.S_alloc | apply Kd.S_drewN | apply Kd.S_drew)); exact HO296.out, by repeat (first | (with_reducible first | exact HB.out | apply below_alloc | apply pw_below_drewN | apply below_drew1) | exact HB.out)⟩
      · replace c9 := Bool.eq_false_iff.mpr c9
        subst c9
        have H1 : (some (([] : List (S57)), false)) = some (r1, r2) := by rw [if_neg (show ¬ (false = true) by decide)] at H; exact H
        clear H
        have H := H1
        clear H1
        simp only [Option.some.injEq, Prod.mk.injEq] at H
        obtain ⟨rfl, rfl⟩ := H
        go_enter Try.func33, Try.ntmps33
        go_wp2_with (first | ((with_reducible refine gate_callee (f := 30) rfl ?_); refine goesL_ (some 9) rfl rfl Try.func30 (by kernel_rfl) rfl #[.slice A0 l0.length c0] rfl (by (try simp only [List.map_toArray, List.map_cons, List.map_nil]); first | done | rfl | (simp only [List.length_drop, List.length_take]; rfl)) ?_; (with_reducible refine (spec_GoodPosts.calls k _ _ l0 true _ ?side1 ?side2 A4.out).mono ?_); (case side1 => repeat (first | exact HR0.out | (with_reducible refine Kd.C_alloc ?_ _) | (with_reducible refine Kd.C_drewN ?_ _) | (with_reducible refine Kd.C_drew ?_))); (case side2 => exact HC0.out); rintro e w14 ⟨rfl, hb⟩; refine ⟨_, rfl, ?_⟩; have n0_ := Aside0.mk (below_step (by repeat (first | (with_reducible first | exact HB.out | apply below_alloc | apply pw_below_drewN | apply below_drew1) | exact HB.out)) hb); clear HB; have HB := n0_; clear n0_; (try clear hb); (try clear hb2); (try clear hk); (try clear hi)) | (go_at_call 30; (with_reducible refine (spec_GoodPosts.calls k _ _ l1 true _ ?side1 ?side2 A6.out).mono ?_); (case side1 => repeat (first | exact (Kd.C_below HR1.out HB.out) | (with_reducible refine Kd.C_alloc ?_ _) | (with_reducible refine Kd.C_drewN ?_ _) | (with_reducible refine Kd.C_drew ?_))); (case side2 => exact HC1.out); rintro e w15 ⟨rfl, hb⟩; have n0_ := Aside0.mk (below_step (by repeat (first | (with_reducible first | exact HB.out | apply below_alloc | apply pw_below_drewN | apply below_drew1) | exact HB.out)) hb); clear HB; have HB := n0_; clear n0_; (try clear hb); (try clear hb2); (try clear hk); (try clear hi)) | (go_at_call 67; (with_reducible refine (spec_l1In.calls a2 (-20) 20 false _ A8.out).mono ?_); rintro e w' ⟨rfl, ⟨nd, rfl⟩⟩))
        go_ret2
        exact ⟨_, by first | rfl | (simp [errW_none, errW_some] <;> rfl) | (simp [*, errW_none, errW_some] <;> rfl), by first | exact Kd.S_nil _ _ _ _ _ | exact Kd.N_nil _ _ _ _ _ | exact Kd.V_nil _ _ _ _ _ | exact Kd.Q_nil _ _ _ _ _ | exact Kd.R_nil _ _ _ _ _, by repeat (first | (with_reducible first | exact HB.out | apply below_alloc | apply pw_below_drewN | apply below_drew1) | exact HB.out)⟩
    · replace c7 := Bool.eq_false_iff.mpr c7
      subst c7
      have H1 : (some (([] : List (S57)), false)) = some (r1, r2) := by rw [if_neg (show ¬ (false = true) by decide)] at H; exact H
      clear H
      have H := H1
      clear H1
      simp only [Option.some.injEq, Prod.mk.injEq] at H
      obtain ⟨rfl, rfl⟩ := H
      go_enter Try.func33, Try.ntmps33
      go_wp2_with (first | ((with_reducible refine gate_callee (f := 30) rfl ?_); refine goesL_ (some 9) rfl rfl Try.func30 (by kernel_rfl) rfl #[.slice A0 l0.length c0] rfl (by (try simp only [List.map_toArray, List.map_cons, List.map_nil]); first | done | rfl | (simp only [List.length_drop, List.length_take]; rfl)) ?_; (with_reducible refine (spec_GoodPosts.calls k _ _ l0 true _ ?side1 ?side2 A4.out).mono ?_); (case side1 => repeat (first | exact HR0.out | (with_reducible refine Kd.C_alloc ?_ _) | (with_reducible refine Kd.C_drewN ?_ _) | (with_reducible refine Kd.C_drew ?_))); (case side2 => exact HC0.out); rintro e w16 ⟨rfl, hb⟩; refine ⟨_, rfl, ?_⟩; have n0_ := Aside0.mk (below_step (by repeat (first | (with_reducible first | exact HB.out | apply below_alloc | apply pw_below_drewN | apply below_drew1) | exact HB.out)) hb); clear HB; have HB := n0_; clear n0_; (try clear hb); (try clear hb2); (try clear hk); (try clear hi)) | (go_at_call 30; (with_reducible refine (spec_GoodPosts.calls k _ _ l1 false _ ?side1 ?side2 A6.out).mono ?_); (case side1 => repeat (first | exact (Kd.C_below HR1.out HB.out) | (with_reducible refine Kd.C_alloc ?_ _) | (with_reducible refine Kd.C_drewN ?_ _) | (with_reducible refine Kd.C_drew ?_))); (case side2 => exact HC1.out); rintro e w17 ⟨rfl, hb⟩; have n0_ := Aside0.mk (below_step (by repeat (first | (with_reducible first | exact HB.out | apply below_alloc | apply pw_below_drewN | apply below_drew1) | exact HB.out)) hb); clear HB; have HB := n0_; clear n0_; (try clear hb); (try clear hb2); (try clear hk); (try clear hi)))
      go_ret2
      exact ⟨_, by first | rfl | (simp [errW_none, errW_some] <;> rfl) | (simp [*, errW_none, errW_some] <;> rfl), by first | exact Kd.S_nil _ _ _ _ _ | exact Kd.N_nil _ _ _ _ _ | exact Kd.V_nil _ _ _ _ _ | exact Kd.Q_nil _ _ _ _ _ | exact Kd.R_nil _ _ _ _ _, by repeat (first | (with_reducible first | exact HB.out | apply below_alloc | apply pw_below_drewN | apply below_drew1) | exact HB.out)⟩
  · replace c5 := Bool.eq_false_iff.mpr c5
    subst c5
    have H1 : (some (([] : List (S57)), false)) = some (r1, r2) := by rw [if_neg (show ¬ (false = true) by decide)] at H; exact H
    clear H
    have H := H1
    clear H1
    simp only [Option.some.injEq, Prod.mk.injEq] at H
    obtain ⟨rfl, rfl⟩ := H
    go_enter Try.func33, Try.ntmps33
    go_wp2_with (first | ((with_reducible refine gate_callee (f := 30) rfl ?_); refine goesL_ (some 9) rfl rfl Try.func30 (by kernel_rfl) rfl #[.slice A0 l0.length c0] rfl (by (try simp only [List.map_toArray, List.map_cons, List.map_nil]); first | done | rfl | (simp only [List.length_drop, List.length_take]; rfl)) ?_; (with_reducible refine (spec_GoodPosts.calls k _ _ l0 false _ ?side1 ?side2 A4.out).mono ?_); (case side1 => repeat (first | exact HR0.out | (with_reducible refine Kd.C_alloc ?_ _) | (with_reducible refine Kd.C_drewN ?_ _) | (with_reducible refine Kd.C_drew ?_))); (case side2 => exact HC0.out); rintro e w18 ⟨rfl, hb⟩; refine ⟨_, rfl, ?_⟩; have n0_ := Aside0.mk (below_step (by repeat (first | (with_reducible first | exact HB.out | apply below_alloc | apply pw_below_drewN | apply below_drew1) | exact HB.out)) hb); clear HB; have HB := n0_; clear n0_; (try clear hb); (try clear hb2); (try clear hk); (try clear hi)))
    go_ret2
    exact ⟨_, by first | rfl | (simp [errW_none, errW_some] <;> rfl) | (simp [*, errW_none, errW_some] <;> rfl), by first | exact Kd.S_nil _ _ _ _ _ | exact Kd.N_nil _ _ _ _ _ | exact Kd.V_nil _ _ _ _ _ | exact Kd.Q_nil _ _ _ _ _ | exact Kd.R_nil _ _ _ _ _, by repeat (first | (with_reducible first | exact HB.out | apply below_alloc | apply pw_below_drewN | apply below_drew1) | exact HB.out)⟩

end Go.Proofs.Ytcopakljdenolaa.Fn
namespace Go.Proofs.Ytcopakljdenolaa.Pure
open Go.RowKit Go.Proofs.Ytcopakljdenolaa.Fn Go.Proofs.YtcopakljdenolaaW.PrintWords Go.Proofs.YtcopakljdenolaaW.PrintLast Go.Proofs.YtcopakljdenolaaW.PrintMore
set_option linter.unusedSimpArgs false
set_option linter.unusedVariables false

theorem containsInt_ev (ys : List Int) (n : Int) (hl : ys.length ≤ 9223372036854775806) : Ev (fun k => slices_Contains_int_int.f k ys n) (decide (n ∈ ys)) := by
  have key : ∀ (t : List Int) (i : Nat), ys.drop i = t → i ≤ ys.length → ∃ r : Int, Ev (fun k => slices_Index_int_int.l0 k ys n ys.length i) r ∧ decide (r ≥ 0) = decide (n ∈ t) := by
    intro t
    induction t with
    | nil =>
      intro i h hi
      have := drop_nil h
      refine ⟨-1, ?_, by simp⟩
      (refine Ev.up ?_; simp only [slices_Index_int_int.l0, decT])
      (repeat (first | with_reducible refine Ev.bindS ?_ | (with_reducible refine Ev.ifp ?_ ?_; (· first | omega | assumption | rfl | (simp only [List.length_map, List.length_replicate, List.length_take, List.length_drop, List.length_append, List.length_cons, List.length_nil, List.length_set]; omega) | (simp; done))) | (with_reducible refine Ev.ifn ?_ ?_; (· first | omega | assumption | rfl | (simp only [List.length_map, List.length_replicate, List.length_take, List.length_drop, List.length_append, List.length_cons, List.length_nil, List.length_set]; omega) | (simp; done)))))
      exact Ev.val rfl
    | cons x t ih =>
      intro i h hi
      obtain ⟨p1, p2, p3⟩ := drop_cons h
      by_cases hx : n = x
      · refine ⟨i, ?_, by rw [hx]; simp⟩
        (refine Ev.up ?_; simp only [slices_Index_int_int.l0, decT])
        rw [rd_at p2]
        (repeat (first | with_reducible refine Ev.bindS ?_ | (with_reducible refine Ev.ifp ?_ ?_; (· first | omega | assumption | rfl | (simp only [List.length_map, List.length_replicate, List.length_take, List.length_drop, List.length_append, List.length_cons, List.length_nil, List.length_set]; omega) | (simp; done))) | (with_reducible refine Ev.ifn ?_ ?_; (· first | omega | assumption | rfl | (simp only [List.length_map, List.length_replicate, List.length_take, List.length_drop, List.length_append, List.length_cons, List.length_nil, List.length_set]; omega) | (simp; done)))))
        exact Ev.val rfl
      · obtain ⟨r, h1, h2⟩ := ih (i + 1) p3 (by omega)
        refine ⟨r, ?_, by rw [h2, decide_eq_decide]; simp [hx]⟩
        (refine Ev.up ?_; simp only [slices_Index_int_int.l0, decT])
        rw [rd_at p2, wrap_succ (by omega)]
        (repeat (first | with_reducible refine Ev.bindS ?_ | (with_reducible refine Ev.ifp ?_ ?_; (· first | omega | assumption | rfl | (simp only [List.length_map, List.length_replicate, List.length_take, List.length_drop, List.length_append, List.length_cons, List.length_nil, List.length_set]; omega) | (simp; done))) | (with_reducible refine Ev.ifn ?_ ?_; (· first | omega | assumption | rfl | (simp only [List.length_map, List.length_replicate, List.length_take, List.length_drop, List.length_append, List.length_cons, List.length_nil, List.length_set]; omega) | (simp; done)))))
        exact h1
  obtain ⟨r, h1, h2⟩ := key ys 0 rfl (by omega)
  simp only [slices_Contains_int_int.f]
  refine Ev.bind (g := fun k => slices_Index_int_int.f k ys n) h1 ?_
  exact Ev.val h2
theorem specHas_ev (ys : List Int) (n : Int) (hl : ys.length ≤ 9223372036854775806) : Ev (fun k => spec_l1Has.f k ys n) (decide (n ∈ ys)) := by
  have key : ∀ (t : List Int) (i : Nat), ys.drop i = t → i ≤ ys.length → Ev (fun k => spec_l1Has.l0 k n ys ys.length i) (decide (n ∈ t)) := by
    intro t
    induction t with
    | nil =>
      intro i h hi
      have := drop_nil h
      (refine Ev.up ?_; simp only [spec_l1Has.l0, decT])
      (repeat (first | with_reducible refine Ev.bindS ?_ | (with_reducible refine Ev.ifp ?_ ?_; (· first | omega | assumption | rfl | (simp only [List.length_map, List.length_replicate, List.length_take, List.length_drop, List.length_append, List.length_cons, List.length_nil, List.length_set]; omega) | (simp; done))) | (with_reducible refine Ev.ifn ?_ ?_; (· first | omega | assumption | rfl | (simp only [List.length_map, List.length_replicate, List.length_take, List.length_drop, List.length_append, List.length_cons, List.length_nil, List.length_set]; omega) | (simp; done)))))
      exact Ev.val (by simp)
    | cons x t ih =>
      intro i h hi
      obtain ⟨p1, p2, p3⟩ := drop_cons h
      have ih := ih (i + 1) p3 (by omega)
      (refine Ev.up ?_; simp only [spec_l1Has.l0, decT])
      rw [rd_at p2, wrap_succ (by omega)]
      by_cases hx : x = n
      · (repeat (first | with_reducible refine Ev.bindS ?_ | (with_reducible refine Ev.ifp ?_ ?_; (· first | omega | assumption | rfl | (simp only [List.length_map, List.length_replicate, List.length_take, List.length_drop, List.length_append, List.length_cons, List.length_nil, List.length_set]; omega) | (simp; done))) | (with_reducible refine Ev.ifn ?_ ?_; (· first | omega | assumption | rfl | (simp only [List.length_map, List.length_replicate, List.length_take, List.length_drop, List.length_append, List.length_cons, List.length_nil, List.length_set]; omega) | (simp; done)))))
        exact Ev.val (by rw [hx]; simp)
      · (repeat (first | with_reducible refine Ev.bindS ?_ | (with_reducible refine Ev.ifp ?_ ?_; (· first | omega | assumption | rfl | (simp only [List.length_map, List.length_replicate, List.length_take, List.length_drop, List.length_append, List.length_cons, List.length_nil, List.length_set]; omega) | (simp; done))) | (with_reducible refine Ev.ifn ?_ ?_; (· first | omega | assumption | rfl | (simp only [List.length_map, List.length_replicate, List.length_take, List.length_drop, List.length_append, List.length_cons, List.length_nil, List.length_set]; omega) | (simp; done)))))
        have e : decide (n ∈ x :: t) = decide (n ∈ t) := by rw [decide_eq_decide]; simp [Ne.symm hx]
        rw [e]
        exact ih
  exact key ys 0 rfl (by omega)
def keepBy (n : Int) (ys xs : List Int) : List Int := xs.filter fun x => decide (wrap64 (x + n) ∈ ys)
def other (d : Int) : List S57 → Option S57
  | [] => none
  | q :: t => if q.f0 = d then some q else other d t
def meetOne (n : Int) (b : List S57) (p : S57) : List S57 :=
  match other p.f0 b with
  | none => []
  | some q => if (keepBy n q.f1 p.f1).length = 0 then [] else [⟨p.f0, keepBy n q.f1 p.f1⟩]
def meetAll (n : Int) (b : List S57) (a : List S57) : List S57 := a.flatMap (meetOne n b)
theorem keepBy_len (n : Int) (ys xs : List Int) : (keepBy n ys xs).length ≤ xs.length := List.length_filter_le _ _
theorem meetOne_len (n : Int) (b : List S57) (p : S57) : (meetOne n b p).length ≤ 1 := by
  unfold meetOne
  split
  · simp
  · split <;> simp
theorem meetAll_len (n : Int) (b a : List S57) : (meetAll n b a).length ≤ a.length := by
  induction a with
  | nil => simp [meetAll]
  | cons p t ih =>
    have h1 := meetOne_len n b p
    simp only [meetAll, List.flatMap_cons, List.length_append, List.length_cons] at *
    omega
theorem meetAll_fit (n : Int) (b a : List S57) (ha : Fit a) : Fit (meetAll n b a) := by
  refine ⟨Nat.le_trans (meetAll_len n b a) ha.1, fun p hp => ?_⟩
  obtain ⟨q, hq, hp⟩ := List.mem_flatMap.1 hp
  have h1 := ha.2 q hq
  unfold meetOne at hp
  split at hp
  · cases hp
  · split at hp
    · cases hp
    · rw [List.mem_singleton.1 hp]
      exact Nat.le_trans (keepBy_len _ _ _) h1
theorem idx_other (d : Int) (b : List S57) : ∀ (t : List S57) (i : Nat), b.drop i = t → i ≤ b.length → (other d t = none ∧ idxDoc d t i = -1) ∨ ∃ (j : Nat) (q : S57), other d t = some q ∧ idxDoc d t i = (j : Int) ∧ b[j]? = some q := by
  intro t
  induction t with
  | nil => intro i h hi; exact .inl ⟨rfl, rfl⟩
  | cons x t ih =>
    intro i h hi
    obtain ⟨p1, p2, p3⟩ := drop_cons h
    by_cases hx : x.f0 = d
    · exact .inr ⟨i, x, by rw [other, if_pos hx], by rw [idxDoc, if_pos hx], p2⟩
    · rw [other, if_neg hx, idxDoc, if_neg hx]
      exact ih (i + 1) p3 (by omega)
theorem implMeet_inner (n : Int) (b out : List S57) (at_ : Nat) (q : S57) (hq : b[at_]? = some q) (a : List S57) (i : Nat) (p : S57) (hb : Fit b) (hp : p.f1.length ≤ 1048576) (ho : out.length < 4398046511104) (hi : i ≤ 9223372036854775806) (r : List S57)
    (hr : Ev (fun k => impl_meet.l0 k b n (if (keepBy n q.f1 p.f1).length = 0 then out else out ++ [⟨p.f0, keepBy n q.f1 p.f1⟩]) a a.length ((i + 1 : Nat) : Int)) r) :
    ∀ (t : List Int) (j : Nat) (acc : List Int), p.f1.drop j = t → j ≤ p.f1.length → acc.length ≤ j → acc ++ keepBy n q.f1 t = keepBy n q.f1 p.f1 →
      Ev (fun k => impl_meet.l1 k b n out at_ acc a a.length i p.f1 p.f1.length j p.f0 p.f1) r := by
  have hqb := hb.2 q (List.mem_of_getElem? hq)
  have hlt : at_ < b.length := (List.getElem?_eq_some_iff.1 hq).1
  intro t
  induction t with
  | nil =>
    intro j acc h hj ha e
    have := drop_nil h
    have e : acc = keepBy n q.f1 p.f1 := by rw [← e]; simp [keepBy]
    rw [← e] at hr
    (refine Ev.up ?_; simp only [impl_meet.l1, decT])
    rw [wrap_succ (i := i) hi]
    by_cases h0 : acc.length = 0
    · rw [if_pos h0] at hr
      (repeat (first | with_reducible refine Ev.bindS ?_ | (with_reducible refine Ev.ifp ?_ ?_; (· first | omega | assumption | rfl | (simp only [List.length_map, List.length_replicate, List.length_take, List.length_drop, List.length_append, List.length_cons, List.length_nil, List.length_set]; omega) | (simp; done))) | (with_reducible refine Ev.ifn ?_ ?_; (· first | omega | assumption | rfl | (simp only [List.length_map, List.length_replicate, List.length_take, List.length_drop, List.length_append, List.length_cons, List.length_nil, List.length_set]; omega) | (simp; done)))))
      exact hr
    · rw [if_neg h0] at hr
      (repeat (first | with_reducible refine Ev.bindS ?_ | (with_reducible refine Ev.ifp ?_ ?_; (· first | omega | assumption | rfl | (simp only [List.length_map, List.length_replicate, List.length_take, List.length_drop, List.length_append, List.length_cons, List.length_nil, List.length_set]; omega) | (simp; done))) | (with_reducible refine Ev.ifn ?_ ?_; (· first | omega | assumption | rfl | (simp only [List.length_map, List.length_replicate, List.length_take, List.length_drop, List.length_append, List.length_cons, List.length_nil, List.length_set]; omega) | (simp; done)))))
      exact hr
  | cons x t ih =>
    intro j acc h hj ha e
    obtain ⟨p1, p2, p3⟩ := drop_cons h
    (refine Ev.up ?_; simp only [impl_meet.l1, decT])
    rw [rd_at p2, rd57_at hq, wrap_succ (i := j) (by omega)]
    (repeat (first | with_reducible refine Ev.bindS ?_ | (with_reducible refine Ev.ifp ?_ ?_; (· first | omega | assumption | rfl | (simp only [List.length_map, List.length_replicate, List.length_take, List.length_drop, List.length_append, List.length_cons, List.length_nil, List.length_set]; omega) | (simp; done))) | (with_reducible refine Ev.ifn ?_ ?_; (· first | omega | assumption | rfl | (simp only [List.length_map, List.length_replicate, List.length_take, List.length_drop, List.length_append, List.length_cons, List.length_nil, List.length_set]; omega) | (simp; done)))))
    refine Ev.bind (containsInt_ev q.f1 (wrap64 (x + n)) (by omega)) ?_
    by_cases hx : wrap64 (x + n) ∈ q.f1
    · rw [decide_eq_true hx]
      (repeat (first | with_reducible refine Ev.bindS ?_ | (with_reducible refine Ev.ifp ?_ ?_; (· first | omega | assumption | rfl | (simp only [List.length_map, List.length_replicate, List.length_take, List.length_drop, List.length_append, List.length_cons, List.length_nil, List.length_set]; omega) | (simp; done))) | (with_reducible refine Ev.ifn ?_ ?_; (· first | omega | assumption | rfl | (simp only [List.length_map, List.length_replicate, List.length_take, List.length_drop, List.length_append, List.length_cons, List.length_nil, List.length_set]; omega) | (simp; done)))))
      refine ih (j + 1) (acc ++ [x]) p3 (by omega) (by simp; omega) ?_
      rw [← e, List.append_assoc]
      simp [keepBy, hx]
    · rw [decide_eq_false hx]
      (repeat (first | with_reducible refine Ev.bindS ?_ | (with_reducible refine Ev.ifp ?_ ?_; (· first | omega | assumption | rfl | (simp only [List.length_map, List.length_replicate, List.length_take, List.length_drop, List.length_append, List.length_cons, List.length_nil, List.length_set]; omega) | (simp; done))) | (with_reducible refine Ev.ifn ?_ ?_; (· first | omega | assumption | rfl | (simp only [List.length_map, List.length_replicate, List.length_take, List.length_drop, List.length_append, List.length_cons, List.length_nil, List.length_set]; omega) | (simp; done)))))
      refine ih (j + 1) acc p3 (by omega) (by omega) ?_
      rw [← e]
      simp [keepBy, hx]
theorem implMeet_ev (n : Int) (a b : List S57) (ha : Fit a) (hb : Fit b) : Ev (fun k => impl_meet.f k a b n) (meetAll n b a) := by
  have ha1 := ha.1
  have hb1 := hb.1
  have key : ∀ (t : List S57) (i : Nat) (out : List S57), a.drop i = t → i ≤ a.length → out.length ≤ i → Ev (fun k => impl_meet.l0 k b n out a a.length i) (out ++ meetAll n b t) := by
    intro t
    induction t with
    | nil =>
      intro i out h hi ho
      have := drop_nil h
      (refine Ev.up ?_; simp only [impl_meet.l0, decT])
      (repeat (first | with_reducible refine Ev.bindS ?_ | (with_reducible refine Ev.ifp ?_ ?_; (· first | omega | assumption | rfl | (simp only [List.length_map, List.length_replicate, List.length_take, List.length_drop, List.length_append, List.length_cons, List.length_nil, List.length_set]; omega) | (simp; done))) | (with_reducible refine Ev.ifn ?_ ?_; (· first | omega | assumption | rfl | (simp only [List.length_map, List.length_replicate, List.length_take, List.length_drop, List.length_append, List.length_cons, List.length_nil, List.length_set]; omega) | (simp; done)))))
      exact Ev.val (by simp [meetAll])
    | cons p t ih =>
      intro i out h hi ho
      obtain ⟨p1, p2, p3⟩ := drop_cons h
      have hp := ha.2 p (List.mem_of_getElem? p2)
      have e0 : meetAll n b (p :: t) = meetOne n b p ++ meetAll n b t := by simp [meetAll]
      rw [e0]
      (refine Ev.up ?_; simp only [impl_meet.l0, decT])
      rw [rd57_at p2, wrap_succ (i := i) (by omega)]
      (repeat (first | with_reducible refine Ev.bindS ?_ | (with_reducible refine Ev.ifp ?_ ?_; (· first | omega | assumption | rfl | (simp only [List.length_map, List.length_replicate, List.length_take, List.length_drop, List.length_append, List.length_cons, List.length_nil, List.length_set]; omega) | (simp; done))) | (with_reducible refine Ev.ifn ?_ ?_; (· first | omega | assumption | rfl | (simp only [List.length_map, List.length_replicate, List.length_take, List.length_drop, List.length_append, List.length_cons, List.length_nil, List.length_set]; omega) | (simp; done)))))
      simp only [meet_idx.f]
      (repeat (first | with_reducible refine Ev.bindS ?_ | (with_reducible refine Ev.ifp ?_ ?_; (· first | omega | assumption | rfl | (simp only [List.length_map, List.length_replicate, List.length_take, List.length_drop, List.length_append, List.length_cons, List.length_nil, List.length_set]; omega) | (simp; done))) | (with_reducible refine Ev.ifn ?_ ?_; (· first | omega | assumption | rfl | (simp only [List.length_map, List.length_replicate, List.length_take, List.length_drop, List.length_append, List.length_cons, List.length_nil, List.length_set]; omega) | (simp; done)))))
      rcases idx_other p.f0 b b 0 rfl (by omega) with ⟨e1, e2⟩ | ⟨j, q, e1, e2, e3⟩
      · rw [e2]
        (repeat (first | with_reducible refine Ev.bindS ?_ | (with_reducible refine Ev.ifp ?_ ?_; (· first | omega | assumption | rfl | (simp only [List.length_map, List.length_replicate, List.length_take, List.length_drop, List.length_append, List.length_cons, List.length_nil, List.length_set]; omega) | (simp; done))) | (with_reducible refine Ev.ifn ?_ ?_; (· first | omega | assumption | rfl | (simp only [List.length_map, List.length_replicate, List.length_take, List.length_drop, List.length_append, List.length_cons, List.length_nil, List.length_set]; omega) | (simp; done)))))
        have e4 : meetOne n b p = [] := by unfold meetOne; rw [e1]
        rw [e4, List.nil_append]
        exact ih (i + 1) out p3 (by omega) (by omega)
      · rw [e2]
        (repeat (first | with_reducible refine Ev.bindS ?_ | (with_reducible refine Ev.ifp ?_ ?_; (· first | omega | assumption | rfl | (simp only [List.length_map, List.length_replicate, List.length_take, List.length_drop, List.length_append, List.length_cons, List.length_nil, List.length_set]; omega) | (simp; done))) | (with_reducible refine Ev.ifn ?_ ?_; (· first | omega | assumption | rfl | (simp only [List.length_map, List.length_replicate, List.length_take, List.length_drop, List.length_append, List.length_cons, List.length_nil, List.length_set]; omega) | (simp; done)))))
        refine implMeet_inner n b out j q e3 a i p hb hp (by omega) (by omega) _ ?_ p.f1 0 [] rfl (by omega) (by simp) (by simp)
        have e4 : meetOne n b p = if (keepBy n q.f1 p.f1).length = 0 then [] else [⟨p.f0, keepBy n q.f1 p.f1⟩] := by unfold meetOne; rw [e1]
        rw [e4]
        by_cases h0 : (keepBy n q.f1 p.f1).length = 0
        · rw [if_pos h0, if_pos h0, List.nil_append]
          exact ih (i + 1) out p3 (by omega) (by omega)
        · rw [if_neg h0, if_neg h0, ← List.append_assoc]
          exact ih (i + 1) _ p3 (by omega) (by simp; omega)
  have h := key a 0 [] rfl (by omega) (by simp)
  simpa [impl_meet.f] using h
def Apart (b : List S57) : Prop := b.Pairwise fun x y => x.f0 ≠ y.f0
theorem other_none {d : Int} {t : List S57} (h : ∀ q ∈ t, q.f0 ≠ d) : other d t = none := by
  induction t with
  | nil => rfl
  | cons x t ih =>
    rw [other, if_neg (h x List.mem_cons_self)]
    exact ih (fun q hq => h q (List.mem_cons_of_mem _ hq))
theorem specMeet_places (n : Int) (b out : List S57) (a : List S57) (i jb : Nat) (p q : S57) (hp : p.f1.length ≤ 1048576) (hq : q.f1.length ≤ 1048576) (ho : out.length < 4398046511104) (hjb : jb ≤ 9223372036854775806) (r : List S57)
    (hr : Ev (fun k => spec_l9Meet.l1 k b n (if (keepBy n q.f1 p.f1).length = 0 then out else out ++ [⟨p.f0, keepBy n q.f1 p.f1⟩]) a a.length i b b.length ((jb + 1 : Nat) : Int) p.f0 p.f1) r) :
    ∀ (t : List Int) (j : Nat) (acc : List Int), p.f1.drop j = t → j ≤ p.f1.length → acc.length ≤ j → acc ++ keepBy n q.f1 t = keepBy n q.f1 p.f1 →
      Ev (fun k => spec_l9Meet.l2 k b n out a a.length i b b.length jb p.f1 p.f1.length j p.f0 p.f1 q.f0 q.f1 p.f0 acc) r := by
  intro t
  induction t with
  | nil =>
    intro j acc h hj ha e
    have := drop_nil h
    have e : acc = keepBy n q.f1 p.f1 := by rw [← e]; simp [keepBy]
    rw [← e] at hr
    (refine Ev.up ?_; simp only [spec_l9Meet.l2, decT])
    rw [wrap_succ (i := jb) hjb]
    by_cases h0 : acc.length = 0
    · rw [if_pos h0] at hr
      (repeat (first | with_reducible refine Ev.bindS ?_ | (with_reducible refine Ev.ifp ?_ ?_; (· first | omega | assumption | rfl | (simp only [List.length_map, List.length_replicate, List.length_take, List.length_drop, List.length_append, List.length_cons, List.length_nil, List.length_set]; omega) | (simp; done))) | (with_reducible refine Ev.ifn ?_ ?_; (· first | omega | assumption | rfl | (simp only [List.length_map, List.length_replicate, List.length_take, List.length_drop, List.length_append, List.length_cons, List.length_nil, List.length_set]; omega) | (simp; done)))))
      exact hr
    · rw [if_neg h0] at hr
      (repeat (first | with_reducible refine Ev.bindS ?_ | (with_reducible refine Ev.ifp ?_ ?_; (· first | omega | assumption | rfl | (simp only [List.length_map, List.length_replicate, List.length_take, List.length_drop, List.length_append, List.length_cons, List.length_nil, List.length_set]; omega) | (simp; done))) | (with_reducible refine Ev.ifn ?_ ?_; (· first | omega | assumption | rfl | (simp only [List.length_map, List.length_replicate, List.length_take, List.length_drop, List.length_append, List.length_cons, List.length_nil, List.length_set]; omega) | (simp; done)))))
      exact hr
  | cons x t ih =>
    intro j acc h hj ha e
    obtain ⟨p1, p2, p3⟩ := drop_cons h
    (refine Ev.up ?_; simp only [spec_l9Meet.l2, decT])
    rw [rd_at p2, wrap_succ (i := j) (by omega)]
    (repeat (first | with_reducible refine Ev.bindS ?_ | (with_reducible refine Ev.ifp ?_ ?_; (· first | omega | assumption | rfl | (simp only [List.length_map, List.length_replicate, List.length_take, List.length_drop, List.length_append, List.length_cons, List.length_nil, List.length_set]; omega) | (simp; done))) | (with_reducible refine Ev.ifn ?_ ?_; (· first | omega | assumption | rfl | (simp only [List.length_map, List.length_replicate, List.length_take, List.length_drop, List.length_append, List.length_cons, List.length_nil, List.length_set]; omega) | (simp; done)))))
    refine Ev.bind (specHas_ev q.f1 (wrap64 (x + n)) (by omega)) ?_
    by_cases hx : wrap64 (x + n) ∈ q.f1
    · rw [decide_eq_true hx]
      (repeat (first | with_reducible refine Ev.bindS ?_ | (with_reducible refine Ev.ifp ?_ ?_; (· first | omega | assumption | rfl | (simp only [List.length_map, List.length_replicate, List.length_take, List.length_drop, List.length_append, List.length_cons, List.length_nil, List.length_set]; omega) | (simp; done))) | (with_reducible refine Ev.ifn ?_ ?_; (· first | omega | assumption | rfl | (simp only [List.length_map, List.length_replicate, List.length_take, List.length_drop, List.length_append, List.length_cons, List.length_nil, List.length_set]; omega) | (simp; done)))))
      refine ih (j + 1) (acc ++ [x]) p3 (by omega) (by simp; omega) ?_
      rw [← e, List.append_assoc]
      simp [keepBy, hx]
    · rw [decide_eq_false hx]
      (repeat (first | with_reducible refine Ev.bindS ?_ | (with_reducible refine Ev.ifp ?_ ?_; (· first | omega | assumption | rfl | (simp only [List.length_map, List.length_replicate, List.length_take, List.length_drop, List.length_append, List.length_cons, List.length_nil, List.length_set]; omega) | (simp; done))) | (with_reducible refine Ev.ifn ?_ ?_; (· first | omega | assumption | rfl | (simp only [List.length_map, List.length_replicate, List.length_take, List.length_drop, List.length_append, List.length_cons, List.length_nil, List.length_set]; omega) | (simp; done)))))
      refine ih (j + 1) acc p3 (by omega) (by omega) ?_
      rw [← e]
      simp [keepBy, hx]
theorem specMeet_docs (n : Int) (b : List S57) (a : List S57) (i : Nat) (p : S57) (hb : Fit b) (hp : p.f1.length ≤ 1048576) (hi : i ≤ 9223372036854775806) (r : List S57) :
    ∀ (t : List S57) (j : Nat) (out : List S57), b.drop j = t → j ≤ b.length → Apart t → out.length + 1 < 4398046511104 → Ev (fun k => spec_l9Meet.l0 k b n (out ++ meetOne n t p) a a.length ((i + 1 : Nat) : Int)) r →
      Ev (fun k => spec_l9Meet.l1 k b n out a a.length i b b.length j p.f0 p.f1) r := by
  have hb1 := hb.1
  intro t
  induction t with
  | nil =>
    intro j out h hj hA ho hr
    have := drop_nil h
    have e : meetOne n [] p = [] := rfl
    rw [e, List.append_nil] at hr
    (refine Ev.up ?_; simp only [spec_l9Meet.l1, decT])
    rw [wrap_succ (i := i) hi]
    (repeat (first | with_reducible refine Ev.bindS ?_ | (with_reducible refine Ev.ifp ?_ ?_; (· first | omega | assumption | rfl | (simp only [List.length_map, List.length_replicate, List.length_take, List.length_drop, List.length_append, List.length_cons, List.length_nil, List.length_set]; omega) | (simp; done))) | (with_reducible refine Ev.ifn ?_ ?_; (· first | omega | assumption | rfl | (simp only [List.length_map, List.length_replicate, List.length_take, List.length_drop, List.length_append, List.length_cons, List.length_nil, List.length_set]; omega) | (simp; done)))))
    exact hr
  | cons q t ih =>
    intro j out h hj hA ho hr
    obtain ⟨p1, p2, p3⟩ := drop_cons h
    have hq := hb.2 q (List.mem_of_getElem? p2)
    obtain ⟨hA1, hA2⟩ := List.pairwise_cons.1 hA
    (refine Ev.up ?_; simp only [spec_l9Meet.l1, decT])
    rw [rd57_at p2]
    by_cases hd : p.f0 = q.f0
    · (repeat (first | with_reducible refine Ev.bindS ?_ | (with_reducible refine Ev.ifp ?_ ?_; (· first | omega | assumption | rfl | (simp only [List.length_map, List.length_replicate, List.length_take, List.length_drop, List.length_append, List.length_cons, List.length_nil, List.length_set]; omega) | (simp; done))) | (with_reducible refine Ev.ifn ?_ ?_; (· first | omega | assumption | rfl | (simp only [List.length_map, List.length_replicate, List.length_take, List.length_drop, List.length_append, List.length_cons, List.length_nil, List.length_set]; omega) | (simp; done)))))
      refine specMeet_places n b out a i j p q hp hq (by omega) (by omega) r ?_ p.f1 0 [] rfl (by omega) (by simp) (by simp)
      have e1 : meetOne n (q :: t) p = if (keepBy n q.f1 p.f1).length = 0 then [] else [⟨p.f0, keepBy n q.f1 p.f1⟩] := by
        unfold meetOne; rw [other, if_pos hd.symm]
      have e2 : ∀ o, out.length ≤ (o : List S57).length → True := fun _ _ => trivial
      have e3 : meetOne n t p = [] := by
        unfold meetOne; rw [other_none (fun x hx => by rw [hd]; exact Ne.symm (hA1 x hx))]
      rw [e1] at hr
      by_cases h0 : (keepBy n q.f1 p.f1).length = 0
      · rw [if_pos h0] at hr ⊢
        refine ih (j + 1) out p3 (by omega) hA2 ho ?_
        rw [e3]
        exact hr
      · rw [if_neg h0] at hr ⊢
        -- no further document is this one: the rest of the round does nothing
        have rest : ∀ (t' : List S57) (j' : Nat), b.drop j' = t' → j' ≤ b.length → (∀ x ∈ t', x.f0 ≠ p.f0) → Ev (fun k => spec_l9Meet.l1 k b n (out ++ [⟨p.f0, keepBy n q.f1 p.f1⟩]) a a.length i b b.length j' p.f0 p.f1) r := by
          intro t'
          induction t' with
          | nil =>
            intro j' h' hj' _
            have := drop_nil h'
            (refine Ev.up ?_; simp only [spec_l9Meet.l1, decT])
            rw [wrap_succ (i := i) hi]
            (repeat (first | with_reducible refine Ev.bindS ?_ | (with_reducible refine Ev.ifp ?_ ?_; (· first | omega | assumption | rfl | (simp only [List.length_map, List.length_replicate, List.length_take, List.length_drop, List.length_append, List.length_cons, List.length_nil, List.length_set]; omega) | (simp; done))) | (with_reducible refine Ev.ifn ?_ ?_; (· first | omega | assumption | rfl | (simp only [List.length_map, List.length_replicate, List.length_take, List.length_drop, List.length_append, List.length_cons, List.length_nil, List.length_set]; omega) | (simp; done)))))
            exact hr
          | cons z t' ih' =>
            intro j' h' hj' hz
            obtain ⟨z1, z2, z3⟩ := drop_cons h'
            have hne : ¬ p.f0 = z.f0 := fun e => hz z List.mem_cons_self e.symm
            (refine Ev.up ?_; simp only [spec_l9Meet.l1, decT])
            rw [rd57_at z2, wrap_succ (i := j') (by omega)]
            (repeat (first | with_reducible refine Ev.bindS ?_ | (with_reducible refine Ev.ifp ?_ ?_; (· first | omega | assumption | rfl | (simp only [List.length_map, List.length_replicate, List.length_take, List.length_drop, List.length_append, List.length_cons, List.length_nil, List.length_set]; omega) | (simp; done))) | (with_reducible refine Ev.ifn ?_ ?_; (· first | omega | assumption | rfl | (simp only [List.length_map, List.length_replicate, List.length_take, List.length_drop, List.length_append, List.length_cons, List.length_nil, List.length_set]; omega) | (simp; done)))))
            exact ih' (j' + 1) z3 (by omega) (fun x hx => hz x (List.mem_cons_of_mem _ hx))
        exact rest t (j + 1) p3 (by omega) (fun x hx => by rw [hd]; exact Ne.symm (hA1 x hx))
    · rw [wrap_succ (i := j) (by omega)]
      (repeat (first | with_reducible refine Ev.bindS ?_ | (with_reducible refine Ev.ifp ?_ ?_; (· first | omega | assumption | rfl | (simp only [List.length_map, List.length_replicate, List.length_take, List.length_drop, List.length_append, List.length_cons, List.length_nil, List.length_set]; omega) | (simp; done))) | (with_reducible refine Ev.ifn ?_ ?_; (· first | omega | assumption | rfl | (simp only [List.length_map, List.length_replicate, List.length_take, List.length_drop, List.length_append, List.length_cons, List.length_nil, List.length_set]; omega) | (simp; done)))))
      refine ih (j + 1) out p3 (by omega) hA2 ho ?_
      have e1 : meetOne n (q :: t) p = meetOne n t p := by unfold meetOne; rw [other, if_neg (fun e => hd e.symm)]
      rw [← e1]
      exact hr
theorem specMeet_ev (n : Int) (a b : List S57) (ha : Fit a) (hb : Fit b) (hA : Apart b) : Ev (fun k => spec_l9Meet.f k a b n) (meetAll n b a) := by
  have ha1 := ha.1
  have hb1 := hb.1
  have key : ∀ (t : List S57) (i : Nat) (out : List S57), a.drop i = t → i ≤ a.length → out.length ≤ i → Ev (fun k => spec_l9Meet.l0 k b n out a a.length i) (out ++ meetAll n b t) := by
    intro t
    induction t with
    | nil =>
      intro i out h hi ho
      have := drop_nil h
      (refine Ev.up ?_; simp only [spec_l9Meet.l0, decT])
      (repeat (first | with_reducible refine Ev.bindS ?_ | (with_reducible refine Ev.ifp ?_ ?_; (· first | omega | assumption | rfl | (simp only [List.length_map, List.length_replicate, List.length_take, List.length_drop, List.length_append, List.length_cons, List.length_nil, List.length_set]; omega) | (simp; done))) | (with_reducible refine Ev.ifn ?_ ?_; (· first | omega | assumption | rfl | (simp only [List.length_map, List.length_replicate, List.length_take, List.length_drop, List.length_append, List.length_cons, List.length_nil, List.length_set]; omega) | (simp; done)))))
      exact Ev.val (by simp [meetAll])
    | cons p t ih =>
      intro i out h hi ho
      obtain ⟨p1, p2, p3⟩ := drop_cons h
      have hp := ha.2 p (List.mem_of_getElem? p2)
      have h1 := meetOne_len n b p
      have e0 : meetAll n b (p :: t) = meetOne n b p ++ meetAll n b t := by simp [meetAll]
      rw [e0, ← List.append_assoc]
      (refine Ev.up ?_; simp only [spec_l9Meet.l0, decT])
      rw [rd57_at p2]
      (repeat (first | with_reducible refine Ev.bindS ?_ | (with_reducible refine Ev.ifp ?_ ?_; (· first | omega | assumption | rfl | (simp only [List.length_map, List.length_replicate, List.length_take, List.length_drop, List.length_append, List.length_cons, List.length_nil, List.length_set]; omega) | (simp; done))) | (with_reducible refine Ev.ifn ?_ ?_; (· first | omega | assumption | rfl | (simp only [List.length_map, List.length_replicate, List.length_take, List.length_drop, List.length_append, List.length_cons, List.length_nil, List.length_set]; omega) | (simp; done)))))
      refine specMeet_docs n b a i p hb hp (by omega) _ b 0 out rfl (by omega) hA (by omega) ?_
      exact ih (i + 1) _ p3 (by omega) (by simp; omega)
  have h := key a 0 [] rfl (by omega) (by simp)
  simpa [spec_l9Meet.f] using h
def goodB (l : List S57) : Bool := postsOk l l 0 && decide ((l.length : Int) ≤ 12)
theorem good_apart {l : List S57} (h : goodB l = true) : Apart l := by
  have h := (Bool.and_eq_true _ _ ▸ h : postsOk l l 0 = true ∧ _).1
  have key : ∀ (t : List S57) (i : Nat), l.drop i = t → postsOk l t i = true → t.Pairwise (fun x y => x.f0 < y.f0) ∧ (∀ x, 0 < i → l[i - 1]? = some x → ∀ y ∈ t, x.f0 < y.f0) := by
    intro t
    induction t with
    | nil => intro i hd h; exact ⟨List.Pairwise.nil, fun x _ _ y hy => by cases hy⟩
    | cons p t ih =>
      intro i hd h
      obtain ⟨p1, p2, p3⟩ := drop_cons hd
      simp only [postsOk, Bool.and_eq_true, Bool.or_eq_true, Bool.not_eq_true', decide_eq_true_eq, decide_eq_false_iff_not] at h
      have ht : postsOk l t (i + 1) = true := by
        first | exact h.2.2.2 | exact h.2.2.2.2 | exact h.2.2
      obtain ⟨i1, i2⟩ := ih (i + 1) p3 ht
      have hall := i2 p (by omega) (by simpa using p2)
      refine ⟨List.pairwise_cons.2 ⟨hall, i1⟩, fun x hi hx y hy => ?_⟩
      have hxp : x.f0 < p.f0 := by
        rcases h.2.1 with h0 | h0
        · omega
        · rw [rd57_at hx] at h0
          omega
      rcases List.mem_cons.1 hy with rfl | hy
      · exact hxp
      · have := hall y hy
        omega
  exact (key l 0 rfl h).1.imp (fun h e => by omega)
def meetRes (a b : List S57) (n : Int) : List S57 × Bool := if goodB a = true ∧ goodB b = true ∧ -20 ≤ n ∧ n ≤ 20 then (meetAll n b a, true) else ([], false)
theorem meetRes_fit (a b : List S57) (n : Int) (ha : Fit a) : Fit (meetRes a b n).1 := by
  unfold meetRes
  split
  · exact meetAll_fit n b a ha
  · exact ⟨by simp, fun p hp => by cases hp⟩
theorem implMeetPosts_ev (a b : List S57) (n : Int) (ha : Fit a) (hb : Fit b) : Ev (fun k => impl_MeetPosts.f k a b n) (meetRes a b n) := by
  have bad : ¬ (goodB a = true ∧ goodB b = true ∧ -20 ≤ n ∧ n ≤ 20) → Ev (fun _ : Nat => some (([], false) : List S57 × Bool)) (meetRes a b n) := fun h => by
    rw [meetRes, if_neg h]
    exact Ev.val rfl
  simp only [impl_MeetPosts.f]
  refine Ev.bind (implGood_ev a ha) ?_
  show Ev (fun k => if goodB a = true then _ else _) _
  cases h1 : goodB a with
  | false => exact Ev.ifn (by simp) (bad (fun h => by rw [h1] at h; cases h.1))
  | true =>
    refine Ev.ifp rfl (Ev.bind (implGood_ev b hb) ?_)
    show Ev (fun k => if goodB b = true then _ else _) _
    cases h2 : goodB b with
    | false => exact Ev.ifn (by simp) (bad (fun h => by rw [h2] at h; cases h.2.1))
    | true =>
      refine Ev.ifp rfl ?_
      rw [within_eq]
      by_cases h3 : -20 ≤ n ∧ n ≤ 20
      · rw [decide_eq_true h3]
        (repeat (first | with_reducible refine Ev.bindS ?_ | (with_reducible refine Ev.ifp ?_ ?_; (· first | omega | assumption | rfl | (simp only [List.length_map, List.length_replicate, List.length_take, List.length_drop, List.length_append, List.length_cons, List.length_nil, List.length_set]; omega) | (simp; done))) | (with_reducible refine Ev.ifn ?_ ?_; (· first | omega | assumption | rfl | (simp only [List.length_map, List.length_replicate, List.length_take, List.length_drop, List.length_append, List.length_cons, List.length_nil, List.length_set]; omega) | (simp; done)))))
        refine Ev.bind (implMeet_ev n a b ha hb) ?_
        rw [meetRes, if_pos ⟨h1, h2, h3⟩]
        exact Ev.val rfl
      · rw [decide_eq_false h3]
        (repeat (first | with_reducible refine Ev.bindS ?_ | (with_reducible refine Ev.ifp ?_ ?_; (· first | omega | assumption | rfl | (simp only [List.length_map, List.length_replicate, List.length_take, List.length_drop, List.length_append, List.length_cons, List.length_nil, List.length_set]; omega) | (simp; done))) | (with_reducible refine Ev.ifn ?_ ?_; (· first | omega | assumption | rfl | (simp only [List.length_map, List.length_replicate, List.length_take, List.length_drop, List.length_append, List.length_cons, List.length_nil, List.length_set]; omega) | (simp; done)))))
        exact bad (fun h => h3 h.2.2)
theorem specMeetPosts_ev (a b : List S57) (n : Int) (ha : Fit a) (hb : Fit b) : Ev (fun k => spec_MeetPosts.f k a b n) (meetRes a b n) := by
  have bad : ¬ (goodB a = true ∧ goodB b = true ∧ -20 ≤ n ∧ n ≤ 20) → Ev (fun _ : Nat => some (([], false) : List S57 × Bool)) (meetRes a b n) := fun h => by
    rw [meetRes, if_neg h]
    exact Ev.val rfl
  simp only [spec_MeetPosts.f]
  refine Ev.bind (specGood_ev a ha) ?_
  show Ev (fun k => if goodB a = true then _ else _) _
  cases h1 : goodB a with
  | false => exact Ev.ifn (by simp) (bad (fun h => by rw [h1] at h; cases h.1))
  | true =>
    refine Ev.ifp rfl (Ev.bind (specGood_ev b hb) ?_)
    show Ev (fun k => if goodB b = true then _ else _) _
    cases h2 : goodB b with
    | false => exact Ev.ifn (by simp) (bad (fun h => by rw [h2] at h; cases h.2.1))
    | true =>
      refine Ev.ifp rfl ?_
      rw [specIn_eq]
      by_cases h3 : -20 ≤ n ∧ n ≤ 20
      · rw [decide_eq_true h3]
        (repeat (first | with_reducible refine Ev.bindS ?_ | (with_reducible refine Ev.ifp ?_ ?_; (· first | omega | assumption | rfl | (simp only [List.length_map, List.length_replicate, List.length_take, List.length_drop, List.length_append, List.length_cons, List.length_nil, List.length_set]; omega) | (simp; done))) | (with_reducible refine Ev.ifn ?_ ?_; (· first | omega | assumption | rfl | (simp only [List.length_map, List.length_replicate, List.length_take, List.length_drop, List.length_append, List.length_cons, List.length_nil, List.length_set]; omega) | (simp; done)))))
        refine Ev.bind (specMeet_ev n a b ha hb (good_apart h2)) ?_
        rw [meetRes, if_pos ⟨h1, h2, h3⟩]
        exact Ev.val rfl
      · rw [decide_eq_false h3]
        (repeat (first | with_reducible refine Ev.bindS ?_ | (with_reducible refine Ev.ifp ?_ ?_; (· first | omega | assumption | rfl | (simp only [List.length_map, List.length_replicate, List.length_take, List.length_drop, List.length_append, List.length_cons, List.length_nil, List.length_set]; omega) | (simp; done))) | (with_reducible refine Ev.ifn ?_ ?_; (· first | omega | assumption | rfl | (simp only [List.length_map, List.length_replicate, List.length_take, List.length_drop, List.length_append, List.length_cons, List.length_nil, List.length_set]; omega) | (simp; done)))))
        exact bad (fun h => h3 h.2.2)
end Go.Proofs.Ytcopakljdenolaa.Pure
namespace Go.Proofs.Ytcopakljdenolaa.Pure
open Go.RowKit Go.Proofs.Ytcopakljdenolaa.Fn Go.Proofs.YtcopakljdenolaaW.PrintWords Go.Proofs.YtcopakljdenolaaW.PrintLast Go.Proofs.YtcopakljdenolaaW.PrintMore
set_option linter.unusedSimpArgs false
set_option linter.unusedVariables false

theorem postsFrom_rise (w : ByteArray) (t : List ByteArray) : ∀ (i : Nat) (acc : List S57), acc.Pairwise (fun x y => x.f0 < y.f0) → (∀ p ∈ acc, 0 ≤ p.f0 ∧ p.f0 < (i : Int)) →
    (postsFrom w t i acc).Pairwise (fun x y => x.f0 < y.f0) ∧ ∀ p ∈ postsFrom w t i acc, 0 ≤ p.f0 ∧ p.f0 < ((i + t.length : Nat) : Int) := by
  induction t with
  | nil => intro i acc h1 h2; exact ⟨h1, fun p hp => h2 p hp⟩
  | cons s t ih =>
    intro i acc h1 h2
    simp only [postsFrom]
    have e : ((i + (s :: t).length : Nat) : Int) = ((i + 1 + t.length : Nat) : Int) := by simp; omega
    rw [e]
    split
    · refine ih (i + 1) _ (List.pairwise_append.2 ⟨h1, List.pairwise_singleton _ _, fun x hx y hy => ?_⟩) (fun p hp => ?_)
      · rw [List.mem_singleton.1 hy]
        exact (h2 x hx).2
      · rcases List.mem_append.1 hp with hp | hp
        · have := h2 p hp; omega
        · rw [List.mem_singleton.1 hp]
          show 0 ≤ (i : Int) ∧ (i : Int) < _
          omega
    · exact ih (i + 1) acc h1 (fun p hp => by have := h2 p hp; omega)
theorem postsFrom_apart (w : ByteArray) (l : List ByteArray) : Apart (postsFrom w l 0 []) :=
  (postsFrom_rise w l 0 [] List.Pairwise.nil (fun p hp => by cases hp)).1.imp (fun h e => by omega)
theorem posts_fit (w : ByteArray) (l : List ByteArray) (hl : Small l) (hd : docsOk l = true) : Fit (postsFrom w l 0 []) := by
  have h := postsRes_fit l w hl
  refine ⟨?_, postsFrom_fit w l (fun s hs => by have := docsOk_small hd s hs; omega) 0 [] (fun p hp => by cases hp)⟩
  have := postsFrom_len w l 0 []
  have := hl.1
  simp only [List.length_nil] at *
  omega
def phraseFrom (docs : List ByteArray) : List ByteArray → Nat → List S57 → List S57
  | [], _, out => out
  | w :: t, i, out => phraseFrom docs t (i + 1) (meetAll (i : Int) (postsFrom w docs 0 []) out)
def phraseRes (docs ws : List ByteArray) : List S57 × Bool :=
  match ws with
  | [] => ([], false)
  | w :: t => if docsOk docs = true ∧ ws.length ≤ 4 ∧ ws.all wordOk = true then (phraseFrom docs t 1 (postsFrom w docs 0 []), true) else ([], false)
theorem phraseFrom_fit (docs : List ByteArray) (t : List ByteArray) : ∀ (i : Nat) (out : List S57), Fit out → Fit (phraseFrom docs t i out) := by
  induction t with
  | nil => intro i out h; exact h
  | cons w t ih => intro i out h; exact ih (i + 1) _ (meetAll_fit _ _ _ h)
theorem phraseRes_fit (docs ws : List ByteArray) (hl : Small docs) : Fit (phraseRes docs ws).1 := by
  unfold phraseRes
  split
  · exact ⟨by simp, fun p hp => by cases hp⟩
  · split
    · rename_i h
      exact phraseFrom_fit _ _ _ _ (posts_fit _ _ hl h.1)
    · exact ⟨by simp, fun p hp => by cases hp⟩
theorem notWord_ev (l : List ByteArray) (hl : Small l) : Ev (fun k => slices_ContainsFunc_at74.f k l) (!(l.all wordOk)) := by
  have hl1 := hl.1
  have hd : ∀ x, x.size ≤ 1048576 → Ev (fun k => impl_PhraseIn_1.f k x) (!wordOk x) := by
    intro x hx
    simp only [impl_PhraseIn_1.f]
    refine Ev.bind (implWord_ev x hx) ?_
    exact Ev.val rfl
  have key : ∀ (t : List ByteArray) (i : Nat), l.drop i = t → i ≤ l.length → ∃ r : Int, Ev (fun k => slices_IndexFunc_at74.l0 k l l.length i) r ∧ decide (r ≥ 0) = !(t.all wordOk) := by
    intro t
    induction t with
    | nil =>
      intro i h hi
      have := drop_nil h
      refine ⟨-1, ?_, by simp⟩
      (refine Ev.up ?_; simp only [slices_IndexFunc_at74.l0, decT])
      (repeat (first | with_reducible refine Ev.bindS ?_ | (with_reducible refine Ev.ifp ?_ ?_; (· first | omega | assumption | rfl | (simp only [List.length_map, List.length_replicate, List.length_take, List.length_drop, List.length_append, List.length_cons, List.length_nil, List.length_set]; omega) | (simp; done))) | (with_reducible refine Ev.ifn ?_ ?_; (· first | omega | assumption | rfl | (simp only [List.length_map, List.length_replicate, List.length_take, List.length_drop, List.length_append, List.length_cons, List.length_nil, List.length_set]; omega) | (simp; done)))))
      exact Ev.val rfl
    | cons x t ih =>
      intro i h hi
      obtain ⟨p1, p2, p3⟩ := drop_cons h
      have hx := hl.2 x (List.mem_of_getElem? p2)
      obtain ⟨r, ih, hr⟩ := ih (i + 1) p3 (by omega)
      cases hk : wordOk x with
      | true =>
        refine ⟨r, ?_, by rw [List.all_cons, hk, hr]; simp⟩
        (refine Ev.up ?_; simp only [slices_IndexFunc_at74.l0, decT])
        rw [rdOf_at p2, wrap_succ (by omega)]
        (repeat (first | with_reducible refine Ev.bindS ?_ | (with_reducible refine Ev.ifp ?_ ?_; (· first | omega | assumption | rfl | (simp only [List.length_map, List.length_replicate, List.length_take, List.length_drop, List.length_append, List.length_cons, List.length_nil, List.length_set]; omega) | (simp; done))) | (with_reducible refine Ev.ifn ?_ ?_; (· first | omega | assumption | rfl | (simp only [List.length_map, List.length_replicate, List.length_take, List.length_drop, List.length_append, List.length_cons, List.length_nil, List.length_set]; omega) | (simp; done)))))
        refine Ev.bind (hd x hx) ?_
        rw [hk]
        (repeat (first | with_reducible refine Ev.bindS ?_ | (with_reducible refine Ev.ifp ?_ ?_; (· first | omega | assumption | rfl | (simp only [List.length_map, List.length_replicate, List.length_take, List.length_drop, List.length_append, List.length_cons, List.length_nil, List.length_set]; omega) | (simp; done))) | (with_reducible refine Ev.ifn ?_ ?_; (· first | omega | assumption | rfl | (simp only [List.length_map, List.length_replicate, List.length_take, List.length_drop, List.length_append, List.length_cons, List.length_nil, List.length_set]; omega) | (simp; done)))))
        exact ih
      | false =>
        refine ⟨i, ?_, by rw [List.all_cons, hk]; simp⟩
        (refine Ev.up ?_; simp only [slices_IndexFunc_at74.l0, decT])
        rw [rdOf_at p2, wrap_succ (by omega)]
        (repeat (first | with_reducible refine Ev.bindS ?_ | (with_reducible refine Ev.ifp ?_ ?_; (· first | omega | assumption | rfl | (simp only [List.length_map, List.length_replicate, List.length_take, List.length_drop, List.length_append, List.length_cons, List.length_nil, List.length_set]; omega) | (simp; done))) | (with_reducible refine Ev.ifn ?_ ?_; (· first | omega | assumption | rfl | (simp only [List.length_map, List.length_replicate, List.length_take, List.length_drop, List.length_append, List.length_cons, List.length_nil, List.length_set]; omega) | (simp; done)))))
        refine Ev.bind (hd x hx) ?_
        rw [hk]
        (repeat (first | with_reducible refine Ev.bindS ?_ | (with_reducible refine Ev.ifp ?_ ?_; (· first | omega | assumption | rfl | (simp only [List.length_map, List.length_replicate, List.length_take, List.length_drop, List.length_append, List.length_cons, List.length_nil, List.length_set]; omega) | (simp; done))) | (with_reducible refine Ev.ifn ?_ ?_; (· first | omega | assumption | rfl | (simp only [List.length_map, List.length_replicate, List.length_take, List.length_drop, List.length_append, List.length_cons, List.length_nil, List.length_set]; omega) | (simp; done)))))
        exact Ev.val rfl
  obtain ⟨r, h1, h2⟩ := key l 0 rfl (by omega)
  simp only [slices_ContainsFunc_at74.f]
  refine Ev.bind (g := fun k => slices_IndexFunc_at74.f k l) h1 ?_
  exact Ev.val h2
theorem implPhrase_loop (docs ws : List ByteArray) (hs : Small docs) (hd : docsOk docs = true) (hw : Small ws) :
    ∀ (t : List ByteArray) (i : Nat) (out : List S57), ws.drop i = t → i ≤ ws.length → Fit out → Ev (fun k => impl_PhraseIn.l0 k docs out ws ws.length i) (phraseFrom docs t (i + 1) out, true) := by
  have hw1 := hw.1
  intro t
  induction t with
  | nil =>
    intro i out h hi ho
    have := drop_nil h
    (refine Ev.up ?_; simp only [impl_PhraseIn.l0, decT])
    (repeat (first | with_reducible refine Ev.bindS ?_ | (with_reducible refine Ev.ifp ?_ ?_; (· first | omega | assumption | rfl | (simp only [List.length_map, List.length_replicate, List.length_take, List.length_drop, List.length_append, List.length_cons, List.length_nil, List.length_set]; omega) | (simp; done))) | (with_reducible refine Ev.ifn ?_ ?_; (· first | omega | assumption | rfl | (simp only [List.length_map, List.length_replicate, List.length_take, List.length_drop, List.length_append, List.length_cons, List.length_nil, List.length_set]; omega) | (simp; done)))))
    exact Ev.val rfl
  | cons w t ih =>
    intro i out h hi ho
    obtain ⟨p1, p2, p3⟩ := drop_cons h
    (refine Ev.up ?_; simp only [impl_PhraseIn.l0, decT])
    rw [rdOf_at p2, wrap_succ (i := i) (by omega)]
    (repeat (first | with_reducible refine Ev.bindS ?_ | (with_reducible refine Ev.ifp ?_ ?_; (· first | omega | assumption | rfl | (simp only [List.length_map, List.length_replicate, List.length_take, List.length_drop, List.length_append, List.length_cons, List.length_nil, List.length_set]; omega) | (simp; done))) | (with_reducible refine Ev.ifn ?_ ?_; (· first | omega | assumption | rfl | (simp only [List.length_map, List.length_replicate, List.length_take, List.length_drop, List.length_append, List.length_cons, List.length_nil, List.length_set]; omega) | (simp; done)))))
    refine Ev.bind (implPosts_ev docs hs w) (Ev.bind (implMeet_ev _ _ _ ho (posts_fit w docs hs hd)) ?_)
    exact ih (i + 1) _ p3 (by omega) (meetAll_fit _ _ _ ho)
theorem specPhrase_loop (docs ws : List ByteArray) (hs : Small docs) (hd : docsOk docs = true) (hw : Small ws) :
    ∀ (t : List ByteArray) (i : Nat) (out : List S57), ws.drop i = t → i ≤ ws.length → Fit out → Ev (fun k => spec_PhraseIn.l1 k docs ws out i) (phraseFrom docs t i out, true) := by
  have hw1 := hw.1
  intro t
  induction t with
  | nil =>
    intro i out h hi ho
    have := drop_nil h
    (refine Ev.up ?_; simp only [spec_PhraseIn.l1, decT])
    (repeat (first | with_reducible refine Ev.bindS ?_ | (with_reducible refine Ev.ifp ?_ ?_; (· first | omega | assumption | rfl | (simp only [List.length_map, List.length_replicate, List.length_take, List.length_drop, List.length_append, List.length_cons, List.length_nil, List.length_set]; omega) | (simp; done))) | (with_reducible refine Ev.ifn ?_ ?_; (· first | omega | assumption | rfl | (simp only [List.length_map, List.length_replicate, List.length_take, List.length_drop, List.length_append, List.length_cons, List.length_nil, List.length_set]; omega) | (simp; done)))))
    exact Ev.val rfl
  | cons w t ih =>
    intro i out h hi ho
    obtain ⟨p1, p2, p3⟩ := drop_cons h
    (refine Ev.up ?_; simp only [spec_PhraseIn.l1, decT])
    rw [rdOf_at p2, wrap_succ (i := i) (by omega)]
    (repeat (first | with_reducible refine Ev.bindS ?_ | (with_reducible refine Ev.ifp ?_ ?_; (· first | omega | assumption | rfl | (simp only [List.length_map, List.length_replicate, List.length_take, List.length_drop, List.length_append, List.length_cons, List.length_nil, List.length_set]; omega) | (simp; done))) | (with_reducible refine Ev.ifn ?_ ?_; (· first | omega | assumption | rfl | (simp only [List.length_map, List.length_replicate, List.length_take, List.length_drop, List.length_append, List.length_cons, List.length_nil, List.length_set]; omega) | (simp; done)))))
    refine Ev.bind (specPosts_ev docs hs w) (Ev.bind (specMeet_ev _ _ _ ho (posts_fit w docs hs hd) (postsFrom_apart w docs)) ?_)
    exact ih (i + 1) _ p3 (by omega) (meetAll_fit _ _ _ ho)
theorem implPhrase_ev (docs ws : List ByteArray) (hs : Small docs) (hw : Small ws) : Ev (fun k => impl_PhraseIn.f k docs ws) (phraseRes docs ws) := by
  have hw1 := hw.1
  have bad : phraseRes docs ws = ([], false) → Ev (fun k => impl_PhraseIn.j0 k docs ws true) (phraseRes docs ws) := fun h => by
    rw [h]
    (refine Ev.up ?_; simp only [impl_PhraseIn.j0, decT])
    (repeat (first | with_reducible refine Ev.bindS ?_ | (with_reducible refine Ev.ifp ?_ ?_; (· first | omega | assumption | rfl | (simp only [List.length_map, List.length_replicate, List.length_take, List.length_drop, List.length_append, List.length_cons, List.length_nil, List.length_set]; omega) | (simp; done))) | (with_reducible refine Ev.ifn ?_ ?_; (· first | omega | assumption | rfl | (simp only [List.length_map, List.length_replicate, List.length_take, List.length_drop, List.length_append, List.length_cons, List.length_nil, List.length_set]; omega) | (simp; done)))))
    exact Ev.val rfl
  simp only [impl_PhraseIn.f]
  refine Ev.bind (implDocs_ev docs hs) ?_
  cases h1 : docsOk docs with
  | false =>
    refine Ev.ifn (by simp) (bad ?_)
    unfold phraseRes
    split
    · rfl
    · rw [if_neg (fun h => by rw [h1] at h; cases h.1)]
  | true =>
    refine Ev.ifp rfl ?_
    rw [within_eq]
    by_cases h2 : 1 ≤ (ws.length : Int) ∧ (ws.length : Int) ≤ 4
    · rw [decide_eq_true h2]
      (repeat (first | with_reducible refine Ev.bindS ?_ | (with_reducible refine Ev.ifp ?_ ?_; (· first | omega | assumption | rfl | (simp only [List.length_map, List.length_replicate, List.length_take, List.length_drop, List.length_append, List.length_cons, List.length_nil, List.length_set]; omega) | (simp; done))) | (with_reducible refine Ev.ifn ?_ ?_; (· first | omega | assumption | rfl | (simp only [List.length_map, List.length_replicate, List.length_take, List.length_drop, List.length_append, List.length_cons, List.length_nil, List.length_set]; omega) | (simp; done)))))
      refine Ev.bind (notWord_ev ws hw) ?_
      cases h3 : ws.all wordOk with
      | false =>
        rw [Bool.not_false]
        refine bad ?_
        unfold phraseRes
        split
        · rfl
        · rw [if_neg (fun h => by rw [h3] at h; cases h.2.2)]
      | true =>
        rw [Bool.not_true]
        cases ws with
        | nil => simp at h2
        | cons w t =>
          have e : phraseRes docs (w :: t) = (phraseFrom docs t 1 (postsFrom w docs 0 []), true) := if_pos ⟨h1, by omega, h3⟩
          rw [e]
          have hw' : Small t := ⟨by simp at hw1; omega, fun y hy => hw.2 y (List.mem_cons_of_mem _ hy)⟩
          (refine Ev.up ?_; simp only [impl_PhraseIn.j0, decT])
          rw [show rdOf ByteArray.empty (w :: t) 0 = w from rfl]
          (repeat (first | with_reducible refine Ev.bindS ?_ | (with_reducible refine Ev.ifp ?_ ?_; (· first | omega | assumption | rfl | (simp only [List.length_map, List.length_replicate, List.length_take, List.length_drop, List.length_append, List.length_cons, List.length_nil, List.length_set]; omega) | (simp; done))) | (with_reducible refine Ev.ifn ?_ ?_; (· first | omega | assumption | rfl | (simp only [List.length_map, List.length_replicate, List.length_take, List.length_drop, List.length_append, List.length_cons, List.length_nil, List.length_set]; omega) | (simp; done)))))
          refine Ev.bind (implPosts_ev docs hs w) ?_
          (repeat (first | with_reducible refine Ev.bindS ?_ | (with_reducible refine Ev.ifp ?_ ?_; (· first | omega | assumption | rfl | (simp only [List.length_map, List.length_replicate, List.length_take, List.length_drop, List.length_append, List.length_cons, List.length_nil, List.length_set]; omega) | (simp; done))) | (with_reducible refine Ev.ifn ?_ ?_; (· first | omega | assumption | rfl | (simp only [List.length_map, List.length_replicate, List.length_take, List.length_drop, List.length_append, List.length_cons, List.length_nil, List.length_set]; omega) | (simp; done)))))
          exact implPhrase_loop docs t hs h1 hw' t 0 _ rfl (by omega) (posts_fit w docs hs h1)
    · rw [decide_eq_false h2]
      (repeat (first | with_reducible refine Ev.bindS ?_ | (with_reducible refine Ev.ifp ?_ ?_; (· first | omega | assumption | rfl | (simp only [List.length_map, List.length_replicate, List.length_take, List.length_drop, List.length_append, List.length_cons, List.length_nil, List.length_set]; omega) | (simp; done))) | (with_reducible refine Ev.ifn ?_ ?_; (· first | omega | assumption | rfl | (simp only [List.length_map, List.length_replicate, List.length_take, List.length_drop, List.length_append, List.length_cons, List.length_nil, List.length_set]; omega) | (simp; done)))))
      refine bad ?_
      unfold phraseRes
      split
      · rfl
      · rename_i w t
        rw [if_neg (fun h => h2 ⟨by simp; omega, by omega⟩)]
theorem specPhrase_ev (docs ws : List ByteArray) (hs : Small docs) (hw : Small ws) : Ev (fun k => spec_PhraseIn.f k docs ws) (phraseRes docs ws) := by
  have hw1 := hw.1
  have bad : phraseRes docs ws = ([], false) → Ev (fun k => spec_PhraseIn.j1 k docs ws true) (phraseRes docs ws) := fun h => by
    rw [h]
    (refine Ev.up ?_; simp only [spec_PhraseIn.j1, decT])
    (repeat (first | with_reducible refine Ev.bindS ?_ | (with_reducible refine Ev.ifp ?_ ?_; (· first | omega | assumption | rfl | (simp only [List.length_map, List.length_replicate, List.length_take, List.length_drop, List.length_append, List.length_cons, List.length_nil, List.length_set]; omega) | (simp; done))) | (with_reducible refine Ev.ifn ?_ ?_; (· first | omega | assumption | rfl | (simp only [List.length_map, List.length_replicate, List.length_take, List.length_drop, List.length_append, List.length_cons, List.length_nil, List.length_set]; omega) | (simp; done)))))
    exact Ev.val rfl
  have last : ws.all wordOk = true → Ev (fun k => (spec_l9Docs.f k docs).bind fun t392 => (if t392 = true then ((spec_l1In.f (ws.length : Int) 1 4).bind fun t393 => (spec_PhraseIn.j1 k docs ws (!t393))) else (spec_PhraseIn.j1 k docs ws true))) (phraseRes docs ws) := fun h3 => by
    refine Ev.bind (specDocs_ev docs hs) ?_
    cases h1 : docsOk docs with
    | false =>
      refine Ev.ifn (by simp) (bad ?_)
      unfold phraseRes
      split
      · rfl
      · rw [if_neg (fun h => by rw [h1] at h; cases h.1)]
    | true =>
      refine Ev.ifp rfl ?_
      rw [specIn_eq]
      by_cases h2 : 1 ≤ (ws.length : Int) ∧ (ws.length : Int) ≤ 4
      · rw [decide_eq_true h2]
        (repeat (first | with_reducible refine Ev.bindS ?_ | (with_reducible refine Ev.ifp ?_ ?_; (· first | omega | assumption | rfl | (simp only [List.length_map, List.length_replicate, List.length_take, List.length_drop, List.length_append, List.length_cons, List.length_nil, List.length_set]; omega) | (simp; done))) | (with_reducible refine Ev.ifn ?_ ?_; (· first | omega | assumption | rfl | (simp only [List.length_map, List.length_replicate, List.length_take, List.length_drop, List.length_append, List.length_cons, List.length_nil, List.length_set]; omega) | (simp; done)))))
        rw [Bool.not_true]
        cases ws with
        | nil => simp at h2
        | cons w t =>
          have e : phraseRes docs (w :: t) = (phraseFrom docs t 1 (postsFrom w docs 0 []), true) := if_pos ⟨h1, by omega, h3⟩
          rw [e]
          (refine Ev.up ?_; simp only [spec_PhraseIn.j1, decT])
          rw [show rdOf ByteArray.empty (w :: t) 0 = w from rfl]
          (repeat (first | with_reducible refine Ev.bindS ?_ | (with_reducible refine Ev.ifp ?_ ?_; (· first | omega | assumption | rfl | (simp only [List.length_map, List.length_replicate, List.length_take, List.length_drop, List.length_append, List.length_cons, List.length_nil, List.length_set]; omega) | (simp; done))) | (with_reducible refine Ev.ifn ?_ ?_; (· first | omega | assumption | rfl | (simp only [List.length_map, List.length_replicate, List.length_take, List.length_drop, List.length_append, List.length_cons, List.length_nil, List.length_set]; omega) | (simp; done)))))
          refine Ev.bind (specPosts_ev docs hs w) ?_
          exact specPhrase_loop docs (w :: t) hs h1 hw t 1 _ rfl (by simp) (posts_fit w docs hs h1)
      · rw [decide_eq_false h2]
        (repeat (first | with_reducible refine Ev.bindS ?_ | (with_reducible refine Ev.ifp ?_ ?_; (· first | omega | assumption | rfl | (simp only [List.length_map, List.length_replicate, List.length_take, List.length_drop, List.length_append, List.length_cons, List.length_nil, List.length_set]; omega) | (simp; done))) | (with_reducible refine Ev.ifn ?_ ?_; (· first | omega | assumption | rfl | (simp only [List.length_map, List.length_replicate, List.length_take, List.length_drop, List.length_append, List.length_cons, List.length_nil, List.length_set]; omega) | (simp; done)))))
        rw [Bool.not_false]
        refine bad ?_
        unfold phraseRes
        split
        · rfl
        · rename_i w t
          rw [if_neg (fun h => h2 ⟨by simp; omega, by omega⟩)]
  have key : ∀ (t : List ByteArray) (i : Nat), ws.drop i = t → i ≤ ws.length → (ws.all wordOk = t.all wordOk) → Ev (fun k => spec_PhraseIn.l0 k docs ws ws ws.length i) (phraseRes docs ws) := by
    intro t
    induction t with
    | nil =>
      intro i h hi ha
      have := drop_nil h
      (refine Ev.up ?_; simp only [spec_PhraseIn.l0, decT])
      (repeat (first | with_reducible refine Ev.bindS ?_ | (with_reducible refine Ev.ifp ?_ ?_; (· first | omega | assumption | rfl | (simp only [List.length_map, List.length_replicate, List.length_take, List.length_drop, List.length_append, List.length_cons, List.length_nil, List.length_set]; omega) | (simp; done))) | (with_reducible refine Ev.ifn ?_ ?_; (· first | omega | assumption | rfl | (simp only [List.length_map, List.length_replicate, List.length_take, List.length_drop, List.length_append, List.length_cons, List.length_nil, List.length_set]; omega) | (simp; done)))))
      exact last (by rw [ha]; rfl)
    | cons w t ih =>
      intro i h hi ha
      obtain ⟨p1, p2, p3⟩ := drop_cons h
      have hwd := hw.2 w (List.mem_of_getElem? p2)
      (refine Ev.up ?_; simp only [spec_PhraseIn.l0, decT])
      rw [rdOf_at p2, wrap_succ (i := i) (by omega)]
      (repeat (first | with_reducible refine Ev.bindS ?_ | (with_reducible refine Ev.ifp ?_ ?_; (· first | omega | assumption | rfl | (simp only [List.length_map, List.length_replicate, List.length_take, List.length_drop, List.length_append, List.length_cons, List.length_nil, List.length_set]; omega) | (simp; done))) | (with_reducible refine Ev.ifn ?_ ?_; (· first | omega | assumption | rfl | (simp only [List.length_map, List.length_replicate, List.length_take, List.length_drop, List.length_append, List.length_cons, List.length_nil, List.length_set]; omega) | (simp; done)))))
      refine Ev.bind (specWord_ev w hwd) ?_
      cases h3 : wordOk w with
      | false =>
        refine Ev.ifn (by simp) ?_
        have e : phraseRes docs ws = ([], false) := by
          unfold phraseRes
          split
          · rfl
          · rw [if_neg (fun h => by rw [ha, List.all_cons, h3] at h; cases h.2.2)]
        rw [e]
        exact Ev.val rfl
      | true =>
        refine Ev.ifp rfl ?_
        exact ih (i + 1) p3 (by omega) (by rw [ha, List.all_cons, h3, Bool.true_and])
  exact key ws 0 rfl (by omega) rfl
end Go.Proofs.Ytcopakljdenolaa.Pure
namespace Go.Proofs.Ytcopakljdenolaa.Pure
open Go.RowKit Go.Proofs.Ytcopakljdenolaa.Fn Go.Proofs.YtcopakljdenolaaW.PrintWords Go.Proofs.YtcopakljdenolaaW.PrintLast Go.Proofs.YtcopakljdenolaaW.PrintMore
set_option linter.unusedSimpArgs false
set_option linter.unusedVariables false

theorem FnExactPhraseIn : ∀ (l0 : List ByteArray) (l1 : List ByteArray), (l0.length ≤ maxLen ∧ ∀ y1 ∈ l0, y1.size ≤ maxLen) → (l1.length ≤ maxLen ∧ ∀ y1 ∈ l1, y1.size ≤ maxLen) → ∃ k, laws_FnExactPhraseIn.Runs k l0 l1 := by
  intro l l2 ⟨h1, h2⟩ ⟨g1, g2⟩
  refine Evt.now ?_
  simp only [laws_FnExactPhraseIn.Runs]
  obtain ⟨r, e, hr, hb⟩ := szStrs_ev l h1 h2 1048576 (by omega) (by omega)
  refine Evt.ex r (Evt.and (Evt.of e) ?_)
  by_cases h : r < 0
  · exact Evt.inl (Evt.const h)
  obtain ⟨b1, b2⟩ := hb (by omega)
  refine Evt.inr ?_
  refine Evt.and (Evt.const (by omega)) ?_
  obtain ⟨r2, e2, hr2, hb2⟩ := szStrs_ev l2 g1 g2 r (by omega) (by omega)
  refine Evt.ex r2 (Evt.and (Evt.of e2) ?_)
  by_cases h' : r2 < 0
  · exact Evt.inl (Evt.const h')
  obtain ⟨b3, b4⟩ := hb2 (by omega)
  refine Evt.inr ?_
  have hs : Small l := ⟨by omega, fun y hy => by have := b2 y hy; omega⟩
  have hs2 : Small l2 := ⟨by omega, fun y hy => by have := b4 y hy; omega⟩
  have ht := Evt.of (toStrs_ev l (by omega))
  have ht2 := Evt.of (toStrs_ev l2 (by omega))
  have hsp := Evt.of (specPhrase_ev l l2 hs hs2)
  have him := Evt.of (implPhrase_ev l l2 hs hs2)
  have hfr := phraseRes_fit l l2 hs
  have heq := Evt.of (eqPosts_ev _ hfr)
  have hea := Evt.of (eqStrs_ev l (by omega))
  have heb := Evt.of (eqStrs_ev l2 (by omega))
  obtain ⟨z0, q0, m0, _⟩ := markStrs_ev l (by omega) 1 (by omega) (by omega)
  obtain ⟨z1, q1, m1, _⟩ := markStrs_ev l2 (by omega) (1 + (l.length : Int)) (by omega) (by omega)
  have m2 := Evt.of (markPosts_ev _ hfr 1 (by omega) (by omega))
  have h2 := Evt.of (heldPosts_ev _ hfr 1 (by omega) (by omega))
  have c3 := endP_le (phraseRes l l2).1 1
  refine Evt.and (Evt.const (by omega)) ?_
  refine Evt.and ht ?_
  refine Evt.and ht2 ?_
  refine Evt.ex (phraseRes l l2).1 (Evt.ex (phraseRes l l2).2 ?_)
  refine Evt.and hsp ?_
  refine Evt.and ht ?_
  refine Evt.and ht2 ?_
  refine Evt.and him ?_
  refine Evt.and heq ?_
  refine Evt.and ht ?_
  refine Evt.and hea ?_
  refine Evt.and ht2 ?_
  refine Evt.and heb ?_
  refine Evt.ex (1 + (l.length : Int)) (Evt.ex z0 ?_)
  refine Evt.and (Evt.of m0) ?_
  refine Evt.and (Evt.const (by omega)) ?_
  refine Evt.ex (1 + (l.length : Int) + l2.length) (Evt.ex z1 ?_)
  refine Evt.and (Evt.of m1) ?_
  refine Evt.and (Evt.const (by omega)) ?_
  refine Evt.and heq ?_
  refine Evt.ex (endP (phraseRes l l2).1 1) (Evt.ex (markP (phraseRes l l2).1 1) ?_)
  refine Evt.and m2 ?_
  refine Evt.and (Evt.const (by omega)) ?_
  refine Evt.and h2 ?_
  refine Evt.and ht ?_
  refine Evt.and ht2 ?_
  refine Evt.and him ?_
  refine Evt.and heq ?_
  refine Evt.and h2 ?_
  exact Evt.const trivial
end Go.Proofs.Ytcopakljdenolaa.Pure
