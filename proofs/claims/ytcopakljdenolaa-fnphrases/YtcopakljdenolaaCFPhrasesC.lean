/- The law FnPhrases holds of the given program: at every input it answers true and leaves its arguments as they were; no condition. This text: part 3 of what its proof reaches. -/
import Derived.Lib.SliceRun
import Derived.Test.YtcopakljdenolaaCFPhrasesA
import Derived.Test.YtcopakljdenolaaCFPhrasesB
set_option maxHeartbeats 8000000
set_option maxRecDepth 100000
set_option linter.unusedVariables false
set_option linter.unusedSimpArgs false
open Go.RowKit Go.Proofs.YtcopakljdenolaaW.PrintWords Go.Proofs.YtcopakljdenolaaW.PrintLast Go.Proofs.YtcopakljdenolaaW.PrintMore
open Go.Proofs.Ytcopakljdenolaa.Gen   -- compacted234
attribute [local go_sem] max2_int min2_int max_two min_two max_three min_three max_four min_four   -- for this text's walks alone
namespace Go.Proofs.Ytcopakljdenolaa.Fn
def slices_IndexFunc_at74.l0 : Nat -> List ByteArray -> Int -> Int -> Option (Int)
 | 0, _, _, _ => none
 | k + 1, x0, x7, x8 => if x8 < x7 then (if 0 <= x8 then (if x8 < (x0.length : Int) then ((impl_PhraseIn_1.f k (rdOf ByteArray.empty x0 x8)).bind fun t376 => (if t376 = true then (some x8) else (slices_IndexFunc_at74.l0 k x0 x7 (wrap64 (x8 + 1))))) else (none)) else (none)) else (some (-1))
def slices_IndexFunc_at74.f (k : Nat) (l0 : List ByteArray)  : Option (Int) := slices_IndexFunc_at74.l0 k l0 (l0.length : Int) 0
theorem slices_IndexFunc_at74.mono_l : ∀ k, (∀ y0 y1 y2, LeO (slices_IndexFunc_at74.l0 k y0 y1 y2) (slices_IndexFunc_at74.l0 (k + 1) y0 y1 y2))
 | 0 => fun _ _ _ r h => by simp [slices_IndexFunc_at74.l0] at h
 | k + 1 => by
  have ih0 := slices_IndexFunc_at74.mono_l k
  ·intro y0 y1 y2
   unfold slices_IndexFunc_at74.l0
   repeat' (with_reducible first | exact ih0 _ _ _ | exact impl_PhraseIn_1.mono _ _ | exact LeO.refl _ | exact LeO.none _ | refine LeO.ite ?_ ?_ | refine LeO.bind ?_ (fun _ => ?_))
theorem slices_IndexFunc_at74.mono : ∀ a0 k, LeO (slices_IndexFunc_at74.f k a0) (slices_IndexFunc_at74.f (k + 1) a0) := by
 intro a0 k
 have ih0 := slices_IndexFunc_at74.mono_l k
 unfold slices_IndexFunc_at74.f
 repeat' (with_reducible first | exact ih0 _ _ _ | exact impl_PhraseIn_1.mono _ _ | exact LeO.refl _ | exact LeO.none _ | refine LeO.ite ?_ ?_ | refine LeO.bind ?_ (fun _ => ?_))
theorem slices_IndexFunc_at74.calls (k : Nat) (A0 : Option Addr) (c0 : Nat) (l0 : List ByteArray)  (r : Int) (w : World) (hr0 : Kd.C Kd.string w A0 l0.length l0) (hc0 : l0.length <= c0) (h : slices_IndexFunc_at74.f k l0 = some r) :
  Calls Try.prog 103 #[.slice A0 l0.length c0, .func (.func 74) #[] #[]] w fun e w' => e = .returned (.int .i64 r) /\ Drawn0 w w' := by
 have HR0 := Aside0.mk hr0
 have HC0 := Aside0.mk hc0
 clear hr0 hc0
 have H : (slices_IndexFunc_at74.l0 k l0 (l0.length : Int) 0) = some r := h
 clear h
 have H' := Aside0.mk H
 clear H
 go_enter Try.func103, Try.ntmps103
 go_wp2
 go_loopg [8] k (fun kq v8 w' => ∃ (x8_1 : Int), v8 = .int .i64 x8_1 /\ Aside0 (slices_IndexFunc_at74.l0 kq l0 (l0.length : Int) x8_1 = some r) /\ Aside0 (kq <= k) /\ Drawn0 w w')
 case atStart => exact ⟨(0), (by first | rfl | (simp; done) | (simp [*]; done)), H', ⟨Nat.le_refl _⟩, by repeat (first | exact Drawn0.refl _ | apply Drawn0.step)⟩
 case round =>
  clear H'
  (try clear c1); (try clear p2)
  obtain ⟨x8_1, rfl, HA, HK1, ⟨m1, rfl⟩⟩ := hrel
  cases gk with
  | zero => exact absurd HA.out (by simp [slices_IndexFunc_at74.l0])
  | succ k1 =>
   have H := HA.out
   clear HA
   simp only [slices_IndexFunc_at74.l0] at H
   by_cases c3 : x8_1 < (l0.length : Int)
   ·rw [if_pos c3] at H
    have c3b0 : decide (x8_1 < (l0.length : Int)) = true := decide_eq_true c3
    clear c3
    by_cases c4 : 0 <= x8_1
    ·rw [if_pos c4] at H
     have c4b0 : decide (0 <= x8_1) = true := decide_eq_true c4
     clear c4
     by_cases c5 : x8_1 < (l0.length : Int)
     ·rw [if_pos c5] at H
      have c5b0 : decide (x8_1 < (l0.length : Int)) = true := decide_eq_true c5
      clear c5
      replace H := Option.bind_eq_some_iff.mp H
      obtain ⟨t376, A60, H⟩ := H
      replace H : (if t376 = true then (some x8_1) else (slices_IndexFunc_at74.l0 k1 l0 (l0.length : Int) (wrap64 (x8_1 + 1)))) = some r := H
      have A6 := Aside0.mk A60
      clear A60
      by_cases c7 : t376 = true
      ·subst c7
       have H1 : (some x8_1) = some r := by rw [if_pos rfl] at H; exact H
       clear H
       have H := H1
       clear H1
       obtain rfl := Option.some.inj H
       have p375 : 0 <= (x8_1 : Int) := of_decide_eq_true as_
       have q375 : x8_1 < (l0.length : Int) := of_decide_eq_true as_
       obtain ⟨ad375, e375, hx375_0⟩ := Kd.at_string HR0.out x8_1 p375 q375
       cases e375
       replace p375 := eq_true p375
       replace q375 := eq_true q375
       go_wp2_with (first | ((with_reducible refine Go.Proofs.Ytcopakljdenolaa.Gen.gateV rfl ?_); refine Go.Proofs.Ytcopakljdenolaa.Gen.goesV_ (some 16) rfl rfl Try.func74 (by kernel_rfl) rfl #[.string (rdOf ByteArray.empty l0 x8_1)] rfl (ag_) ?_; (with_reducible refine (impl_PhraseIn_1.calls k1 (rdOf ByteArray.empty l0 x8_1) true _ A6.out).mono ?_); rintro e w' ⟨rfl, ⟨nd, rfl⟩⟩; refine ⟨_, rfl, ?_⟩))
       go_ret
       exact ⟨by first | rfl | (simp; done) | (simp [*]; done), by repeat (first | exact Drawn0.refl _ | apply Drawn0.step)⟩
      ·replace c7 := Bool.eq_false_iff.mpr c7
       subst c7
       have H1 : (slices_IndexFunc_at74.l0 k1 l0 (l0.length : Int) (wrap64 (x8_1 + 1))) = some r := by rw [if_neg (show ¬ (false = true) by decide)] at H; exact H
       clear H
       have H := H1
       clear H1
       have H' := Aside0.mk H
       clear H
       have p375 : 0 <= (x8_1 : Int) := of_decide_eq_true as_
       have q375 : x8_1 < (l0.length : Int) := of_decide_eq_true as_
       obtain ⟨ad375, e375, hx375_0⟩ := Kd.at_string HR0.out x8_1 p375 q375
       cases e375
       replace p375 := eq_true p375
       replace q375 := eq_true q375
       go_wp2_with (first | ((with_reducible refine Go.Proofs.Ytcopakljdenolaa.Gen.gateV rfl ?_); refine Go.Proofs.Ytcopakljdenolaa.Gen.goesV_ (some 16) rfl rfl Try.func74 (by kernel_rfl) rfl #[.string (rdOf ByteArray.empty l0 x8_1)] rfl (ag_) ?_; (with_reducible refine (impl_PhraseIn_1.calls k1 (rdOf ByteArray.empty l0 x8_1) false _ A6.out).mono ?_); rintro e w' ⟨rfl, ⟨nd, rfl⟩⟩; refine ⟨_, rfl, ?_⟩))
       go_roundg k1
       case measure => have := HK1.out; omega
       case rel => exact ⟨(wrap64 (x8_1 + 1)), (by first | rfl | (simp; done) | (simp [*]; done)), H', ⟨by have := HK1.out; omega⟩, by repeat (first | exact Drawn0.refl _ | apply Drawn0.step)⟩
     ·rw [if_neg c5] at H
      exact absurd H (by simp)
    ·rw [if_neg c4] at H
     exact absurd H (by simp)
   ·rw [if_neg c3] at H
    have c3b0 : decide (x8_1 < (l0.length : Int)) = false := decide_eq_false c3
    clear c3
    obtain rfl := Option.some.inj H
    go_wp2
    go_ret
    exact ⟨by first | rfl | (simp; done) | (simp [*]; done), by repeat (first | exact Drawn0.refl _ | apply Drawn0.step)⟩
def slices_ContainsFunc_at74.f (k : Nat) (l0 : List ByteArray)  : Option (Bool) := (slices_IndexFunc_at74.f k l0).bind fun t377 => (some (decide (t377 ≥ 0)))
theorem slices_ContainsFunc_at74.mono : ∀ a0 k, LeO (slices_ContainsFunc_at74.f k a0) (slices_ContainsFunc_at74.f (k + 1) a0) := by
 intro a0 k
 unfold slices_ContainsFunc_at74.f
 repeat' (with_reducible first | exact slices_IndexFunc_at74.mono _ _ | exact LeO.refl _ | exact LeO.none _ | refine LeO.ite ?_ ?_ | refine LeO.bind ?_ (fun _ => ?_))
theorem slices_ContainsFunc_at74.calls (k : Nat) (A0 : Option Addr) (c0 : Nat) (l0 : List ByteArray)  (r : Bool) (w : World) (hr0 : Kd.C Kd.string w A0 l0.length l0) (hc0 : l0.length <= c0) (h : slices_ContainsFunc_at74.f k l0 = some r) :
  Calls Try.prog 73 #[.slice A0 l0.length c0, .func (.func 74) #[] #[]] w fun e w' => e = .returned (.bool r) /\ Drawn0 w w' := by
 have HR0 := Aside0.mk hr0
 have HC0 := Aside0.mk hc0
 clear hr0 hc0
 have H : ((slices_IndexFunc_at74.f k l0).bind fun t377 => (some (decide (t377 ≥ 0)))) = some r := h
 clear h
 replace H := Option.bind_eq_some_iff.mp H
 obtain ⟨t377, A30, H⟩ := H
 replace H : (some (decide (t377 ≥ 0))) = some r := H
 have A3 := Aside0.mk A30
 clear A30
 obtain rfl := Option.some.inj H
 go_enter Try.func73, Try.ntmps73
 go_wp2_with (first | ((with_reducible refine gate_callee (f := 103) rfl ?_); refine goesL_ (some 7) rfl rfl Try.func103 (by kernel_rfl) rfl #[.slice A0 l0.length c0, .func (.func 74) #[] #[]] rfl (ag_) ?_; (with_reducible refine (slices_IndexFunc_at74.calls k _ _ l0  t377 _ ?side1 ?side2 A3.out).mono ?_); (case side1 => refine cd_ ?_; exact HR0.out); (case side2 => exact HC0.out); rintro e w' ⟨rfl, ⟨nd, rfl⟩⟩; refine ⟨_, rfl, ?_⟩))
 go_ret
 exact ⟨by first | rfl | (simp; done) | (simp [*]; done), by repeat (first | exact Drawn0.refl _ | apply Drawn0.step)⟩
mutual
def impl_PhraseIn.j0 : Nat -> List ByteArray -> List ByteArray -> Bool -> Option ((List (S57)) × Bool)
 | 0, _, _, _ => none
 | k + 1, x0, x1, x21 => if x21 = true then (some (([] : List (S57)), false)) else (if 0 < (x1.length : Int) then ((impl_posts.f k x0 (rdOf ByteArray.empty x1 0)).bind fun t382 => (if 1 <= (x1.length : Int) then (impl_PhraseIn.l0 k x0 t382 (x1.drop 1) ((x1.drop 1).length : Int) 0) else (none))) else (none))
def impl_PhraseIn.l0 : Nat -> List ByteArray -> List (S57) -> List ByteArray -> Int -> Int -> Option ((List (S57)) × Bool)
 | 0, _, _, _, _, _ => none
 | k + 1, x0, x6, x28, x29, x30 => if x30 < x29 then (if 0 <= x30 then (if x30 < (x28.length : Int) then ((impl_posts.f k x0 (rdOf ByteArray.empty x28 x30)).bind fun t387 => ((impl_meet.f k x6 t387 (wrap64 (x30 + 1))).bind fun t390 => (impl_PhraseIn.l0 k x0 t390 x28 x29 (wrap64 (x30 + 1))))) else (none)) else (none)) else (some (x6, true))
end
def impl_PhraseIn.f (k : Nat) (l0 : List ByteArray) (l1 : List ByteArray) : Option ((List (S57)) × Bool) := (impl_areDocs.f k l0).bind fun t378 => (if t378 = true then ((impl_within.f (l1.length : Int) 1 4).bind fun t379 => (if t379 = true then ((slices_ContainsFunc_at74.f k l1).bind fun t380 => (impl_PhraseIn.j0 k l0 l1 t380)) else (impl_PhraseIn.j0 k l0 l1 true))) else (impl_PhraseIn.j0 k l0 l1 true))
theorem impl_PhraseIn.mono_l : ∀ k, (∀ y0 y1 y2, LeO (impl_PhraseIn.j0 k y0 y1 y2) (impl_PhraseIn.j0 (k + 1) y0 y1 y2)) /\ (∀ y0 y1 y2 y3 y4, LeO (impl_PhraseIn.l0 k y0 y1 y2 y3 y4) (impl_PhraseIn.l0 (k + 1) y0 y1 y2 y3 y4))
 | 0 => ⟨fun _ _ _ r h => by simp [impl_PhraseIn.j0] at h, fun _ _ _ _ _ r h => by simp [impl_PhraseIn.l0] at h⟩
 | k + 1 => by
  obtain ⟨ih0, ih1⟩ := impl_PhraseIn.mono_l k
  refine ⟨?_, ?_⟩
  ·intro y0 y1 y2
   unfold impl_PhraseIn.j0
   repeat' (with_reducible first | exact ih0 _ _ _ | exact ih1 _ _ _ _ _ | exact impl_areDocs.mono _ _ | exact impl_meet.mono _ _ _ _ | exact impl_posts.mono _ _ _ | exact slices_ContainsFunc_at74.mono _ _ | exact LeO.refl _ | exact LeO.none _ | refine LeO.ite ?_ ?_ | refine LeO.bind ?_ (fun _ => ?_))
  ·intro y0 y1 y2 y3 y4
   unfold impl_PhraseIn.l0
   repeat' (with_reducible first | exact ih0 _ _ _ | exact ih1 _ _ _ _ _ | exact impl_areDocs.mono _ _ | exact impl_meet.mono _ _ _ _ | exact impl_posts.mono _ _ _ | exact slices_ContainsFunc_at74.mono _ _ | exact LeO.refl _ | exact LeO.none _ | refine LeO.ite ?_ ?_ | refine LeO.bind ?_ (fun _ => ?_))
theorem impl_PhraseIn.mono : ∀ a0 a1 k, LeO (impl_PhraseIn.f k a0 a1) (impl_PhraseIn.f (k + 1) a0 a1) := by
 intro a0 a1 k
 obtain ⟨ih0, ih1⟩ := impl_PhraseIn.mono_l k
 unfold impl_PhraseIn.f
 repeat' (with_reducible first | exact ih0 _ _ _ | exact ih1 _ _ _ _ _ | exact impl_areDocs.mono _ _ | exact impl_meet.mono _ _ _ _ | exact impl_posts.mono _ _ _ | exact slices_ContainsFunc_at74.mono _ _ | exact LeO.refl _ | exact LeO.none _ | refine LeO.ite ?_ ?_ | refine LeO.bind ?_ (fun _ => ?_))
theorem impl_PhraseIn.calls (k : Nat) (A0 : Option Addr) (c0 : Nat) (l0 : List ByteArray) (A1 : Option Addr) (c1 : Nat) (l1 : List ByteArray) (r1 : List (S57)) (r2 : Bool) (w : World) (hr0 : Kd.C Kd.string w A0 l0.length l0) (hc0 : l0.length <= c0) (hr1 : Kd.C Kd.string w A1 l1.length l1) (hc1 : l1.length <= c1) (h : impl_PhraseIn.f k l0 l1 = some (r1, r2)) :
  Calls Try.prog 36 #[.slice A0 l0.length c0, .slice A1 l1.length c1] w fun e w' => ∃ v0_ : Value, e = .returned (.tuple #[v0_, .bool r2]) /\ Kd.S k57 57 w' w.heap.size (fun _ => True) v0_ r1 /\ Below w.heap.size w w' := by
 have HR0 := Aside0.mk hr0
 have HC0 := Aside0.mk hc0
 clear hr0 hc0
 have HR1 := Aside0.mk hr1
 have HC1 := Aside0.mk hc1
 clear hr1 hc1
 have HB := Aside0.mk (Below.refl w.heap.size w)
 have H : ((impl_areDocs.f k l0).bind fun t378 => (if t378 = true then ((impl_within.f (l1.length : Int) 1 4).bind fun t379 => (if t379 = true then ((slices_ContainsFunc_at74.f k l1).bind fun t380 => (impl_PhraseIn.j0 k l0 l1 t380)) else (impl_PhraseIn.j0 k l0 l1 true))) else (impl_PhraseIn.j0 k l0 l1 true))) = some (r1, r2) := h
 clear h
 have HC3 := Aside0.mk H
 clear H
 go_enter Try.func36, Try.ntmps36
 go_upto_region 1 with (fail)
 go_cut [21] (fun v21 wc => ∃ (kq : Nat) (x21_2 : Bool), v21 = .bool x21_2 /\ Aside0 (impl_PhraseIn.j0 kq l0 l1 x21_2 = some (r1, r2)) /\ Aside0 (kq <= k) /\ Aside0 (Below w.heap.size w wc))
 case first =>
  have H := HC3.out
  clear HC3
  replace H := Option.bind_eq_some_iff.mp H
  obtain ⟨t378, A40, H⟩ := H
  replace H : (if t378 = true then ((impl_within.f (l1.length : Int) 1 4).bind fun t379 => (if t379 = true then ((slices_ContainsFunc_at74.f k l1).bind fun t380 => (impl_PhraseIn.j0 k l0 l1 t380)) else (impl_PhraseIn.j0 k l0 l1 true))) else (impl_PhraseIn.j0 k l0 l1 true)) = some (r1, r2) := H
  have A4 := Aside0.mk A40
  clear A40
  by_cases c5 : t378 = true
  ·subst c5
   have H1 : ((impl_within.f (l1.length : Int) 1 4).bind fun t379 => (if t379 = true then ((slices_ContainsFunc_at74.f k l1).bind fun t380 => (impl_PhraseIn.j0 k l0 l1 t380)) else (impl_PhraseIn.j0 k l0 l1 true))) = some (r1, r2) := by rw [if_pos rfl] at H; exact H
   clear H
   have H := H1
   clear H1
   replace H := Option.bind_eq_some_iff.mp H
   obtain ⟨t379, A60, H⟩ := H
   replace H : (if t379 = true then ((slices_ContainsFunc_at74.f k l1).bind fun t380 => (impl_PhraseIn.j0 k l0 l1 t380)) else (impl_PhraseIn.j0 k l0 l1 true)) = some (r1, r2) := H
   have A6 := Aside0.mk A60
   clear A60
   by_cases c7 : t379 = true
   ·subst c7
    have H1 : ((slices_ContainsFunc_at74.f k l1).bind fun t380 => (impl_PhraseIn.j0 k l0 l1 t380)) = some (r1, r2) := by rw [if_pos rfl] at H; exact H
    clear H
    have H := H1
    clear H1
    replace H := Option.bind_eq_some_iff.mp H
    obtain ⟨t380, A80, H⟩ := H
    replace H : (impl_PhraseIn.j0 k l0 l1 t380) = some (r1, r2) := H
    have A8 := Aside0.mk A80
    clear A80
    have H' := Aside0.mk H
    clear H
    go_wp2_with (first | ((with_reducible refine gate_callee (f := 58) rfl ?_); refine goesL_ (some 10) rfl rfl Try.func58 (by kernel_rfl) rfl #[.slice A0 l0.length c0] rfl (ag_) ?_; (with_reducible refine (impl_areDocs.calls k _ _ l0 true _ ?side1 ?side2 A4.out).mono ?_); (case side1 => refine cd_ ?_; exact (Kd.C_below HR0.out HB.out)); (case side2 => exact HC0.out); rintro e w9 ⟨rfl, hb⟩; refine ⟨_, rfl, ?_⟩; have n0_ := Aside0.mk (bs_ HB.out hb); clear HB; have HB := n0_; clear n0_; (try clear hb); (try clear hb2); (try clear hk); (try clear hi)) | (go_at_call 70; (with_reducible refine (impl_within.calls (l1.length : Int) 1 4 true _ A6.out).mono ?_); rintro e w' ⟨rfl, ⟨nd, rfl⟩⟩) | (go_at_call 73; (with_reducible refine (slices_ContainsFunc_at74.calls k _ _ l1  t380 _ ?side1 ?side2 A8.out).mono ?_); (case side1 => repeat (first | exact (Kd.C_below HR1.out (be_ HB.out)) | (with_reducible refine Kd.C_alloc ?_ _) | (with_reducible refine Kd.C_drewN ?_ _) | (with_reducible refine Kd.C_drew ?_))); (case side2 => exact HC1.out); rintro e w' ⟨rfl, ⟨nd, rfl⟩⟩))
    go_meet
    case rel => exact ⟨_, (t380), (by first | rfl | (simp; done) | (simp [*]; done)), H', ⟨by first | omega | exact Nat.le_refl _⟩, ⟨be_ HB.out⟩⟩
   ·replace c7 := Bool.eq_false_iff.mpr c7
    subst c7
    have H1 : (impl_PhraseIn.j0 k l0 l1 true) = some (r1, r2) := by rw [if_neg (show ¬ (false = true) by decide)] at H; exact H
    clear H
    have H := H1
    clear H1
    have H' := Aside0.mk H
    clear H
    go_wp2_with (first | ((with_reducible refine gate_callee (f := 58) rfl ?_); refine goesL_ (some 10) rfl rfl Try.func58 (by kernel_rfl) rfl #[.slice A0 l0.length c0] rfl (ag_) ?_; (with_reducible refine (impl_areDocs.calls k _ _ l0 true _ ?side1 ?side2 A4.out).mono ?_); (case side1 => refine cd_ ?_; exact (Kd.C_below HR0.out HB.out)); (case side2 => exact HC0.out); rintro e w10 ⟨rfl, hb⟩; refine ⟨_, rfl, ?_⟩; have n0_ := Aside0.mk (bs_ HB.out hb); clear HB; have HB := n0_; clear n0_; (try clear hb); (try clear hb2); (try clear hk); (try clear hi)) | (go_at_call 70; (with_reducible refine (impl_within.calls (l1.length : Int) 1 4 false _ A6.out).mono ?_); rintro e w' ⟨rfl, ⟨nd, rfl⟩⟩))
    go_meet
    case rel => exact ⟨_, (true), (by first | rfl | (simp; done) | (simp [*]; done)), H', ⟨by first | omega | exact Nat.le_refl _⟩, ⟨be_ HB.out⟩⟩
  ·replace c5 := Bool.eq_false_iff.mpr c5
   subst c5
   have H1 : (impl_PhraseIn.j0 k l0 l1 true) = some (r1, r2) := by rw [if_neg (show ¬ (false = true) by decide)] at H; exact H
   clear H
   have H := H1
   clear H1
   have H' := Aside0.mk H
   clear H
   go_wp2_with (first | ((with_reducible refine gate_callee (f := 58) rfl ?_); refine goesL_ (some 10) rfl rfl Try.func58 (by kernel_rfl) rfl #[.slice A0 l0.length c0] rfl (ag_) ?_; (with_reducible refine (impl_areDocs.calls k _ _ l0 false _ ?side1 ?side2 A4.out).mono ?_); (case side1 => refine cd_ ?_; exact (Kd.C_below HR0.out HB.out)); (case side2 => exact HC0.out); rintro e w11 ⟨rfl, hb⟩; refine ⟨_, rfl, ?_⟩; have n0_ := Aside0.mk (bs_ HB.out hb); clear HB; have HB := n0_; clear n0_; (try clear hb); (try clear hb2); (try clear hk); (try clear hi)))
   go_meet
   case rel => exact ⟨_, (true), (by first | rfl | (simp; done) | (simp [*]; done)), H', ⟨by first | omega | exact Nat.le_refl _⟩, ⟨be_ HB.out⟩⟩
 case rest =>
  clear HC3
  (try clear c1); (try clear p2); (try clear c3); (try clear c5); (try clear c7)
  obtain ⟨kq, x21_2, rfl, HA, HJ2, HB⟩ := hcut
  cases kq with
  | zero => exact absurd HA.out (by simp [impl_PhraseIn.j0])
  | succ kj2 =>
   have H := HA.out
   clear HA
   simp only [impl_PhraseIn.j0] at H
   by_cases c12 : x21_2 = true
   ·subst c12
    have H1 : (some (([] : List (S57)), false)) = some (r1, r2) := by rw [if_pos rfl] at H; exact H
    clear H
    have H := H1
    clear H1
    simp only [Option.some.injEq, Prod.mk.injEq] at H
    obtain ⟨rfl, rfl⟩ := H
    go_wp2
    go_ret2
    exact ⟨_, ew_, by first | exact Kd.S_nil _ _ _ _ _ | exact Kd.N_nil _ _ _ _ _ | exact Kd.V_nil _ _ _ _ _ | exact Kd.Q_nil _ _ _ _ _ | exact Kd.R_nil _ _ _ _ _, by repeat (first | (with_reducible first | exact HB.out | apply below_alloc | apply pw_below_drewN | apply below_drew1) | exact HB.out)⟩
   ·replace c12 := Bool.eq_false_iff.mpr c12
    subst c12
    have H1 : (if 0 < (l1.length : Int) then ((impl_posts.f kj2 l0 (rdOf ByteArray.empty l1 0)).bind fun t382 => (if 1 <= (l1.length : Int) then (impl_PhraseIn.l0 kj2 l0 t382 (l1.drop 1) ((l1.drop 1).length : Int) 0) else (none))) else (none)) = some (r1, r2) := by rw [if_neg (show ¬ (false = true) by decide)] at H; exact H
    clear H
    have H := H1
    clear H1
    by_cases c13 : 0 < (l1.length : Int)
    ·rw [if_pos c13] at H
     have c13b0 : decide (0 < (l1.length : Int)) = true := decide_eq_true c13
     have c13b1 : decide (0 < l1.length) = true := decide_eq_true (by omega)
     clear c13
     replace H := Option.bind_eq_some_iff.mp H
     obtain ⟨t382, A140, H⟩ := H
     replace H : (if 1 <= (l1.length : Int) then (impl_PhraseIn.l0 kj2 l0 t382 (l1.drop 1) ((l1.drop 1).length : Int) 0) else (none)) = some (r1, r2) := H
     have A14 := Aside0.mk A140
     clear A140
     by_cases c15 : 1 <= (l1.length : Int)
     ·rw [if_pos c15] at H
      have c15b0 := eq_true c15
      have c15b1 : decide (1 <= (l1.length : Int)) = true := decide_eq_true c15
      clear c15
      have H' := Aside0.mk H
      clear H
      have p381 : 0 <= (0 : Int) := (by omega)
      have q381 : 0 < (l1.length : Int) := of_decide_eq_true as_
      obtain ⟨ad381, e381, hx381_0⟩ := Kd.at_string HR1.out 0 p381 q381
      cases e381
      have qi381 : (0 < l1.length) = True := eq_true (by omega)
      (try rw [show ((0 : Int)).toNat = 0 from rfl] at hx381_0)
      (try rw [Addr.add_zero'] at hx381_0)
      replace hx381_0 := (HB.out.cell (World.block_lt_of_cell? w _ hx381_0)).trans hx381_0
      replace p381 := eq_true p381
      replace q381 := eq_true q381
      go_wp2_with (first | ((with_reducible refine gate_callee (f := 60) rfl ?_); refine goesL_ (some 26) rfl rfl Try.func60 (by kernel_rfl) rfl #[.slice A0 l0.length c0, .string (rdOf ByteArray.empty l1 0)] rfl (ag_) ?_; (with_reducible refine (impl_posts.calls kj2 _ _ l0 (rdOf ByteArray.empty l1 0) t382 _ ?side1 ?side2 A14.out).mono ?_); (case side1 => refine cd_ ?_; exact (Kd.C_below HR0.out HB.out)); (case side2 => exact HC0.out); rintro e w16 ⟨v383, rfl, ho0, hb⟩; refine ⟨_, rfl, ?_⟩; have n0_ := Aside0.mk (Kd.S_lower ho0 (bw_ HB.out)); have n1_ := Aside0.mk (bs_ HB.out hb); clear HB; have HO384 := n0_; have HB := n1_; clear n0_ n1_; (try clear hb); (try clear hb2); (try clear hk); (try clear hi); (try clear ho0); obtain ⟨i017, hi017, _, hsz17, _⟩ := info_parts info9; obtain ⟨A17, hcut17, hA17, hC17⟩ := print_drop_of (P := Try.prog) Value.string (⟨#[]⟩ : ByteArray) 22 9 .i64 Try.underlying22 hi017 hsz17 (some ad381) c1 l1 1 (by omega) (of_decide_eq_true as_) HC1.out; have HR385 := Aside0.mk (Kd.C_of_reads (h1 := fun _ => rfl) (hA17 _ (Kd.reads_of_C HR1.out))); have HC385 := Aside0.mk hC17; clear hA17 hC17 hi017 hsz17))
      go_loopg [6, 30] kj2 (fun kq v6 v30 w' => ∃ (x6_2 : List (S57)) (x30_2 : Int), v30 = .int .i64 x30_2 /\ Aside0 (impl_PhraseIn.l0 kq l0 x6_2 (l1.drop 1) ((l1.drop 1).length : Int) x30_2 = some (r1, r2)) /\ Aside0 (kq <= kj2) /\ Aside0 (Kd.S k57 57 w' w.heap.size (fun _ => True) v6 x6_2) /\ Aside0 (Below w.heap.size w w'))
      case atStart => exact ⟨(t382), (0), (by first | rfl | (simp; done) | (simp [*]; done)), H', ⟨Nat.le_refl _⟩, ⟨sk_ HO384.out⟩, ⟨be_ HB.out⟩⟩
      case round =>
       clear H'
       (try clear c1); (try clear p2); (try clear c3); (try clear p3); (try clear q3); (try clear hx3); (try clear qi3); (try clear c5); (try clear c6); (try clear c7); (try clear c12); (try clear c13); (try clear c13b0); (try clear c13b1); (try clear c15); (try clear c15b0); (try clear c15b1); (try clear hx381_0); (try clear p2); (try clear p381); (try clear q381)
       obtain ⟨x6_2, x30_2, rfl, HA, HK2, HO_6, HB⟩ := hrel
       cases gk with
       | zero => exact absurd HA.out (by simp [impl_PhraseIn.l0])
       | succ k2 =>
        have H := HA.out
        clear HA
        simp only [impl_PhraseIn.l0] at H
        by_cases c18 : x30_2 < ((l1.drop 1).length : Int)
        ·rw [if_pos c18] at H
         have c18b0 : decide (x30_2 < ((l1.drop 1).length : Int)) = true := decide_eq_true c18
         have c18b6 : decide (x30_2 < ((l1.length - 1 : Nat) : Int)) = true := (by rw [<- List.length_drop]; exact c18b0)
         clear c18
         by_cases c19 : 0 <= x30_2
         ·rw [if_pos c19] at H
          have c19b0 : decide (0 <= x30_2) = true := decide_eq_true c19
          clear c19
          by_cases c20 : x30_2 < ((l1.drop 1).length : Int)
          ·rw [if_pos c20] at H
           have c20b0 : decide (x30_2 < ((l1.drop 1).length : Int)) = true := decide_eq_true c20
           have c20b6 : decide (x30_2 < ((l1.length - 1 : Nat) : Int)) = true := (by rw [<- List.length_drop]; exact c20b0)
           clear c20
           replace H := Option.bind_eq_some_iff.mp H
           obtain ⟨t387, A210, H⟩ := H
           replace H : ((impl_meet.f k2 x6_2 t387 (wrap64 (x30_2 + 1))).bind fun t390 => (impl_PhraseIn.l0 k2 l0 t390 (l1.drop 1) ((l1.drop 1).length : Int) (wrap64 (x30_2 + 1)))) = some (r1, r2) := H
           have A21 := Aside0.mk A210
           clear A210
           replace H := Option.bind_eq_some_iff.mp H
           obtain ⟨t390, A220, H⟩ := H
           replace H : (impl_PhraseIn.l0 k2 l0 t390 (l1.drop 1) ((l1.drop 1).length : Int) (wrap64 (x30_2 + 1))) = some (r1, r2) := H
           have A22 := Aside0.mk A220
           clear A220
           have H' := Aside0.mk H
           clear H
           have p386 : 0 <= (x30_2 : Int) := of_decide_eq_true as_
           have q386 : x30_2 < ((l1.drop 1).length : Int) := of_decide_eq_true as_
           have q386t : (x30_2 < ((l1.length - 1 : Nat) : Int)) = True := eq_true (by rw [<- List.length_drop]; exact q386)
           have q386f : (((l1.length - 1 : Nat) : Int) <= x30_2) = False := eq_false (by rw [<- List.length_drop]; omega)
           obtain ⟨ad386, e386, hx386_0⟩ := Kd.at_string HR385.out x30_2 p386 q386
           cases e386
           replace hx386_0 := (HB.out.cell (World.block_lt_of_cell? w _ hx386_0)).trans hx386_0
           replace p386 := eq_true p386
           replace q386 := eq_true q386
           go_wp2_with (first | ((with_reducible refine gate_callee (f := 60) rfl ?_); refine goesL_ (some 38) rfl rfl Try.func60 (by kernel_rfl) rfl #[.slice A0 l0.length c0, .string (rdOf ByteArray.empty (l1.drop 1) x30_2)] rfl (by (try simp only [List.map_toArray, List.map_cons, List.map_nil]); first | done | rfl | (simp only [List.drop_one]; rfl) | (simp only [List.drop_one]; done) | (simp only [List.length_drop, List.length_take]; rfl)) ?_; (with_reducible refine (impl_posts.calls k2 _ _ l0 (rdOf ByteArray.empty (l1.drop 1) x30_2) t387 _ ?side1 ?side2 A21.out).mono ?_); (case side1 => refine cd_ ?_; exact (Kd.C_below HR0.out HB.out)); (case side2 => exact HC0.out); rintro e w23 ⟨v388, rfl, ho0, hb⟩; refine ⟨_, rfl, ?_⟩; have n0_ := Aside0.mk (Kd.S_elder' (sk_ HO_6.out) (Kd.S_base ho0) hb); have n1_ := Aside0.mk (Kd.S_lower (Kd.S_new' ho0 (Kd.S_lt (sk_ HO_6.out))) (bw_ HB.out)); have n2_ := Aside0.mk (bs_ HB.out hb); clear HO_6; clear HB; have HO_6 := n0_; have HO389 := n1_; have HB := n2_; clear n0_ n1_ n2_; (try clear hb); (try clear hb2); (try clear hk); (try clear hi); (try clear ho0); obtain ⟨Ao24, co24, eo24⟩ := Kd.S_slice HO_6.out; subst eo24; obtain ⟨Ao25, co25, eo25⟩ := Kd.S_slice HO389.out; subst eo25) | ((with_reducible refine gate_callee (f := 72) rfl ?_); refine goesL_ (some 41) rfl rfl Try.func72 (by kernel_rfl) rfl #[.slice Ao24 x6_2.length co24, .slice Ao25 t387.length co25, .int .i64 (wrap64 (x30_2 + 1))] rfl (ag_) ?_; (with_reducible refine (impl_meet.calls k2 _ _ x6_2 _ _ t387 (wrap64 (x30_2 + 1)) t390 _ ?side1 ?side2 ?side3 ?side4 A22.out).mono ?_); (case side1 => refine cd_ ?_; exact (Kd.S_reads' HO_6.out).2.2); (case side2 => exact (Kd.S_reads' HO_6.out).2.1); (case side3 => refine cd_ ?_; exact (Kd.S_reads' HO389.out).2.2); (case side4 => exact (Kd.S_reads' HO389.out).2.1); rintro e w26 ⟨v391, rfl, ho0, hb⟩; refine ⟨_, rfl, ?_⟩; have n0_ := Aside0.mk (Kd.S_elder' (sk_ HO_6.out) (Kd.S_base ho0) hb); have n1_ := Aside0.mk (Kd.S_elder' (sk_ HO389.out) (Kd.S_base ho0) hb); have n2_ := Aside0.mk (Kd.S_lower (Kd.S_new' (Kd.S_new' ho0 (Kd.S_lt (sk_ HO_6.out))) (Kd.S_lt (sk_ HO389.out))) (bw_ HB.out)); have n3_ := Aside0.mk (bs_ HB.out hb); clear HO_6; clear HO389; clear HB; have HO_6 := n0_; have HO389 := n1_; have HO392 := n2_; have HB := n3_; clear n0_ n1_ n2_ n3_; (try clear hb); (try clear hb2); (try clear hk); (try clear hi); (try clear ho0)))
           go_roundg k2
           case measure => have := HJ2.out; have := HK2.out; omega
           case rel => exact ⟨(t390), (wrap64 (x30_2 + 1)), (by first | rfl | (simp; done) | (simp [*]; done)), H', ⟨by have := HJ2.out; have := HK2.out; omega⟩, ⟨by (with_reducible repeat (first | apply Kd.S_alloc | apply Kd.S_drewN | apply Kd.S_drew)); exact Kd.S_mono HO392.out (fun _ hk => trivial)⟩, ⟨be_ HB.out⟩⟩
          ·rw [if_neg c20] at H
           exact absurd H (by simp)
         ·rw [if_neg c19] at H
          exact absurd H (by simp)
        ·rw [if_neg c18] at H
         have c18b0 : decide (x30_2 < ((l1.drop 1).length : Int)) = false := decide_eq_false c18
         have c18b6 : decide (x30_2 < ((l1.length - 1 : Nat) : Int)) = false := (by rw [<- List.length_drop]; exact c18b0)
         clear c18
         simp only [Option.some.injEq, Prod.mk.injEq] at H
         obtain ⟨rfl, rfl⟩ := H
         go_wp2
         go_ret2
         exact ⟨_, ew_, by (with_reducible repeat (first | apply Kd.S_alloc | apply Kd.S_drewN | apply Kd.S_drew)); exact HO_6.out, by repeat (first | (with_reducible first | exact HB.out | apply below_alloc | apply pw_below_drewN | apply below_drew1) | exact HB.out)⟩
     ·rw [if_neg c15] at H
      exact absurd H (by simp)
    ·rw [if_neg c13] at H
     exact absurd H (by simp)
def laws_sameInts.l0 : Nat -> List Int -> List Int -> Int -> Int -> Option (Bool)
 | 0, _, _, _, _ => none
 | k + 1, x0, x1, x12, x13 => if x13 < x12 then (if 0 <= x13 then (if x13 < (x0.length : Int) then (if x13 < (x1.length : Int) then (if (rd x0 x13) = (rd x1 x13) then (laws_sameInts.l0 k x0 x1 x12 (wrap64 (x13 + 1))) else (some false)) else (none)) else (none)) else (none)) else (some true)
def laws_sameInts.f (k : Nat) (l0 : List Int) (l1 : List Int) : Option (Bool) := if (l0.length : Int) = (l1.length : Int) then (laws_sameInts.l0 k l0 l1 (l0.length : Int) 0) else (some false)
theorem laws_sameInts.mono_l : ∀ k, (∀ y0 y1 y2 y3, LeO (laws_sameInts.l0 k y0 y1 y2 y3) (laws_sameInts.l0 (k + 1) y0 y1 y2 y3))
 | 0 => fun _ _ _ _ r h => by simp [laws_sameInts.l0] at h
 | k + 1 => by
  have ih0 := laws_sameInts.mono_l k
  ·intro y0 y1 y2 y3
   unfold laws_sameInts.l0
   repeat' (with_reducible first | exact ih0 _ _ _ _ | exact LeO.refl _ | exact LeO.none _ | refine LeO.ite ?_ ?_ | refine LeO.bind ?_ (fun _ => ?_))
theorem laws_sameInts.mono : ∀ a0 a1 k, LeO (laws_sameInts.f k a0 a1) (laws_sameInts.f (k + 1) a0 a1) := by
 intro a0 a1 k
 have ih0 := laws_sameInts.mono_l k
 unfold laws_sameInts.f
 repeat' (with_reducible first | exact ih0 _ _ _ _ | exact LeO.refl _ | exact LeO.none _ | refine LeO.ite ?_ ?_ | refine LeO.bind ?_ (fun _ => ?_))
theorem laws_sameInts.calls (k : Nat) (A0 : Option Addr) (c0 : Nat) (l0 : List Int) (A1 : Option Addr) (c1 : Nat) (l1 : List Int) (r : Bool) (w : World) (hr0 : Kd.C (Kd.int .i64) w A0 l0.length l0) (hc0 : l0.length <= c0) (hr1 : Kd.C (Kd.int .i64) w A1 l1.length l1) (hc1 : l1.length <= c1) (h : laws_sameInts.f k l0 l1 = some r) :
  Calls Try.prog 50 #[.slice A0 l0.length c0, .slice A1 l1.length c1] w fun e w' => e = .returned (.bool r) /\ Drawn0 w w' := by
 have HR0 := Aside0.mk hr0
 have HC0 := Aside0.mk hc0
 clear hr0 hc0
 have HR1 := Aside0.mk hr1
 have HC1 := Aside0.mk hc1
 clear hr1 hc1
 have H : (if (l0.length : Int) = (l1.length : Int) then (laws_sameInts.l0 k l0 l1 (l0.length : Int) 0) else (some false)) = some r := h
 clear h
 by_cases c3 : (l0.length : Int) = (l1.length : Int)
 ·rw [if_pos c3] at H
  have c3b0 : ((l0.length : Int) == (l1.length : Int)) = true := beq_iff_eq.mpr c3
  have c3b1 : ((l0.length : Int) != (l1.length : Int)) = false := bne_eq_false_iff_eq.mpr c3
  have c3b2 : (l0.length == l1.length) = true := by first | simpa using c3 | (simp at c3 ⊢; omega)
  clear c3
  have H' := Aside0.mk H
  clear H
  go_enter Try.func50, Try.ntmps50
  go_wp2
  repeat (go_quiet (fail); try go_wp2)
  go_loopg [13] k (fun kq v13 w' => ∃ (x13_1 : Int), v13 = .int .i64 x13_1 /\ Aside0 (laws_sameInts.l0 kq l0 l1 (l0.length : Int) x13_1 = some r) /\ Aside0 (kq <= k) /\ Drawn0 w w')
  case atStart => exact ⟨(0), (by first | rfl | (simp; done) | (simp [*]; done)), H', ⟨Nat.le_refl _⟩, by repeat (first | exact Drawn0.refl _ | apply Drawn0.step)⟩
  case round =>
   clear H'
   (try clear c1); (try clear p2); (try clear c3); (try clear c3b0); (try clear c3b1); (try clear c3b2)
   obtain ⟨x13_1, rfl, HA, HK1, ⟨m1, rfl⟩⟩ := hrel
   cases gk with
   | zero => exact absurd HA.out (by simp [laws_sameInts.l0])
   | succ k1 =>
    have H := HA.out
    clear HA
    simp only [laws_sameInts.l0] at H
    by_cases c4 : x13_1 < (l0.length : Int)
    ·rw [if_pos c4] at H
     have c4b0 : decide (x13_1 < (l0.length : Int)) = true := decide_eq_true c4
     clear c4
     by_cases c5 : 0 <= x13_1
     ·rw [if_pos c5] at H
      have c5b0 : decide (0 <= x13_1) = true := decide_eq_true c5
      clear c5
      by_cases c6 : x13_1 < (l0.length : Int)
      ·rw [if_pos c6] at H
       have c6b0 : decide (x13_1 < (l0.length : Int)) = true := decide_eq_true c6
       clear c6
       by_cases c7 : x13_1 < (l1.length : Int)
       ·rw [if_pos c7] at H
        have c7b0 : decide (x13_1 < (l1.length : Int)) = true := decide_eq_true c7
        clear c7
        by_cases c8 : (rd l0 x13_1) = (rd l1 x13_1)
        ·rw [if_pos c8] at H
         have c8b0 : ((rd l0 x13_1) == (rd l1 x13_1)) = true := beq_iff_eq.mpr c8
         have c8b1 : ((rd l0 x13_1) != (rd l1 x13_1)) = false := bne_eq_false_iff_eq.mpr c8
         clear c8
         have H' := Aside0.mk H
         clear H
         have p617 : 0 <= (x13_1 : Int) := of_decide_eq_true as_
         have q617 : x13_1 < (l0.length : Int) := of_decide_eq_true as_
         obtain ⟨ad617, e617, hx617_0⟩ := Kd.at_int HR0.out x13_1 p617 q617
         cases e617
         replace p617 := eq_true p617
         replace q617 := eq_true q617
         have p618 : 0 <= (x13_1 : Int) := of_decide_eq_true as_
         have q618 : x13_1 < (l1.length : Int) := of_decide_eq_true as_
         obtain ⟨ad618, e618, hx618_0⟩ := Kd.at_int HR1.out x13_1 p618 q618
         cases e618
         replace p618 := eq_true p618
         replace q618 := eq_true q618
         go_wp2
         repeat (go_quiet (fail); try go_wp2)
         go_roundg k1
         case measure => have := HK1.out; omega
         case rel => exact ⟨(wrap64 (x13_1 + 1)), (by first | rfl | (simp; done) | (simp [*]; done)), H', ⟨by have := HK1.out; omega⟩, by repeat (first | exact Drawn0.refl _ | apply Drawn0.step)⟩
        ·rw [if_neg c8] at H
         have c8b0 : ((rd l0 x13_1) == (rd l1 x13_1)) = false := beq_eq_false_iff_ne.mpr c8
         have c8b1 : ((rd l0 x13_1) != (rd l1 x13_1)) = true := bne_iff_ne.mpr c8
         obtain rfl := Option.some.inj H
         have p617 : 0 <= (x13_1 : Int) := of_decide_eq_true as_
         have q617 : x13_1 < (l0.length : Int) := of_decide_eq_true as_
         obtain ⟨ad617, e617, hx617_0⟩ := Kd.at_int HR0.out x13_1 p617 q617
         cases e617
         replace p617 := eq_true p617
         replace q617 := eq_true q617
         have p618 : 0 <= (x13_1 : Int) := of_decide_eq_true as_
         have q618 : x13_1 < (l1.length : Int) := of_decide_eq_true as_
         obtain ⟨ad618, e618, hx618_0⟩ := Kd.at_int HR1.out x13_1 p618 q618
         cases e618
         replace p618 := eq_true p618
         replace q618 := eq_true q618
         go_wp2
         repeat (go_quiet (fail); try go_wp2)
         go_ret
         exact ⟨by first | rfl | (simp; done) | (simp [*]; done), by repeat (first | exact Drawn0.refl _ | apply Drawn0.step)⟩
       ·rw [if_neg c7] at H
        exact absurd H (by simp)
      ·rw [if_neg c6] at H
       exact absurd H (by simp)
     ·rw [if_neg c5] at H
      exact absurd H (by simp)
    ·rw [if_neg c4] at H
     have c4b0 : decide (x13_1 < (l0.length : Int)) = false := decide_eq_false c4
     clear c4
     obtain rfl := Option.some.inj H
     go_wp2
     repeat (go_quiet (fail); try go_wp2)
     go_ret
     exact ⟨by first | rfl | (simp; done) | (simp [*]; done), by repeat (first | exact Drawn0.refl _ | apply Drawn0.step)⟩
 ·rw [if_neg c3] at H
  have c3b0 : ((l0.length : Int) == (l1.length : Int)) = false := beq_eq_false_iff_ne.mpr c3
  have c3b1 : ((l0.length : Int) != (l1.length : Int)) = true := bne_iff_ne.mpr c3
  have c3b2 : (l0.length == l1.length) = false := by first | simpa using c3 | (simp at c3 ⊢; omega)
  obtain rfl := Option.some.inj H
  go_enter Try.func50, Try.ntmps50
  go_wp2
  repeat (go_quiet (fail); try go_wp2)
  go_ret
  exact ⟨by first | rfl | (simp; done) | (simp [*]; done), by repeat (first | exact Drawn0.refl _ | apply Drawn0.step)⟩
def laws_samePosts.l0 : Nat -> List (S57) -> List (S57) -> Int -> Int -> Option (Bool)
 | 0, _, _, _, _ => none
 | k + 1, x0, x1, x12, x13 => if x13 < x12 then (if 0 <= x13 then (if x13 < (x0.length : Int) then (if x13 < (x1.length : Int) then (if ((rd_T57 x0 x13).f0) = ((rd_T57 x1 x13).f0) then ((laws_sameInts.f k ((rd_T57 x0 x13).f1) ((rd_T57 x1 x13).f1)).bind fun t623 => (if t623 = true then (laws_samePosts.l0 k x0 x1 x12 (wrap64 (x13 + 1))) else (some false))) else (some false)) else (none)) else (none)) else (none)) else (some true)
def laws_samePosts.f (k : Nat) (l0 : List (S57)) (l1 : List (S57)) : Option (Bool) := if (l0.length : Int) = (l1.length : Int) then (laws_samePosts.l0 k l0 l1 (l0.length : Int) 0) else (some false)
theorem laws_samePosts.mono_l : ∀ k, (∀ y0 y1 y2 y3, LeO (laws_samePosts.l0 k y0 y1 y2 y3) (laws_samePosts.l0 (k + 1) y0 y1 y2 y3))
 | 0 => fun _ _ _ _ r h => by simp [laws_samePosts.l0] at h
 | k + 1 => by
  have ih0 := laws_samePosts.mono_l k
  ·intro y0 y1 y2 y3
   unfold laws_samePosts.l0
   repeat' (with_reducible first | exact ih0 _ _ _ _ | exact laws_sameInts.mono _ _ _ | exact LeO.refl _ | exact LeO.none _ | refine LeO.ite ?_ ?_ | refine LeO.bind ?_ (fun _ => ?_))
theorem laws_samePosts.mono : ∀ a0 a1 k, LeO (laws_samePosts.f k a0 a1) (laws_samePosts.f (k + 1) a0 a1) := by
 intro a0 a1 k
 have ih0 := laws_samePosts.mono_l k
 unfold laws_samePosts.f
 repeat' (with_reducible first | exact ih0 _ _ _ _ | exact laws_sameInts.mono _ _ _ | exact LeO.refl _ | exact LeO.none _ | refine LeO.ite ?_ ?_ | refine LeO.bind ?_ (fun _ => ?_))
theorem laws_samePosts.calls (k : Nat) (A0 : Option Addr) (c0 : Nat) (l0 : List (S57)) (A1 : Option Addr) (c1 : Nat) (l1 : List (S57)) (r : Bool) (w : World) (hr0 : Kd.C k57 w A0 l0.length l0) (hc0 : l0.length <= c0) (hr1 : Kd.C k57 w A1 l1.length l1) (hc1 : l1.length <= c1) (h : laws_samePosts.f k l0 l1 = some r) :
  Calls Try.prog 43 #[.slice A0 l0.length c0, .slice A1 l1.length c1] w fun e w' => e = .returned (.bool r) /\ Drawn0 w w' := by
 have HR0 := Aside0.mk hr0
 have HC0 := Aside0.mk hc0
 clear hr0 hc0
 have HR1 := Aside0.mk hr1
 have HC1 := Aside0.mk hc1
 clear hr1 hc1
 have H : (if (l0.length : Int) = (l1.length : Int) then (laws_samePosts.l0 k l0 l1 (l0.length : Int) 0) else (some false)) = some r := h
 clear h
 by_cases c3 : (l0.length : Int) = (l1.length : Int)
 ·rw [if_pos c3] at H
  have c3b0 : ((l0.length : Int) == (l1.length : Int)) = true := beq_iff_eq.mpr c3
  have c3b1 : ((l0.length : Int) != (l1.length : Int)) = false := bne_eq_false_iff_eq.mpr c3
  have c3b2 : (l0.length == l1.length) = true := by first | simpa using c3 | (simp at c3 ⊢; omega)
  clear c3
  have H' := Aside0.mk H
  clear H
  go_enter Try.func43, Try.ntmps43
  go_wp2
  repeat (go_quiet (fail); try go_wp2)
  go_loopg [13] k (fun kq v13 w' => ∃ (x13_1 : Int), v13 = .int .i64 x13_1 /\ Aside0 (laws_samePosts.l0 kq l0 l1 (l0.length : Int) x13_1 = some r) /\ Aside0 (kq <= k) /\ Drawn0 w w')
  case atStart => exact ⟨(0), (by first | rfl | (simp; done) | (simp [*]; done)), H', ⟨Nat.le_refl _⟩, by repeat (first | exact Drawn0.refl _ | apply Drawn0.step)⟩
  case round =>
   clear H'
   (try clear c1); (try clear p2); (try clear c3); (try clear c3b0); (try clear c3b1); (try clear c3b2)
   obtain ⟨x13_1, rfl, HA, HK1, ⟨m1, rfl⟩⟩ := hrel
   cases gk with
   | zero => exact absurd HA.out (by simp [laws_samePosts.l0])
   | succ k1 =>
    have H := HA.out
    clear HA
    simp only [laws_samePosts.l0] at H
    by_cases c4 : x13_1 < (l0.length : Int)
    ·rw [if_pos c4] at H
     have c4b0 : decide (x13_1 < (l0.length : Int)) = true := decide_eq_true c4
     clear c4
     by_cases c5 : 0 <= x13_1
     ·rw [if_pos c5] at H
      have c5b0 : decide (0 <= x13_1) = true := decide_eq_true c5
      clear c5
      by_cases c6 : x13_1 < (l0.length : Int)
      ·rw [if_pos c6] at H
       have c6b0 : decide (x13_1 < (l0.length : Int)) = true := decide_eq_true c6
       clear c6
       by_cases c7 : x13_1 < (l1.length : Int)
       ·rw [if_pos c7] at H
        have c7b0 : decide (x13_1 < (l1.length : Int)) = true := decide_eq_true c7
        clear c7
        by_cases c8 : ((rd_T57 l0 x13_1).f0) = ((rd_T57 l1 x13_1).f0)
        ·rw [if_pos c8] at H
         have c8b0 : (((rd_T57 l0 x13_1).f0) == ((rd_T57 l1 x13_1).f0)) = true := beq_iff_eq.mpr c8
         have c8b1 : (((rd_T57 l0 x13_1).f0) != ((rd_T57 l1 x13_1).f0)) = false := bne_eq_false_iff_eq.mpr c8
         clear c8
         replace H := Option.bind_eq_some_iff.mp H
         obtain ⟨t623, A90, H⟩ := H
         replace H : (if t623 = true then (laws_samePosts.l0 k1 l0 l1 (l0.length : Int) (wrap64 (x13_1 + 1))) else (some false)) = some r := H
         have A9 := Aside0.mk A90
         clear A90
         by_cases c10 : t623 = true
         ·subst c10
          have H1 : (laws_samePosts.l0 k1 l0 l1 (l0.length : Int) (wrap64 (x13_1 + 1))) = some r := by rw [if_pos rfl] at H; exact H
          clear H
          have H := H1
          clear H1
          have H' := Aside0.mk H
          clear H
          have p619 : 0 <= (x13_1 : Int) := of_decide_eq_true as_
          have q619 : x13_1 < (l0.length : Int) := of_decide_eq_true as_
          obtain ⟨ad619, A619_1, c619_1, e619, hx619_0, hx619_1, hl619_1, hi619_1⟩ := at_T57 HR0.out x13_1 p619 q619
          cases e619
          have HR619_1 := Aside0.mk hi619_1
          have HC619_1 := Aside0.mk hl619_1
          clear hi619_1 hl619_1
          replace p619 := eq_true p619
          replace q619 := eq_true q619
          have p620 : 0 <= (x13_1 : Int) := of_decide_eq_true as_
          have q620 : x13_1 < (l1.length : Int) := of_decide_eq_true as_
          obtain ⟨ad620, A620_1, c620_1, e620, hx620_0, hx620_1, hl620_1, hi620_1⟩ := at_T57 HR1.out x13_1 p620 q620
          cases e620
          have HR620_1 := Aside0.mk hi620_1
          have HC620_1 := Aside0.mk hl620_1
          clear hi620_1 hl620_1
          replace p620 := eq_true p620
          replace q620 := eq_true q620
          have p621 : 0 <= (x13_1 : Int) := of_decide_eq_true as_
          have q621 : x13_1 < (l0.length : Int) := of_decide_eq_true as_
          obtain ⟨ad621, A621_1, c621_1, e621, hx621_0, hx621_1, hl621_1, hi621_1⟩ := at_T57 HR0.out x13_1 p621 q621
          obtain rfl : ad619 = ad621 := (by injection e621)
          have HR621_1 := Aside0.mk hi621_1
          have HC621_1 := Aside0.mk hl621_1
          clear hi621_1 hl621_1
          replace p621 := eq_true p621
          replace q621 := eq_true q621
          have ea_ := Option.some.inj (hx619_1.symm.trans hx621_1)
          injection ea_ with ea_ en_ ec_
          subst ea_
          subst ec_
          clear en_
          have p622 : 0 <= (x13_1 : Int) := of_decide_eq_true as_
          have q622 : x13_1 < (l1.length : Int) := of_decide_eq_true as_
          obtain ⟨ad622, A622_1, c622_1, e622, hx622_0, hx622_1, hl622_1, hi622_1⟩ := at_T57 HR1.out x13_1 p622 q622
          obtain rfl : ad620 = ad622 := (by injection e622)
          have HR622_1 := Aside0.mk hi622_1
          have HC622_1 := Aside0.mk hl622_1
          clear hi622_1 hl622_1
          replace p622 := eq_true p622
          replace q622 := eq_true q622
          have ea_ := Option.some.inj (hx620_1.symm.trans hx622_1)
          injection ea_ with ea_ en_ ec_
          subst ea_
          subst ec_
          clear en_
          go_wp2_with (first | (go_at_call 50; (with_reducible refine (laws_sameInts.calls k1 _ _ ((rd_T57 l0 x13_1).f1) _ _ ((rd_T57 l1 x13_1).f1) true _ ?side1 ?side2 ?side3 ?side4 A9.out).mono ?_); (case side1 => refine cd_ ?_; exact HR621_1.out); (case side2 => exact HC621_1.out); (case side3 => refine cd_ ?_; exact HR622_1.out); (case side4 => exact HC622_1.out); rintro e w' ⟨rfl, ⟨nd, rfl⟩⟩; (try first | exact ⟨rfl, _, World.drewN_drewN _ _ _⟩ | exact ⟨rfl, _, Eq.trans (World.drewN_drewN _ _ _) (congrArg (World.drewN _) (Nat.add_assoc _ _ _))⟩)))
          repeat (go_quiet (first | (go_at_call 50; (with_reducible refine (laws_sameInts.calls k1 _ _ ((rd_T57 l0 x13_1).f1) _ _ ((rd_T57 l1 x13_1).f1) true _ ?side1 ?side2 ?side3 ?side4 A9.out).mono ?_); (case side1 => refine cd_ ?_; exact HR621_1.out); (case side2 => exact HC621_1.out); (case side3 => refine cd_ ?_; exact HR622_1.out); (case side4 => exact HC622_1.out); rintro e w' ⟨rfl, ⟨nd, rfl⟩⟩; (try first | exact ⟨rfl, _, World.drewN_drewN _ _ _⟩ | exact ⟨rfl, _, Eq.trans (World.drewN_drewN _ _ _) (congrArg (World.drewN _) (Nat.add_assoc _ _ _))⟩))); try go_wp2_with (first | (go_at_call 50; (with_reducible refine (laws_sameInts.calls k1 _ _ ((rd_T57 l0 x13_1).f1) _ _ ((rd_T57 l1 x13_1).f1) true _ ?side1 ?side2 ?side3 ?side4 A9.out).mono ?_); (case side1 => refine cd_ ?_; exact HR621_1.out); (case side2 => exact HC621_1.out); (case side3 => refine cd_ ?_; exact HR622_1.out); (case side4 => exact HC622_1.out); rintro e w' ⟨rfl, ⟨nd, rfl⟩⟩; (try first | exact ⟨rfl, _, World.drewN_drewN _ _ _⟩ | exact ⟨rfl, _, Eq.trans (World.drewN_drewN _ _ _) (congrArg (World.drewN _) (Nat.add_assoc _ _ _))⟩))))
          go_roundg k1
          case measure => have := HK1.out; omega
          case rel => exact ⟨(wrap64 (x13_1 + 1)), (by first | rfl | (simp; done) | (simp [*]; done)), H', ⟨by have := HK1.out; omega⟩, by repeat (first | exact Drawn0.refl _ | apply Drawn0.step)⟩
         ·replace c10 := Bool.eq_false_iff.mpr c10
          subst c10
          have H1 : (some false) = some r := by rw [if_neg (show ¬ (false = true) by decide)] at H; exact H
          clear H
          have H := H1
          clear H1
          obtain rfl := Option.some.inj H
          have p619 : 0 <= (x13_1 : Int) := of_decide_eq_true as_
          have q619 : x13_1 < (l0.length : Int) := of_decide_eq_true as_
          obtain ⟨ad619, A619_1, c619_1, e619, hx619_0, hx619_1, hl619_1, hi619_1⟩ := at_T57 HR0.out x13_1 p619 q619
          cases e619
          have HR619_1 := Aside0.mk hi619_1
          have HC619_1 := Aside0.mk hl619_1
          clear hi619_1 hl619_1
          replace p619 := eq_true p619
          replace q619 := eq_true q619
          have p620 : 0 <= (x13_1 : Int) := of_decide_eq_true as_
          have q620 : x13_1 < (l1.length : Int) := of_decide_eq_true as_
          obtain ⟨ad620, A620_1, c620_1, e620, hx620_0, hx620_1, hl620_1, hi620_1⟩ := at_T57 HR1.out x13_1 p620 q620
          cases e620
          have HR620_1 := Aside0.mk hi620_1
          have HC620_1 := Aside0.mk hl620_1
          clear hi620_1 hl620_1
          replace p620 := eq_true p620
          replace q620 := eq_true q620
          have p621 : 0 <= (x13_1 : Int) := of_decide_eq_true as_
          have q621 : x13_1 < (l0.length : Int) := of_decide_eq_true as_
          obtain ⟨ad621, A621_1, c621_1, e621, hx621_0, hx621_1, hl621_1, hi621_1⟩ := at_T57 HR0.out x13_1 p621 q621
          obtain rfl : ad619 = ad621 := (by injection e621)
          have HR621_1 := Aside0.mk hi621_1
          have HC621_1 := Aside0.mk hl621_1
          clear hi621_1 hl621_1
          replace p621 := eq_true p621
          replace q621 := eq_true q621
          have ea_ := Option.some.inj (hx619_1.symm.trans hx621_1)
          injection ea_ with ea_ en_ ec_
          subst ea_
          subst ec_
          clear en_
          have p622 : 0 <= (x13_1 : Int) := of_decide_eq_true as_
          have q622 : x13_1 < (l1.length : Int) := of_decide_eq_true as_
          obtain ⟨ad622, A622_1, c622_1, e622, hx622_0, hx622_1, hl622_1, hi622_1⟩ := at_T57 HR1.out x13_1 p622 q622
          obtain rfl : ad620 = ad622 := (by injection e622)
          have HR622_1 := Aside0.mk hi622_1
          have HC622_1 := Aside0.mk hl622_1
          clear hi622_1 hl622_1
          replace p622 := eq_true p622
          replace q622 := eq_true q622
          have ea_ := Option.some.inj (hx620_1.symm.trans hx622_1)
          injection ea_ with ea_ en_ ec_
          subst ea_
          subst ec_
          clear en_
          go_wp2_with (first | (go_at_call 50; (with_reducible refine (laws_sameInts.calls k1 _ _ ((rd_T57 l0 x13_1).f1) _ _ ((rd_T57 l1 x13_1).f1) false _ ?side1 ?side2 ?side3 ?side4 A9.out).mono ?_); (case side1 => refine cd_ ?_; exact HR621_1.out); (case side2 => exact HC621_1.out); (case side3 => refine cd_ ?_; exact HR622_1.out); (case side4 => exact HC622_1.out); rintro e w' ⟨rfl, ⟨nd, rfl⟩⟩; (try first | exact ⟨rfl, _, World.drewN_drewN _ _ _⟩ | exact ⟨rfl, _, Eq.trans (World.drewN_drewN _ _ _) (congrArg (World.drewN _) (Nat.add_assoc _ _ _))⟩)))
          repeat (go_quiet (first | (go_at_call 50; (with_reducible refine (laws_sameInts.calls k1 _ _ ((rd_T57 l0 x13_1).f1) _ _ ((rd_T57 l1 x13_1).f1) false _ ?side1 ?side2 ?side3 ?side4 A9.out).mono ?_); (case side1 => refine cd_ ?_; exact HR621_1.out); (case side2 => exact HC621_1.out); (case side3 => refine cd_ ?_; exact HR622_1.out); (case side4 => exact HC622_1.out); rintro e w' ⟨rfl, ⟨nd, rfl⟩⟩; (try first | exact ⟨rfl, _, World.drewN_drewN _ _ _⟩ | exact ⟨rfl, _, Eq.trans (World.drewN_drewN _ _ _) (congrArg (World.drewN _) (Nat.add_assoc _ _ _))⟩))); try go_wp2_with (first | (go_at_call 50; (with_reducible refine (laws_sameInts.calls k1 _ _ ((rd_T57 l0 x13_1).f1) _ _ ((rd_T57 l1 x13_1).f1) false _ ?side1 ?side2 ?side3 ?side4 A9.out).mono ?_); (case side1 => refine cd_ ?_; exact HR621_1.out); (case side2 => exact HC621_1.out); (case side3 => refine cd_ ?_; exact HR622_1.out); (case side4 => exact HC622_1.out); rintro e w' ⟨rfl, ⟨nd, rfl⟩⟩; (try first | exact ⟨rfl, _, World.drewN_drewN _ _ _⟩ | exact ⟨rfl, _, Eq.trans (World.drewN_drewN _ _ _) (congrArg (World.drewN _) (Nat.add_assoc _ _ _))⟩))))
          go_ret
          exact ⟨by first | rfl | (simp; done) | (simp [*]; done), by repeat (first | exact Drawn0.refl _ | apply Drawn0.step)⟩
        ·rw [if_neg c8] at H
         have c8b0 : (((rd_T57 l0 x13_1).f0) == ((rd_T57 l1 x13_1).f0)) = false := beq_eq_false_iff_ne.mpr c8
         have c8b1 : (((rd_T57 l0 x13_1).f0) != ((rd_T57 l1 x13_1).f0)) = true := bne_iff_ne.mpr c8
         obtain rfl := Option.some.inj H
         have p619 : 0 <= (x13_1 : Int) := of_decide_eq_true as_
         have q619 : x13_1 < (l0.length : Int) := of_decide_eq_true as_
         obtain ⟨ad619, A619_1, c619_1, e619, hx619_0, hx619_1, hl619_1, hi619_1⟩ := at_T57 HR0.out x13_1 p619 q619
         cases e619
         have HR619_1 := Aside0.mk hi619_1
         have HC619_1 := Aside0.mk hl619_1
         clear hi619_1 hl619_1
         replace p619 := eq_true p619
         replace q619 := eq_true q619
         have p620 : 0 <= (x13_1 : Int) := of_decide_eq_true as_
         have q620 : x13_1 < (l1.length : Int) := of_decide_eq_true as_
         obtain ⟨ad620, A620_1, c620_1, e620, hx620_0, hx620_1, hl620_1, hi620_1⟩ := at_T57 HR1.out x13_1 p620 q620
         cases e620
         have HR620_1 := Aside0.mk hi620_1
         have HC620_1 := Aside0.mk hl620_1
         clear hi620_1 hl620_1
         replace p620 := eq_true p620
         replace q620 := eq_true q620
         go_wp2
         repeat (go_quiet (fail); try go_wp2)
         go_ret
         exact ⟨by first | rfl | (simp; done) | (simp [*]; done), by repeat (first | exact Drawn0.refl _ | apply Drawn0.step)⟩
       ·rw [if_neg c7] at H
        exact absurd H (by simp)
      ·rw [if_neg c6] at H
       exact absurd H (by simp)
     ·rw [if_neg c5] at H
      exact absurd H (by simp)
    ·rw [if_neg c4] at H
     have c4b0 : decide (x13_1 < (l0.length : Int)) = false := decide_eq_false c4
     clear c4
     obtain rfl := Option.some.inj H
     go_wp2
     repeat (go_quiet (fail); try go_wp2)
     go_ret
     exact ⟨by first | rfl | (simp; done) | (simp [*]; done), by repeat (first | exact Drawn0.refl _ | apply Drawn0.step)⟩
 ·rw [if_neg c3] at H
  have c3b0 : ((l0.length : Int) == (l1.length : Int)) = false := beq_eq_false_iff_ne.mpr c3
  have c3b1 : ((l0.length : Int) != (l1.length : Int)) = true := bne_iff_ne.mpr c3
  have c3b2 : (l0.length == l1.length) = false := by first | simpa using c3 | (simp at c3 ⊢; omega)
  obtain rfl := Option.some.inj H
  go_enter Try.func43, Try.ntmps43
  go_wp2
  repeat (go_quiet (fail); try go_wp2)
  go_ret
  exact ⟨by first | rfl | (simp; done) | (simp [*]; done), by repeat (first | exact Drawn0.refl _ | apply Drawn0.step)⟩
def laws_sameTexts.l0 : Nat -> List ByteArray -> List ByteArray -> Int -> Int -> Option (Bool)
 | 0, _, _, _, _ => none
 | k + 1, x0, x1, x12, x13 => if x13 < x12 then (if 0 <= x13 then (if x13 < (x0.length : Int) then (if x13 < (x1.length : Int) then (if (rdOf ByteArray.empty x0 x13).toList = (rdOf ByteArray.empty x1 x13).toList then (laws_sameTexts.l0 k x0 x1 x12 (wrap64 (x13 + 1))) else (some false)) else (none)) else (none)) else (none)) else (some true)
def laws_sameTexts.f (k : Nat) (l0 : List ByteArray) (l1 : List ByteArray) : Option (Bool) := if (l0.length : Int) = (l1.length : Int) then (laws_sameTexts.l0 k l0 l1 (l0.length : Int) 0) else (some false)
theorem laws_sameTexts.mono_l : ∀ k, (∀ y0 y1 y2 y3, LeO (laws_sameTexts.l0 k y0 y1 y2 y3) (laws_sameTexts.l0 (k + 1) y0 y1 y2 y3))
 | 0 => fun _ _ _ _ r h => by simp [laws_sameTexts.l0] at h
 | k + 1 => by
  have ih0 := laws_sameTexts.mono_l k
  ·intro y0 y1 y2 y3
   unfold laws_sameTexts.l0
   repeat' (with_reducible first | exact ih0 _ _ _ _ | exact LeO.refl _ | exact LeO.none _ | refine LeO.ite ?_ ?_ | refine LeO.bind ?_ (fun _ => ?_))
theorem laws_sameTexts.mono : ∀ a0 a1 k, LeO (laws_sameTexts.f k a0 a1) (laws_sameTexts.f (k + 1) a0 a1) := by
 intro a0 a1 k
 have ih0 := laws_sameTexts.mono_l k
 unfold laws_sameTexts.f
 repeat' (with_reducible first | exact ih0 _ _ _ _ | exact LeO.refl _ | exact LeO.none _ | refine LeO.ite ?_ ?_ | refine LeO.bind ?_ (fun _ => ?_))
theorem laws_sameTexts.calls (k : Nat) (A0 : Option Addr) (c0 : Nat) (l0 : List ByteArray) (A1 : Option Addr) (c1 : Nat) (l1 : List ByteArray) (r : Bool) (w : World) (hr0 : Kd.C Kd.string w A0 l0.length l0) (hc0 : l0.length <= c0) (hr1 : Kd.C Kd.string w A1 l1.length l1) (hc1 : l1.length <= c1) (h : laws_sameTexts.f k l0 l1 = some r) :
  Calls Try.prog 44 #[.slice A0 l0.length c0, .slice A1 l1.length c1] w fun e w' => e = .returned (.bool r) /\ Drawn0 w w' := by
 have HR0 := Aside0.mk hr0
 have HC0 := Aside0.mk hc0
 clear hr0 hc0
 have HR1 := Aside0.mk hr1
 have HC1 := Aside0.mk hc1
 clear hr1 hc1
 have H : (if (l0.length : Int) = (l1.length : Int) then (laws_sameTexts.l0 k l0 l1 (l0.length : Int) 0) else (some false)) = some r := h
 clear h
 by_cases c3 : (l0.length : Int) = (l1.length : Int)
 ·rw [if_pos c3] at H
  have c3b0 : ((l0.length : Int) == (l1.length : Int)) = true := beq_iff_eq.mpr c3
  have c3b1 : ((l0.length : Int) != (l1.length : Int)) = false := bne_eq_false_iff_eq.mpr c3
  have c3b2 : (l0.length == l1.length) = true := by first | simpa using c3 | (simp at c3 ⊢; omega)
  clear c3
  have H' := Aside0.mk H
  clear H
  go_enter Try.func44, Try.ntmps44
  go_wp2
  repeat (go_quiet (fail); try go_wp2)
  go_loopg [13] k (fun kq v13 w' => ∃ (x13_1 : Int), v13 = .int .i64 x13_1 /\ Aside0 (laws_sameTexts.l0 kq l0 l1 (l0.length : Int) x13_1 = some r) /\ Aside0 (kq <= k) /\ Drawn0 w w')
  case atStart => exact ⟨(0), (by first | rfl | (simp; done) | (simp [*]; done)), H', ⟨Nat.le_refl _⟩, by repeat (first | exact Drawn0.refl _ | apply Drawn0.step)⟩
  case round =>
   clear H'
   (try clear c1); (try clear p2); (try clear c3); (try clear c3b0); (try clear c3b1); (try clear c3b2)
   obtain ⟨x13_1, rfl, HA, HK1, ⟨m1, rfl⟩⟩ := hrel
   cases gk with
   | zero => exact absurd HA.out (by simp [laws_sameTexts.l0])
   | succ k1 =>
    have H := HA.out
    clear HA
    simp only [laws_sameTexts.l0] at H
    by_cases c4 : x13_1 < (l0.length : Int)
    ·rw [if_pos c4] at H
     have c4b0 : decide (x13_1 < (l0.length : Int)) = true := decide_eq_true c4
     clear c4
     by_cases c5 : 0 <= x13_1
     ·rw [if_pos c5] at H
      have c5b0 : decide (0 <= x13_1) = true := decide_eq_true c5
      clear c5
      by_cases c6 : x13_1 < (l0.length : Int)
      ·rw [if_pos c6] at H
       have c6b0 : decide (x13_1 < (l0.length : Int)) = true := decide_eq_true c6
       clear c6
       by_cases c7 : x13_1 < (l1.length : Int)
       ·rw [if_pos c7] at H
        have c7b0 : decide (x13_1 < (l1.length : Int)) = true := decide_eq_true c7
        clear c7
        by_cases c8 : (rdOf ByteArray.empty l0 x13_1).toList = (rdOf ByteArray.empty l1 x13_1).toList
        ·rw [if_pos c8] at H
         have c8b0 : ((rdOf ByteArray.empty l0 x13_1).toList == (rdOf ByteArray.empty l1 x13_1).toList) = true := beq_iff_eq.mpr c8
         have c8b1 : ((rdOf ByteArray.empty l0 x13_1).toList != (rdOf ByteArray.empty l1 x13_1).toList) = false := bne_eq_false_iff_eq.mpr c8
         clear c8
         have H' := Aside0.mk H
         clear H
         have p624 : 0 <= (x13_1 : Int) := of_decide_eq_true as_
         have q624 : x13_1 < (l0.length : Int) := of_decide_eq_true as_
         obtain ⟨ad624, e624, hx624_0⟩ := Kd.at_string HR0.out x13_1 p624 q624
         cases e624
         replace p624 := eq_true p624
         replace q624 := eq_true q624
         have p625 : 0 <= (x13_1 : Int) := of_decide_eq_true as_
         have q625 : x13_1 < (l1.length : Int) := of_decide_eq_true as_
         obtain ⟨ad625, e625, hx625_0⟩ := Kd.at_string HR1.out x13_1 p625 q625
         cases e625
         replace p625 := eq_true p625
         replace q625 := eq_true q625
         go_wp2
         repeat (go_quiet (fail); try go_wp2)
         go_roundg k1
         case measure => have := HK1.out; omega
         case rel => exact ⟨(wrap64 (x13_1 + 1)), (by first | rfl | (simp; done) | (simp [*]; done)), H', ⟨by have := HK1.out; omega⟩, by repeat (first | exact Drawn0.refl _ | apply Drawn0.step)⟩
        ·rw [if_neg c8] at H
         have c8b0 : ((rdOf ByteArray.empty l0 x13_1).toList == (rdOf ByteArray.empty l1 x13_1).toList) = false := beq_eq_false_iff_ne.mpr c8
         have c8b1 : ((rdOf ByteArray.empty l0 x13_1).toList != (rdOf ByteArray.empty l1 x13_1).toList) = true := bne_iff_ne.mpr c8
         obtain rfl := Option.some.inj H
         have p624 : 0 <= (x13_1 : Int) := of_decide_eq_true as_
         have q624 : x13_1 < (l0.length : Int) := of_decide_eq_true as_
         obtain ⟨ad624, e624, hx624_0⟩ := Kd.at_string HR0.out x13_1 p624 q624
         cases e624
         replace p624 := eq_true p624
         replace q624 := eq_true q624
         have p625 : 0 <= (x13_1 : Int) := of_decide_eq_true as_
         have q625 : x13_1 < (l1.length : Int) := of_decide_eq_true as_
         obtain ⟨ad625, e625, hx625_0⟩ := Kd.at_string HR1.out x13_1 p625 q625
         cases e625
         replace p625 := eq_true p625
         replace q625 := eq_true q625
         go_wp2
         repeat (go_quiet (fail); try go_wp2)
         go_ret
         exact ⟨by first | rfl | (simp; done) | (simp [*]; done), by repeat (first | exact Drawn0.refl _ | apply Drawn0.step)⟩
       ·rw [if_neg c7] at H
        exact absurd H (by simp)
      ·rw [if_neg c6] at H
       exact absurd H (by simp)
     ·rw [if_neg c5] at H
      exact absurd H (by simp)
    ·rw [if_neg c4] at H
     have c4b0 : decide (x13_1 < (l0.length : Int)) = false := decide_eq_false c4
     clear c4
     obtain rfl := Option.some.inj H
     go_wp2
     repeat (go_quiet (fail); try go_wp2)
     go_ret
     exact ⟨by first | rfl | (simp; done) | (simp [*]; done), by repeat (first | exact Drawn0.refl _ | apply Drawn0.step)⟩
 ·rw [if_neg c3] at H
  have c3b0 : ((l0.length : Int) == (l1.length : Int)) = false := beq_eq_false_iff_ne.mpr c3
  have c3b1 : ((l0.length : Int) != (l1.length : Int)) = true := bne_iff_ne.mpr c3
  have c3b2 : (l0.length == l1.length) = false := by first | simpa using c3 | (simp at c3 ⊢; omega)
  obtain rfl := Option.some.inj H
  go_enter Try.func44, Try.ntmps44
  go_wp2
  repeat (go_quiet (fail); try go_wp2)
  go_ret
  exact ⟨by first | rfl | (simp; done) | (simp [*]; done), by repeat (first | exact Drawn0.refl _ | apply Drawn0.step)⟩
def IsS87 (w0 W : World) (g : Nat) (f0 : List Int) (f1 : Int) (f2 : Int) : Prop := ∃ A0 c0, W.heap[g]? = some (.cells #[.slice A0 f0.length c0, .int .i64 f1, .int .u64 f2] 87 (0, 0)) /\ w0.heap.size <= g /\ Kd.C (Kd.int .u8) w0 A0 f0.length f0
theorem IsS87.grown {w0 W : World} {g : Nat} {f0 : List Int} {f1 : Int} {f2 : Int} {W1 : World} {row : Option Nat} (h : IsS87 w0 W g f0 f1 f2) (hw : W.grownBy W1 row) (hne : some g ≠ row) : IsS87 w0 W1 g f0 f1 f2 := by
 obtain ⟨A0, c0, hb, hg, hr0⟩ := h
 exact ⟨A0, c0, blk_grown hb hw hne, hg, hr0⟩
theorem IsS87.below {w0 W : World} {g : Nat} {f0 : List Int} {f1 : Int} {f2 : Int} {W1 : World} (h : IsS87 w0 W g f0 f1 f2) (hw : Below W.heap.size W W1) : IsS87 w0 W1 g f0 f1 f2 := h.grown (grown_of_below hw none) (by simp)
theorem IsS87.alloc {w0 W : World} {g : Nat} {f0 : List Int} {f1 : Int} {f2 : Int} (h : IsS87 w0 W g f0 f1 f2) (o : Obj) : IsS87 w0 (W.alloc o) g f0 f1 f2 := h.below (below_alloc (Below.refl _ _) o)
theorem IsS87.drewN {w0 W : World} {g : Nat} {f0 : List Int} {f1 : Int} {f2 : Int} (h : IsS87 w0 W g f0 f1 f2) (m : Nat) : IsS87 w0 (W.drewN m) g f0 f1 f2 := h
theorem IsS87.drew {w0 W : World} {g : Nat} {f0 : List Int} {f1 : Int} {f2 : Int} (h : IsS87 w0 W g f0 f1 f2) : IsS87 w0 W.drew g f0 f1 f2 := h
theorem IsS87.at_ {w0 W : World} {g : Nat} {f0 : List Int} {f1 : Int} {f2 : Int} {w' : World} {m : Nat} (hq : W.drewN m = w') (h : IsS87 w0 W g f0 f1 f2) : IsS87 w0 w' g f0 f1 f2 := by subst hq; exact IsS87.drewN h m
theorem IsS87.apart {w0 W : World} {g : Nat} {f0 : List Int} {f1 : Int} {f2 : Int} {α : Type} {d : Kd α} {e : Nat} {base : Nat} {ok : Nat -> Prop} {v : Value} {xs : List α} (h : IsS87 w0 W g f0 f1 f2) (ho : d.R e W base ok v xs) (ht : ∀ q, q ∈ e :: d.E -> q ≠ 87) : d.R e W base (fun k => ok k /\ k ≠ g) v xs := by
 obtain ⟨A0, c0, hb, hg, hr0⟩ := h
 exact Kd.R_types ho hb ht
theorem IsS87.own_ne {w0 W : World} {g : Nat} {f0 : List Int} {f1 : Int} {f2 : Int} {α : Type} {d : Kd α} {e : Nat} {base : Nat} {ok : Nat -> Prop} {v : Value} {xs : List α} (h : IsS87 w0 W g f0 f1 f2) (ho : d.R e W base ok v xs) (ht : e ≠ 87) : some g ≠ v.ownBlock := by
 obtain ⟨A0, c0, hb, hg, hr0⟩ := h
 exact Kd.R_ne ho hb ht
theorem IsS87.apartS {w0 W : World} {g : Nat} {f0 : List Int} {f1 : Int} {f2 : Int} {α : Type} {d : Kd α} {e : Nat} {base : Nat} {ok : Nat -> Prop} {v : Value} {xs : List α} (h : IsS87 w0 W g f0 f1 f2) (ho : d.S e W base ok v xs) (ht : ∀ q, q ∈ e :: d.E -> q ≠ 87) : d.S e W base (fun k => ok k /\ k ≠ g) v xs := by
 obtain ⟨A0, c0, hb, hg, hr0⟩ := h
 exact Kd.S_types ho hb ht
theorem IsS87.own_neS {w0 W : World} {g : Nat} {f0 : List Int} {f1 : Int} {f2 : Int} {α : Type} {d : Kd α} {e : Nat} {base : Nat} {ok : Nat -> Prop} {v : Value} {xs : List α} (h : IsS87 w0 W g f0 f1 f2) (ho : d.S e W base ok v xs) (ht : e ≠ 87) : some g ≠ v.ownBlock := by
 obtain ⟨A0, c0, hb, hg, hr0⟩ := h
 exact Kd.S_ne ho hb ht
theorem IsS87.lt {w0 W : World} {g : Nat} {f0 : List Int} {f1 : Int} {f2 : Int} (h : IsS87 w0 W g f0 f1 f2) : g < W.heap.size := by
 obtain ⟨A0, c0, hb, hg, hr0⟩ := h
 exact blk_lt hb
theorem IsS87.ge {w0 W : World} {g : Nat} {f0 : List Int} {f1 : Int} {f2 : Int} (h : IsS87 w0 W g f0 f1 f2) : w0.heap.size <= g := by
 obtain ⟨A0, c0, hb, hg, hr0⟩ := h
 exact hg
theorem cellS87_0 {W : World} {g : Nat} {A0 : Option Addr} {c0 : Nat} {f0 : List Int} {f1 : Int} {f2 : Int} (h : W.heap[g]? = some (.cells #[.slice A0 f0.length c0, .int .i64 f1, .int .u64 f2] 87 (0, 0))) : W.cell? ⟨g, 0, none⟩ = some (.slice A0 f0.length c0) := (blk_cell h 0).trans rfl
theorem cellS87_1 {W : World} {g : Nat} {A0 : Option Addr} {c0 : Nat} {f0 : List Int} {f1 : Int} {f2 : Int} (h : W.heap[g]? = some (.cells #[.slice A0 f0.length c0, .int .i64 f1, .int .u64 f2] 87 (0, 0))) : W.cell? ⟨g, 1, none⟩ = some (.int .i64 f1) := (blk_cell h 1).trans rfl
theorem IsS87.set_1 {w0 W : World} {g : Nat} {f0 : List Int} {f1 : Int} {f2 : Int} (h : IsS87 w0 W g f0 f1 f2) (x : Int) : IsS87 w0 (W.setCell ⟨g, 1, none⟩ (.int .i64 x)) g f0 x f2 := by
 obtain ⟨A0, c0, hb, hg, hr0⟩ := h
 exact ⟨A0, c0, by simpa using blk_set hb 1 (.int .i64 x), hg, hr0⟩
theorem cellS87_2 {W : World} {g : Nat} {A0 : Option Addr} {c0 : Nat} {f0 : List Int} {f1 : Int} {f2 : Int} (h : W.heap[g]? = some (.cells #[.slice A0 f0.length c0, .int .i64 f1, .int .u64 f2] 87 (0, 0))) : W.cell? ⟨g, 2, none⟩ = some (.int .u64 f2) := (blk_cell h 2).trans rfl
theorem IsS87.set_2 {w0 W : World} {g : Nat} {f0 : List Int} {f1 : Int} {f2 : Int} (h : IsS87 w0 W g f0 f1 f2) (x : Int) : IsS87 w0 (W.setCell ⟨g, 2, none⟩ (.int .u64 x)) g f0 f1 x := by
 obtain ⟨A0, c0, hb, hg, hr0⟩ := h
 exact ⟨A0, c0, by simpa using blk_set hb 2 (.int .u64 x), hg, hr0⟩
def spec_l1Cur_next.f (s0_0 : List Int) (s0_1 : Int) (s0_2 : Int) : Option (Int × Int × Int) := if s0_1 < (s0_0.length : Int) then (if 0 <= s0_1 then (if (wrap64 (s0_1 + 1)) <= (s0_0.length : Int) then (some (wrap64 (rd s0_0 s0_1), wrap64 (s0_1 + 1), IntKind.u64.wrap ((IntKind.u64.wrap ((IntKind.u64.wrap (s0_2 * 6364136223846793005)) + (IntKind.u64.wrap (wrap64 (rd s0_0 s0_1))))) + 1442695040888963407))) else (some (wrap64 (Go.bits .and .u64 ((IntKind.u64.wrap ((IntKind.u64.wrap ((IntKind.u64.wrap (s0_2 * 6364136223846793005)) + (IntKind.u64.wrap (wrap64 (rd s0_0 s0_1))))) + 1442695040888963407)) / 1099511627776) 255), wrap64 (s0_1 + 1), IntKind.u64.wrap ((IntKind.u64.wrap ((IntKind.u64.wrap (s0_2 * 6364136223846793005)) + (IntKind.u64.wrap (wrap64 (rd s0_0 s0_1))))) + 1442695040888963407)))) else (none)) else (if (wrap64 (s0_1 + 1)) <= (s0_0.length : Int) then (some (0, wrap64 (s0_1 + 1), IntKind.u64.wrap ((IntKind.u64.wrap (IntKind.u64.wrap (s0_2 * 6364136223846793005))) + 1442695040888963407))) else (some (wrap64 (Go.bits .and .u64 ((IntKind.u64.wrap ((IntKind.u64.wrap (IntKind.u64.wrap (s0_2 * 6364136223846793005))) + 1442695040888963407)) / 1099511627776) 255), wrap64 (s0_1 + 1), IntKind.u64.wrap ((IntKind.u64.wrap (IntKind.u64.wrap (s0_2 * 6364136223846793005))) + 1442695040888963407))))
theorem spec_l1Cur_next.calls (g : Nat) (s0_0 : List Int) (s0_1 : Int) (s0_2 : Int) (r1 : Int) (r2 : Int) (r3 : Int) (w0 w : World) (hI : IsS87 w0 w g s0_0 s0_1 s0_2) (hB : Below w0.heap.size w0 w) (h : spec_l1Cur_next.f s0_0 s0_1 s0_2 = some (r1, r2, r3)) :
  Calls Try.prog 105 #[.pointer (some ⟨g, 0, none⟩)] w fun e w' => e = .returned (.int .i64 r1) /\ IsS87 w0 w' g s0_0 r2 r3 /\ Below w0.heap.size w0 w' /\ KeepBut w w' g none := by
 have HI0 := Aside0.mk hI
 have HK := Aside0.mk (KeepBut.refl w g none)
 have HL := Aside0.mk hB.size
 clear hI
 have HW0 := Aside0.mk hB.size
 have HB := Aside0.mk hB
 clear hB
 have H : (if s0_1 < (s0_0.length : Int) then (if 0 <= s0_1 then (if (wrap64 (s0_1 + 1)) <= (s0_0.length : Int) then (some (wrap64 (rd s0_0 s0_1), wrap64 (s0_1 + 1), IntKind.u64.wrap ((IntKind.u64.wrap ((IntKind.u64.wrap (s0_2 * 6364136223846793005)) + (IntKind.u64.wrap (wrap64 (rd s0_0 s0_1))))) + 1442695040888963407))) else (some (wrap64 (Go.bits .and .u64 ((IntKind.u64.wrap ((IntKind.u64.wrap ((IntKind.u64.wrap (s0_2 * 6364136223846793005)) + (IntKind.u64.wrap (wrap64 (rd s0_0 s0_1))))) + 1442695040888963407)) / 1099511627776) 255), wrap64 (s0_1 + 1), IntKind.u64.wrap ((IntKind.u64.wrap ((IntKind.u64.wrap (s0_2 * 6364136223846793005)) + (IntKind.u64.wrap (wrap64 (rd s0_0 s0_1))))) + 1442695040888963407)))) else (none)) else (if (wrap64 (s0_1 + 1)) <= (s0_0.length : Int) then (some (0, wrap64 (s0_1 + 1), IntKind.u64.wrap ((IntKind.u64.wrap (IntKind.u64.wrap (s0_2 * 6364136223846793005))) + 1442695040888963407))) else (some (wrap64 (Go.bits .and .u64 ((IntKind.u64.wrap ((IntKind.u64.wrap (IntKind.u64.wrap (s0_2 * 6364136223846793005))) + 1442695040888963407)) / 1099511627776) 255), wrap64 (s0_1 + 1), IntKind.u64.wrap ((IntKind.u64.wrap (IntKind.u64.wrap (s0_2 * 6364136223846793005))) + 1442695040888963407))))) = some (r1, r2, r3) := h
 clear h
 by_cases c2 : s0_1 < (s0_0.length : Int)
 ·rw [if_pos c2] at H
  have c2b0 : decide (s0_1 < (s0_0.length : Int)) = true := decide_eq_true c2
  clear c2
  by_cases c3 : 0 <= s0_1
  ·rw [if_pos c3] at H
   have c3b0 : decide (0 <= s0_1) = true := decide_eq_true c3
   clear c3
   by_cases c4 : (wrap64 (s0_1 + 1)) <= (s0_0.length : Int)
   ·rw [if_pos c4] at H
    have c4b0 : decide ((wrap64 (s0_1 + 1)) <= (s0_0.length : Int)) = true := decide_eq_true c4
    clear c4
    simp only [Option.some.injEq, Prod.mk.injEq] at H
    obtain ⟨rfl, rfl, rfl⟩ := H
    obtain ⟨ASz5_0, cSz5_0, HGz5, hgz5, HSz5_0⟩ := HI0.out
    have hcz5_0 := cellS87_0 HGz5
    have hcz5_1 := cellS87_1 HGz5
    have hcz5_2 := cellS87_2 HGz5
    have hfz5_1 := blk_frozen HGz5 1
    have hfz5_2 := blk_frozen HGz5 2
    clear HGz5 hgz5
    have p626 : 0 <= (s0_1 : Int) := of_decide_eq_true as_
    have q626 : s0_1 < (s0_0.length : Int) := of_decide_eq_true as_
    obtain ⟨ad626, e626, hx626_0⟩ := Kd.at_int HSz5_0 s0_1 p626 q626
    cases e626
    replace hx626_0 := pw_cell_below HB.out hx626_0
    replace p626 := eq_true p626
    replace q626 := eq_true q626
    go_enter Try.func105, Try.ntmps105
    go_wp2
    repeat (go_quiet (fail); try go_wp2)
    go_ret
    exact ⟨ew_, by repeat (first | (with_reducible first | exact HI0.out | apply IsS87.alloc | apply IsS87.drewN | apply IsS87.drew | apply IsS87.set_1 | apply IsS87.set_2) | exact HI0.out), by repeat (first | (with_reducible first | exact HB.out | apply below_alloc | apply pw_below_drewN | apply below_drew1 | refine below_set ?_ (IsS87.ge HI0.out)) | exact HB.out), by repeat (first | (with_reducible first | exact HK.out | apply KeepBut.set_ | apply keep_drewN | apply keep_drew | apply keep_alloc) | exact HK.out)⟩
   ·rw [if_neg c4] at H
    have c4b0 : decide ((wrap64 (s0_1 + 1)) <= (s0_0.length : Int)) = false := decide_eq_false c4
    clear c4
    simp only [Option.some.injEq, Prod.mk.injEq] at H
    obtain ⟨rfl, rfl, rfl⟩ := H
    obtain ⟨ASz6_0, cSz6_0, HGz6, hgz6, HSz6_0⟩ := HI0.out
    have hcz6_0 := cellS87_0 HGz6
    have hcz6_1 := cellS87_1 HGz6
    have hcz6_2 := cellS87_2 HGz6
    have hfz6_1 := blk_frozen HGz6 1
    have hfz6_2 := blk_frozen HGz6 2
    clear HGz6 hgz6
    have p626 : 0 <= (s0_1 : Int) := of_decide_eq_true as_
    have q626 : s0_1 < (s0_0.length : Int) := of_decide_eq_true as_
    obtain ⟨ad626, e626, hx626_0⟩ := Kd.at_int HSz6_0 s0_1 p626 q626
    cases e626
    replace hx626_0 := pw_cell_below HB.out hx626_0
    replace p626 := eq_true p626
    replace q626 := eq_true q626
    go_enter Try.func105, Try.ntmps105
    go_wp2
    repeat (go_quiet (fail); try go_wp2)
    go_ret
    exact ⟨ew_, by repeat (first | (with_reducible first | exact HI0.out | apply IsS87.alloc | apply IsS87.drewN | apply IsS87.drew | apply IsS87.set_1 | apply IsS87.set_2) | exact HI0.out), by repeat (first | (with_reducible first | exact HB.out | apply below_alloc | apply pw_below_drewN | apply below_drew1 | refine below_set ?_ (IsS87.ge HI0.out)) | exact HB.out), by repeat (first | (with_reducible first | exact HK.out | apply KeepBut.set_ | apply keep_drewN | apply keep_drew | apply keep_alloc) | exact HK.out)⟩
  ·rw [if_neg c3] at H
   exact absurd H (by simp)
 ·rw [if_neg c2] at H
  have c2b0 : decide (s0_1 < (s0_0.length : Int)) = false := decide_eq_false c2
  clear c2
  by_cases c7 : (wrap64 (s0_1 + 1)) <= (s0_0.length : Int)
  ·rw [if_pos c7] at H
   have c7b0 : decide ((wrap64 (s0_1 + 1)) <= (s0_0.length : Int)) = true := decide_eq_true c7
   clear c7
   simp only [Option.some.injEq, Prod.mk.injEq] at H
   obtain ⟨rfl, rfl, rfl⟩ := H
   obtain ⟨ASz8_0, cSz8_0, HGz8, hgz8, HSz8_0⟩ := HI0.out
   have hcz8_0 := cellS87_0 HGz8
   have hcz8_1 := cellS87_1 HGz8
   have hcz8_2 := cellS87_2 HGz8
   have hfz8_1 := blk_frozen HGz8 1
   have hfz8_2 := blk_frozen HGz8 2
   clear HGz8 hgz8
   go_enter Try.func105, Try.ntmps105
   go_wp2
   repeat (go_quiet (fail); try go_wp2)
   go_ret
   exact ⟨ew_, by repeat (first | (with_reducible first | exact HI0.out | apply IsS87.alloc | apply IsS87.drewN | apply IsS87.drew | apply IsS87.set_1 | apply IsS87.set_2) | exact HI0.out), by repeat (first | (with_reducible first | exact HB.out | apply below_alloc | apply pw_below_drewN | apply below_drew1 | refine below_set ?_ (IsS87.ge HI0.out)) | exact HB.out), by repeat (first | (with_reducible first | exact HK.out | apply KeepBut.set_ | apply keep_drewN | apply keep_drew | apply keep_alloc) | exact HK.out)⟩
  ·rw [if_neg c7] at H
   have c7b0 : decide ((wrap64 (s0_1 + 1)) <= (s0_0.length : Int)) = false := decide_eq_false c7
   clear c7
   simp only [Option.some.injEq, Prod.mk.injEq] at H
   obtain ⟨rfl, rfl, rfl⟩ := H
   obtain ⟨ASz9_0, cSz9_0, HGz9, hgz9, HSz9_0⟩ := HI0.out
   have hcz9_0 := cellS87_0 HGz9
   have hcz9_1 := cellS87_1 HGz9
   have hcz9_2 := cellS87_2 HGz9
   have hfz9_1 := blk_frozen HGz9 1
   have hfz9_2 := blk_frozen HGz9 2
   clear HGz9 hgz9
   go_enter Try.func105, Try.ntmps105
   go_wp2
   repeat (go_quiet (fail); try go_wp2)
   go_ret
   exact ⟨ew_, by repeat (first | (with_reducible first | exact HI0.out | apply IsS87.alloc | apply IsS87.drewN | apply IsS87.drew | apply IsS87.set_1 | apply IsS87.set_2) | exact HI0.out), by repeat (first | (with_reducible first | exact HB.out | apply below_alloc | apply pw_below_drewN | apply below_drew1 | refine below_set ?_ (IsS87.ge HI0.out)) | exact HB.out), by repeat (first | (with_reducible first | exact HK.out | apply KeepBut.set_ | apply keep_drewN | apply keep_drew | apply keep_alloc) | exact HK.out)⟩
theorem q82_0 {p0 q : Prop} (h0 : p0) (h : p0 -> q := by intro q0_; repeat (first | (with_reducible first | exact q0_ | apply IsS87.alloc | apply IsS87.drewN | apply IsS87.drew | apply IsS87.set_1 | apply IsS87.set_2) | exact q0_)) : q := h h0
theorem q82_1 {p0 p1 q : Prop} (h0 : p0) (h1 : p1) (h : p0 -> p1 -> q := by intro q0_ q1_; repeat (first | (with_reducible first | exact q0_ | apply below_alloc | apply pw_below_drewN | apply below_drew1 | refine below_set ?_ (IsS87.ge q1_)) | exact q0_)) : q := h h0 h1
theorem q82_2 {p0 q : Prop} (h0 : p0) (h : p0 -> q := by intro q0_; repeat (first | (with_reducible first | exact q0_ | apply KeepBut.set_ | apply keep_drewN | apply keep_drew | apply keep_alloc) | exact q0_)) : q := h h0
def spec_l1Cur_pick.f (s0_0 : List Int) (s0_1 : Int) (s0_2 : Int) (a1 : Int) : Option (Int × Int × Int) := if a1 <= 1 then (some (0, s0_1, s0_2)) else ((spec_l1Cur_next.f s0_0 s0_1 s0_2).bind fun bt627 => (if a1 > 200 then ((spec_l1Cur_next.f s0_0 bt627.2.1 bt627.2.2).bind fun bt630 => (if a1 = 0 then (none) else (some (Int.tmod (wrap64 ((wrap64 (bt627.1 * 256)) + bt630.1)) a1, bt630.2.1, bt630.2.2)))) else (if a1 = 0 then (none) else (some (Int.tmod bt627.1 a1, bt627.2.1, bt627.2.2)))))
theorem spec_l1Cur_pick.calls (g : Nat) (s0_0 : List Int) (s0_1 : Int) (s0_2 : Int) (a1 : Int) (r1 : Int) (r2 : Int) (r3 : Int) (w0 w : World) (hI : IsS87 w0 w g s0_0 s0_1 s0_2) (hB : Below w0.heap.size w0 w) (h : spec_l1Cur_pick.f s0_0 s0_1 s0_2 a1 = some (r1, r2, r3)) :
  Calls Try.prog 82 #[.pointer (some ⟨g, 0, none⟩), .int .i64 a1] w fun e w' => e = .returned (.int .i64 r1) /\ IsS87 w0 w' g s0_0 r2 r3 /\ Below w0.heap.size w0 w' /\ KeepBut w w' g none := by
 have HI0 := Aside0.mk hI
 have HK := Aside0.mk (KeepBut.refl w g none)
 have HL := Aside0.mk hB.size
 clear hI
 have HW0 := Aside0.mk hB.size
 have HB := Aside0.mk hB
 clear hB
 have H : (if a1 <= 1 then (some (0, s0_1, s0_2)) else ((spec_l1Cur_next.f s0_0 s0_1 s0_2).bind fun bt627 => (if a1 > 200 then ((spec_l1Cur_next.f s0_0 bt627.2.1 bt627.2.2).bind fun bt630 => (if a1 = 0 then (none) else (some (Int.tmod (wrap64 ((wrap64 (bt627.1 * 256)) + bt630.1)) a1, bt630.2.1, bt630.2.2)))) else (if a1 = 0 then (none) else (some (Int.tmod bt627.1 a1, bt627.2.1, bt627.2.2)))))) = some (r1, r2, r3) := h
 clear h
 by_cases c3 : a1 <= 1
 ·rw [if_pos c3] at H
  have c3b0 : decide (a1 <= 1) = true := decide_eq_true c3
  clear c3
  simp only [Option.some.injEq, Prod.mk.injEq] at H
  obtain ⟨rfl, rfl, rfl⟩ := H
  go_enter Try.func82, Try.ntmps82
  go_wp2
  go_ret
  exact ⟨ew_, by repeat (first | (with_reducible first | exact HI0.out | apply IsS87.alloc | apply IsS87.drewN | apply IsS87.drew | apply IsS87.set_1 | apply IsS87.set_2) | exact HI0.out), by repeat (first | (with_reducible first | exact HB.out | apply below_alloc | apply pw_below_drewN | apply below_drew1 | refine below_set ?_ (IsS87.ge HI0.out)) | exact HB.out), by repeat (first | (with_reducible first | exact HK.out | apply KeepBut.set_ | apply keep_drewN | apply keep_drew | apply keep_alloc) | exact HK.out)⟩
 ·rw [if_neg c3] at H
  have c3b0 : decide (a1 <= 1) = false := decide_eq_false c3
  clear c3
  replace H := Option.bind_eq_some_iff.mp H
  obtain ⟨⟨t627, t628, t629⟩, A40, H⟩ := H
  replace H : (if a1 > 200 then ((spec_l1Cur_next.f s0_0 t628 t629).bind fun bt630 => (if a1 = 0 then (none) else (some (Int.tmod (wrap64 ((wrap64 (t627 * 256)) + bt630.1)) a1, bt630.2.1, bt630.2.2)))) else (if a1 = 0 then (none) else (some (Int.tmod t627 a1, t628, t629)))) = some (r1, r2, r3) := H
  have A4 := Aside0.mk A40
  clear A40
  by_cases c5 : a1 > 200
  ·rw [if_pos c5] at H
   have c5b0 : decide (200 < a1) = true := decide_eq_true c5
   clear c5
   replace H := Option.bind_eq_some_iff.mp H
   obtain ⟨⟨t630, t631, t632⟩, A60, H⟩ := H
   replace H : (if a1 = 0 then (none) else (some (Int.tmod (wrap64 ((wrap64 (t627 * 256)) + t630)) a1, t631, t632))) = some (r1, r2, r3) := H
   have A6 := Aside0.mk A60
   clear A60
   by_cases c7 : a1 = 0
   ·rw [if_pos c7] at H
    exact absurd H (by simp)
   ·rw [if_neg c7] at H
    have c7b0 : (a1 == 0) = false := beq_eq_false_iff_ne.mpr c7
    have c7b1 : (a1 != 0) = true := bne_iff_ne.mpr c7
    simp only [Option.some.injEq, Prod.mk.injEq] at H
    obtain ⟨rfl, rfl, rfl⟩ := H
    go_enter Try.func82, Try.ntmps82
    go_wp2_with (first | ((with_reducible refine gate_callee (f := 105) rfl ?_); refine goesL_ (some 9) rfl rfl Try.func105 (by kernel_rfl) rfl #[.pointer (some ⟨g, 0, none⟩)] rfl (ag_) ?_; (with_reducible refine (spec_l1Cur_next.calls g s0_0 s0_1 s0_2 t627 t628 t629 w0 _ ?side1 ?side2 A4.out).mono ?_); (case side1 => exact q82_0 HI0.out); (case side2 => exact q82_1 HB.out HI0.out); rintro e w8 ⟨rfl, hi, hb, hk⟩; refine ⟨_, rfl, ?_⟩; have n0_ := Aside0.mk (KeepBut.trans (q82_2 HK.out) hk (.inl rfl)); have n1_ := Aside0.mk (hb); have n2_ := Aside0.mk (hi); clear HK; clear HB; clear HI0; have HK := n0_; have HB := n1_; have HI0 := n2_; clear n0_ n1_ n2_; (try clear hb); (try clear hb2); (try clear hk); (try clear hi)) | ((with_reducible refine gate_callee (f := 105) rfl ?_); refine goesL_ (some 15) rfl rfl Try.func105 (by kernel_rfl) rfl #[.pointer (some ⟨g, 0, none⟩)] rfl (ag_) ?_; (with_reducible refine (spec_l1Cur_next.calls g s0_0 t628 t629 t630 t631 t632 w0 _ ?side1 ?side2 A6.out).mono ?_); (case side1 => exact q82_0 HI0.out); (case side2 => exact q82_1 HB.out HI0.out); rintro e w9 ⟨rfl, hi, hb, hk⟩; refine ⟨_, rfl, ?_⟩; have n0_ := Aside0.mk (KeepBut.trans (q82_2 HK.out) hk (.inl rfl)); have n1_ := Aside0.mk (hb); have n2_ := Aside0.mk (hi); clear HK; clear HB; clear HI0; have HK := n0_; have HB := n1_; have HI0 := n2_; clear n0_ n1_ n2_; (try clear hb); (try clear hb2); (try clear hk); (try clear hi)))
    go_ret
    exact ⟨ew_, by repeat (first | (with_reducible first | exact HI0.out | apply IsS87.alloc | apply IsS87.drewN | apply IsS87.drew | apply IsS87.set_1 | apply IsS87.set_2) | exact HI0.out), by repeat (first | (with_reducible first | exact HB.out | apply below_alloc | apply pw_below_drewN | apply below_drew1 | refine below_set ?_ (IsS87.ge HI0.out)) | exact HB.out), by repeat (first | (with_reducible first | exact HK.out | apply KeepBut.set_ | apply keep_drewN | apply keep_drew | apply keep_alloc) | exact HK.out)⟩
  ·rw [if_neg c5] at H
   have c5b0 : decide (200 < a1) = false := decide_eq_false c5
   clear c5
   by_cases c10 : a1 = 0
   ·rw [if_pos c10] at H
    exact absurd H (by simp)
   ·rw [if_neg c10] at H
    have c10b0 : (a1 == 0) = false := beq_eq_false_iff_ne.mpr c10
    have c10b1 : (a1 != 0) = true := bne_iff_ne.mpr c10
    simp only [Option.some.injEq, Prod.mk.injEq] at H
    obtain ⟨rfl, rfl, rfl⟩ := H
    go_enter Try.func82, Try.ntmps82
    go_wp2_with (first | ((with_reducible refine gate_callee (f := 105) rfl ?_); refine goesL_ (some 9) rfl rfl Try.func105 (by kernel_rfl) rfl #[.pointer (some ⟨g, 0, none⟩)] rfl (ag_) ?_; (with_reducible refine (spec_l1Cur_next.calls g s0_0 s0_1 s0_2 t627 t628 t629 w0 _ ?side1 ?side2 A4.out).mono ?_); (case side1 => exact q82_0 HI0.out); (case side2 => exact q82_1 HB.out HI0.out); rintro e w11 ⟨rfl, hi, hb, hk⟩; refine ⟨_, rfl, ?_⟩; have n0_ := Aside0.mk (KeepBut.trans (q82_2 HK.out) hk (.inl rfl)); have n1_ := Aside0.mk (hb); have n2_ := Aside0.mk (hi); clear HK; clear HB; clear HI0; have HK := n0_; have HB := n1_; have HI0 := n2_; clear n0_ n1_ n2_; (try clear hb); (try clear hb2); (try clear hk); (try clear hi)))
    go_ret
    exact ⟨ew_, by repeat (first | (with_reducible first | exact HI0.out | apply IsS87.alloc | apply IsS87.drewN | apply IsS87.drew | apply IsS87.set_1 | apply IsS87.set_2) | exact HI0.out), by repeat (first | (with_reducible first | exact HB.out | apply below_alloc | apply pw_below_drewN | apply below_drew1 | refine below_set ?_ (IsS87.ge HI0.out)) | exact HB.out), by repeat (first | (with_reducible first | exact HK.out | apply KeepBut.set_ | apply keep_drewN | apply keep_drew | apply keep_alloc) | exact HK.out)⟩
def spec_l1Cur_of.f (s0_0 : List Int) (s0_1 : Int) (s0_2 : Int) (l1 : List ByteArray) : Option (ByteArray × Int × Int) := (spec_l1Cur_pick.f s0_0 s0_1 s0_2 (l1.length : Int)).bind fun bt633 => (if 0 <= bt633.1 then (if bt633.1 < (l1.length : Int) then (some (rdOf ByteArray.empty l1 bt633.1, bt633.2.1, bt633.2.2)) else (none)) else (none))
theorem spec_l1Cur_of.calls (g : Nat) (s0_0 : List Int) (s0_1 : Int) (s0_2 : Int) (A1 : Option Addr) (c1 : Nat) (l1 : List ByteArray) (r1 : ByteArray) (r2 : Int) (r3 : Int) (w0 w : World) (hI : IsS87 w0 w g s0_0 s0_1 s0_2) (hB : Below w0.heap.size w0 w) (hr1 : Kd.C Kd.string w A1 l1.length l1) (hc1 : l1.length <= c1) (hf1 : ∀ ad, A1 = some ad -> 0 < l1.length -> ad.block ≠ g) (h : spec_l1Cur_of.f s0_0 s0_1 s0_2 l1 = some (r1, r2, r3)) :
  Calls Try.prog 83 #[.pointer (some ⟨g, 0, none⟩), .slice A1 l1.length c1] w fun e w' => e = .returned (.string r1) /\ IsS87 w0 w' g s0_0 r2 r3 /\ Below w0.heap.size w0 w' /\ KeepBut w w' g none := by
 have HR1 := Aside0.mk hr1
 have HC1 := Aside0.mk hc1
 clear hr1 hc1
 have HI0 := Aside0.mk hI
 have HK := Aside0.mk (KeepBut.refl w g none)
 have HL := Aside0.mk hB.size
 clear hI
 have HW0 := Aside0.mk hB.size
 have HB := Aside0.mk hB
 clear hB
 have H : ((spec_l1Cur_pick.f s0_0 s0_1 s0_2 (l1.length : Int)).bind fun bt633 => (if 0 <= bt633.1 then (if bt633.1 < (l1.length : Int) then (some (rdOf ByteArray.empty l1 bt633.1, bt633.2.1, bt633.2.2)) else (none)) else (none))) = some (r1, r2, r3) := h
 clear h
 replace H := Option.bind_eq_some_iff.mp H
 obtain ⟨⟨t633, t634, t635⟩, A30, H⟩ := H
 replace H : (if 0 <= t633 then (if t633 < (l1.length : Int) then (some (rdOf ByteArray.empty l1 t633, t634, t635)) else (none)) else (none)) = some (r1, r2, r3) := H
 have A3 := Aside0.mk A30
 clear A30
 by_cases c4 : 0 <= t633
 ·rw [if_pos c4] at H
  have c4b0 : decide (0 <= t633) = true := decide_eq_true c4
  clear c4
  by_cases c5 : t633 < (l1.length : Int)
  ·rw [if_pos c5] at H
   have c5b0 : decide (t633 < (l1.length : Int)) = true := decide_eq_true c5
   clear c5
   simp only [Option.some.injEq, Prod.mk.injEq] at H
   obtain ⟨rfl, rfl, rfl⟩ := H
   go_enter Try.func83, Try.ntmps83
   go_wp2_with (first | ((with_reducible refine gate_callee (f := 82) rfl ?_); refine goesL_ (some 9) rfl rfl Try.func82 (by kernel_rfl) rfl #[.pointer (some ⟨g, 0, none⟩), .int .i64 (l1.length : Int)] rfl (ag_) ?_; (with_reducible refine (spec_l1Cur_pick.calls g s0_0 s0_1 s0_2 (l1.length : Int) t633 t634 t635 w0 _ ?side1 ?side2 A3.out).mono ?_); (case side1 => repeat (first | (with_reducible first | exact HI0.out | apply IsS87.alloc | apply IsS87.drewN | apply IsS87.drew | apply IsS87.set_1 | apply IsS87.set_2) | exact HI0.out)); (case side2 => repeat (first | (with_reducible first | exact HB.out | apply below_alloc | apply pw_below_drewN | apply below_drew1 | refine below_set ?_ (IsS87.ge HI0.out)) | exact HB.out)); rintro e w6 ⟨rfl, hi, hb, hk⟩; refine ⟨_, rfl, ?_⟩; have n0_ := Aside0.mk (KeepBut.trans (by repeat (first | (with_reducible first | exact HK.out | apply KeepBut.set_ | apply keep_drewN | apply keep_drew | apply keep_alloc) | exact HK.out)) hk (.inl rfl)); have n1_ := Aside0.mk (hb); have n2_ := Aside0.mk (hi); clear HK; clear HB; clear HI0; have HK := n0_; have HB := n1_; have HI0 := n2_; clear n0_ n1_ n2_; (try clear hb); (try clear hb2); (try clear hk); (try clear hi); have p636 : 0 <= (t633 : Int) := of_decide_eq_true as_; have q636 : t633 < (l1.length : Int) := of_decide_eq_true as_; obtain ⟨ad636, e636, hx636_0⟩ := Kd.at_string HR1.out t633 p636 q636; cases e636; replace hx636_0 := keep_cell HK.out hx636_0 (by first | (rw [add_block]; exact hf1 _ rfl (by omega)) | exact hf1 _ rfl (by omega) | exact hf1 ad636 rfl (by omega)); replace p636 := eq_true p636; replace q636 := eq_true q636))
   go_ret
   exact ⟨ew_, by repeat (first | (with_reducible first | exact HI0.out | apply IsS87.alloc | apply IsS87.drewN | apply IsS87.drew | apply IsS87.set_1 | apply IsS87.set_2) | exact HI0.out), by repeat (first | (with_reducible first | exact HB.out | apply below_alloc | apply pw_below_drewN | apply below_drew1 | refine below_set ?_ (IsS87.ge HI0.out)) | exact HB.out), by repeat (first | (with_reducible first | exact HK.out | apply KeepBut.set_ | apply keep_drewN | apply keep_drew | apply keep_alloc) | exact HK.out)⟩
  ·rw [if_neg c5] at H
   exact absurd H (by simp)
 ·rw [if_neg c4] at H
  exact absurd H (by simp)
def spec_l1Cur_one.f (s0_0 : List Int) (s0_1 : Int) (s0_2 : Int) (a1 : Int) : Option (Bool × Int × Int) := (spec_l1Cur_pick.f s0_0 s0_1 s0_2 a1).bind fun bt637 => (some ((bt637.1 == 0), bt637.2.1, bt637.2.2))
theorem spec_l1Cur_one.calls (g : Nat) (s0_0 : List Int) (s0_1 : Int) (s0_2 : Int) (a1 : Int) (r1 : Bool) (r2 : Int) (r3 : Int) (w0 w : World) (hI : IsS87 w0 w g s0_0 s0_1 s0_2) (hB : Below w0.heap.size w0 w) (h : spec_l1Cur_one.f s0_0 s0_1 s0_2 a1 = some (r1, r2, r3)) :
  Calls Try.prog 84 #[.pointer (some ⟨g, 0, none⟩), .int .i64 a1] w fun e w' => e = .returned (.bool r1) /\ IsS87 w0 w' g s0_0 r2 r3 /\ Below w0.heap.size w0 w' /\ KeepBut w w' g none := by
 have HI0 := Aside0.mk hI
 have HK := Aside0.mk (KeepBut.refl w g none)
 have HL := Aside0.mk hB.size
 clear hI
 have HW0 := Aside0.mk hB.size
 have HB := Aside0.mk hB
 clear hB
 have H : ((spec_l1Cur_pick.f s0_0 s0_1 s0_2 a1).bind fun bt637 => (some ((bt637.1 == 0), bt637.2.1, bt637.2.2))) = some (r1, r2, r3) := h
 clear h
 replace H := Option.bind_eq_some_iff.mp H
 obtain ⟨⟨t637, t638, t639⟩, A30, H⟩ := H
 replace H : (some ((t637 == 0), t638, t639)) = some (r1, r2, r3) := H
 have A3 := Aside0.mk A30
 clear A30
 simp only [Option.some.injEq, Prod.mk.injEq] at H
 obtain ⟨rfl, rfl, rfl⟩ := H
 go_enter Try.func84, Try.ntmps84
 go_wp2_with (first | ((with_reducible refine gate_callee (f := 82) rfl ?_); refine goesL_ (some 7) rfl rfl Try.func82 (by kernel_rfl) rfl #[.pointer (some ⟨g, 0, none⟩), .int .i64 a1] rfl (ag_) ?_; (with_reducible refine (spec_l1Cur_pick.calls g s0_0 s0_1 s0_2 a1 t637 t638 t639 w0 _ ?side1 ?side2 A3.out).mono ?_); (case side1 => repeat (first | (with_reducible first | exact HI0.out | apply IsS87.alloc | apply IsS87.drewN | apply IsS87.drew | apply IsS87.set_1 | apply IsS87.set_2) | exact HI0.out)); (case side2 => repeat (first | (with_reducible first | exact HB.out | apply below_alloc | apply pw_below_drewN | apply below_drew1 | refine below_set ?_ (IsS87.ge HI0.out)) | exact HB.out)); rintro e w4 ⟨rfl, hi, hb, hk⟩; refine ⟨_, rfl, ?_⟩; have n0_ := Aside0.mk (KeepBut.trans (by repeat (first | (with_reducible first | exact HK.out | apply KeepBut.set_ | apply keep_drewN | apply keep_drew | apply keep_alloc) | exact HK.out)) hk (.inl rfl)); have n1_ := Aside0.mk (hb); have n2_ := Aside0.mk (hi); clear HK; clear HB; clear HI0; have HK := n0_; have HB := n1_; have HI0 := n2_; clear n0_ n1_ n2_; (try clear hb); (try clear hb2); (try clear hk); (try clear hi)))
 go_ret
 exact ⟨ew_, by repeat (first | (with_reducible first | exact HI0.out | apply IsS87.alloc | apply IsS87.drewN | apply IsS87.drew | apply IsS87.set_1 | apply IsS87.set_2) | exact HI0.out), by repeat (first | (with_reducible first | exact HB.out | apply below_alloc | apply pw_below_drewN | apply below_drew1 | refine below_set ?_ (IsS87.ge HI0.out)) | exact HB.out), by repeat (first | (with_reducible first | exact HK.out | apply KeepBut.set_ | apply keep_drewN | apply keep_drew | apply keep_alloc) | exact HK.out)⟩
theorem q81_0 {p0 q : Prop} (h0 : p0) (h : p0 -> q := by intro q0_; repeat (first | (with_reducible first | exact q0_ | apply IsS87.alloc | apply IsS87.drewN | apply IsS87.drew | apply IsS87.set_1 | apply IsS87.set_2) | exact q0_)) : q := h h0
theorem q81_1 {p0 p1 q : Prop} (h0 : p0) (h1 : p1) (h : p0 -> p1 -> q := by intro q0_ q1_; repeat (first | (with_reducible first | exact q0_ | apply below_alloc | apply pw_below_drewN | apply below_drew1 | refine below_set ?_ (IsS87.ge q1_)) | exact q0_)) : q := h h0 h1
theorem q81_2 {p0 q : Prop} (h0 : p0) (h : p0 -> q := by intro q0_; repeat (first | (with_reducible first | exact q0_ | apply KeepBut.set_ | apply keep_drewN | apply keep_drew | apply keep_alloc) | exact q0_)) : q := h h0
def spec_l1Cur_doc.l0 : Nat -> ByteArray -> Int -> List Int -> Int -> Int -> Option (ByteArray × Int × Int)
 | 0, _, _, _, _, _ => none
 | k + 1, x3, x4, x1000, x1001, x1002 => if x4 > 0 then ((spec_l1Cur_of.f x1000 x1001 x1002 (([(⟨#[114, 101, 100, 32]⟩ : ByteArray), (⟨#[98, 108, 117, 101, 32]⟩ : ByteArray), (⟨#[82, 101, 100, 32]⟩ : ByteArray), (⟨#[115, 101, 97, 32]⟩ : ByteArray), (⟨#[98, 111, 97, 116, 44, 32]⟩ : ByteArray), (⟨#[116, 104, 101, 32]⟩ : ByteArray), (⟨#[120, 49, 121, 32]⟩ : ByteArray)] : List ByteArray))).bind fun bt646 => (if x3.size + bt646.1.size <= 9223372036854775807 then (spec_l1Cur_doc.l0 k (x3 ++ bt646.1) (wrap64 (x4 - 1)) x1000 bt646.2.1 bt646.2.2) else (none))) else ((spec_l1Cur_one.f x1000 x1001 x1002 40).bind fun bt649 => (if bt649.1 = true then (if 121 <= 281474976710656 then ((spec_l1Cur_of.f x1000 bt649.2.1 bt649.2.2 (([(⟨#[97, 32, 98, 32, 99, 32, 100, 32, 101, 32, 102, 32, 103, 32, 104, 32, 105, 32, 106, 32, 107, 32, 108, 32, 109, 32, 110, 32, 111, 32, 112, 32, 113, 32, 114, 32, 115, 32, 116, 32, 117]⟩ : ByteArray), strOfNums (List.replicate 121 0)] : List ByteArray))).bind fun bt658 => (some (bt658.1, bt658.2.1, bt658.2.2))) else (none)) else (some (x3, bt649.2.1, bt649.2.2))))
def spec_l1Cur_doc.f (k : Nat) (s0_0 : List Int) (s0_1 : Int) (s0_2 : Int) : Option (ByteArray × Int × Int) := (spec_l1Cur_pick.f s0_0 s0_1 s0_2 8).bind fun bt640 => (spec_l1Cur_doc.l0 k (⟨#[]⟩ : ByteArray) bt640.1 s0_0 bt640.2.1 bt640.2.2)
theorem spec_l1Cur_doc.mono_l : ∀ k, (∀ y0 y1 y2 y3 y4, LeO (spec_l1Cur_doc.l0 k y0 y1 y2 y3 y4) (spec_l1Cur_doc.l0 (k + 1) y0 y1 y2 y3 y4))
 | 0 => fun _ _ _ _ _ r h => by simp [spec_l1Cur_doc.l0] at h
 | k + 1 => by
  have ih0 := spec_l1Cur_doc.mono_l k
  ·intro y0 y1 y2 y3 y4
   unfold spec_l1Cur_doc.l0
   repeat' (with_reducible first | exact ih0 _ _ _ _ _ | exact LeO.refl _ | exact LeO.none _ | refine LeO.ite ?_ ?_ | refine LeO.bind ?_ (fun _ => ?_))
theorem spec_l1Cur_doc.mono : ∀ a0 a1 a2 k, LeO (spec_l1Cur_doc.f k a0 a1 a2) (spec_l1Cur_doc.f (k + 1) a0 a1 a2) := by
 intro a0 a1 a2 k
 have ih0 := spec_l1Cur_doc.mono_l k
 unfold spec_l1Cur_doc.f
 repeat' (with_reducible first | exact ih0 _ _ _ _ _ | exact LeO.refl _ | exact LeO.none _ | refine LeO.ite ?_ ?_ | refine LeO.bind ?_ (fun _ => ?_))
theorem spec_l1Cur_doc.calls (k : Nat) (g : Nat) (s0_0 : List Int) (s0_1 : Int) (s0_2 : Int) (r1 : ByteArray) (r2 : Int) (r3 : Int) (w0 w : World) (hI : IsS87 w0 w g s0_0 s0_1 s0_2) (hB : Below w0.heap.size w0 w) (h : spec_l1Cur_doc.f k s0_0 s0_1 s0_2 = some (r1, r2, r3)) :
  Calls Try.prog 81 #[.pointer (some ⟨g, 0, none⟩)] w fun e w' => e = .returned (.string r1) /\ IsS87 w0 w' g s0_0 r2 r3 /\ Below w0.heap.size w0 w' /\ KeepBut w w' g none := by
 have HI0 := Aside0.mk hI
 have HK := Aside0.mk (KeepBut.refl w g none)
 have HL := Aside0.mk hB.size
 clear hI
 have HW0 := Aside0.mk hB.size
 have HB := Aside0.mk hB
 clear hB
 have H : ((spec_l1Cur_pick.f s0_0 s0_1 s0_2 8).bind fun bt640 => (spec_l1Cur_doc.l0 k (⟨#[]⟩ : ByteArray) bt640.1 s0_0 bt640.2.1 bt640.2.2)) = some (r1, r2, r3) := h
 clear h
 replace H := Option.bind_eq_some_iff.mp H
 obtain ⟨⟨t640, t641, t642⟩, A20, H⟩ := H
 replace H : (spec_l1Cur_doc.l0 k (⟨#[]⟩ : ByteArray) t640 s0_0 t641 t642) = some (r1, r2, r3) := H
 have A2 := Aside0.mk A20
 clear A20
 have H' := Aside0.mk H
 clear H
 go_enter Try.func81, Try.ntmps81
 go_wp2_with (first | ((with_reducible refine gate_callee (f := 82) rfl ?_); refine goesL_ (some 6) rfl rfl Try.func82 (by kernel_rfl) rfl #[.pointer (some ⟨g, 0, none⟩), .int .i64 8] rfl (ag_) ?_; (with_reducible refine (spec_l1Cur_pick.calls g s0_0 s0_1 s0_2 8 t640 t641 t642 w0 _ ?side1 ?side2 A2.out).mono ?_); (case side1 => exact q81_0 HI0.out); (case side2 => exact q81_1 HB.out HI0.out); rintro e w3 ⟨rfl, hi, hb, hk⟩; refine ⟨_, rfl, ?_⟩; have n0_ := Aside0.mk (KeepBut.trans (q81_2 HK.out) hk (.inl rfl)); have n1_ := Aside0.mk (hb); have n2_ := Aside0.mk (hi); clear HK; clear HB; clear HI0; have HK := n0_; have HB := n1_; have HI0 := n2_; clear n0_ n1_ n2_; (try clear hb); (try clear hb2); (try clear hk); (try clear hi)))
 go_loopg [3, 4] k (fun kq v3 v4 w' => ∃ (x3_1 : ByteArray) (x4_1 : Int) (x1001_1 : Int) (x1002_1 : Int), v3 = .string x3_1 /\ v4 = .int .i64 x4_1 /\ Aside0 (spec_l1Cur_doc.l0 kq x3_1 x4_1 s0_0 x1001_1 x1002_1 = some (r1, r2, r3)) /\ Aside0 (kq <= k) /\ Aside0 (IsS87 w0 w' g s0_0 x1001_1 x1002_1) /\ Aside0 (KeepBut w w' g none) /\ Aside0 (Below w0.heap.size w0 w'))
 case atStart => exact ⟨((⟨#[]⟩ : ByteArray)), (t640), (t641), (t642), (by first | rfl | (simp; done) | (simp [*]; done)), (by first | rfl | (simp; done) | (simp [*]; done)), H', ⟨Nat.le_refl _⟩, ⟨q81_0 HI0.out⟩, ⟨q81_2 HK.out⟩, ⟨q81_1 HB.out HI0.out⟩⟩
 case round =>
  clear H'
  (try clear p2)
  obtain ⟨x3_1, x4_1, x1001_1, x1002_1, rfl, rfl, HA, HK1, HI0, HK, HB⟩ := hrel
  cases gk with
  | zero => exact absurd HA.out (by simp [spec_l1Cur_doc.l0])
  | succ k1 =>
   have H := HA.out
   clear HA
   simp only [spec_l1Cur_doc.l0] at H
   by_cases c4 : x4_1 > 0
   ·rw [if_pos c4] at H
    have c4b0 : decide (0 < x4_1) = true := decide_eq_true c4
    clear c4
    obtain ⟨y643, hy643⟩ : ∃ y_ : List ByteArray, y_ = (([(⟨#[114, 101, 100, 32]⟩ : ByteArray), (⟨#[98, 108, 117, 101, 32]⟩ : ByteArray), (⟨#[82, 101, 100, 32]⟩ : ByteArray), (⟨#[115, 101, 97, 32]⟩ : ByteArray), (⟨#[98, 111, 97, 116, 44, 32]⟩ : ByteArray), (⟨#[116, 104, 101, 32]⟩ : ByteArray), (⟨#[120, 49, 121, 32]⟩ : ByteArray)] : List ByteArray)) := ⟨_, rfl⟩
    replace H : ((spec_l1Cur_of.f s0_0 x1001_1 x1002_1 y643).bind fun bt646 => (if x3_1.size + bt646.1.size <= 9223372036854775807 then (spec_l1Cur_doc.l0 k1 (x3_1 ++ bt646.1) (wrap64 (x4_1 - 1)) s0_0 bt646.2.1 bt646.2.2) else (none))) = some (r1, r2, r3) := by first | (rw [hy643]; with_reducible exact H) | (have H2_ := (Option.bind_some _ _).symm.trans H; rw [hy643]; with_reducible exact H2_) | (have H2_ := (Option.bind_some _ _).symm.trans H; with_reducible exact H2_) | with_reducible exact H | (rw [hy643]; exact H) | exact H
    have Ny643 := Aside0.mk hy643
    clear hy643
    replace H := Option.bind_eq_some_iff.mp H
    obtain ⟨⟨t646, t647, t648⟩, A50, H⟩ := H
    replace H : (if x3_1.size + t646.size <= 9223372036854775807 then (spec_l1Cur_doc.l0 k1 (x3_1 ++ t646) (wrap64 (x4_1 - 1)) s0_0 t647 t648) else (none)) = some (r1, r2, r3) := H
    have A5 := Aside0.mk A50
    clear A50
    by_cases c6 : x3_1.size + t646.size <= 9223372036854775807
    ·rw [if_pos c6] at H
     have c6b0 := eq_true c6
     have c6b1 : decide (x3_1.size + t646.size <= 9223372036854775807) = true := decide_eq_true c6
     try have c6b2 : (9223372036854775807 < x3_1.size + t646.size) = False := eq_false (Nat.not_lt.2 c6)
     have H' := Aside0.mk H
     clear H
     go_wp2_with (first | ((with_reducible refine gate_dst (N := 13) rfl ?_); refine Kd.R_lit Kd.string _ 9 ?hg (N := 13) ?hd (xs := ([(⟨#[114, 101, 100, 32]⟩ : ByteArray), (⟨#[98, 108, 117, 101, 32]⟩ : ByteArray), (⟨#[82, 101, 100, 32]⟩ : ByteArray), (⟨#[115, 101, 97, 32]⟩ : ByteArray), (⟨#[98, 111, 97, 116, 44, 32]⟩ : ByteArray), (⟨#[116, 104, 101, 32]⟩ : ByteArray), (⟨#[120, 49, 121, 32]⟩ : ByteArray)] : List ByteArray)) (inner := [.string (⟨#[114, 101, 100, 32]⟩ : ByteArray), .string (⟨#[98, 108, 117, 101, 32]⟩ : ByteArray), .string (⟨#[82, 101, 100, 32]⟩ : ByteArray), .string (⟨#[115, 101, 97, 32]⟩ : ByteArray), .string (⟨#[98, 111, 97, 116, 44, 32]⟩ : ByteArray), .string (⟨#[116, 104, 101, 32]⟩ : ByteArray), .string (⟨#[120, 49, 121, 32]⟩ : ByteArray)]) (ok := fun _ => True) (okp := fun _ => True) ?hr ?hp (fun _ hk => hk) trivial (Below.refl _ _) (Nat.le_refl _) (by simp) ?_; (case hd => rfl); (case hg => rfl); (case hr => first | (go_simp; done) | (go_simp; rfl)); (case hp => exact (Reps.one (show Kd.M Kd.string _ _ _ (⟨#[114, 101, 100, 32]⟩ : ByteArray) [.string (⟨#[114, 101, 100, 32]⟩ : ByteArray)] from rfl) (Reps.one (show Kd.M Kd.string _ _ _ (⟨#[98, 108, 117, 101, 32]⟩ : ByteArray) [.string (⟨#[98, 108, 117, 101, 32]⟩ : ByteArray)] from rfl) (Reps.one (show Kd.M Kd.string _ _ _ (⟨#[82, 101, 100, 32]⟩ : ByteArray) [.string (⟨#[82, 101, 100, 32]⟩ : ByteArray)] from rfl) (Reps.one (show Kd.M Kd.string _ _ _ (⟨#[115, 101, 97, 32]⟩ : ByteArray) [.string (⟨#[115, 101, 97, 32]⟩ : ByteArray)] from rfl) (Reps.one (show Kd.M Kd.string _ _ _ (⟨#[98, 111, 97, 116, 44, 32]⟩ : ByteArray) [.string (⟨#[98, 111, 97, 116, 44, 32]⟩ : ByteArray)] from rfl) (Reps.one (show Kd.M Kd.string _ _ _ (⟨#[116, 104, 101, 32]⟩ : ByteArray) [.string (⟨#[116, 104, 101, 32]⟩ : ByteArray)] from rfl) (Reps.one (show Kd.M Kd.string _ _ _ (⟨#[120, 49, 121, 32]⟩ : ByteArray) [.string (⟨#[120, 49, 121, 32]⟩ : ByteArray)] from rfl) (Reps.none _ _))))))))); intro v644 w7 ho8 hb hg_ hnew_; clear hg_ hnew_; (first | rw [<- Ny643.out] at ho8 | (simp only [Int.reduceToNat] at ho8; rw [<- Ny643.out] at ho8)); have n0_ := Aside0.mk (Kd.R_lower ho8 (keep_size (w := w) (g := g) (row := none) (q81_2 HK.out))); have n1_ := Aside0.mk (IsS87.below (q81_0 HI0.out) hb); have n2_ := Aside0.mk (KeepBut.trans (q81_2 HK.out) (KeepBut.of_below hb g none) (.inl rfl)); have n3_ := Aside0.mk (below_step (q81_1 HB.out HI0.out) hb); clear HI0; clear HK; clear HB; have HO645 := n0_; have HI0 := n1_; have HK := n2_; have HB := n3_; clear n0_ n1_ n2_ n3_; clear hb ho8; obtain ⟨Ao9, co9, eo9⟩ := Kd.R_slice HO645.out; subst eo9) | ((with_reducible refine gate_callee (f := 83) rfl ?_); refine goesL_ (some 14) rfl rfl Try.func83 (by kernel_rfl) rfl #[.pointer (some ⟨g, 0, none⟩), .slice Ao9 y643.length co9] rfl (ag_) ?_; (with_reducible refine (spec_l1Cur_of.calls g s0_0 x1001_1 x1002_1 _ _ y643 t646 t647 t648 w0 _ ?side1 ?side2 ?side3 ?side4 ?side5 A5.out).mono ?_); (case side1 => exact q81_0 HI0.out); (case side2 => exact q81_1 HB.out HI0.out); (case side3 => refine cd_ ?_; exact (Kd.R_reads' HO645.out).2.2); (case side4 => exact (Kd.R_reads' HO645.out).2.1); (case side5 => exact far_slice (IsS87.own_ne HI0.out HO645.out (by decide))); rintro e w10 ⟨rfl, hi, hb, hk⟩; refine ⟨_, rfl, ?_⟩; have n0_ := Aside0.mk (Kd.R_mono (Kd.R_keep (IsS87.apart (show IsS87 w0 _ g s0_0 x1001_1 x1002_1 from by repeat (first | (with_reducible first | exact HI0.out | apply IsS87.alloc | apply IsS87.drewN | apply IsS87.drew | apply IsS87.set_1 | apply IsS87.set_2) | exact HI0.out)) (rk_ HO645.out) (by decide)) hk (fun _ h => h.2)) (fun _ h => h.1)); have n1_ := Aside0.mk (KeepBut.trans (q81_2 HK.out) hk (.inl rfl)); have n2_ := Aside0.mk (hb); have n3_ := Aside0.mk (hi); clear HO645; clear HK; clear HB; clear HI0; have HO645 := n0_; have HK := n1_; have HB := n2_; have HI0 := n3_; clear n0_ n1_ n2_ n3_; (try clear hb); (try clear hb2); (try clear hk); (try clear hi)))
     go_roundg k1
     case measure => have := HK1.out; omega
     case rel => exact ⟨(x3_1 ++ t646), (wrap64 (x4_1 - 1)), (t647), (t648), (by first | rfl | (simp; done) | (simp [*]; done)), (by first | rfl | (simp; done) | (simp [*]; done)), H', ⟨by have := HK1.out; omega⟩, ⟨q81_0 HI0.out⟩, ⟨q81_2 HK.out⟩, ⟨q81_1 HB.out HI0.out⟩⟩
    ·rw [if_neg c6] at H
     exact absurd H (by simp)
   ·rw [if_neg c4] at H
    have c4b0 : decide (0 < x4_1) = false := decide_eq_false c4
    clear c4
    replace H := Option.bind_eq_some_iff.mp H
    obtain ⟨⟨t649, t650, t651⟩, A110, H⟩ := H
    replace H : (if t649 = true then (if 121 <= 281474976710656 then ((spec_l1Cur_of.f s0_0 t650 t651 (([(⟨#[97, 32, 98, 32, 99, 32, 100, 32, 101, 32, 102, 32, 103, 32, 104, 32, 105, 32, 106, 32, 107, 32, 108, 32, 109, 32, 110, 32, 111, 32, 112, 32, 113, 32, 114, 32, 115, 32, 116, 32, 117]⟩ : ByteArray), strOfNums (List.replicate 121 0)] : List ByteArray))).bind fun bt658 => (some (bt658.1, bt658.2.1, bt658.2.2))) else (none)) else (some (x3_1, t650, t651))) = some (r1, r2, r3) := H
    have A11 := Aside0.mk A110
    clear A110
    by_cases c12 : t649 = true
    ·subst c12
     have H1 : (if 121 <= 281474976710656 then ((spec_l1Cur_of.f s0_0 t650 t651 (([(⟨#[97, 32, 98, 32, 99, 32, 100, 32, 101, 32, 102, 32, 103, 32, 104, 32, 105, 32, 106, 32, 107, 32, 108, 32, 109, 32, 110, 32, 111, 32, 112, 32, 113, 32, 114, 32, 115, 32, 116, 32, 117]⟩ : ByteArray), strOfNums (List.replicate 121 0)] : List ByteArray))).bind fun bt658 => (some (bt658.1, bt658.2.1, bt658.2.2))) else (none)) = some (r1, r2, r3) := by rw [if_pos rfl] at H; exact H
     clear H
     have H := H1
     clear H1
     by_cases c13 : 121 <= 281474976710656
     ·rw [if_pos c13] at H
      have c13b0 := eq_true c13
      have c13b1 : decide (121 <= 281474976710656) = true := decide_eq_true c13
      clear c13
      obtain ⟨y652, hy652⟩ : ∃ y_ : List Int, y_ = (List.replicate 121 0) := ⟨_, rfl⟩
      replace H : ((spec_l1Cur_of.f s0_0 t650 t651 (([(⟨#[97, 32, 98, 32, 99, 32, 100, 32, 101, 32, 102, 32, 103, 32, 104, 32, 105, 32, 106, 32, 107, 32, 108, 32, 109, 32, 110, 32, 111, 32, 112, 32, 113, 32, 114, 32, 115, 32, 116, 32, 117]⟩ : ByteArray), strOfNums y652] : List ByteArray))).bind fun bt658 => (some (bt658.1, bt658.2.1, bt658.2.2))) = some (r1, r2, r3) := by first | (rw [hy652]; with_reducible exact H) | (have H2_ := (Option.bind_some _ _).symm.trans H; rw [hy652]; with_reducible exact H2_) | (have H2_ := (Option.bind_some _ _).symm.trans H; with_reducible exact H2_) | with_reducible exact H | (rw [hy652]; exact H) | exact H
      have Ny652 := Aside0.mk hy652
      clear hy652
      obtain ⟨y655, hy655⟩ : ∃ y_ : List ByteArray, y_ = (([(⟨#[97, 32, 98, 32, 99, 32, 100, 32, 101, 32, 102, 32, 103, 32, 104, 32, 105, 32, 106, 32, 107, 32, 108, 32, 109, 32, 110, 32, 111, 32, 112, 32, 113, 32, 114, 32, 115, 32, 116, 32, 117]⟩ : ByteArray), strOfNums y652] : List ByteArray)) := ⟨_, rfl⟩
      replace H : ((spec_l1Cur_of.f s0_0 t650 t651 y655).bind fun bt658 => (some (bt658.1, bt658.2.1, bt658.2.2))) = some (r1, r2, r3) := by first | (rw [hy655]; with_reducible exact H) | (have H2_ := (Option.bind_some _ _).symm.trans H; rw [hy655]; with_reducible exact H2_) | (have H2_ := (Option.bind_some _ _).symm.trans H; with_reducible exact H2_) | with_reducible exact H | (rw [hy655]; exact H) | exact H
      have Ny655 := Aside0.mk hy655
      clear hy655
      replace H := Option.bind_eq_some_iff.mp H
      obtain ⟨⟨t658, t659, t660⟩, A140, H⟩ := H
      replace H : (some (t658, t659, t660)) = some (r1, r2, r3) := H
      have A14 := Aside0.mk A140
      clear A140
      simp only [Option.some.injEq, Prod.mk.injEq] at H
      obtain ⟨rfl, rfl, rfl⟩ := H
      go_wp2_with (first | ((with_reducible refine gate_callee (f := 84) rfl ?_); refine goesL_ (some 17) rfl rfl Try.func84 (by kernel_rfl) rfl #[.pointer (some ⟨g, 0, none⟩), .int .i64 40] rfl (ag_) ?_; (with_reducible refine (spec_l1Cur_one.calls g s0_0 x1001_1 x1002_1 40 true t650 t651 w0 _ ?side1 ?side2 A11.out).mono ?_); (case side1 => exact q81_0 HI0.out); (case side2 => exact q81_1 HB.out HI0.out); rintro e w15 ⟨rfl, hi, hb, hk⟩; refine ⟨_, rfl, ?_⟩; have n0_ := Aside0.mk (KeepBut.trans (q81_2 HK.out) hk (.inl rfl)); have n1_ := Aside0.mk (hb); have n2_ := Aside0.mk (hi); clear HK; clear HB; clear HI0; have HK := n0_; have HB := n1_; have HI0 := n2_; clear n0_ n1_ n2_; (try clear hb); (try clear hb2); (try clear hk); (try clear hi)) | ((with_reducible refine gate_dst (N := 19) rfl ?_); refine Kd.R_make (Kd.int .u8) _ 5 rfl (N := 19) rfl 53 _ _ rfl 121 rfl rfl Try.underlying53 (.int .u8 0) 1 info5 rfl (by decide) (by omega) 0 (ok := fun _ => True) (okp := fun _ => True) rfl (fun _ hk => hk) trivial (by omega) (by omega) (Below.refl _ _) (Nat.le_refl _) ?_; intro v653 w16 ho17 hb hg_ hnew_; clear hg_ hnew_; (first | rw [<- Ny652.out] at ho17 | (simp only [Int.reduceToNat] at ho17; rw [<- Ny652.out] at ho17)); have n0_ := Aside0.mk (Kd.R_lower ho17 (keep_size (w := w) (g := g) (row := none) (q81_2 HK.out))); have n1_ := Aside0.mk (IsS87.below (q81_0 HI0.out) hb); have n2_ := Aside0.mk (KeepBut.trans (q81_2 HK.out) (KeepBut.of_below hb g none) (.inl rfl)); have n3_ := Aside0.mk (below_step (q81_1 HB.out HI0.out) hb); clear HI0; clear HK; clear HB; have HO654 := n0_; have HI0 := n1_; have HK := n2_; have HB := n3_; clear n0_ n1_ n2_ n3_; clear hb ho17; have hcv18 := own_string (P := Try.prog) Try.underlying53 Try.underlying5 Try.underlying9 (Kd.own_of_R HO654.out)) | ((with_reducible refine gate_dst (N := 21) rfl ?_); refine Kd.R_lit Kd.string _ 9 ?hg (N := 21) ?hd (xs := ([(⟨#[97, 32, 98, 32, 99, 32, 100, 32, 101, 32, 102, 32, 103, 32, 104, 32, 105, 32, 106, 32, 107, 32, 108, 32, 109, 32, 110, 32, 111, 32, 112, 32, 113, 32, 114, 32, 115, 32, 116, 32, 117]⟩ : ByteArray), strOfNums y652] : List ByteArray)) (inner := [.string (⟨#[97, 32, 98, 32, 99, 32, 100, 32, 101, 32, 102, 32, 103, 32, 104, 32, 105, 32, 106, 32, 107, 32, 108, 32, 109, 32, 110, 32, 111, 32, 112, 32, 113, 32, 114, 32, 115, 32, 116, 32, 117]⟩ : ByteArray), .string (strOfNums y652)]) (ok := fun _ => True) (okp := fun _ => True) ?hr ?hp (fun _ hk => hk) trivial (Below.refl _ _) (Nat.le_refl _) (by simp) ?_; (case hd => rfl); (case hg => rfl); (case hr => first | (go_simp; done) | (go_simp; rfl)); (case hp => exact (Reps.one (show Kd.M Kd.string _ _ _ (⟨#[97, 32, 98, 32, 99, 32, 100, 32, 101, 32, 102, 32, 103, 32, 104, 32, 105, 32, 106, 32, 107, 32, 108, 32, 109, 32, 110, 32, 111, 32, 112, 32, 113, 32, 114, 32, 115, 32, 116, 32, 117]⟩ : ByteArray) [.string (⟨#[97, 32, 98, 32, 99, 32, 100, 32, 101, 32, 102, 32, 103, 32, 104, 32, 105, 32, 106, 32, 107, 32, 108, 32, 109, 32, 110, 32, 111, 32, 112, 32, 113, 32, 114, 32, 115, 32, 116, 32, 117]⟩ : ByteArray)] from rfl) (Reps.one (show Kd.M Kd.string _ _ _ (strOfNums y652) [.string (strOfNums y652)] from rfl) (Reps.none _ _)))); intro v656 w19 ho20 hb hg_ hnew_; clear hg_ hnew_; (first | rw [<- Ny655.out] at ho20 | (simp only [Int.reduceToNat] at ho20; rw [<- Ny655.out] at ho20)); have n0_ := Aside0.mk (Kd.R_below (rk_ HO654.out) hb); have n1_ := Aside0.mk (Kd.R_lower ho20 (keep_size (w := w) (g := g) (row := none) (q81_2 HK.out))); have n2_ := Aside0.mk (IsS87.below (q81_0 HI0.out) hb); have n3_ := Aside0.mk (KeepBut.trans (q81_2 HK.out) (KeepBut.of_below hb g none) (.inl rfl)); have n4_ := Aside0.mk (below_step (q81_1 HB.out HI0.out) hb); clear HO654; clear HI0; clear HK; clear HB; have HO654 := n0_; have HO657 := n1_; have HI0 := n2_; have HK := n3_; have HB := n4_; clear n0_ n1_ n2_ n3_ n4_; clear hb ho20; obtain ⟨Ao21, co21, eo21⟩ := Kd.R_slice HO657.out; subst eo21) | ((with_reducible refine gate_callee (f := 83) rfl ?_); refine goesL_ (some 22) rfl rfl Try.func83 (by kernel_rfl) rfl #[.pointer (some ⟨g, 0, none⟩), .slice Ao21 y655.length co21] rfl (ag_) ?_; (with_reducible refine (spec_l1Cur_of.calls g s0_0 t650 t651 _ _ y655 t658 t659 t660 w0 _ ?side1 ?side2 ?side3 ?side4 ?side5 A14.out).mono ?_); (case side1 => exact q81_0 HI0.out); (case side2 => exact q81_1 HB.out HI0.out); (case side3 => refine cd_ ?_; exact (Kd.R_reads' HO657.out).2.2); (case side4 => exact (Kd.R_reads' HO657.out).2.1); (case side5 => exact far_slice (IsS87.own_ne HI0.out HO657.out (by decide))); rintro e w22 ⟨rfl, hi, hb, hk⟩; refine ⟨_, rfl, ?_⟩; have n0_ := Aside0.mk (Kd.R_mono (Kd.R_keep (IsS87.apart (show IsS87 w0 _ g s0_0 t650 t651 from by repeat (first | (with_reducible first | exact HI0.out | apply IsS87.alloc | apply IsS87.drewN | apply IsS87.drew | apply IsS87.set_1 | apply IsS87.set_2) | exact HI0.out)) (rk_ HO654.out) (by decide)) hk (fun _ h => h.2)) (fun _ h => h.1)); have n1_ := Aside0.mk (Kd.R_mono (Kd.R_keep (IsS87.apart (show IsS87 w0 _ g s0_0 t650 t651 from by repeat (first | (with_reducible first | exact HI0.out | apply IsS87.alloc | apply IsS87.drewN | apply IsS87.drew | apply IsS87.set_1 | apply IsS87.set_2) | exact HI0.out)) (rk_ HO657.out) (by decide)) hk (fun _ h => h.2)) (fun _ h => h.1)); have n2_ := Aside0.mk (KeepBut.trans (q81_2 HK.out) hk (.inl rfl)); have n3_ := Aside0.mk (hb); have n4_ := Aside0.mk (hi); clear HO654; clear HO657; clear HK; clear HB; clear HI0; have HO654 := n0_; have HO657 := n1_; have HK := n2_; have HB := n3_; have HI0 := n4_; clear n0_ n1_ n2_ n3_ n4_; (try clear hb); (try clear hb2); (try clear hk); (try clear hi)))
      go_ret
      exact ⟨ew_, by repeat (first | (with_reducible first | exact HI0.out | apply IsS87.alloc | apply IsS87.drewN | apply IsS87.drew | apply IsS87.set_1 | apply IsS87.set_2) | exact HI0.out), by repeat (first | (with_reducible first | exact HB.out | apply below_alloc | apply pw_below_drewN | apply below_drew1 | refine below_set ?_ (IsS87.ge HI0.out)) | exact HB.out), by repeat (first | (with_reducible first | exact HK.out | apply KeepBut.set_ | apply keep_drewN | apply keep_drew | apply keep_alloc) | exact HK.out)⟩
     ·rw [if_neg c13] at H
      exact absurd H (by simp)
    ·replace c12 := Bool.eq_false_iff.mpr c12
     subst c12
     have H1 : (some (x3_1, t650, t651)) = some (r1, r2, r3) := by rw [if_neg (show ¬ (false = true) by decide)] at H; exact H
     clear H
     have H := H1
     clear H1
     simp only [Option.some.injEq, Prod.mk.injEq] at H
     obtain ⟨rfl, rfl, rfl⟩ := H
     go_wp2_with (first | ((with_reducible refine gate_callee (f := 84) rfl ?_); refine goesL_ (some 17) rfl rfl Try.func84 (by kernel_rfl) rfl #[.pointer (some ⟨g, 0, none⟩), .int .i64 40] rfl (ag_) ?_; (with_reducible refine (spec_l1Cur_one.calls g s0_0 x1001_1 x1002_1 40 false t650 t651 w0 _ ?side1 ?side2 A11.out).mono ?_); (case side1 => exact q81_0 HI0.out); (case side2 => exact q81_1 HB.out HI0.out); rintro e w23 ⟨rfl, hi, hb, hk⟩; refine ⟨_, rfl, ?_⟩; have n0_ := Aside0.mk (KeepBut.trans (q81_2 HK.out) hk (.inl rfl)); have n1_ := Aside0.mk (hb); have n2_ := Aside0.mk (hi); clear HK; clear HB; clear HI0; have HK := n0_; have HB := n1_; have HI0 := n2_; clear n0_ n1_ n2_; (try clear hb); (try clear hb2); (try clear hk); (try clear hi)))
     go_ret
     exact ⟨ew_, by repeat (first | (with_reducible first | exact HI0.out | apply IsS87.alloc | apply IsS87.drewN | apply IsS87.drew | apply IsS87.set_1 | apply IsS87.set_2) | exact HI0.out), by repeat (first | (with_reducible first | exact HB.out | apply below_alloc | apply pw_below_drewN | apply below_drew1 | refine below_set ?_ (IsS87.ge HI0.out)) | exact HB.out), by repeat (first | (with_reducible first | exact HK.out | apply KeepBut.set_ | apply keep_drewN | apply keep_drew | apply keep_alloc) | exact HK.out)⟩
theorem q79_0 {p0 q : Prop} (h0 : p0) (h : p0 -> q := by intro q0_; repeat (first | (with_reducible first | exact q0_ | apply IsS87.alloc | apply IsS87.drewN | apply IsS87.drew | apply IsS87.set_1 | apply IsS87.set_2) | exact q0_)) : q := h h0
theorem q79_1 {p0 p1 q : Prop} (h0 : p0) (h1 : p1) (h : p0 -> p1 -> q := by intro q0_ q1_; repeat (first | (with_reducible first | exact q0_ | apply below_alloc | apply pw_below_drewN | apply below_drew1 | refine below_set ?_ (IsS87.ge q1_)) | exact q0_)) : q := h h0 h1
theorem q79_2 {p0 q : Prop} (h0 : p0) (h : p0 -> q := by intro q0_; repeat (first | (with_reducible first | exact q0_ | apply KeepBut.set_ | apply keep_drewN | apply keep_drew | apply keep_alloc) | exact q0_)) : q := h h0
mutual
def spec_l1Cur_docs.j0 : Nat -> List ByteArray -> Int -> List Int -> Int -> Int -> Option (List ByteArray × Int × Int)
 | 0, _, _, _, _, _ => none
 | k + 1, x3, x4, x1000, x1001, x1002 => spec_l1Cur_docs.l0 k x3 x4 x1000 x1001 x1002
def spec_l1Cur_docs.l0 : Nat -> List ByteArray -> Int -> List Int -> Int -> Int -> Option (List ByteArray × Int × Int)
 | 0, _, _, _, _, _ => none
 | k + 1, x3, x4, x1000, x1001, x1002 => if x4 > 0 then ((spec_l1Cur_doc.f k x1000 x1001 x1002).bind fun bt670 => (if x3.length < 8796093022208 then (spec_l1Cur_docs.l0 k (x3 ++ [bt670.1]) (wrap64 (x4 - 1)) x1000 bt670.2.1 bt670.2.2) else (none))) else (some (x3, x1001, x1002))
end
def spec_l1Cur_docs.f (k : Nat) (s0_0 : List Int) (s0_1 : Int) (s0_2 : Int) : Option (List ByteArray × Int × Int) := (spec_l1Cur_pick.f s0_0 s0_1 s0_2 7).bind fun bt661 => ((spec_l1Cur_one.f s0_0 bt661.2.1 bt661.2.2 20).bind fun bt664 => (if bt664.1 = true then ((spec_l1Cur_pick.f s0_0 bt664.2.1 bt664.2.2 2).bind fun bt667 => (spec_l1Cur_docs.j0 k ([] : List ByteArray) (wrap64 (12 + bt667.1)) s0_0 bt667.2.1 bt667.2.2)) else (spec_l1Cur_docs.j0 k ([] : List ByteArray) bt661.1 s0_0 bt664.2.1 bt664.2.2)))
theorem spec_l1Cur_docs.mono_l : ∀ k, (∀ y0 y1 y2 y3 y4, LeO (spec_l1Cur_docs.j0 k y0 y1 y2 y3 y4) (spec_l1Cur_docs.j0 (k + 1) y0 y1 y2 y3 y4)) /\ (∀ y0 y1 y2 y3 y4, LeO (spec_l1Cur_docs.l0 k y0 y1 y2 y3 y4) (spec_l1Cur_docs.l0 (k + 1) y0 y1 y2 y3 y4))
 | 0 => ⟨fun _ _ _ _ _ r h => by simp [spec_l1Cur_docs.j0] at h, fun _ _ _ _ _ r h => by simp [spec_l1Cur_docs.l0] at h⟩
 | k + 1 => by
  obtain ⟨ih0, ih1⟩ := spec_l1Cur_docs.mono_l k
  refine ⟨?_, ?_⟩
  ·intro y0 y1 y2 y3 y4
   unfold spec_l1Cur_docs.j0
   repeat' (with_reducible first | exact ih0 _ _ _ _ _ | exact ih1 _ _ _ _ _ | exact spec_l1Cur_doc.mono _ _ _ _ | exact LeO.refl _ | exact LeO.none _ | refine LeO.ite ?_ ?_ | refine LeO.bind ?_ (fun _ => ?_))
  ·intro y0 y1 y2 y3 y4
   unfold spec_l1Cur_docs.l0
   repeat' (with_reducible first | exact ih0 _ _ _ _ _ | exact ih1 _ _ _ _ _ | exact spec_l1Cur_doc.mono _ _ _ _ | exact LeO.refl _ | exact LeO.none _ | refine LeO.ite ?_ ?_ | refine LeO.bind ?_ (fun _ => ?_))
theorem spec_l1Cur_docs.mono : ∀ a0 a1 a2 k, LeO (spec_l1Cur_docs.f k a0 a1 a2) (spec_l1Cur_docs.f (k + 1) a0 a1 a2) := by
 intro a0 a1 a2 k
 obtain ⟨ih0, ih1⟩ := spec_l1Cur_docs.mono_l k
 unfold spec_l1Cur_docs.f
 repeat' (with_reducible first | exact ih0 _ _ _ _ _ | exact ih1 _ _ _ _ _ | exact spec_l1Cur_doc.mono _ _ _ _ | exact LeO.refl _ | exact LeO.none _ | refine LeO.ite ?_ ?_ | refine LeO.bind ?_ (fun _ => ?_))
theorem spec_l1Cur_docs.calls (k : Nat) (g : Nat) (s0_0 : List Int) (s0_1 : Int) (s0_2 : Int) (r1 : List ByteArray) (r2 : Int) (r3 : Int) (w0 w : World) (hI : IsS87 w0 w g s0_0 s0_1 s0_2) (hB : Below w0.heap.size w0 w) (h : spec_l1Cur_docs.f k s0_0 s0_1 s0_2 = some (r1, r2, r3)) :
  Calls Try.prog 79 #[.pointer (some ⟨g, 0, none⟩)] w fun e w' => ∃ v0_ : Value, e = .returned (v0_) /\ Kd.R Kd.string 9 w' w.heap.size (fun _ => True) v0_ r1 /\ IsS87 w0 w' g s0_0 r2 r3 /\ Below w0.heap.size w0 w' /\ KeepBut w w' g none := by
 have HI0 := Aside0.mk hI
 have HK := Aside0.mk (KeepBut.refl w g none)
 have HL := Aside0.mk hB.size
 clear hI
 have HW0 := Aside0.mk hB.size
 have HB := Aside0.mk hB
 clear hB
 have H : ((spec_l1Cur_pick.f s0_0 s0_1 s0_2 7).bind fun bt661 => ((spec_l1Cur_one.f s0_0 bt661.2.1 bt661.2.2 20).bind fun bt664 => (if bt664.1 = true then ((spec_l1Cur_pick.f s0_0 bt664.2.1 bt664.2.2 2).bind fun bt667 => (spec_l1Cur_docs.j0 k ([] : List ByteArray) (wrap64 (12 + bt667.1)) s0_0 bt667.2.1 bt667.2.2)) else (spec_l1Cur_docs.j0 k ([] : List ByteArray) bt661.1 s0_0 bt664.2.1 bt664.2.2)))) = some (r1, r2, r3) := h
 clear h
 replace H := Option.bind_eq_some_iff.mp H
 obtain ⟨⟨t661, t662, t663⟩, A20, H⟩ := H
 replace H : ((spec_l1Cur_one.f s0_0 t662 t663 20).bind fun bt664 => (if bt664.1 = true then ((spec_l1Cur_pick.f s0_0 bt664.2.1 bt664.2.2 2).bind fun bt667 => (spec_l1Cur_docs.j0 k ([] : List ByteArray) (wrap64 (12 + bt667.1)) s0_0 bt667.2.1 bt667.2.2)) else (spec_l1Cur_docs.j0 k ([] : List ByteArray) t661 s0_0 bt664.2.1 bt664.2.2))) = some (r1, r2, r3) := H
 have A2 := Aside0.mk A20
 clear A20
 replace H := Option.bind_eq_some_iff.mp H
 obtain ⟨⟨t664, t665, t666⟩, A30, H⟩ := H
 replace H : (if t664 = true then ((spec_l1Cur_pick.f s0_0 t665 t666 2).bind fun bt667 => (spec_l1Cur_docs.j0 k ([] : List ByteArray) (wrap64 (12 + bt667.1)) s0_0 bt667.2.1 bt667.2.2)) else (spec_l1Cur_docs.j0 k ([] : List ByteArray) t661 s0_0 t665 t666)) = some (r1, r2, r3) := H
 have A3 := Aside0.mk A30
 clear A30
 have HC4 := Aside0.mk H
 clear H
 go_enter Try.func79, Try.ntmps79
 go_upto_if 8 with (first | ((with_reducible refine gate_callee (f := 82) rfl ?_); refine goesL_ (some 6) rfl rfl Try.func82 (by kernel_rfl) rfl #[.pointer (some ⟨g, 0, none⟩), .int .i64 7] rfl (ag_) ?_; (with_reducible refine (spec_l1Cur_pick.calls g s0_0 s0_1 s0_2 7 t661 t662 t663 w0 _ ?side1 ?side2 A2.out).mono ?_); (case side1 => exact q79_0 HI0.out); (case side2 => exact q79_1 HB.out HI0.out); rintro e w5 ⟨rfl, hi, hb, hk⟩; refine ⟨_, rfl, ?_⟩; have n0_ := Aside0.mk (KeepBut.trans (q79_2 HK.out) hk (.inl rfl)); have n1_ := Aside0.mk (hb); have n2_ := Aside0.mk (hi); clear HK; clear HB; clear HI0; have HK := n0_; have HB := n1_; have HI0 := n2_; clear n0_ n1_ n2_; (try clear hb); (try clear hb2); (try clear hk); (try clear hi)) | ((with_reducible refine gate_callee (f := 84) rfl ?_); refine goesL_ (some 8) rfl rfl Try.func84 (by kernel_rfl) rfl #[.pointer (some ⟨g, 0, none⟩), .int .i64 20] rfl (ag_) ?_; (with_reducible refine (spec_l1Cur_one.calls g s0_0 t662 t663 20 t664 t665 t666 w0 _ ?side1 ?side2 A3.out).mono ?_); (case side1 => exact q79_0 HI0.out); (case side2 => exact q79_1 HB.out HI0.out); rintro e w6 ⟨rfl, hi, hb, hk⟩; refine ⟨_, rfl, ?_⟩; have n0_ := Aside0.mk (KeepBut.trans (q79_2 HK.out) hk (.inl rfl)); have n1_ := Aside0.mk (hb); have n2_ := Aside0.mk (hi); clear HK; clear HB; clear HI0; have HK := n0_; have HB := n1_; have HI0 := n2_; clear n0_ n1_ n2_; (try clear hb); (try clear hb2); (try clear hk); (try clear hi)))
 (try simp only [Act.put, List.setIfInBounds_toArray, List.set_cons_zero, List.set_cons_succ])
 go_cut [4] (fun v4 wc => ∃ (kq : Nat) (x4_3 : Int) (x1001_3 : Int) (x1002_3 : Int), v4 = .int .i64 x4_3 /\ Aside0 (spec_l1Cur_docs.j0 kq ([] : List ByteArray) x4_3 s0_0 x1001_3 x1002_3 = some (r1, r2, r3)) /\ Aside0 (kq <= k) /\ Aside0 (Kd.R Kd.string 9 wc w.heap.size (fun _ => True) (.slice none 0 0) ([] : List ByteArray)) /\ Aside0 (IsS87 w0 wc g s0_0 x1001_3 x1002_3) /\ Aside0 (KeepBut w wc g none) /\ Aside0 (Below w0.heap.size w0 wc))
 case first =>
  have H := HC4.out
  clear HC4
  by_cases c7 : t664 = true
  ·subst c7
   have H1 : ((spec_l1Cur_pick.f s0_0 t665 t666 2).bind fun bt667 => (spec_l1Cur_docs.j0 k ([] : List ByteArray) (wrap64 (12 + bt667.1)) s0_0 bt667.2.1 bt667.2.2)) = some (r1, r2, r3) := by rw [if_pos rfl] at H; exact H
   clear H
   have H := H1
   clear H1
   replace H := Option.bind_eq_some_iff.mp H
   obtain ⟨⟨t667, t668, t669⟩, A80, H⟩ := H
   replace H : (spec_l1Cur_docs.j0 k ([] : List ByteArray) (wrap64 (12 + t667)) s0_0 t668 t669) = some (r1, r2, r3) := H
   have A8 := Aside0.mk A80
   clear A80
   have H' := Aside0.mk H
   clear H
   go_wp2_with (first | ((with_reducible refine gate_callee (f := 82) rfl ?_); refine goesL_ (some 10) rfl rfl Try.func82 (by kernel_rfl) rfl #[.pointer (some ⟨g, 0, none⟩), .int .i64 2] rfl (ag_) ?_; (with_reducible refine (spec_l1Cur_pick.calls g s0_0 t665 t666 2 t667 t668 t669 w0 _ ?side1 ?side2 A8.out).mono ?_); (case side1 => exact q79_0 HI0.out); (case side2 => exact q79_1 HB.out HI0.out); rintro e w9 ⟨rfl, hi, hb, hk⟩; refine ⟨_, rfl, ?_⟩; have n0_ := Aside0.mk (KeepBut.trans (q79_2 HK.out) hk (.inl rfl)); have n1_ := Aside0.mk (hb); have n2_ := Aside0.mk (hi); clear HK; clear HB; clear HI0; have HK := n0_; have HB := n1_; have HI0 := n2_; clear n0_ n1_ n2_; (try clear hb); (try clear hb2); (try clear hk); (try clear hi)))
   go_meet
   case rel => exact ⟨_, (wrap64 (12 + t667)), (t668), (t669), (by first | rfl | (simp; done) | (simp [*]; done)), H', ⟨by first | omega | exact Nat.le_refl _⟩, ⟨by first | exact Kd.R_nil _ _ _ _ _ | exact Kd.N_nil _ _ _ _ _ | exact Kd.V_nil _ _ _ _ _ | exact Kd.Q_nil _ _ _ _ _ | exact Kd.S_nil _ _ _ _ _⟩, ⟨q79_0 HI0.out⟩, ⟨q79_2 HK.out⟩, ⟨q79_1 HB.out HI0.out⟩⟩
  ·replace c7 := Bool.eq_false_iff.mpr c7
   subst c7
   have H1 : (spec_l1Cur_docs.j0 k ([] : List ByteArray) t661 s0_0 t665 t666) = some (r1, r2, r3) := by rw [if_neg (show ¬ (false = true) by decide)] at H; exact H
   clear H
   have H := H1
   clear H1
   have H' := Aside0.mk H
   clear H
   go_wp2
   go_meet
   case rel => exact ⟨_, (t661), (t665), (t666), (by first | rfl | (simp; done) | (simp [*]; done)), H', ⟨by first | omega | exact Nat.le_refl _⟩, ⟨by first | exact Kd.R_nil _ _ _ _ _ | exact Kd.N_nil _ _ _ _ _ | exact Kd.V_nil _ _ _ _ _ | exact Kd.Q_nil _ _ _ _ _ | exact Kd.S_nil _ _ _ _ _⟩, ⟨q79_0 HI0.out⟩, ⟨q79_2 HK.out⟩, ⟨q79_1 HB.out HI0.out⟩⟩
 case rest =>
  clear HC4
  (try clear p2); (try clear p6); (try clear c7); (try clear c8)
  obtain ⟨kq, x4_3, x1001_3, x1002_3, rfl, HA, HJ3, HO_3, HI0, HK, HB⟩ := hcut
  cases kq with
  | zero => exact absurd HA.out (by simp [spec_l1Cur_docs.j0])
  | succ kj3 =>
   have H := HA.out
   clear HA
   simp only [spec_l1Cur_docs.j0] at H
   have H' := Aside0.mk H
   clear H
   go_wp2
   go_loopg [3, 4] kj3 (fun kq v3 v4 w' => ∃ (x3_2 : List ByteArray) (x4_2 : Int) (x1001_2 : Int) (x1002_2 : Int), v4 = .int .i64 x4_2 /\ Aside0 (spec_l1Cur_docs.l0 kq x3_2 x4_2 s0_0 x1001_2 x1002_2 = some (r1, r2, r3)) /\ Aside0 (kq <= kj3) /\ Aside0 (Kd.R Kd.string 9 w' w.heap.size (fun _ => True) v3 x3_2) /\ Aside0 (IsS87 w0 w' g s0_0 x1001_2 x1002_2) /\ Aside0 (KeepBut w w' g none) /\ Aside0 (Below w0.heap.size w0 w'))
   case atStart => exact ⟨(([] : List ByteArray)), (x4_3), (x1001_3), (x1002_3), (by first | rfl | (simp; done) | (simp [*]; done)), H', ⟨Nat.le_refl _⟩, ⟨rk_ HO_3.out⟩, ⟨q79_0 HI0.out⟩, ⟨q79_2 HK.out⟩, ⟨q79_1 HB.out HI0.out⟩⟩
   case round =>
    clear H'
    (try clear p2); (try clear p6); (try clear c7); (try clear c8); (try clear p2); (try clear p6)
    obtain ⟨x3_2, x4_2, x1001_2, x1002_2, rfl, HA, HK2, HO_3, HI0, HK, HB⟩ := hrel
    cases gk with
    | zero => exact absurd HA.out (by simp [spec_l1Cur_docs.l0])
    | succ k2 =>
     have H := HA.out
     clear HA
     simp only [spec_l1Cur_docs.l0] at H
     by_cases c10 : x4_2 > 0
     ·rw [if_pos c10] at H
      have c10b0 : decide (0 < x4_2) = true := decide_eq_true c10
      clear c10
      replace H := Option.bind_eq_some_iff.mp H
      obtain ⟨⟨t670, t671, t672⟩, A110, H⟩ := H
      replace H : (if x3_2.length < 8796093022208 then (spec_l1Cur_docs.l0 k2 (x3_2 ++ [t670]) (wrap64 (x4_2 - 1)) s0_0 t671 t672) else (none)) = some (r1, r2, r3) := H
      have A11 := Aside0.mk A110
      clear A110
      by_cases c12 : x3_2.length < 8796093022208
      ·rw [if_pos c12] at H
       have LMc12 := Aside0.mk c12
       clear c12
       obtain ⟨y673, hy673⟩ : ∃ y_ : List ByteArray, y_ = (x3_2 ++ [t670]) := ⟨_, rfl⟩
       replace H : (spec_l1Cur_docs.l0 k2 y673 (wrap64 (x4_2 - 1)) s0_0 t671 t672) = some (r1, r2, r3) := by first | (rw [hy673]; with_reducible exact H) | (have H2_ := (Option.bind_some _ _).symm.trans H; rw [hy673]; with_reducible exact H2_) | (have H2_ := (Option.bind_some _ _).symm.trans H; with_reducible exact H2_) | with_reducible exact H | (rw [hy673]; exact H) | exact H
       have Ny673 := Aside0.mk hy673
       clear hy673
       have H' := Aside0.mk H
       clear H
       go_wp2_with (first | ((with_reducible refine gate_callee (f := 81) rfl ?_); refine goesL_ (some 18) rfl rfl Try.func81 (by kernel_rfl) rfl #[.pointer (some ⟨g, 0, none⟩)] rfl (ag_) ?_; (with_reducible refine (spec_l1Cur_doc.calls k2 g s0_0 x1001_2 x1002_2 t670 t671 t672 w0 _ ?side1 ?side2 A11.out).mono ?_); (case side1 => exact q79_0 HI0.out); (case side2 => exact q79_1 HB.out HI0.out); rintro e w13 ⟨rfl, hi, hb, hk⟩; refine ⟨_, rfl, ?_⟩; have n0_ := Aside0.mk (Kd.R_mono (Kd.R_keep (IsS87.apart (show IsS87 w0 _ g s0_0 x1001_2 x1002_2 from by repeat (first | (with_reducible first | exact HI0.out | apply IsS87.alloc | apply IsS87.drewN | apply IsS87.drew | apply IsS87.set_1 | apply IsS87.set_2) | exact HI0.out)) (rk_ HO_3.out) (by decide)) hk (fun _ h => h.2)) (fun _ h => h.1)); have n1_ := Aside0.mk (KeepBut.trans (q79_2 HK.out) hk (.inl rfl)); have n2_ := Aside0.mk (hb); have n3_ := Aside0.mk (hi); clear HO_3; clear HK; clear HB; clear HI0; have HO_3 := n0_; have HK := n1_; have HB := n2_; have HI0 := n3_; clear n0_ n1_ n2_ n3_; (try clear hb); (try clear hb2); (try clear hk); (try clear hi)) | ((with_reducible refine gate_builtin (b := .append) (xs := #[.tmp 16, .tmp 19]) rfl ?_); at_builtin; refine Kd.R_append Kd.string w.heap.size rfl (.tmp 16) (.tmp 19) 22 9 (.string ⟨#[]⟩) 16 rfl Try.underlying22 info9 rfl (by decide) (by omega) u3 x3_2 t670 [.string t670] (fun _ => True) (fun _ => False) rfl rfl ?aP (fun _ hk => hk.elim) ?aF ?aO (Below.refl _ _) ?aS ?aL ?_; (case aP => exact rfl); (case aF => exact (fun _ _ => trivial)); (case aO => exact (rk_ HO_3.out)); (case aS => exact (keep_size (w := w) (g := g) (row := none) (q79_2 HK.out))); (case aL => have := LMc12.out; omega); intro v674 w14 ho hb hg hat; rw [<- Ny673.out] at ho; have n0_ := Aside0.mk (IsS87.grown (q79_0 HI0.out) hg (IsS87.own_ne HI0.out HO_3.out (by decide))); have n1_ := Aside0.mk (below_weaken (q79_1 HB.out HI0.out) HL.out hb); have n2_ := Aside0.mk (KeepBut.trans (q79_2 HK.out) (KeepBut.of_grown hg g) (Kd.R_base2 HO_3.out)); have n3_ := Aside0.mk (ho); clear HI0; clear HB; clear HK; clear HO_3; have HI0 := n0_; have HB := n1_; have HK := n2_; have HO675 := n3_; clear n0_ n1_ n2_ n3_; clear ho hb hg hat))
       go_roundg k2
       case measure => have := HJ3.out; have := HK2.out; omega
       case rel => exact ⟨(y673), (wrap64 (x4_2 - 1)), (t671), (t672), (by first | rfl | (simp; done) | (simp [*]; done)), H', ⟨by have := HJ3.out; have := HK2.out; omega⟩, ⟨rk_ HO675.out⟩, ⟨q79_0 HI0.out⟩, ⟨q79_2 HK.out⟩, ⟨q79_1 HB.out HI0.out⟩⟩
      ·rw [if_neg c12] at H
       exact absurd H (by simp)
     ·rw [if_neg c10] at H
      have c10b0 : decide (0 < x4_2) = false := decide_eq_false c10
      clear c10
      simp only [Option.some.injEq, Prod.mk.injEq] at H
      obtain ⟨rfl, rfl, rfl⟩ := H
      go_wp2
      go_ret
      exact ⟨_, ew_, by (with_reducible repeat (first | apply Kd.R_alloc | apply Kd.R_drewN | apply Kd.R_drew)); exact HO_3.out, by repeat (first | (with_reducible first | exact HI0.out | apply IsS87.alloc | apply IsS87.drewN | apply IsS87.drew | apply IsS87.set_1 | apply IsS87.set_2) | exact HI0.out), by repeat (first | (with_reducible first | exact HB.out | apply below_alloc | apply pw_below_drewN | apply below_drew1 | refine below_set ?_ (IsS87.ge HI0.out)) | exact HB.out), by repeat (first | (with_reducible first | exact HK.out | apply KeepBut.set_ | apply keep_drewN | apply keep_drew | apply keep_alloc) | exact HK.out)⟩
theorem q80_0 {p0 q : Prop} (h0 : p0) (h : p0 -> q := by intro q0_; repeat (first | (with_reducible first | exact q0_ | apply KeepBut.set_ | apply keep_drewN | apply keep_drew | apply keep_alloc) | exact q0_)) : q := h h0
def spec_l1Cur_word.f (s0_0 : List Int) (s0_1 : Int) (s0_2 : Int) : Option (ByteArray × Int × Int) := (spec_l1Cur_of.f s0_0 s0_1 s0_2 (([(⟨#[114, 101, 100]⟩ : ByteArray), (⟨#[98, 108, 117, 101]⟩ : ByteArray), (⟨#[115, 101, 97]⟩ : ByteArray), (⟨#[98, 111, 97, 116]⟩ : ByteArray), (⟨#[116, 104, 101]⟩ : ByteArray), (⟨#[120]⟩ : ByteArray), (⟨#[121]⟩ : ByteArray), (⟨#[110, 111, 110, 101]⟩ : ByteArray), (⟨#[]⟩ : ByteArray), (⟨#[82, 101, 100]⟩ : ByteArray)] : List ByteArray))).bind fun bt679 => (some (bt679.1, bt679.2.1, bt679.2.2))
theorem spec_l1Cur_word.calls (g : Nat) (s0_0 : List Int) (s0_1 : Int) (s0_2 : Int) (r1 : ByteArray) (r2 : Int) (r3 : Int) (w0 w : World) (hI : IsS87 w0 w g s0_0 s0_1 s0_2) (hB : Below w0.heap.size w0 w) (h : spec_l1Cur_word.f s0_0 s0_1 s0_2 = some (r1, r2, r3)) :
  Calls Try.prog 80 #[.pointer (some ⟨g, 0, none⟩)] w fun e w' => e = .returned (.string r1) /\ IsS87 w0 w' g s0_0 r2 r3 /\ Below w0.heap.size w0 w' /\ KeepBut w w' g none := by
 have HI0 := Aside0.mk hI
 have HK := Aside0.mk (KeepBut.refl w g none)
 have HL := Aside0.mk hB.size
 clear hI
 have HW0 := Aside0.mk hB.size
 have HB := Aside0.mk hB
 clear hB
 have H : ((spec_l1Cur_of.f s0_0 s0_1 s0_2 (([(⟨#[114, 101, 100]⟩ : ByteArray), (⟨#[98, 108, 117, 101]⟩ : ByteArray), (⟨#[115, 101, 97]⟩ : ByteArray), (⟨#[98, 111, 97, 116]⟩ : ByteArray), (⟨#[116, 104, 101]⟩ : ByteArray), (⟨#[120]⟩ : ByteArray), (⟨#[121]⟩ : ByteArray), (⟨#[110, 111, 110, 101]⟩ : ByteArray), (⟨#[]⟩ : ByteArray), (⟨#[82, 101, 100]⟩ : ByteArray)] : List ByteArray))).bind fun bt679 => (some (bt679.1, bt679.2.1, bt679.2.2))) = some (r1, r2, r3) := h
 clear h
 obtain ⟨y676, hy676⟩ : ∃ y_ : List ByteArray, y_ = (([(⟨#[114, 101, 100]⟩ : ByteArray), (⟨#[98, 108, 117, 101]⟩ : ByteArray), (⟨#[115, 101, 97]⟩ : ByteArray), (⟨#[98, 111, 97, 116]⟩ : ByteArray), (⟨#[116, 104, 101]⟩ : ByteArray), (⟨#[120]⟩ : ByteArray), (⟨#[121]⟩ : ByteArray), (⟨#[110, 111, 110, 101]⟩ : ByteArray), (⟨#[]⟩ : ByteArray), (⟨#[82, 101, 100]⟩ : ByteArray)] : List ByteArray)) := ⟨_, rfl⟩
 replace H : ((spec_l1Cur_of.f s0_0 s0_1 s0_2 y676).bind fun bt679 => (some (bt679.1, bt679.2.1, bt679.2.2))) = some (r1, r2, r3) := by first | (rw [hy676]; with_reducible exact H) | (have H2_ := (Option.bind_some _ _).symm.trans H; rw [hy676]; with_reducible exact H2_) | (have H2_ := (Option.bind_some _ _).symm.trans H; with_reducible exact H2_) | with_reducible exact H | (rw [hy676]; exact H) | exact H
 have Ny676 := Aside0.mk hy676
 clear hy676
 replace H := Option.bind_eq_some_iff.mp H
 obtain ⟨⟨t679, t680, t681⟩, A20, H⟩ := H
 replace H : (some (t679, t680, t681)) = some (r1, r2, r3) := H
 have A2 := Aside0.mk A20
 clear A20
 simp only [Option.some.injEq, Prod.mk.injEq] at H
 obtain ⟨rfl, rfl, rfl⟩ := H
 go_enter Try.func80, Try.ntmps80
 go_wp2_with (first | ((with_reducible refine gate_dst (N := 4) rfl ?_); refine Kd.R_lit Kd.string _ 9 ?hg (N := 4) ?hd (xs := ([(⟨#[114, 101, 100]⟩ : ByteArray), (⟨#[98, 108, 117, 101]⟩ : ByteArray), (⟨#[115, 101, 97]⟩ : ByteArray), (⟨#[98, 111, 97, 116]⟩ : ByteArray), (⟨#[116, 104, 101]⟩ : ByteArray), (⟨#[120]⟩ : ByteArray), (⟨#[121]⟩ : ByteArray), (⟨#[110, 111, 110, 101]⟩ : ByteArray), (⟨#[]⟩ : ByteArray), (⟨#[82, 101, 100]⟩ : ByteArray)] : List ByteArray)) (inner := [.string (⟨#[114, 101, 100]⟩ : ByteArray), .string (⟨#[98, 108, 117, 101]⟩ : ByteArray), .string (⟨#[115, 101, 97]⟩ : ByteArray), .string (⟨#[98, 111, 97, 116]⟩ : ByteArray), .string (⟨#[116, 104, 101]⟩ : ByteArray), .string (⟨#[120]⟩ : ByteArray), .string (⟨#[121]⟩ : ByteArray), .string (⟨#[110, 111, 110, 101]⟩ : ByteArray), .string (⟨#[]⟩ : ByteArray), .string (⟨#[82, 101, 100]⟩ : ByteArray)]) (ok := fun _ => True) (okp := fun _ => True) ?hr ?hp (fun _ hk => hk) trivial (Below.refl _ _) (Nat.le_refl _) (by simp) ?_; (case hd => rfl); (case hg => rfl); (case hr => first | (go_simp; done) | (go_simp; rfl)); (case hp => exact (Reps.one (show Kd.M Kd.string _ _ _ (⟨#[114, 101, 100]⟩ : ByteArray) [.string (⟨#[114, 101, 100]⟩ : ByteArray)] from rfl) (Reps.one (show Kd.M Kd.string _ _ _ (⟨#[98, 108, 117, 101]⟩ : ByteArray) [.string (⟨#[98, 108, 117, 101]⟩ : ByteArray)] from rfl) (Reps.one (show Kd.M Kd.string _ _ _ (⟨#[115, 101, 97]⟩ : ByteArray) [.string (⟨#[115, 101, 97]⟩ : ByteArray)] from rfl) (Reps.one (show Kd.M Kd.string _ _ _ (⟨#[98, 111, 97, 116]⟩ : ByteArray) [.string (⟨#[98, 111, 97, 116]⟩ : ByteArray)] from rfl) (Reps.one (show Kd.M Kd.string _ _ _ (⟨#[116, 104, 101]⟩ : ByteArray) [.string (⟨#[116, 104, 101]⟩ : ByteArray)] from rfl) (Reps.one (show Kd.M Kd.string _ _ _ (⟨#[120]⟩ : ByteArray) [.string (⟨#[120]⟩ : ByteArray)] from rfl) (Reps.one (show Kd.M Kd.string _ _ _ (⟨#[121]⟩ : ByteArray) [.string (⟨#[121]⟩ : ByteArray)] from rfl) (Reps.one (show Kd.M Kd.string _ _ _ (⟨#[110, 111, 110, 101]⟩ : ByteArray) [.string (⟨#[110, 111, 110, 101]⟩ : ByteArray)] from rfl) (Reps.one (show Kd.M Kd.string _ _ _ (⟨#[]⟩ : ByteArray) [.string (⟨#[]⟩ : ByteArray)] from rfl) (Reps.one (show Kd.M Kd.string _ _ _ (⟨#[82, 101, 100]⟩ : ByteArray) [.string (⟨#[82, 101, 100]⟩ : ByteArray)] from rfl) (Reps.none _ _)))))))))))); intro v677 w3 ho4 hb hg_ hnew_; clear hg_ hnew_; (first | rw [<- Ny676.out] at ho4 | (simp only [Int.reduceToNat] at ho4; rw [<- Ny676.out] at ho4)); have n0_ := Aside0.mk (Kd.R_lower ho4 (keep_size (w := w) (g := g) (row := none) (q80_0 HK.out))); have n1_ := Aside0.mk (IsS87.below (by repeat (first | (with_reducible first | exact HI0.out | apply IsS87.alloc | apply IsS87.drewN | apply IsS87.drew | apply IsS87.set_1 | apply IsS87.set_2) | exact HI0.out)) hb); have n2_ := Aside0.mk (KeepBut.trans (q80_0 HK.out) (KeepBut.of_below hb g none) (.inl rfl)); have n3_ := Aside0.mk (below_step (by repeat (first | (with_reducible first | exact HB.out | apply below_alloc | apply pw_below_drewN | apply below_drew1 | refine below_set ?_ (IsS87.ge HI0.out)) | exact HB.out)) hb); clear HI0; clear HK; clear HB; have HO678 := n0_; have HI0 := n1_; have HK := n2_; have HB := n3_; clear n0_ n1_ n2_ n3_; clear hb ho4; obtain ⟨Ao5, co5, eo5⟩ := Kd.R_slice HO678.out; subst eo5) | ((with_reducible refine gate_callee (f := 83) rfl ?_); refine goesL_ (some 5) rfl rfl Try.func83 (by kernel_rfl) rfl #[.pointer (some ⟨g, 0, none⟩), .slice Ao5 y676.length co5] rfl (ag_) ?_; (with_reducible refine (spec_l1Cur_of.calls g s0_0 s0_1 s0_2 _ _ y676 t679 t680 t681 w0 _ ?side1 ?side2 ?side3 ?side4 ?side5 A2.out).mono ?_); (case side1 => repeat (first | (with_reducible first | exact HI0.out | apply IsS87.alloc | apply IsS87.drewN | apply IsS87.drew | apply IsS87.set_1 | apply IsS87.set_2) | exact HI0.out)); (case side2 => repeat (first | (with_reducible first | exact HB.out | apply below_alloc | apply pw_below_drewN | apply below_drew1 | refine below_set ?_ (IsS87.ge HI0.out)) | exact HB.out)); (case side3 => refine cd_ ?_; exact (Kd.R_reads' HO678.out).2.2); (case side4 => exact (Kd.R_reads' HO678.out).2.1); (case side5 => exact far_slice (IsS87.own_ne HI0.out HO678.out (by decide))); rintro e w6 ⟨rfl, hi, hb, hk⟩; refine ⟨_, rfl, ?_⟩; have n0_ := Aside0.mk (Kd.R_mono (Kd.R_keep (IsS87.apart (show IsS87 w0 _ g s0_0 s0_1 s0_2 from by repeat (first | (with_reducible first | exact HI0.out | apply IsS87.alloc | apply IsS87.drewN | apply IsS87.drew | apply IsS87.set_1 | apply IsS87.set_2) | exact HI0.out)) (rk_ HO678.out) (by decide)) hk (fun _ h => h.2)) (fun _ h => h.1)); have n1_ := Aside0.mk (KeepBut.trans (q80_0 HK.out) hk (.inl rfl)); have n2_ := Aside0.mk (hb); have n3_ := Aside0.mk (hi); clear HO678; clear HK; clear HB; clear HI0; have HO678 := n0_; have HK := n1_; have HB := n2_; have HI0 := n3_; clear n0_ n1_ n2_ n3_; (try clear hb); (try clear hb2); (try clear hk); (try clear hi)))
 go_ret
 exact ⟨ew_, by repeat (first | (with_reducible first | exact HI0.out | apply IsS87.alloc | apply IsS87.drewN | apply IsS87.drew | apply IsS87.set_1 | apply IsS87.set_2) | exact HI0.out), by repeat (first | (with_reducible first | exact HB.out | apply below_alloc | apply pw_below_drewN | apply below_drew1 | refine below_set ?_ (IsS87.ge HI0.out)) | exact HB.out), by repeat (first | (with_reducible first | exact HK.out | apply KeepBut.set_ | apply keep_drewN | apply keep_drew | apply keep_alloc) | exact HK.out)⟩
theorem q48_0 {p0 q : Prop} (h0 : p0) (h : p0 -> q := by intro q0_; repeat (first | (with_reducible first | exact q0_ | apply IsS87.alloc | apply IsS87.drewN | apply IsS87.drew | apply IsS87.set_1 | apply IsS87.set_2) | exact q0_)) : q := h h0
theorem q48_1 {p0 p1 q : Prop} (h0 : p0) (h1 : p1) (h : p0 -> p1 -> q := by intro q0_ q1_; repeat (first | (with_reducible first | exact q0_ | apply below_alloc | apply pw_below_drewN | apply below_drew1 | refine below_set ?_ (IsS87.ge q1_)) | exact q0_)) : q := h h0 h1
def spec_DrawPhraseIn.l0 : Nat -> List ByteArray -> List ByteArray -> Int -> List Int -> Int -> Int -> Option (List ByteArray × List ByteArray)
 | 0, _, _, _, _, _, _ => none
 | k + 1, x5, x6, x7, x683000, x683001, x683002 => if x7 > 0 then ((spec_l1Cur_of.f x683000 x683001 x683002 (([(⟨#[114, 101, 100]⟩ : ByteArray), (⟨#[98, 108, 117, 101]⟩ : ByteArray), (⟨#[115, 101, 97]⟩ : ByteArray), (⟨#[116, 104, 101]⟩ : ByteArray)] : List ByteArray))).bind fun bt694 => (if x6.length < 8796093022208 then (spec_DrawPhraseIn.l0 k x5 (x6 ++ [bt694.1]) (wrap64 (x7 - 1)) x683000 bt694.2.1 bt694.2.2) else (none))) else ((spec_l1Cur_one.f x683000 x683001 x683002 12).bind fun bt700 => (if bt700.1 = true then ((spec_l1Cur_word.f x683000 bt700.2.1 bt700.2.2).bind fun bt703 => (if x6.length < 8796093022208 then (some (x5, (x6 ++ [bt703.1]))) else (none))) else (some (x5, x6))))
def spec_DrawPhraseIn.f (k : Nat) (l0 : List Int) : Option (List ByteArray × List ByteArray) := (spec_l1Cur_docs.f k l0 0 0).bind fun bt683 => ((spec_l1Cur_pick.f l0 bt683.2.1 bt683.2.2 4).bind fun bt688 => (spec_DrawPhraseIn.l0 k bt683.1 ([] : List ByteArray) bt688.1 l0 bt688.2.1 bt688.2.2))
theorem spec_DrawPhraseIn.mono_l : ∀ k, (∀ y0 y1 y2 y3 y4 y5, LeO (spec_DrawPhraseIn.l0 k y0 y1 y2 y3 y4 y5) (spec_DrawPhraseIn.l0 (k + 1) y0 y1 y2 y3 y4 y5))
 | 0 => fun _ _ _ _ _ _ r h => by simp [spec_DrawPhraseIn.l0] at h
 | k + 1 => by
  have ih0 := spec_DrawPhraseIn.mono_l k
  ·intro y0 y1 y2 y3 y4 y5
   unfold spec_DrawPhraseIn.l0
   repeat' (with_reducible first | exact ih0 _ _ _ _ _ _ | exact spec_l1Cur_docs.mono _ _ _ _ | exact LeO.refl _ | exact LeO.none _ | refine LeO.ite ?_ ?_ | refine LeO.bind ?_ (fun _ => ?_))
theorem spec_DrawPhraseIn.mono : ∀ a0 k, LeO (spec_DrawPhraseIn.f k a0) (spec_DrawPhraseIn.f (k + 1) a0) := by
 intro a0 k
 have ih0 := spec_DrawPhraseIn.mono_l k
 unfold spec_DrawPhraseIn.f
 repeat' (with_reducible first | exact ih0 _ _ _ _ _ _ | exact spec_l1Cur_docs.mono _ _ _ _ | exact LeO.refl _ | exact LeO.none _ | refine LeO.ite ?_ ?_ | refine LeO.bind ?_ (fun _ => ?_))
theorem spec_DrawPhraseIn.calls (k : Nat) (A0 : Option Addr) (c0 : Nat) (l0 : List Int) (r1 : List ByteArray) (r2 : List ByteArray) (w : World) (hr0 : Kd.C (Kd.int .u8) w A0 l0.length l0) (hc0 : l0.length <= c0) (h : spec_DrawPhraseIn.f k l0 = some (r1, r2)) :
  Calls Try.prog 48 #[.slice A0 l0.length c0] w fun e w' => ∃ v0_ v1_ : Value, e = .returned (.tuple #[v0_, v1_]) /\ Kd.R Kd.string 9 w' w.heap.size (fun k_ => some k_ ≠ (v1_ : Value).ownBlock) v0_ r1 /\ Kd.R Kd.string 9 w' w.heap.size (fun k_ => some k_ ≠ (v0_ : Value).ownBlock) v1_ r2 /\ Below w.heap.size w w' := by
 have hu87 := Try.underlying87
 have HR0 := Aside0.mk hr0
 have HC0 := Aside0.mk hc0
 clear hr0 hc0
 have HB := Aside0.mk (Below.refl w.heap.size w)
 have H : ((spec_l1Cur_docs.f k l0 0 0).bind fun bt683 => ((spec_l1Cur_pick.f l0 bt683.2.1 bt683.2.2 4).bind fun bt688 => (spec_DrawPhraseIn.l0 k bt683.1 ([] : List ByteArray) bt688.1 l0 bt688.2.1 bt688.2.2))) = some (r1, r2) := h
 clear h
 replace H := Option.bind_eq_some_iff.mp H
 obtain ⟨⟨t683, t686, t687⟩, A20, H⟩ := H
 replace H : ((spec_l1Cur_pick.f l0 t686 t687 4).bind fun bt688 => (spec_DrawPhraseIn.l0 k t683 ([] : List ByteArray) bt688.1 l0 bt688.2.1 bt688.2.2)) = some (r1, r2) := H
 have A2 := Aside0.mk A20
 clear A20
 replace H := Option.bind_eq_some_iff.mp H
 obtain ⟨⟨t688, t689, t690⟩, A30, H⟩ := H
 replace H : (spec_DrawPhraseIn.l0 k t683 ([] : List ByteArray) t688 l0 t689 t690) = some (r1, r2) := H
 have A3 := Aside0.mk A30
 clear A30
 have H' := Aside0.mk H
 clear H
 go_enter Try.func48, Try.ntmps48
 go_wp2_with (first | ((with_reducible refine gate_dst (N := 10) rfl ?_); refine box_event ?hg (N := 10) ?hd (cs := #[.slice A0 l0.length c0, .int .i64 0, .int .u64 0]) (t := 87) ?hr ?_; (case hd => rfl); (case hg => rfl); (case hr => first | (go_simp; done) | (go_simp; rfl)); intro gb682 hg w4 hbox hb; have n0_ := Aside0.mk (bs_ HB.out hb); have n1_ := Aside0.mk ((⟨_, _, hbox, (by rw [hg]; exact (bw_ HB.out)), HR0.out⟩ : IsS87 w w4 gb682 l0 0 0)); have n2_ := Aside0.mk ((by rw [hg]; exact (bw_ HB.out) : w.heap.size <= gb682)); have n3_ := Aside0.mk ((by rw [hg]; exact (bw_ HB.out) : w.heap.size <= gb682)); clear HB; have HB := n0_; have HI682 := n1_; have GW682 := n2_; have GE682 := n3_; clear n0_ n1_ n2_ n3_; clear hb hbox hg) | ((with_reducible refine gate_callee (f := 79) rfl ?_); refine goesL_ (some 12) rfl rfl Try.func79 (by kernel_rfl) rfl #[.pointer (some ⟨gb682, 0, none⟩)] rfl (ag_) ?_; (with_reducible refine (spec_l1Cur_docs.calls k gb682 l0 0 0 t683 t686 t687 w _ ?side1 ?side2 A2.out).mono ?_); (case side1 => exact q48_0 HI682.out); (case side2 => exact q48_1 HB.out HI682.out); rintro e w5 ⟨v684, rfl, ho0, hi, hb, hk⟩; refine ⟨_, rfl, ?_⟩; have n0_ := Aside0.mk (Kd.R_lower ho0 (below_size (q48_1 HB.out HI682.out))); have n1_ := Aside0.mk (hb); have n2_ := Aside0.mk (hi); clear HB; clear HI682; have HO685 := n0_; have HB := n1_; have HI682 := n2_; clear n0_ n1_ n2_; (try clear hb); (try clear hb2); (try clear hk); (try clear hi); (try clear ho0)) | ((with_reducible refine gate_callee (f := 82) rfl ?_); refine goesL_ (some 14) rfl rfl Try.func82 (by kernel_rfl) rfl #[.pointer (some ⟨gb682, 0, none⟩), .int .i64 4] rfl (ag_) ?_; (with_reducible refine (spec_l1Cur_pick.calls gb682 l0 t686 t687 4 t688 t689 t690 w _ ?side1 ?side2 A3.out).mono ?_); (case side1 => exact q48_0 HI682.out); (case side2 => exact q48_1 HB.out HI682.out); rintro e w6 ⟨rfl, hi, hb, hk⟩; refine ⟨_, rfl, ?_⟩; have n0_ := Aside0.mk (Kd.R_mono (Kd.R_keep (IsS87.apart (show IsS87 w _ gb682 l0 t686 t687 from by repeat (first | (with_reducible first | exact HI682.out | apply IsS87.alloc | apply IsS87.drewN | apply IsS87.drew | apply IsS87.set_1 | apply IsS87.set_2) | exact HI682.out)) (rk_ HO685.out) (by decide)) hk (fun _ h => h.2)) (fun _ h => h.1)); have n1_ := Aside0.mk (hb); have n2_ := Aside0.mk (hi); clear HO685; clear HB; clear HI682; have HO685 := n0_; have HB := n1_; have HI682 := n2_; clear n0_ n1_ n2_; (try clear hb); (try clear hb2); (try clear hk); (try clear hi)))
 go_loopg [6, 7] k (fun kq v6 v7 w' => ∃ (x6_1 : List ByteArray) (x7_1 : Int) (x683001_1 : Int) (x683002_1 : Int), v7 = .int .i64 x7_1 /\ Aside0 (spec_DrawPhraseIn.l0 kq t683 x6_1 x7_1 l0 x683001_1 x683002_1 = some (r1, r2)) /\ Aside0 (kq <= k) /\ Aside0 (Kd.R Kd.string 9 w' w.heap.size (fun k_ => some k_ ≠ (v6 : Value).ownBlock) v684 t683) /\ Aside0 (Kd.R Kd.string 9 w' w.heap.size (fun k_ => some k_ ≠ (v684 : Value).ownBlock) v6 x6_1) /\ Aside0 (IsS87 w w' gb682 l0 x683001_1 x683002_1) /\ Aside0 (Below w.heap.size w w'))
 case atStart => exact ⟨(([] : List ByteArray)), (t688), (t689), (t690), (by first | rfl | (simp; done) | (simp [*]; done)), H', ⟨Nat.le_refl _⟩, ⟨by (with_reducible repeat (first | apply Kd.R_alloc | apply Kd.R_drewN | apply Kd.R_drew)); exact Kd.R_mono HO685.out (fun _ hk => (by simp [Value.ownBlock]))⟩, ⟨by first | exact Kd.R_nil _ _ _ _ _ | exact Kd.N_nil _ _ _ _ _ | exact Kd.V_nil _ _ _ _ _ | exact Kd.Q_nil _ _ _ _ _ | exact Kd.S_nil _ _ _ _ _⟩, ⟨q48_0 HI682.out⟩, ⟨q48_1 HB.out HI682.out⟩⟩
 case round =>
  clear H'
  (try clear p2); (try clear c4)
  obtain ⟨x6_1, x7_1, x683001_1, x683002_1, rfl, HA, HK1, HO_5, HO_6, HI682, HB⟩ := hrel
  cases gk with
  | zero => exact absurd HA.out (by simp [spec_DrawPhraseIn.l0])
  | succ k1 =>
   have H := HA.out
   clear HA
   simp only [spec_DrawPhraseIn.l0] at H
   by_cases c7 : x7_1 > 0
   ·rw [if_pos c7] at H
    have c7b0 : decide (0 < x7_1) = true := decide_eq_true c7
    clear c7
    obtain ⟨y691, hy691⟩ : ∃ y_ : List ByteArray, y_ = (([(⟨#[114, 101, 100]⟩ : ByteArray), (⟨#[98, 108, 117, 101]⟩ : ByteArray), (⟨#[115, 101, 97]⟩ : ByteArray), (⟨#[116, 104, 101]⟩ : ByteArray)] : List ByteArray)) := ⟨_, rfl⟩
    replace H : ((spec_l1Cur_of.f l0 x683001_1 x683002_1 y691).bind fun bt694 => (if x6_1.length < 8796093022208 then (spec_DrawPhraseIn.l0 k1 t683 (x6_1 ++ [bt694.1]) (wrap64 (x7_1 - 1)) l0 bt694.2.1 bt694.2.2) else (none))) = some (r1, r2) := by first | (rw [hy691]; with_reducible exact H) | (have H2_ := (Option.bind_some _ _).symm.trans H; rw [hy691]; with_reducible exact H2_) | (have H2_ := (Option.bind_some _ _).symm.trans H; with_reducible exact H2_) | with_reducible exact H | (rw [hy691]; exact H) | exact H
    have Ny691 := Aside0.mk hy691
    clear hy691
    replace H := Option.bind_eq_some_iff.mp H
    obtain ⟨⟨t694, t695, t696⟩, A80, H⟩ := H
    replace H : (if x6_1.length < 8796093022208 then (spec_DrawPhraseIn.l0 k1 t683 (x6_1 ++ [t694]) (wrap64 (x7_1 - 1)) l0 t695 t696) else (none)) = some (r1, r2) := H
    have A8 := Aside0.mk A80
    clear A80
    by_cases c9 : x6_1.length < 8796093022208
    ·rw [if_pos c9] at H
     have LMc9 := Aside0.mk c9
     clear c9
     obtain ⟨y697, hy697⟩ : ∃ y_ : List ByteArray, y_ = (x6_1 ++ [t694]) := ⟨_, rfl⟩
     replace H : (spec_DrawPhraseIn.l0 k1 t683 y697 (wrap64 (x7_1 - 1)) l0 t695 t696) = some (r1, r2) := by first | (rw [hy697]; with_reducible exact H) | (have H2_ := (Option.bind_some _ _).symm.trans H; rw [hy697]; with_reducible exact H2_) | (have H2_ := (Option.bind_some _ _).symm.trans H; with_reducible exact H2_) | with_reducible exact H | (rw [hy697]; exact H) | exact H
     have Ny697 := Aside0.mk hy697
     clear hy697
     have H' := Aside0.mk H
     clear H
     go_wp2_with (first | ((with_reducible refine gate_dst (N := 21) rfl ?_); refine Kd.R_lit Kd.string _ 9 ?hg (N := 21) ?hd (xs := ([(⟨#[114, 101, 100]⟩ : ByteArray), (⟨#[98, 108, 117, 101]⟩ : ByteArray), (⟨#[115, 101, 97]⟩ : ByteArray), (⟨#[116, 104, 101]⟩ : ByteArray)] : List ByteArray)) (inner := [.string (⟨#[114, 101, 100]⟩ : ByteArray), .string (⟨#[98, 108, 117, 101]⟩ : ByteArray), .string (⟨#[115, 101, 97]⟩ : ByteArray), .string (⟨#[116, 104, 101]⟩ : ByteArray)]) (ok := fun _ => True) (okp := fun _ => True) ?hr ?hp (fun _ hk => hk) trivial (Below.refl _ _) (Nat.le_refl _) (by simp) ?_; (case hd => rfl); (case hg => rfl); (case hr => first | (go_simp; done) | (go_simp; rfl)); (case hp => exact (Reps.one (show Kd.M Kd.string _ _ _ (⟨#[114, 101, 100]⟩ : ByteArray) [.string (⟨#[114, 101, 100]⟩ : ByteArray)] from rfl) (Reps.one (show Kd.M Kd.string _ _ _ (⟨#[98, 108, 117, 101]⟩ : ByteArray) [.string (⟨#[98, 108, 117, 101]⟩ : ByteArray)] from rfl) (Reps.one (show Kd.M Kd.string _ _ _ (⟨#[115, 101, 97]⟩ : ByteArray) [.string (⟨#[115, 101, 97]⟩ : ByteArray)] from rfl) (Reps.one (show Kd.M Kd.string _ _ _ (⟨#[116, 104, 101]⟩ : ByteArray) [.string (⟨#[116, 104, 101]⟩ : ByteArray)] from rfl) (Reps.none _ _)))))); intro v692 w10 ho11 hb hg_ hnew_; clear hg_ hnew_; (first | rw [<- Ny691.out] at ho11 | (simp only [Int.reduceToNat] at ho11; rw [<- Ny691.out] at ho11)); have n0_ := Aside0.mk (Kd.R_elder' (rk_ HO_5.out) (Kd.R_base ho11) hb); have n1_ := Aside0.mk (Kd.R_elder' (rk_ HO_6.out) (Kd.R_base ho11) hb); have n2_ := Aside0.mk (Kd.R_lower (Kd.R_new' (Kd.R_new' ho11 (Kd.R_lt (rk_ HO_5.out))) (Kd.R_lt (rk_ HO_6.out))) (below_size (q48_1 HB.out HI682.out))); have n3_ := Aside0.mk (IsS87.below (q48_0 HI682.out) hb); have n4_ := Aside0.mk (below_step (q48_1 HB.out HI682.out) hb); clear HO_5; clear HO_6; clear HI682; clear HB; have HO_5 := n0_; have HO_6 := n1_; have HO693 := n2_; have HI682 := n3_; have HB := n4_; clear n0_ n1_ n2_ n3_ n4_; clear hb ho11; obtain ⟨Ao12, co12, eo12⟩ := Kd.R_slice HO693.out; subst eo12) | ((with_reducible refine gate_callee (f := 83) rfl ?_); refine goesL_ (some 22) rfl rfl Try.func83 (by kernel_rfl) rfl #[.pointer (some ⟨gb682, 0, none⟩), .slice Ao12 y691.length co12] rfl (ag_) ?_; (with_reducible refine (spec_l1Cur_of.calls gb682 l0 x683001_1 x683002_1 _ _ y691 t694 t695 t696 w _ ?side1 ?side2 ?side3 ?side4 ?side5 A8.out).mono ?_); (case side1 => exact q48_0 HI682.out); (case side2 => exact q48_1 HB.out HI682.out); (case side3 => refine cd_ ?_; exact (Kd.R_reads' HO693.out).2.2); (case side4 => exact (Kd.R_reads' HO693.out).2.1); (case side5 => exact far_slice (IsS87.own_ne HI682.out HO693.out (by decide))); rintro e w13 ⟨rfl, hi, hb, hk⟩; refine ⟨_, rfl, ?_⟩; have n0_ := Aside0.mk (Kd.R_mono (Kd.R_keep (IsS87.apart (show IsS87 w _ gb682 l0 x683001_1 x683002_1 from by repeat (first | (with_reducible first | exact HI682.out | apply IsS87.alloc | apply IsS87.drewN | apply IsS87.drew | apply IsS87.set_1 | apply IsS87.set_2) | exact HI682.out)) (rk_ HO_5.out) (by decide)) hk (fun _ h => h.2)) (fun _ h => h.1)); have n1_ := Aside0.mk (Kd.R_mono (Kd.R_keep (IsS87.apart (show IsS87 w _ gb682 l0 x683001_1 x683002_1 from by repeat (first | (with_reducible first | exact HI682.out | apply IsS87.alloc | apply IsS87.drewN | apply IsS87.drew | apply IsS87.set_1 | apply IsS87.set_2) | exact HI682.out)) (rk_ HO_6.out) (by decide)) hk (fun _ h => h.2)) (fun _ h => h.1)); have n2_ := Aside0.mk (Kd.R_mono (Kd.R_keep (IsS87.apart (show IsS87 w _ gb682 l0 x683001_1 x683002_1 from by repeat (first | (with_reducible first | exact HI682.out | apply IsS87.alloc | apply IsS87.drewN | apply IsS87.drew | apply IsS87.set_1 | apply IsS87.set_2) | exact HI682.out)) (rk_ HO693.out) (by decide)) hk (fun _ h => h.2)) (fun _ h => h.1)); have n3_ := Aside0.mk (hb); have n4_ := Aside0.mk (hi); clear HO_5; clear HO_6; clear HO693; clear HB; clear HI682; have HO_5 := n0_; have HO_6 := n1_; have HO693 := n2_; have HB := n3_; have HI682 := n4_; clear n0_ n1_ n2_ n3_ n4_; (try clear hb); (try clear hb2); (try clear hk); (try clear hi)) | ((with_reducible refine gate_builtin (b := .append) (xs := #[.tmp 19, .tmp 23]) rfl ?_); at_builtin; refine Kd.R_append Kd.string (w0 := w) w.heap.size rfl (.tmp 19) (.tmp 23) 22 9 (.string ⟨#[]⟩) 16 rfl Try.underlying22 info9 rfl (by decide) (by omega) u6 x6_1 t694 [.string t694] (fun k_ => some k_ ≠ (v684 : Value).ownBlock /\ some k_ ≠ (.slice Ao12 y691.length co12 : Value).ownBlock) (fun _ => False) rfl rfl ?aP (fun _ hk => hk.elim) ?aF ?aO ?aB ?aS ?aL ?_; (case aP => exact rfl); (case aB => exact (q48_1 HB.out HI682.out)); (case aF => exact (fun k_ hk => ⟨Kd.fresh' (Kd.R_lt (rk_ HO_5.out)) k_ hk, Kd.fresh' (Kd.R_lt (rk_ HO693.out)) k_ hk⟩)); (case aO => exact (rk_ HO_6.out)); (case aS => exact (below_size (q48_1 HB.out HI682.out))); (case aL => have := LMc9.out; omega); intro v698 w14 ho hb hg hat; rw [<- Ny697.out] at ho; have n0_ := Aside0.mk (Kd.R_after (ok := (fun k_ => some k_ ≠ (.slice Ao12 y691.length co12 : Value).ownBlock)) (by (with_reducible repeat (first | apply Kd.R_alloc | apply Kd.R_drewN | apply Kd.R_drew)); exact Kd.R_mono HO_5.out (fun _ hk => ⟨hk.2, hk.1⟩)) hg hat); have n1_ := Aside0.mk (IsS87.grown (q48_0 HI682.out) hg (IsS87.own_ne HI682.out HO_6.out (by decide))); have n2_ := Aside0.mk (Kd.R_after (ok := (fun k_ => some k_ ≠ (v684 : Value).ownBlock)) (by (with_reducible repeat (first | apply Kd.R_alloc | apply Kd.R_drewN | apply Kd.R_drew)); exact Kd.R_mono HO693.out (fun _ hk => ⟨hk.1.2, hk.2⟩)) hg hat); have n3_ := Aside0.mk (hb); have n4_ := Aside0.mk (ho); clear HO_5; clear HI682; clear HO693; clear HB; clear HO_6; have HO_5 := n0_; have HI682 := n1_; have HO693 := n2_; have HB := n3_; have HO699 := n4_; clear n0_ n1_ n2_ n3_ n4_; clear ho hb hg hat))
     go_roundg k1
     case measure => have := HK1.out; omega
     case rel => exact ⟨(y697), (wrap64 (x7_1 - 1)), (t695), (t696), (by first | rfl | (simp; done) | (simp [*]; done)), H', ⟨by have := HK1.out; omega⟩, ⟨by (with_reducible repeat (first | apply Kd.R_alloc | apply Kd.R_drewN | apply Kd.R_drew)); exact Kd.R_mono HO_5.out (fun _ hk => hk.2)⟩, ⟨by (with_reducible repeat (first | apply Kd.R_alloc | apply Kd.R_drewN | apply Kd.R_drew)); exact Kd.R_mono HO699.out (fun _ hk => hk.1)⟩, ⟨q48_0 HI682.out⟩, ⟨q48_1 HB.out HI682.out⟩⟩
    ·rw [if_neg c9] at H
     exact absurd H (by simp)
   ·rw [if_neg c7] at H
    have c7b0 : decide (0 < x7_1) = false := decide_eq_false c7
    clear c7
    replace H := Option.bind_eq_some_iff.mp H
    obtain ⟨⟨t700, t701, t702⟩, A150, H⟩ := H
    replace H : (if t700 = true then ((spec_l1Cur_word.f l0 t701 t702).bind fun bt703 => (if x6_1.length < 8796093022208 then (some (t683, (x6_1 ++ [bt703.1]))) else (none))) else (some (t683, x6_1))) = some (r1, r2) := H
    have A15 := Aside0.mk A150
    clear A150
    by_cases c16 : t700 = true
    ·subst c16
     have H1 : ((spec_l1Cur_word.f l0 t701 t702).bind fun bt703 => (if x6_1.length < 8796093022208 then (some (t683, (x6_1 ++ [bt703.1]))) else (none))) = some (r1, r2) := by rw [if_pos rfl] at H; exact H
     clear H
     have H := H1
     clear H1
     replace H := Option.bind_eq_some_iff.mp H
     obtain ⟨⟨t703, t704, t705⟩, A170, H⟩ := H
     replace H : (if x6_1.length < 8796093022208 then (some (t683, (x6_1 ++ [t703]))) else (none)) = some (r1, r2) := H
     have A17 := Aside0.mk A170
     clear A170
     by_cases c18 : x6_1.length < 8796093022208
     ·rw [if_pos c18] at H
      have LMc18 := Aside0.mk c18
      clear c18
      obtain ⟨y706, hy706⟩ : ∃ y_ : List ByteArray, y_ = (x6_1 ++ [t703]) := ⟨_, rfl⟩
      replace H : (some (t683, y706)) = some (r1, r2) := by first | (rw [hy706]; with_reducible exact H) | (have H2_ := (Option.bind_some _ _).symm.trans H; rw [hy706]; with_reducible exact H2_) | (have H2_ := (Option.bind_some _ _).symm.trans H; with_reducible exact H2_) | with_reducible exact H | (rw [hy706]; exact H) | exact H
      have Ny706 := Aside0.mk hy706
      clear hy706
      simp only [Option.some.injEq, Prod.mk.injEq] at H
      obtain ⟨rfl, rfl⟩ := H
      go_wp2_with (first | ((with_reducible refine gate_callee (f := 84) rfl ?_); refine goesL_ (some 26) rfl rfl Try.func84 (by kernel_rfl) rfl #[.pointer (some ⟨gb682, 0, none⟩), .int .i64 12] rfl (ag_) ?_; (with_reducible refine (spec_l1Cur_one.calls gb682 l0 x683001_1 x683002_1 12 true t701 t702 w _ ?side1 ?side2 A15.out).mono ?_); (case side1 => exact q48_0 HI682.out); (case side2 => exact q48_1 HB.out HI682.out); rintro e w19 ⟨rfl, hi, hb, hk⟩; refine ⟨_, rfl, ?_⟩; have n0_ := Aside0.mk (Kd.R_mono (Kd.R_keep (IsS87.apart (show IsS87 w _ gb682 l0 x683001_1 x683002_1 from by repeat (first | (with_reducible first | exact HI682.out | apply IsS87.alloc | apply IsS87.drewN | apply IsS87.drew | apply IsS87.set_1 | apply IsS87.set_2) | exact HI682.out)) (rk_ HO_5.out) (by decide)) hk (fun _ h => h.2)) (fun _ h => h.1)); have n1_ := Aside0.mk (Kd.R_mono (Kd.R_keep (IsS87.apart (show IsS87 w _ gb682 l0 x683001_1 x683002_1 from by repeat (first | (with_reducible first | exact HI682.out | apply IsS87.alloc | apply IsS87.drewN | apply IsS87.drew | apply IsS87.set_1 | apply IsS87.set_2) | exact HI682.out)) (rk_ HO_6.out) (by decide)) hk (fun _ h => h.2)) (fun _ h => h.1)); have n2_ := Aside0.mk (hb); have n3_ := Aside0.mk (hi); clear HO_5; clear HO_6; clear HB; clear HI682; have HO_5 := n0_; have HO_6 := n1_; have HB := n2_; have HI682 := n3_; clear n0_ n1_ n2_ n3_; (try clear hb); (try clear hb2); (try clear hk); (try clear hi)) | ((with_reducible refine gate_callee (f := 80) rfl ?_); refine goesL_ (some 29) rfl rfl Try.func80 (by kernel_rfl) rfl #[.pointer (some ⟨gb682, 0, none⟩)] rfl (ag_) ?_; (with_reducible refine (spec_l1Cur_word.calls gb682 l0 t701 t702 t703 t704 t705 w _ ?side1 ?side2 A17.out).mono ?_); (case side1 => exact q48_0 HI682.out); (case side2 => exact q48_1 HB.out HI682.out); rintro e w20 ⟨rfl, hi, hb, hk⟩; refine ⟨_, rfl, ?_⟩; have n0_ := Aside0.mk (Kd.R_mono (Kd.R_keep (IsS87.apart (show IsS87 w _ gb682 l0 t701 t702 from by repeat (first | (with_reducible first | exact HI682.out | apply IsS87.alloc | apply IsS87.drewN | apply IsS87.drew | apply IsS87.set_1 | apply IsS87.set_2) | exact HI682.out)) (rk_ HO_5.out) (by decide)) hk (fun _ h => h.2)) (fun _ h => h.1)); have n1_ := Aside0.mk (Kd.R_mono (Kd.R_keep (IsS87.apart (show IsS87 w _ gb682 l0 t701 t702 from by repeat (first | (with_reducible first | exact HI682.out | apply IsS87.alloc | apply IsS87.drewN | apply IsS87.drew | apply IsS87.set_1 | apply IsS87.set_2) | exact HI682.out)) (rk_ HO_6.out) (by decide)) hk (fun _ h => h.2)) (fun _ h => h.1)); have n2_ := Aside0.mk (hb); have n3_ := Aside0.mk (hi); clear HO_5; clear HO_6; clear HB; clear HI682; have HO_5 := n0_; have HO_6 := n1_; have HB := n2_; have HI682 := n3_; clear n0_ n1_ n2_ n3_; (try clear hb); (try clear hb2); (try clear hk); (try clear hi)) | ((with_reducible refine gate_builtin (b := .append) (xs := #[.tmp 27, .tmp 30]) rfl ?_); at_builtin; refine Kd.R_append Kd.string (w0 := w) w.heap.size rfl (.tmp 27) (.tmp 30) 22 9 (.string ⟨#[]⟩) 16 rfl Try.underlying22 info9 rfl (by decide) (by omega) u6 x6_1 t703 [.string t703] (fun k_ => some k_ ≠ (v684 : Value).ownBlock) (fun _ => False) rfl rfl ?aP (fun _ hk => hk.elim) ?aF ?aO ?aB ?aS ?aL ?_; (case aP => exact rfl); (case aB => exact (q48_1 HB.out HI682.out)); (case aF => exact (fun k_ hk => Kd.fresh' (Kd.R_lt (rk_ HO_5.out)) k_ hk)); (case aO => exact (rk_ HO_6.out)); (case aS => exact (below_size (q48_1 HB.out HI682.out))); (case aL => have := LMc18.out; omega); intro v707 w21 ho hb hg hat; rw [<- Ny706.out] at ho; have n0_ := Aside0.mk (Kd.R_after (ok := (fun _ => True)) (by (with_reducible repeat (first | apply Kd.R_alloc | apply Kd.R_drewN | apply Kd.R_drew)); exact Kd.R_mono HO_5.out (fun _ hk => ⟨trivial, hk⟩)) hg hat); have n1_ := Aside0.mk (IsS87.grown (q48_0 HI682.out) hg (IsS87.own_ne HI682.out HO_6.out (by decide))); have n2_ := Aside0.mk (hb); have n3_ := Aside0.mk (ho); clear HO_5; clear HI682; clear HB; clear HO_6; have HO_5 := n0_; have HI682 := n1_; have HB := n2_; have HO708 := n3_; clear n0_ n1_ n2_ n3_; clear ho hb hg hat))
      go_ret2
      exact ⟨_, _, ew_, by (with_reducible repeat (first | apply Kd.R_alloc | apply Kd.R_drewN | apply Kd.R_drew)); exact Kd.R_mono HO_5.out (fun _ hk => hk.2), by (with_reducible repeat (first | apply Kd.R_alloc | apply Kd.R_drewN | apply Kd.R_drew)); exact HO708.out, by repeat (first | (with_reducible first | exact HB.out | apply below_alloc | apply pw_below_drewN | apply below_drew1 | refine below_set ?_ (IsS87.ge HI682.out)) | exact HB.out)⟩
     ·rw [if_neg c18] at H
      exact absurd H (by simp)
    ·replace c16 := Bool.eq_false_iff.mpr c16
     subst c16
     have H1 : (some (t683, x6_1)) = some (r1, r2) := by rw [if_neg (show ¬ (false = true) by decide)] at H; exact H
     clear H
     have H := H1
     clear H1
     simp only [Option.some.injEq, Prod.mk.injEq] at H
     obtain ⟨rfl, rfl⟩ := H
     go_wp2_with (first | ((with_reducible refine gate_callee (f := 84) rfl ?_); refine goesL_ (some 26) rfl rfl Try.func84 (by kernel_rfl) rfl #[.pointer (some ⟨gb682, 0, none⟩), .int .i64 12] rfl (ag_) ?_; (with_reducible refine (spec_l1Cur_one.calls gb682 l0 x683001_1 x683002_1 12 false t701 t702 w _ ?side1 ?side2 A15.out).mono ?_); (case side1 => exact q48_0 HI682.out); (case side2 => exact q48_1 HB.out HI682.out); rintro e w22 ⟨rfl, hi, hb, hk⟩; refine ⟨_, rfl, ?_⟩; have n0_ := Aside0.mk (Kd.R_mono (Kd.R_keep (IsS87.apart (show IsS87 w _ gb682 l0 x683001_1 x683002_1 from by repeat (first | (with_reducible first | exact HI682.out | apply IsS87.alloc | apply IsS87.drewN | apply IsS87.drew | apply IsS87.set_1 | apply IsS87.set_2) | exact HI682.out)) (rk_ HO_5.out) (by decide)) hk (fun _ h => h.2)) (fun _ h => h.1)); have n1_ := Aside0.mk (Kd.R_mono (Kd.R_keep (IsS87.apart (show IsS87 w _ gb682 l0 x683001_1 x683002_1 from by repeat (first | (with_reducible first | exact HI682.out | apply IsS87.alloc | apply IsS87.drewN | apply IsS87.drew | apply IsS87.set_1 | apply IsS87.set_2) | exact HI682.out)) (rk_ HO_6.out) (by decide)) hk (fun _ h => h.2)) (fun _ h => h.1)); have n2_ := Aside0.mk (hb); have n3_ := Aside0.mk (hi); clear HO_5; clear HO_6; clear HB; clear HI682; have HO_5 := n0_; have HO_6 := n1_; have HB := n2_; have HI682 := n3_; clear n0_ n1_ n2_ n3_; (try clear hb); (try clear hb2); (try clear hk); (try clear hi)))
     go_ret2
     exact ⟨_, _, ew_, by (with_reducible repeat (first | apply Kd.R_alloc | apply Kd.R_drewN | apply Kd.R_drew)); exact HO_5.out, by (with_reducible repeat (first | apply Kd.R_alloc | apply Kd.R_drewN | apply Kd.R_drew)); exact HO_6.out, by repeat (first | (with_reducible first | exact HB.out | apply below_alloc | apply pw_below_drewN | apply below_drew1 | refine below_set ?_ (IsS87.ge HI682.out)) | exact HB.out)⟩
def spec_l1Cur_among.f (s0_0 : List Int) (s0_1 : Int) (s0_2 : Int) (l1 : List Int) : Option (Int × Int × Int) := (spec_l1Cur_pick.f s0_0 s0_1 s0_2 (l1.length : Int)).bind fun bt709 => (if 0 <= bt709.1 then (if bt709.1 < (l1.length : Int) then (some (rd l1 bt709.1, bt709.2.1, bt709.2.2)) else (none)) else (none))
theorem spec_l1Cur_among.calls (g : Nat) (s0_0 : List Int) (s0_1 : Int) (s0_2 : Int) (A1 : Option Addr) (c1 : Nat) (l1 : List Int) (r1 : Int) (r2 : Int) (r3 : Int) (w0 w : World) (hI : IsS87 w0 w g s0_0 s0_1 s0_2) (hB : Below w0.heap.size w0 w) (hr1 : Kd.C (Kd.int .i64) w A1 l1.length l1) (hc1 : l1.length <= c1) (hf1 : ∀ ad, A1 = some ad -> 0 < l1.length -> ad.block ≠ g) (h : spec_l1Cur_among.f s0_0 s0_1 s0_2 l1 = some (r1, r2, r3)) :
  Calls Try.prog 85 #[.pointer (some ⟨g, 0, none⟩), .slice A1 l1.length c1] w fun e w' => e = .returned (.int .i64 r1) /\ IsS87 w0 w' g s0_0 r2 r3 /\ Below w0.heap.size w0 w' /\ KeepBut w w' g none := by
 have HR1 := Aside0.mk hr1
 have HC1 := Aside0.mk hc1
 clear hr1 hc1
 have HI0 := Aside0.mk hI
 have HK := Aside0.mk (KeepBut.refl w g none)
 have HL := Aside0.mk hB.size
 clear hI
 have HW0 := Aside0.mk hB.size
 have HB := Aside0.mk hB
 clear hB
 have H : ((spec_l1Cur_pick.f s0_0 s0_1 s0_2 (l1.length : Int)).bind fun bt709 => (if 0 <= bt709.1 then (if bt709.1 < (l1.length : Int) then (some (rd l1 bt709.1, bt709.2.1, bt709.2.2)) else (none)) else (none))) = some (r1, r2, r3) := h
 clear h
 replace H := Option.bind_eq_some_iff.mp H
 obtain ⟨⟨t709, t710, t711⟩, A30, H⟩ := H
 replace H : (if 0 <= t709 then (if t709 < (l1.length : Int) then (some (rd l1 t709, t710, t711)) else (none)) else (none)) = some (r1, r2, r3) := H
 have A3 := Aside0.mk A30
 clear A30
 by_cases c4 : 0 <= t709
 ·rw [if_pos c4] at H
  have c4b0 : decide (0 <= t709) = true := decide_eq_true c4
  clear c4
  by_cases c5 : t709 < (l1.length : Int)
  ·rw [if_pos c5] at H
   have c5b0 : decide (t709 < (l1.length : Int)) = true := decide_eq_true c5
   clear c5
   simp only [Option.some.injEq, Prod.mk.injEq] at H
   obtain ⟨rfl, rfl, rfl⟩ := H
   go_enter Try.func85, Try.ntmps85
   go_wp2_with (first | ((with_reducible refine gate_callee (f := 82) rfl ?_); refine goesL_ (some 9) rfl rfl Try.func82 (by kernel_rfl) rfl #[.pointer (some ⟨g, 0, none⟩), .int .i64 (l1.length : Int)] rfl (ag_) ?_; (with_reducible refine (spec_l1Cur_pick.calls g s0_0 s0_1 s0_2 (l1.length : Int) t709 t710 t711 w0 _ ?side1 ?side2 A3.out).mono ?_); (case side1 => repeat (first | (with_reducible first | exact HI0.out | apply IsS87.alloc | apply IsS87.drewN | apply IsS87.drew | apply IsS87.set_1 | apply IsS87.set_2) | exact HI0.out)); (case side2 => repeat (first | (with_reducible first | exact HB.out | apply below_alloc | apply pw_below_drewN | apply below_drew1 | refine below_set ?_ (IsS87.ge HI0.out)) | exact HB.out)); rintro e w6 ⟨rfl, hi, hb, hk⟩; refine ⟨_, rfl, ?_⟩; have n0_ := Aside0.mk (KeepBut.trans (by repeat (first | (with_reducible first | exact HK.out | apply KeepBut.set_ | apply keep_drewN | apply keep_drew | apply keep_alloc) | exact HK.out)) hk (.inl rfl)); have n1_ := Aside0.mk (hb); have n2_ := Aside0.mk (hi); clear HK; clear HB; clear HI0; have HK := n0_; have HB := n1_; have HI0 := n2_; clear n0_ n1_ n2_; (try clear hb); (try clear hb2); (try clear hk); (try clear hi); have p712 : 0 <= (t709 : Int) := of_decide_eq_true as_; have q712 : t709 < (l1.length : Int) := of_decide_eq_true as_; obtain ⟨ad712, e712, hx712_0⟩ := Kd.at_int HR1.out t709 p712 q712; cases e712; replace hx712_0 := keep_cell HK.out hx712_0 (by first | (rw [add_block]; exact hf1 _ rfl (by omega)) | exact hf1 _ rfl (by omega) | exact hf1 ad712 rfl (by omega)); replace p712 := eq_true p712; replace q712 := eq_true q712))
   go_ret
   exact ⟨ew_, by repeat (first | (with_reducible first | exact HI0.out | apply IsS87.alloc | apply IsS87.drewN | apply IsS87.drew | apply IsS87.set_1 | apply IsS87.set_2) | exact HI0.out), by repeat (first | (with_reducible first | exact HB.out | apply below_alloc | apply pw_below_drewN | apply below_drew1 | refine below_set ?_ (IsS87.ge HI0.out)) | exact HB.out), by repeat (first | (with_reducible first | exact HK.out | apply KeepBut.set_ | apply keep_drewN | apply keep_drew | apply keep_alloc) | exact HK.out)⟩
  ·rw [if_neg c5] at H
   exact absurd H (by simp)
 ·rw [if_neg c4] at H
  exact absurd H (by simp)
theorem q49_0 {p0 q : Prop} (h0 : p0) (h : p0 -> q := by intro q0_; repeat (first | (with_reducible first | exact q0_ | apply IsS87.alloc | apply IsS87.drewN | apply IsS87.drew | apply IsS87.set_1 | apply IsS87.set_2) | exact q0_)) : q := h h0
theorem q49_1 {p0 p1 q : Prop} (h0 : p0) (h1 : p1) (h : p0 -> p1 -> q := by intro q0_ q1_; repeat (first | (with_reducible first | exact q0_ | apply below_alloc | apply pw_below_drewN | apply below_drew1 | refine below_set ?_ (IsS87.ge q1_)) | exact q0_)) : q := h h0 h1
def spec_DrawNearIn.f (k : Nat) (l0 : List Int) : Option (List ByteArray × ByteArray × ByteArray × Int) := (spec_l1Cur_docs.f k l0 0 0).bind fun bt714 => ((spec_l1Cur_word.f l0 bt714.2.1 bt714.2.2).bind fun bt719 => ((spec_l1Cur_word.f l0 bt719.2.1 bt719.2.2).bind fun bt722 => ((spec_l1Cur_among.f l0 bt722.2.1 bt722.2.2 (([0, 1, 2, 3, 20, 21] : List Int))).bind fun bt728 => (some (bt714.1, bt719.1, bt722.1, bt728.1)))))
theorem spec_DrawNearIn.mono : ∀ a0 k, LeO (spec_DrawNearIn.f k a0) (spec_DrawNearIn.f (k + 1) a0) := by
 intro a0 k
 unfold spec_DrawNearIn.f
 repeat' (with_reducible first | exact spec_l1Cur_docs.mono _ _ _ _ | exact LeO.refl _ | exact LeO.none _ | refine LeO.ite ?_ ?_ | refine LeO.bind ?_ (fun _ => ?_))
theorem spec_DrawNearIn.calls (k : Nat) (A0 : Option Addr) (c0 : Nat) (l0 : List Int) (r1 : List ByteArray) (r2 : ByteArray) (r3 : ByteArray) (r4 : Int) (w : World) (hr0 : Kd.C (Kd.int .u8) w A0 l0.length l0) (hc0 : l0.length <= c0) (h : spec_DrawNearIn.f k l0 = some (r1, r2, r3, r4)) :
  Calls Try.prog 49 #[.slice A0 l0.length c0] w fun e w' => ∃ v0_ : Value, e = .returned (.tuple #[v0_, .string r2, .string r3, .int .i64 r4]) /\ Kd.R Kd.string 9 w' w.heap.size (fun _ => True) v0_ r1 /\ Below w.heap.size w w' := by
 have hu87 := Try.underlying87
 have HR0 := Aside0.mk hr0
 have HC0 := Aside0.mk hc0
 clear hr0 hc0
 have HB := Aside0.mk (Below.refl w.heap.size w)
 have H : ((spec_l1Cur_docs.f k l0 0 0).bind fun bt714 => ((spec_l1Cur_word.f l0 bt714.2.1 bt714.2.2).bind fun bt719 => ((spec_l1Cur_word.f l0 bt719.2.1 bt719.2.2).bind fun bt722 => ((spec_l1Cur_among.f l0 bt722.2.1 bt722.2.2 (([0, 1, 2, 3, 20, 21] : List Int))).bind fun bt728 => (some (bt714.1, bt719.1, bt722.1, bt728.1)))))) = some (r1, r2, r3, r4) := h
 clear h
 replace H := Option.bind_eq_some_iff.mp H
 obtain ⟨⟨t714, t717, t718⟩, A20, H⟩ := H
 replace H : ((spec_l1Cur_word.f l0 t717 t718).bind fun bt719 => ((spec_l1Cur_word.f l0 bt719.2.1 bt719.2.2).bind fun bt722 => ((spec_l1Cur_among.f l0 bt722.2.1 bt722.2.2 (([0, 1, 2, 3, 20, 21] : List Int))).bind fun bt728 => (some (t714, bt719.1, bt722.1, bt728.1))))) = some (r1, r2, r3, r4) := H
 have A2 := Aside0.mk A20
 clear A20
 replace H := Option.bind_eq_some_iff.mp H
 obtain ⟨⟨t719, t720, t721⟩, A30, H⟩ := H
 replace H : ((spec_l1Cur_word.f l0 t720 t721).bind fun bt722 => ((spec_l1Cur_among.f l0 bt722.2.1 bt722.2.2 (([0, 1, 2, 3, 20, 21] : List Int))).bind fun bt728 => (some (t714, t719, bt722.1, bt728.1)))) = some (r1, r2, r3, r4) := H
 have A3 := Aside0.mk A30
 clear A30
 replace H := Option.bind_eq_some_iff.mp H
 obtain ⟨⟨t722, t723, t724⟩, A40, H⟩ := H
 replace H : ((spec_l1Cur_among.f l0 t723 t724 (([0, 1, 2, 3, 20, 21] : List Int))).bind fun bt728 => (some (t714, t719, t722, bt728.1))) = some (r1, r2, r3, r4) := H
 have A4 := Aside0.mk A40
 clear A40
 obtain ⟨y725, hy725⟩ : ∃ y_ : List Int, y_ = (([0, 1, 2, 3, 20, 21] : List Int)) := ⟨_, rfl⟩
 replace H : ((spec_l1Cur_among.f l0 t723 t724 y725).bind fun bt728 => (some (t714, t719, t722, bt728.1))) = some (r1, r2, r3, r4) := by first | (rw [hy725]; with_reducible exact H) | (have H2_ := (Option.bind_some _ _).symm.trans H; rw [hy725]; with_reducible exact H2_) | (have H2_ := (Option.bind_some _ _).symm.trans H; with_reducible exact H2_) | with_reducible exact H | (rw [hy725]; exact H) | exact H
 have Ny725 := Aside0.mk hy725
 clear hy725
 replace H := Option.bind_eq_some_iff.mp H
 obtain ⟨⟨t728, t729, t730⟩, A50, H⟩ := H
 replace H : (some (t714, t719, t722, t728)) = some (r1, r2, r3, r4) := H
 have A5 := Aside0.mk A50
 clear A50
 simp only [Option.some.injEq, Prod.mk.injEq] at H
 obtain ⟨rfl, rfl, rfl, rfl⟩ := H
 go_enter Try.func49, Try.ntmps49
 go_wp2_with (first | ((with_reducible refine gate_dst (N := 9) rfl ?_); refine box_event ?hg (N := 9) ?hd (cs := #[.slice A0 l0.length c0, .int .i64 0, .int .u64 0]) (t := 87) ?hr ?_; (case hd => rfl); (case hg => rfl); (case hr => first | (go_simp; done) | (go_simp; rfl)); intro gb713 hg w6 hbox hb; have n0_ := Aside0.mk (bs_ HB.out hb); have n1_ := Aside0.mk ((⟨_, _, hbox, (by rw [hg]; exact (bw_ HB.out)), HR0.out⟩ : IsS87 w w6 gb713 l0 0 0)); have n2_ := Aside0.mk ((by rw [hg]; exact (bw_ HB.out) : w.heap.size <= gb713)); have n3_ := Aside0.mk ((by rw [hg]; exact (bw_ HB.out) : w.heap.size <= gb713)); clear HB; have HB := n0_; have HI713 := n1_; have GW713 := n2_; have GE713 := n3_; clear n0_ n1_ n2_ n3_; clear hb hbox hg) | ((with_reducible refine gate_callee (f := 79) rfl ?_); refine goesL_ (some 11) rfl rfl Try.func79 (by kernel_rfl) rfl #[.pointer (some ⟨gb713, 0, none⟩)] rfl (ag_) ?_; (with_reducible refine (spec_l1Cur_docs.calls k gb713 l0 0 0 t714 t717 t718 w _ ?side1 ?side2 A2.out).mono ?_); (case side1 => exact q49_0 HI713.out); (case side2 => exact q49_1 HB.out HI713.out); rintro e w7 ⟨v715, rfl, ho0, hi, hb, hk⟩; refine ⟨_, rfl, ?_⟩; have n0_ := Aside0.mk (Kd.R_lower ho0 (below_size (q49_1 HB.out HI713.out))); have n1_ := Aside0.mk (hb); have n2_ := Aside0.mk (hi); clear HB; clear HI713; have HO716 := n0_; have HB := n1_; have HI713 := n2_; clear n0_ n1_ n2_; (try clear hb); (try clear hb2); (try clear hk); (try clear hi); (try clear ho0)) | ((with_reducible refine gate_callee (f := 80) rfl ?_); refine goesL_ (some 13) rfl rfl Try.func80 (by kernel_rfl) rfl #[.pointer (some ⟨gb713, 0, none⟩)] rfl (ag_) ?_; (with_reducible refine (spec_l1Cur_word.calls gb713 l0 t717 t718 t719 t720 t721 w _ ?side1 ?side2 A3.out).mono ?_); (case side1 => exact q49_0 HI713.out); (case side2 => exact q49_1 HB.out HI713.out); rintro e w8 ⟨rfl, hi, hb, hk⟩; refine ⟨_, rfl, ?_⟩; have n0_ := Aside0.mk (Kd.R_mono (Kd.R_keep (IsS87.apart (show IsS87 w _ gb713 l0 t717 t718 from by repeat (first | (with_reducible first | exact HI713.out | apply IsS87.alloc | apply IsS87.drewN | apply IsS87.drew | apply IsS87.set_1 | apply IsS87.set_2) | exact HI713.out)) (rk_ HO716.out) (by decide)) hk (fun _ h => h.2)) (fun _ h => h.1)); have n1_ := Aside0.mk (hb); have n2_ := Aside0.mk (hi); clear HO716; clear HB; clear HI713; have HO716 := n0_; have HB := n1_; have HI713 := n2_; clear n0_ n1_ n2_; (try clear hb); (try clear hb2); (try clear hk); (try clear hi)) | ((with_reducible refine gate_callee (f := 80) rfl ?_); refine goesL_ (some 15) rfl rfl Try.func80 (by kernel_rfl) rfl #[.pointer (some ⟨gb713, 0, none⟩)] rfl (ag_) ?_; (with_reducible refine (spec_l1Cur_word.calls gb713 l0 t720 t721 t722 t723 t724 w _ ?side1 ?side2 A4.out).mono ?_); (case side1 => exact q49_0 HI713.out); (case side2 => exact q49_1 HB.out HI713.out); rintro e w9 ⟨rfl, hi, hb, hk⟩; refine ⟨_, rfl, ?_⟩; have n0_ := Aside0.mk (Kd.R_mono (Kd.R_keep (IsS87.apart (show IsS87 w _ gb713 l0 t720 t721 from by repeat (first | (with_reducible first | exact HI713.out | apply IsS87.alloc | apply IsS87.drewN | apply IsS87.drew | apply IsS87.set_1 | apply IsS87.set_2) | exact HI713.out)) (rk_ HO716.out) (by decide)) hk (fun _ h => h.2)) (fun _ h => h.1)); have n1_ := Aside0.mk (hb); have n2_ := Aside0.mk (hi); clear HO716; clear HB; clear HI713; have HO716 := n0_; have HB := n1_; have HI713 := n2_; clear n0_ n1_ n2_; (try clear hb); (try clear hb2); (try clear hk); (try clear hi)) | ((with_reducible refine gate_dst (N := 17) rfl ?_); refine Kd.R_lit (Kd.int .i64) _ 3 ?hg (N := 17) ?hd (xs := ([0, 1, 2, 3, 20, 21] : List Int)) (inner := [.int .i64 0, .int .i64 1, .int .i64 2, .int .i64 3, .int .i64 20, .int .i64 21]) (ok := fun _ => True) (okp := fun _ => True) ?hr ?hp (fun _ hk => hk) trivial (Below.refl _ _) (Nat.le_refl _) (by simp) ?_; (case hd => rfl); (case hg => rfl); (case hr => first | (go_simp; done) | (go_simp; rfl)); (case hp => exact (Reps.one (show Kd.M (Kd.int .i64) _ _ _ 0 [.int .i64 0] from rfl) (Reps.one (show Kd.M (Kd.int .i64) _ _ _ 1 [.int .i64 1] from rfl) (Reps.one (show Kd.M (Kd.int .i64) _ _ _ 2 [.int .i64 2] from rfl) (Reps.one (show Kd.M (Kd.int .i64) _ _ _ 3 [.int .i64 3] from rfl) (Reps.one (show Kd.M (Kd.int .i64) _ _ _ 20 [.int .i64 20] from rfl) (Reps.one (show Kd.M (Kd.int .i64) _ _ _ 21 [.int .i64 21] from rfl) (Reps.none _ _)))))))); intro v726 w10 ho11 hb hg_ hnew_; clear hg_ hnew_; (first | rw [<- Ny725.out] at ho11 | (simp only [Int.reduceToNat] at ho11; rw [<- Ny725.out] at ho11)); have n0_ := Aside0.mk (Kd.R_below (rk_ HO716.out) hb); have n1_ := Aside0.mk (Kd.R_lower ho11 (below_size (q49_1 HB.out HI713.out))); have n2_ := Aside0.mk (IsS87.below (q49_0 HI713.out) hb); have n3_ := Aside0.mk (below_step (q49_1 HB.out HI713.out) hb); clear HO716; clear HI713; clear HB; have HO716 := n0_; have HO727 := n1_; have HI713 := n2_; have HB := n3_; clear n0_ n1_ n2_ n3_; clear hb ho11; obtain ⟨Ao12, co12, eo12⟩ := Kd.R_slice HO727.out; subst eo12) | ((with_reducible refine gate_callee (f := 85) rfl ?_); refine goesL_ (some 18) rfl rfl Try.func85 (by kernel_rfl) rfl #[.pointer (some ⟨gb713, 0, none⟩), .slice Ao12 y725.length co12] rfl (ag_) ?_; (with_reducible refine (spec_l1Cur_among.calls gb713 l0 t723 t724 _ _ y725 t728 t729 t730 w _ ?side1 ?side2 ?side3 ?side4 ?side5 A5.out).mono ?_); (case side1 => exact q49_0 HI713.out); (case side2 => exact q49_1 HB.out HI713.out); (case side3 => refine cd_ ?_; exact (Kd.R_reads' HO727.out).2.2); (case side4 => exact (Kd.R_reads' HO727.out).2.1); (case side5 => exact far_slice (IsS87.own_ne HI713.out HO727.out (by decide))); rintro e w13 ⟨rfl, hi, hb, hk⟩; refine ⟨_, rfl, ?_⟩; have n0_ := Aside0.mk (Kd.R_mono (Kd.R_keep (IsS87.apart (show IsS87 w _ gb713 l0 t723 t724 from by repeat (first | (with_reducible first | exact HI713.out | apply IsS87.alloc | apply IsS87.drewN | apply IsS87.drew | apply IsS87.set_1 | apply IsS87.set_2) | exact HI713.out)) (rk_ HO716.out) (by decide)) hk (fun _ h => h.2)) (fun _ h => h.1)); have n1_ := Aside0.mk (Kd.R_mono (Kd.R_keep (IsS87.apart (show IsS87 w _ gb713 l0 t723 t724 from by repeat (first | (with_reducible first | exact HI713.out | apply IsS87.alloc | apply IsS87.drewN | apply IsS87.drew | apply IsS87.set_1 | apply IsS87.set_2) | exact HI713.out)) (rk_ HO727.out) (by decide)) hk (fun _ h => h.2)) (fun _ h => h.1)); have n2_ := Aside0.mk (hb); have n3_ := Aside0.mk (hi); clear HO716; clear HO727; clear HB; clear HI713; have HO716 := n0_; have HO727 := n1_; have HB := n2_; have HI713 := n3_; clear n0_ n1_ n2_ n3_; (try clear hb); (try clear hb2); (try clear hk); (try clear hi)))
 refine bodyPost_ret (results_list (rs := [.tmp 2, .tmp 3, .tmp 4, .tmp 5]) rfl (by simp) (.tmp (.tmp (.tmp (.tmp .nil))))) rfl ?_
 exact ⟨_, ew_, by (with_reducible repeat (first | apply Kd.R_alloc | apply Kd.R_drewN | apply Kd.R_drew)); exact HO716.out, by repeat (first | (with_reducible first | exact HB.out | apply below_alloc | apply pw_below_drewN | apply below_drew1 | refine below_set ?_ (IsS87.ge HI713.out)) | exact HB.out)⟩
def spec_PostsOf.f (k : Nat) (l0 : List ByteArray) (a1 : ByteArray) : Option ((List (S57)) × Bool) := (spec_l9Docs.f k l0).bind fun t136 => (if t136 = true then ((spec_l9Word.f k a1).bind fun t137 => (if t137 = true then ((spec_l9Posts.f k l0 a1).bind fun t138 => (some (t138, true))) else (some (([] : List (S57)), false)))) else (some (([] : List (S57)), false)))
theorem spec_PostsOf.mono : ∀ a0 a1 k, LeO (spec_PostsOf.f k a0 a1) (spec_PostsOf.f (k + 1) a0 a1) := by
 intro a0 a1 k
 unfold spec_PostsOf.f
 repeat' (with_reducible first | exact spec_l9Docs.mono _ _ | exact spec_l9Posts.mono _ _ _ | exact spec_l9Word.mono _ _ | exact LeO.refl _ | exact LeO.none _ | refine LeO.ite ?_ ?_ | refine LeO.bind ?_ (fun _ => ?_))
theorem spec_PostsOf.calls (k : Nat) (A0 : Option Addr) (c0 : Nat) (l0 : List ByteArray) (a1 : ByteArray) (r1 : List (S57)) (r2 : Bool) (w : World) (hr0 : Kd.C Kd.string w A0 l0.length l0) (hc0 : l0.length <= c0) (h : spec_PostsOf.f k l0 a1 = some (r1, r2)) :
  Calls Try.prog 19 #[.slice A0 l0.length c0, .string a1] w fun e w' => ∃ v0_ : Value, e = .returned (.tuple #[v0_, .bool r2]) /\ Kd.S k57 57 w' w.heap.size (fun _ => True) v0_ r1 /\ Below w.heap.size w w' := by
 have HR0 := Aside0.mk hr0
 have HC0 := Aside0.mk hc0
 clear hr0 hc0
 have HB := Aside0.mk (Below.refl w.heap.size w)
 have H : ((spec_l9Docs.f k l0).bind fun t136 => (if t136 = true then ((spec_l9Word.f k a1).bind fun t137 => (if t137 = true then ((spec_l9Posts.f k l0 a1).bind fun t138 => (some (t138, true))) else (some (([] : List (S57)), false)))) else (some (([] : List (S57)), false)))) = some (r1, r2) := h
 clear h
 replace H := Option.bind_eq_some_iff.mp H
 obtain ⟨t136, A30, H⟩ := H
 replace H : (if t136 = true then ((spec_l9Word.f k a1).bind fun t137 => (if t137 = true then ((spec_l9Posts.f k l0 a1).bind fun t138 => (some (t138, true))) else (some (([] : List (S57)), false)))) else (some (([] : List (S57)), false))) = some (r1, r2) := H
 have A3 := Aside0.mk A30
 clear A30
 by_cases c4 : t136 = true
 ·subst c4
  have H1 : ((spec_l9Word.f k a1).bind fun t137 => (if t137 = true then ((spec_l9Posts.f k l0 a1).bind fun t138 => (some (t138, true))) else (some (([] : List (S57)), false)))) = some (r1, r2) := by rw [if_pos rfl] at H; exact H
  clear H
  have H := H1
  clear H1
  replace H := Option.bind_eq_some_iff.mp H
  obtain ⟨t137, A50, H⟩ := H
  replace H : (if t137 = true then ((spec_l9Posts.f k l0 a1).bind fun t138 => (some (t138, true))) else (some (([] : List (S57)), false))) = some (r1, r2) := H
  have A5 := Aside0.mk A50
  clear A50
  by_cases c6 : t137 = true
  ·subst c6
   have H1 : ((spec_l9Posts.f k l0 a1).bind fun t138 => (some (t138, true))) = some (r1, r2) := by rw [if_pos rfl] at H; exact H
   clear H
   have H := H1
   clear H1
   replace H := Option.bind_eq_some_iff.mp H
   obtain ⟨t138, A70, H⟩ := H
   replace H : (some (t138, true)) = some (r1, r2) := H
   have A7 := Aside0.mk A70
   clear A70
   simp only [Option.some.injEq, Prod.mk.injEq] at H
   obtain ⟨rfl, rfl⟩ := H
   go_enter Try.func19, Try.ntmps19
   go_wp2_with (first | ((with_reducible refine gate_callee (f := 55) rfl ?_); refine goesL_ (some 7) rfl rfl Try.func55 (by kernel_rfl) rfl #[.slice A0 l0.length c0] rfl (ag_) ?_; (with_reducible refine (spec_l9Docs.calls k _ _ l0 true _ ?side1 ?side2 A3.out).mono ?_); (case side1 => refine cd_ ?_; exact HR0.out); (case side2 => exact HC0.out); rintro e w8 ⟨rfl, hb⟩; refine ⟨_, rfl, ?_⟩; have n0_ := Aside0.mk (bs_ HB.out hb); clear HB; have HB := n0_; clear n0_; (try clear hb); (try clear hb2); (try clear hk); (try clear hi)) | (go_at_call 56; (with_reducible refine (spec_l9Word.calls k a1 true _ A5.out).mono ?_); rintro e w' ⟨rfl, ⟨nd, rfl⟩⟩) | ((with_reducible refine gate_callee (f := 57) rfl ?_); refine goesL_ (some 16) rfl rfl Try.func57 (by kernel_rfl) rfl #[.slice A0 l0.length c0, .string a1] rfl (ag_) ?_; (with_reducible refine (spec_l9Posts.calls k _ _ l0 a1 t138 _ ?side1 ?side2 A7.out).mono ?_); (case side1 => repeat (first | exact (Kd.C_below HR0.out (be_ HB.out)) | (with_reducible refine Kd.C_alloc ?_ _) | (with_reducible refine Kd.C_drewN ?_ _) | (with_reducible refine Kd.C_drew ?_))); (case side2 => exact HC0.out); rintro e w9 ⟨v139, rfl, ho0, hb⟩; refine ⟨_, rfl, ?_⟩; have n0_ := Aside0.mk (Kd.S_lower ho0 (bw_ HB.out)); have n1_ := Aside0.mk (bs_ HB.out hb); clear HB; have HO140 := n0_; have HB := n1_; clear n0_ n1_; (try clear hb); (try clear hb2); (try clear hk); (try clear hi); (try clear ho0)))
   go_ret2
   exact ⟨_, ew_, by (with_reducible repeat (first | apply Kd.S_alloc | apply Kd.S_drewN | apply Kd.S_drew)); exact HO140.out, by repeat (first | (with_reducible first | exact HB.out | apply below_alloc | apply pw_below_drewN | apply below_drew1) | exact HB.out)⟩
  ·replace c6 := Bool.eq_false_iff.mpr c6
   subst c6
   have H1 : (some (([] : List (S57)), false)) = some (r1, r2) := by rw [if_neg (show ¬ (false = true) by decide)] at H; exact H
   clear H
   have H := H1
   clear H1
   simp only [Option.some.injEq, Prod.mk.injEq] at H
   obtain ⟨rfl, rfl⟩ := H
   go_enter Try.func19, Try.ntmps19
   go_wp2_with (first | ((with_reducible refine gate_callee (f := 55) rfl ?_); refine goesL_ (some 7) rfl rfl Try.func55 (by kernel_rfl) rfl #[.slice A0 l0.length c0] rfl (ag_) ?_; (with_reducible refine (spec_l9Docs.calls k _ _ l0 true _ ?side1 ?side2 A3.out).mono ?_); (case side1 => refine cd_ ?_; exact HR0.out); (case side2 => exact HC0.out); rintro e w10 ⟨rfl, hb⟩; refine ⟨_, rfl, ?_⟩; have n0_ := Aside0.mk (bs_ HB.out hb); clear HB; have HB := n0_; clear n0_; (try clear hb); (try clear hb2); (try clear hk); (try clear hi)) | (go_at_call 56; (with_reducible refine (spec_l9Word.calls k a1 false _ A5.out).mono ?_); rintro e w' ⟨rfl, ⟨nd, rfl⟩⟩))
   go_ret2
   exact ⟨_, ew_, by first | exact Kd.S_nil _ _ _ _ _ | exact Kd.N_nil _ _ _ _ _ | exact Kd.V_nil _ _ _ _ _ | exact Kd.Q_nil _ _ _ _ _ | exact Kd.R_nil _ _ _ _ _, by repeat (first | (with_reducible first | exact HB.out | apply below_alloc | apply pw_below_drewN | apply below_drew1) | exact HB.out)⟩
 ·replace c4 := Bool.eq_false_iff.mpr c4
  subst c4
  have H1 : (some (([] : List (S57)), false)) = some (r1, r2) := by rw [if_neg (show ¬ (false = true) by decide)] at H; exact H
  clear H
  have H := H1
  clear H1
  simp only [Option.some.injEq, Prod.mk.injEq] at H
  obtain ⟨rfl, rfl⟩ := H
  go_enter Try.func19, Try.ntmps19
  go_wp2_with (first | ((with_reducible refine gate_callee (f := 55) rfl ?_); refine goesL_ (some 7) rfl rfl Try.func55 (by kernel_rfl) rfl #[.slice A0 l0.length c0] rfl (ag_) ?_; (with_reducible refine (spec_l9Docs.calls k _ _ l0 false _ ?side1 ?side2 A3.out).mono ?_); (case side1 => refine cd_ ?_; exact HR0.out); (case side2 => exact HC0.out); rintro e w11 ⟨rfl, hb⟩; refine ⟨_, rfl, ?_⟩; have n0_ := Aside0.mk (bs_ HB.out hb); clear HB; have HB := n0_; clear n0_; (try clear hb); (try clear hb2); (try clear hk); (try clear hi)))
  go_ret2
  exact ⟨_, ew_, by first | exact Kd.S_nil _ _ _ _ _ | exact Kd.N_nil _ _ _ _ _ | exact Kd.V_nil _ _ _ _ _ | exact Kd.Q_nil _ _ _ _ _ | exact Kd.R_nil _ _ _ _ _, by repeat (first | (with_reducible first | exact HB.out | apply below_alloc | apply pw_below_drewN | apply below_drew1) | exact HB.out)⟩
theorem q86_0 {p0 q : Prop} (h0 : p0) (h : p0 -> q := by intro q0_; repeat (first | (with_reducible first | exact q0_ | apply IsS87.alloc | apply IsS87.drewN | apply IsS87.drew | apply IsS87.set_1 | apply IsS87.set_2) | exact q0_)) : q := h h0
theorem q86_1 {p0 p1 q : Prop} (h0 : p0) (h1 : p1) (h : p0 -> p1 -> q := by intro q0_ q1_; repeat (first | (with_reducible first | exact q0_ | apply below_alloc | apply pw_below_drewN | apply below_drew1 | refine below_set ?_ (IsS87.ge q1_)) | exact q0_)) : q := h h0 h1
theorem q86_2 {p0 q : Prop} (h0 : p0) (h : p0 -> q := by intro q0_; repeat (first | (with_reducible first | exact q0_ | apply KeepBut.set_ | apply keep_drewN | apply keep_drew | apply keep_alloc) | exact q0_)) : q := h h0
def spec_l1Cur_posts.j0 : Nat -> List (S57) -> Bool -> List Int -> Int -> Int -> Option ((List (S57)) × Int × Int)
 | 0, _, _, _, _, _ => none
 | k + 1, x3, x20, x1000, x1001, x1002 => if x20 = true then ((spec_l1Cur_among.f x1000 x1001 x1002 (([(-1), 5, 11, 12] : List Int))).bind fun bt742 => (if 0 < (x3.length : Int) then (some ((x3.set (0 : Int).toNat (⟨bt742.1, (rd_T57 x3 0).f1⟩ : S57)), bt742.2.1, bt742.2.2)) else (none))) else (some (x3, x1001, x1002))
def spec_l1Cur_posts.f (k : Nat) (s0_0 : List Int) (s0_1 : Int) (s0_2 : Int) : Option ((List (S57)) × Int × Int) := (spec_l1Cur_docs.f k s0_0 s0_1 s0_2).bind fun bt721 => ((spec_l1Cur_of.f s0_0 bt721.2.1 bt721.2.2 (([(⟨#[114, 101, 100]⟩ : ByteArray), (⟨#[98, 108, 117, 101]⟩ : ByteArray), (⟨#[115, 101, 97]⟩ : ByteArray)] : List ByteArray))).bind fun bt729 => ((spec_PostsOf.f k bt721.1 bt729.1).bind fun bt732 => (if (bt732.1.length : Int) > 0 then ((spec_l1Cur_one.f s0_0 bt729.2.1 bt729.2.2 20).bind fun bt736 => (spec_l1Cur_posts.j0 k bt732.1 bt736.1 s0_0 bt736.2.1 bt736.2.2)) else (spec_l1Cur_posts.j0 k bt732.1 false s0_0 bt729.2.1 bt729.2.2))))
theorem spec_l1Cur_posts.mono_l : ∀ k, (∀ y0 y1 y2 y3 y4, LeO (spec_l1Cur_posts.j0 k y0 y1 y2 y3 y4) (spec_l1Cur_posts.j0 (k + 1) y0 y1 y2 y3 y4))
 | 0 => fun _ _ _ _ _ r h => by simp [spec_l1Cur_posts.j0] at h
 | k + 1 => by
  have ih0 := spec_l1Cur_posts.mono_l k
  ·intro y0 y1 y2 y3 y4
   unfold spec_l1Cur_posts.j0
   repeat' (with_reducible first | exact ih0 _ _ _ _ _ | exact spec_PostsOf.mono _ _ _ | exact spec_l1Cur_docs.mono _ _ _ _ | exact LeO.refl _ | exact LeO.none _ | refine LeO.ite ?_ ?_ | refine LeO.bind ?_ (fun _ => ?_))
theorem spec_l1Cur_posts.mono : ∀ a0 a1 a2 k, LeO (spec_l1Cur_posts.f k a0 a1 a2) (spec_l1Cur_posts.f (k + 1) a0 a1 a2) := by
 intro a0 a1 a2 k
 have ih0 := spec_l1Cur_posts.mono_l k
 unfold spec_l1Cur_posts.f
 repeat' (with_reducible first | exact ih0 _ _ _ _ _ | exact spec_PostsOf.mono _ _ _ | exact spec_l1Cur_docs.mono _ _ _ _ | exact LeO.refl _ | exact LeO.none _ | refine LeO.ite ?_ ?_ | refine LeO.bind ?_ (fun _ => ?_))
theorem spec_l1Cur_posts.calls (k : Nat) (g : Nat) (s0_0 : List Int) (s0_1 : Int) (s0_2 : Int) (r1 : List (S57)) (r2 : Int) (r3 : Int) (w0 w : World) (hI : IsS87 w0 w g s0_0 s0_1 s0_2) (hB : Below w0.heap.size w0 w) (h : spec_l1Cur_posts.f k s0_0 s0_1 s0_2 = some (r1, r2, r3)) :
  Calls Try.prog 86 #[.pointer (some ⟨g, 0, none⟩)] w fun e w' => ∃ v0_ : Value, e = .returned (v0_) /\ Kd.S k57 57 w' w.heap.size (fun _ => True) v0_ r1 /\ IsS87 w0 w' g s0_0 r2 r3 /\ Below w0.heap.size w0 w' /\ KeepBut w w' g none := by
 have HI0 := Aside0.mk hI
 have HK := Aside0.mk (KeepBut.refl w g none)
 have HL := Aside0.mk hB.size
 clear hI
 have HW0 := Aside0.mk hB.size
 have HB := Aside0.mk hB
 clear hB
 have H : ((spec_l1Cur_docs.f k s0_0 s0_1 s0_2).bind fun bt721 => ((spec_l1Cur_of.f s0_0 bt721.2.1 bt721.2.2 (([(⟨#[114, 101, 100]⟩ : ByteArray), (⟨#[98, 108, 117, 101]⟩ : ByteArray), (⟨#[115, 101, 97]⟩ : ByteArray)] : List ByteArray))).bind fun bt729 => ((spec_PostsOf.f k bt721.1 bt729.1).bind fun bt732 => (if (bt732.1.length : Int) > 0 then ((spec_l1Cur_one.f s0_0 bt729.2.1 bt729.2.2 20).bind fun bt736 => (spec_l1Cur_posts.j0 k bt732.1 bt736.1 s0_0 bt736.2.1 bt736.2.2)) else (spec_l1Cur_posts.j0 k bt732.1 false s0_0 bt729.2.1 bt729.2.2))))) = some (r1, r2, r3) := h
 clear h
 replace H := Option.bind_eq_some_iff.mp H
 obtain ⟨⟨t721, t724, t725⟩, A20, H⟩ := H
 replace H : ((spec_l1Cur_of.f s0_0 t724 t725 (([(⟨#[114, 101, 100]⟩ : ByteArray), (⟨#[98, 108, 117, 101]⟩ : ByteArray), (⟨#[115, 101, 97]⟩ : ByteArray)] : List ByteArray))).bind fun bt729 => ((spec_PostsOf.f k t721 bt729.1).bind fun bt732 => (if (bt732.1.length : Int) > 0 then ((spec_l1Cur_one.f s0_0 bt729.2.1 bt729.2.2 20).bind fun bt736 => (spec_l1Cur_posts.j0 k bt732.1 bt736.1 s0_0 bt736.2.1 bt736.2.2)) else (spec_l1Cur_posts.j0 k bt732.1 false s0_0 bt729.2.1 bt729.2.2)))) = some (r1, r2, r3) := H
 have A2 := Aside0.mk A20
 clear A20
 obtain ⟨y726, hy726⟩ : ∃ y_ : List ByteArray, y_ = (([(⟨#[114, 101, 100]⟩ : ByteArray), (⟨#[98, 108, 117, 101]⟩ : ByteArray), (⟨#[115, 101, 97]⟩ : ByteArray)] : List ByteArray)) := ⟨_, rfl⟩
 replace H : ((spec_l1Cur_of.f s0_0 t724 t725 y726).bind fun bt729 => ((spec_PostsOf.f k t721 bt729.1).bind fun bt732 => (if (bt732.1.length : Int) > 0 then ((spec_l1Cur_one.f s0_0 bt729.2.1 bt729.2.2 20).bind fun bt736 => (spec_l1Cur_posts.j0 k bt732.1 bt736.1 s0_0 bt736.2.1 bt736.2.2)) else (spec_l1Cur_posts.j0 k bt732.1 false s0_0 bt729.2.1 bt729.2.2)))) = some (r1, r2, r3) := by first | (rw [hy726]; with_reducible exact H) | (have H2_ := (Option.bind_some _ _).symm.trans H; rw [hy726]; with_reducible exact H2_) | (have H2_ := (Option.bind_some _ _).symm.trans H; with_reducible exact H2_) | with_reducible exact H | (rw [hy726]; exact H) | exact H
 have Ny726 := Aside0.mk hy726
 clear hy726
 replace H := Option.bind_eq_some_iff.mp H
 obtain ⟨⟨t729, t730, t731⟩, A30, H⟩ := H
 replace H : ((spec_PostsOf.f k t721 t729).bind fun bt732 => (if (bt732.1.length : Int) > 0 then ((spec_l1Cur_one.f s0_0 t730 t731 20).bind fun bt736 => (spec_l1Cur_posts.j0 k bt732.1 bt736.1 s0_0 bt736.2.1 bt736.2.2)) else (spec_l1Cur_posts.j0 k bt732.1 false s0_0 t730 t731))) = some (r1, r2, r3) := H
 have A3 := Aside0.mk A30
 clear A30
 replace H := Option.bind_eq_some_iff.mp H
 obtain ⟨⟨t732, t733⟩, A40, H⟩ := H
 replace H : (if (t732.length : Int) > 0 then ((spec_l1Cur_one.f s0_0 t730 t731 20).bind fun bt736 => (spec_l1Cur_posts.j0 k t732 bt736.1 s0_0 bt736.2.1 bt736.2.2)) else (spec_l1Cur_posts.j0 k t732 false s0_0 t730 t731)) = some (r1, r2, r3) := H
 have A4 := Aside0.mk A40
 clear A40
 have HC5 := Aside0.mk H
 clear H
 go_enter Try.func86, Try.ntmps86
 go_upto_region 2 with (first | ((with_reducible refine gate_callee (f := 79) rfl ?_); refine goesL_ (some 7) rfl rfl Try.func79 (by kernel_rfl) rfl #[.pointer (some ⟨g, 0, none⟩)] rfl (ag_) ?_; (with_reducible refine (spec_l1Cur_docs.calls k g s0_0 s0_1 s0_2 t721 t724 t725 w0 _ ?side1 ?side2 A2.out).mono ?_); (case side1 => exact q86_0 HI0.out); (case side2 => exact q86_1 HB.out HI0.out); rintro e w6 ⟨v722, rfl, ho0, hi, hb, hk⟩; refine ⟨_, rfl, ?_⟩; have n0_ := Aside0.mk (Kd.R_lower ho0 (keep_size (w := w) (g := g) (row := none) (q86_2 HK.out))); have n1_ := Aside0.mk (KeepBut.trans (q86_2 HK.out) hk (.inl rfl)); have n2_ := Aside0.mk (hb); have n3_ := Aside0.mk (hi); clear HK; clear HB; clear HI0; have HO723 := n0_; have HK := n1_; have HB := n2_; have HI0 := n3_; clear n0_ n1_ n2_ n3_; (try clear hb); (try clear hb2); (try clear hk); (try clear hi); (try clear ho0)) | ((with_reducible refine gate_dst (N := 9) rfl ?_); refine Kd.R_lit Kd.string _ 9 ?hg (N := 9) ?hd (xs := ([(⟨#[114, 101, 100]⟩ : ByteArray), (⟨#[98, 108, 117, 101]⟩ : ByteArray), (⟨#[115, 101, 97]⟩ : ByteArray)] : List ByteArray)) (inner := [.string (⟨#[114, 101, 100]⟩ : ByteArray), .string (⟨#[98, 108, 117, 101]⟩ : ByteArray), .string (⟨#[115, 101, 97]⟩ : ByteArray)]) (ok := fun _ => True) (okp := fun _ => True) ?hr ?hp (fun _ hk => hk) trivial (Below.refl _ _) (Nat.le_refl _) (by simp) ?_; (case hd => rfl); (case hg => rfl); (case hr => first | (go_simp; done) | (go_simp; rfl)); (case hp => exact (Reps.one (show Kd.M Kd.string _ _ _ (⟨#[114, 101, 100]⟩ : ByteArray) [.string (⟨#[114, 101, 100]⟩ : ByteArray)] from rfl) (Reps.one (show Kd.M Kd.string _ _ _ (⟨#[98, 108, 117, 101]⟩ : ByteArray) [.string (⟨#[98, 108, 117, 101]⟩ : ByteArray)] from rfl) (Reps.one (show Kd.M Kd.string _ _ _ (⟨#[115, 101, 97]⟩ : ByteArray) [.string (⟨#[115, 101, 97]⟩ : ByteArray)] from rfl) (Reps.none _ _))))); intro v727 w7 ho8 hb hg_ hnew_; clear hg_ hnew_; (first | rw [<- Ny726.out] at ho8 | (simp only [Int.reduceToNat] at ho8; rw [<- Ny726.out] at ho8)); have n0_ := Aside0.mk (Kd.R_elder' (rk_ HO723.out) (Kd.R_base ho8) hb); have n1_ := Aside0.mk (Kd.R_lower (Kd.R_new' ho8 (Kd.R_lt (rk_ HO723.out))) (keep_size (w := w) (g := g) (row := none) (q86_2 HK.out))); have n2_ := Aside0.mk (IsS87.below (q86_0 HI0.out) hb); have n3_ := Aside0.mk (KeepBut.trans (q86_2 HK.out) (KeepBut.of_below hb g none) (.inl rfl)); have n4_ := Aside0.mk (below_step (q86_1 HB.out HI0.out) hb); clear HO723; clear HI0; clear HK; clear HB; have HO723 := n0_; have HO728 := n1_; have HI0 := n2_; have HK := n3_; have HB := n4_; clear n0_ n1_ n2_ n3_ n4_; clear hb ho8; obtain ⟨Ao9, co9, eo9⟩ := Kd.R_slice HO728.out; subst eo9) | ((with_reducible refine gate_callee (f := 83) rfl ?_); refine goesL_ (some 10) rfl rfl Try.func83 (by kernel_rfl) rfl #[.pointer (some ⟨g, 0, none⟩), .slice Ao9 y726.length co9] rfl (ag_) ?_; (with_reducible refine (spec_l1Cur_of.calls g s0_0 t724 t725 _ _ y726 t729 t730 t731 w0 _ ?side1 ?side2 ?side3 ?side4 ?side5 A3.out).mono ?_); (case side1 => exact q86_0 HI0.out); (case side2 => exact q86_1 HB.out HI0.out); (case side3 => refine cd_ ?_; exact (Kd.R_reads' HO728.out).2.2); (case side4 => exact (Kd.R_reads' HO728.out).2.1); (case side5 => exact far_slice (IsS87.own_ne HI0.out HO728.out (by decide))); rintro e w10 ⟨rfl, hi, hb, hk⟩; refine ⟨_, rfl, ?_⟩; have n0_ := Aside0.mk (Kd.R_mono (Kd.R_keep (IsS87.apart (show IsS87 w0 _ g s0_0 t724 t725 from by repeat (first | (with_reducible first | exact HI0.out | apply IsS87.alloc | apply IsS87.drewN | apply IsS87.drew | apply IsS87.set_1 | apply IsS87.set_2) | exact HI0.out)) (rk_ HO723.out) (by decide)) hk (fun _ h => h.2)) (fun _ h => h.1)); have n1_ := Aside0.mk (Kd.R_mono (Kd.R_keep (IsS87.apart (show IsS87 w0 _ g s0_0 t724 t725 from by repeat (first | (with_reducible first | exact HI0.out | apply IsS87.alloc | apply IsS87.drewN | apply IsS87.drew | apply IsS87.set_1 | apply IsS87.set_2) | exact HI0.out)) (rk_ HO728.out) (by decide)) hk (fun _ h => h.2)) (fun _ h => h.1)); have n2_ := Aside0.mk (KeepBut.trans (q86_2 HK.out) hk (.inl rfl)); have n3_ := Aside0.mk (hb); have n4_ := Aside0.mk (hi); clear HO723; clear HO728; clear HK; clear HB; clear HI0; have HO723 := n0_; have HO728 := n1_; have HK := n2_; have HB := n3_; have HI0 := n4_; clear n0_ n1_ n2_ n3_ n4_; (try clear hb); (try clear hb2); (try clear hk); (try clear hi); obtain ⟨Ao11, co11, eo11⟩ := Kd.R_slice HO723.out; subst eo11) | ((with_reducible refine gate_callee (f := 19) rfl ?_); refine goesL_ (some 11) rfl rfl Try.func19 (by kernel_rfl) rfl #[.slice Ao11 t721.length co11, .string t729] rfl (ag_) ?_; (with_reducible refine (spec_PostsOf.calls k _ _ t721 t729 t732 t733 _ ?side1 ?side2 A4.out).mono ?_); (case side1 => refine cd_ ?_; exact (Kd.R_reads' HO723.out).2.2); (case side2 => exact (Kd.R_reads' HO723.out).2.1); rintro e w12 ⟨v734, rfl, ho0, hb⟩; refine ⟨_, rfl, ?_⟩; have n0_ := Aside0.mk (Kd.R_below (rk_ HO723.out) hb); have n1_ := Aside0.mk (Kd.R_below (rk_ HO728.out) hb); have n2_ := Aside0.mk (Kd.S_lower ho0 (keep_size (w := w) (g := g) (row := none) (q86_2 HK.out))); have n3_ := Aside0.mk (IsS87.below (q86_0 HI0.out) hb); have n4_ := Aside0.mk (KeepBut.trans (q86_2 HK.out) (KeepBut.of_below hb g none) (.inl rfl)); have n5_ := Aside0.mk (below_step (q86_1 HB.out HI0.out) hb); clear HO723; clear HO728; clear HI0; clear HK; clear HB; have HO723 := n0_; have HO728 := n1_; have HO735 := n2_; have HI0 := n3_; have HK := n4_; have HB := n5_; clear n0_ n1_ n2_ n3_ n4_ n5_; (try clear hb); (try clear hb2); (try clear hk); (try clear hi); (try clear ho0)))
 (try simp only [Act.put, List.setIfInBounds_toArray, List.set_cons_zero, List.set_cons_succ])
 go_cut [20] (fun v20 wc => ∃ (kq : Nat) (x20_4 : Bool) (x1001_4 : Int) (x1002_4 : Int), v20 = .bool x20_4 /\ Aside0 (spec_l1Cur_posts.j0 kq t732 x20_4 s0_0 x1001_4 x1002_4 = some (r1, r2, r3)) /\ Aside0 (kq <= k) /\ Aside0 (Kd.S k57 57 wc w.heap.size (fun _ => True) v734 t732) /\ Aside0 (IsS87 w0 wc g s0_0 x1001_4 x1002_4) /\ Aside0 (KeepBut w wc g none) /\ Aside0 (Below w0.heap.size w0 wc))
 case first =>
  have H := HC5.out
  clear HC5
  by_cases c13 : (t732.length : Int) > 0
  ·rw [if_pos c13] at H
   have c13b0 : decide (0 < (t732.length : Int)) = true := decide_eq_true c13
   have c13b1 : decide (0 < t732.length) = true := decide_eq_true (by omega)
   clear c13
   (first | rw [c13b0] | (simp only [i64_w, i32_w]; rw [c13b0]) | rw [c13b1] | skip)
   replace H := Option.bind_eq_some_iff.mp H
   obtain ⟨⟨t736, t737, t738⟩, A140, H⟩ := H
   replace H : (spec_l1Cur_posts.j0 k t732 t736 s0_0 t737 t738) = some (r1, r2, r3) := H
   have A14 := Aside0.mk A140
   clear A140
   have H' := Aside0.mk H
   clear H
   obtain ⟨Ao15, co15, eo15⟩ := Kd.S_slice HO735.out
   subst eo15
   go_wp2_with (first | (go_at_call 84; (with_reducible refine (spec_l1Cur_one.calls g s0_0 t730 t731 20 t736 t737 t738 w0 _ ?side1 ?side2 A14.out).mono ?_); (case side1 => exact q86_0 HI0.out); (case side2 => exact q86_1 HB.out HI0.out); rintro e w16 ⟨rfl, hi, hb, hk⟩; have n0_ := Aside0.mk (Kd.R_mono (Kd.R_keep (IsS87.apart (show IsS87 w0 _ g s0_0 t730 t731 from by repeat (first | (with_reducible first | exact HI0.out | apply IsS87.alloc | apply IsS87.drewN | apply IsS87.drew | apply IsS87.set_1 | apply IsS87.set_2) | exact HI0.out)) (rk_ HO723.out) (by decide)) hk (fun _ h => h.2)) (fun _ h => h.1)); have n1_ := Aside0.mk (Kd.R_mono (Kd.R_keep (IsS87.apart (show IsS87 w0 _ g s0_0 t730 t731 from by repeat (first | (with_reducible first | exact HI0.out | apply IsS87.alloc | apply IsS87.drewN | apply IsS87.drew | apply IsS87.set_1 | apply IsS87.set_2) | exact HI0.out)) (rk_ HO728.out) (by decide)) hk (fun _ h => h.2)) (fun _ h => h.1)); have n2_ := Aside0.mk (Kd.S_mono (Kd.S_keep (IsS87.apartS (show IsS87 w0 _ g s0_0 t730 t731 from by repeat (first | (with_reducible first | exact HI0.out | apply IsS87.alloc | apply IsS87.drewN | apply IsS87.drew | apply IsS87.set_1 | apply IsS87.set_2) | exact HI0.out)) (sk_ HO735.out) (by decide)) hk (fun _ h => h.2)) (fun _ h => h.1)); have n3_ := Aside0.mk (KeepBut.trans (q86_2 HK.out) hk (.inl rfl)); have n4_ := Aside0.mk (hb); have n5_ := Aside0.mk (hi); clear HO723; clear HO728; clear HO735; clear HK; clear HB; clear HI0; have HO723 := n0_; have HO728 := n1_; have HO735 := n2_; have HK := n3_; have HB := n4_; have HI0 := n5_; clear n0_ n1_ n2_ n3_ n4_ n5_; (try clear hb); (try clear hb2); (try clear hk); (try clear hi)))
   go_meet
   case rel => exact ⟨_, (t736), (t737), (t738), (by first | rfl | (simp; done) | (simp [*]; done)), H', ⟨by first | omega | exact Nat.le_refl _⟩, ⟨sk_ HO735.out⟩, ⟨q86_0 HI0.out⟩, ⟨q86_2 HK.out⟩, ⟨q86_1 HB.out HI0.out⟩⟩
  ·rw [if_neg c13] at H
   have c13b0 : decide (0 < (t732.length : Int)) = false := decide_eq_false c13
   have c13b1 : decide (0 < t732.length) = false := decide_eq_false (by omega)
   clear c13
   (first | rw [c13b0] | (simp only [i64_w, i32_w]; rw [c13b0]) | rw [c13b1] | skip)
   have H' := Aside0.mk H
   clear H
   obtain ⟨Ao17, co17, eo17⟩ := Kd.S_slice HO735.out
   subst eo17
   go_wp2
   go_meet
   case rel => exact ⟨_, (false), (t730), (t731), (by first | rfl | (simp; done) | (simp [*]; done)), H', ⟨by first | omega | exact Nat.le_refl _⟩, ⟨sk_ HO735.out⟩, ⟨q86_0 HI0.out⟩, ⟨q86_2 HK.out⟩, ⟨q86_1 HB.out HI0.out⟩⟩
 case rest =>
  clear HC5
  (try clear c1); (try clear p2); (try clear c7); (try clear c8); (try clear c13); (try clear c13b0); (try clear c13b1)
  obtain ⟨kq, x20_4, x1001_4, x1002_4, rfl, HA, HJ4, HO_3, HI0, HK, HB⟩ := hcut
  cases kq with
  | zero => exact absurd HA.out (by simp [spec_l1Cur_posts.j0])
  | succ kj4 =>
   have H := HA.out
   clear HA
   simp only [spec_l1Cur_posts.j0] at H
   by_cases c18 : x20_4 = true
   ·subst c18
    have H1 : ((spec_l1Cur_among.f s0_0 x1001_4 x1002_4 (([(-1), 5, 11, 12] : List Int))).bind fun bt742 => (if 0 < (t732.length : Int) then (some ((t732.set (0 : Int).toNat (⟨bt742.1, (rd_T57 t732 0).f1⟩ : S57)), bt742.2.1, bt742.2.2)) else (none))) = some (r1, r2, r3) := by rw [if_pos rfl] at H; exact H
    clear H
    have H := H1
    clear H1
    obtain ⟨y739, hy739⟩ : ∃ y_ : List Int, y_ = (([(-1), 5, 11, 12] : List Int)) := ⟨_, rfl⟩
    replace H : ((spec_l1Cur_among.f s0_0 x1001_4 x1002_4 y739).bind fun bt742 => (if 0 < (t732.length : Int) then (some ((t732.set (0 : Int).toNat (⟨bt742.1, (rd_T57 t732 0).f1⟩ : S57)), bt742.2.1, bt742.2.2)) else (none))) = some (r1, r2, r3) := by first | (rw [hy739]; with_reducible exact H) | (have H2_ := (Option.bind_some _ _).symm.trans H; rw [hy739]; with_reducible exact H2_) | (have H2_ := (Option.bind_some _ _).symm.trans H; with_reducible exact H2_) | with_reducible exact H | (rw [hy739]; exact H) | exact H
    have Ny739 := Aside0.mk hy739
    clear hy739
    replace H := Option.bind_eq_some_iff.mp H
    obtain ⟨⟨t742, t743, t744⟩, A190, H⟩ := H
    replace H : (if 0 < (t732.length : Int) then (some ((t732.set (0 : Int).toNat (⟨t742, (rd_T57 t732 0).f1⟩ : S57)), t743, t744)) else (none)) = some (r1, r2, r3) := H
    have A19 := Aside0.mk A190
    clear A190
    by_cases c20 : 0 < (t732.length : Int)
    ·rw [if_pos c20] at H
     have c20b0 : decide (0 < (t732.length : Int)) = true := decide_eq_true c20
     have c20b1 : decide (0 < t732.length) = true := decide_eq_true (by omega)
     clear c20
     obtain ⟨y745, hy745⟩ : ∃ y_ : List (S57), y_ = (t732.set (0 : Int).toNat (⟨t742, (rd_T57 t732 0).f1⟩ : S57)) := ⟨_, rfl⟩
     replace H : (some (y745, t743, t744)) = some (r1, r2, r3) := by first | (rw [hy745]; with_reducible exact H) | (have H2_ := (Option.bind_some _ _).symm.trans H; rw [hy745]; with_reducible exact H2_) | (have H2_ := (Option.bind_some _ _).symm.trans H; with_reducible exact H2_) | with_reducible exact H | (rw [hy745]; exact H) | exact H
     have Ny745 := Aside0.mk hy745
     clear hy745
     simp only [Option.some.injEq, Prod.mk.injEq] at H
     obtain ⟨rfl, rfl, rfl⟩ := H
     go_wp2_with (first | ((with_reducible refine gate_dst (N := 23) rfl ?_); refine Kd.R_lit (Kd.int .i64) _ 3 ?hg (N := 23) ?hd (xs := ([(-1), 5, 11, 12] : List Int)) (inner := [.int .i64 (-1), .int .i64 5, .int .i64 11, .int .i64 12]) (ok := fun _ => True) (okp := fun _ => True) ?hr ?hp (fun _ hk => hk) trivial (Below.refl _ _) (Nat.le_refl _) (by simp) ?_; (case hd => rfl); (case hg => rfl); (case hr => first | (go_simp; done) | (go_simp; rfl)); (case hp => exact (Reps.one (show Kd.M (Kd.int .i64) _ _ _ (-1) [.int .i64 (-1)] from rfl) (Reps.one (show Kd.M (Kd.int .i64) _ _ _ 5 [.int .i64 5] from rfl) (Reps.one (show Kd.M (Kd.int .i64) _ _ _ 11 [.int .i64 11] from rfl) (Reps.one (show Kd.M (Kd.int .i64) _ _ _ 12 [.int .i64 12] from rfl) (Reps.none _ _)))))); intro v740 w22 ho23 hb hg_ hnew_; clear hg_ hnew_; (first | rw [<- Ny739.out] at ho23 | (simp only [Int.reduceToNat] at ho23; rw [<- Ny739.out] at ho23)); have n0_ := Aside0.mk (Kd.S_elder' (sk_ HO_3.out) (Kd.R_base ho23) hb); have n1_ := Aside0.mk (Kd.R_lower ho23 (keep_size (w := w) (g := g) (row := none) (q86_2 HK.out))); have n2_ := Aside0.mk (IsS87.below (q86_0 HI0.out) hb); have n3_ := Aside0.mk (KeepBut.trans (q86_2 HK.out) (KeepBut.of_below hb g none) (.inl rfl)); have n4_ := Aside0.mk (below_step (q86_1 HB.out HI0.out) hb); clear HO_3; clear HI0; clear HK; clear HB; have HO_3 := n0_; have HO741 := n1_; have HI0 := n2_; have HK := n3_; have HB := n4_; clear n0_ n1_ n2_ n3_ n4_; clear hb ho23; obtain ⟨Ao24, co24, eo24⟩ := Kd.R_slice HO741.out; subst eo24) | ((with_reducible refine gate_callee (f := 85) rfl ?_); refine goesL_ (some 24) rfl rfl Try.func85 (by kernel_rfl) rfl #[.pointer (some ⟨g, 0, none⟩), .slice Ao24 y739.length co24] rfl (ag_) ?_; (with_reducible refine (spec_l1Cur_among.calls g s0_0 x1001_4 x1002_4 _ _ y739 t742 t743 t744 w0 _ ?side1 ?side2 ?side3 ?side4 ?side5 A19.out).mono ?_); (case side1 => exact q86_0 HI0.out); (case side2 => exact q86_1 HB.out HI0.out); (case side3 => refine cd_ ?_; exact (Kd.R_reads' HO741.out).2.2); (case side4 => exact (Kd.R_reads' HO741.out).2.1); (case side5 => exact far_slice (IsS87.own_ne HI0.out HO741.out (by decide))); rintro e w25 ⟨rfl, hi, hb, hk⟩; refine ⟨_, rfl, ?_⟩; have n0_ := Aside0.mk (Kd.S_mono (Kd.S_keep (IsS87.apartS (show IsS87 w0 _ g s0_0 x1001_4 x1002_4 from by repeat (first | (with_reducible first | exact HI0.out | apply IsS87.alloc | apply IsS87.drewN | apply IsS87.drew | apply IsS87.set_1 | apply IsS87.set_2) | exact HI0.out)) (sk_ HO_3.out) (by decide)) hk (fun _ h => h.2)) (fun _ h => h.1)); have n1_ := Aside0.mk (Kd.R_mono (Kd.R_keep (IsS87.apart (show IsS87 w0 _ g s0_0 x1001_4 x1002_4 from by repeat (first | (with_reducible first | exact HI0.out | apply IsS87.alloc | apply IsS87.drewN | apply IsS87.drew | apply IsS87.set_1 | apply IsS87.set_2) | exact HI0.out)) (rk_ HO741.out) (by decide)) hk (fun _ h => h.2)) (fun _ h => h.1)); have n2_ := Aside0.mk (KeepBut.trans (q86_2 HK.out) hk (.inl rfl)); have n3_ := Aside0.mk (hb); have n4_ := Aside0.mk (hi); clear HO_3; clear HO741; clear HK; clear HB; clear HI0; have HO_3 := n0_; have HO741 := n1_; have HK := n2_; have HB := n3_; have HI0 := n4_; clear n0_ n1_ n2_ n3_ n4_; (try clear hb); (try clear hb2); (try clear hk); (try clear hi); have p21 : 0 <= (0 : Int) := (by omega); have q21 : (0 : Int) < ((t732.length : Int) : Int) := of_decide_eq_true as_; have qi21 : (0 < t732.length) = True := eq_true (by omega); obtain ⟨go21, co21, eo21, gb21, gl21, cl21, HG21⟩ := Kd.S_form HO_3.out (by omega); (first | cases eo21 | (injection eo21 with ea_ en_ ec_; (first | subst ea_ | (injection ea_ with ea_; subst ea_)); subst ec_; clear en_)); have GB21 := Aside0.mk gb21; have GG21 := Aside0.mk HG21; clear gb21 gl21 HG21; obtain ⟨_, ce21, hcl21, hM21, hcc21, hfr21, _, _⟩ := Kd.S_elem HO_3.out z57 (0 : Int) p21 q21; obtain ⟨ve21_1, rfl, ge21_1⟩ := k57_openM hM21; have hx21_0 : w25.cell? ⟨go21, (0 : Int).toNat * 2, none⟩ = some (.int .i64 ((rd_T57 t732 0).f0)) := hcc21 0 _ rfl; have hx21_1 : w25.cell? ⟨go21, (0 : Int).toNat * 2 + 1, none⟩ = some (ve21_1) := hcc21 1 _ rfl; have hf21_0 : w25.frozen? ⟨go21, (0 : Int).toNat * 2, none⟩ = false := hfr21 0; have hf21_1 : w25.frozen? ⟨go21, (0 : Int).toNat * 2 + 1, none⟩ = false := hfr21 1; clear hcl21 hcc21 hfr21; (try clear hM21); (try rw [show ((0 : Int)).toNat = 0 from rfl] at hx21_0); (try simp only [Nat.reduceMul, Nat.zero_mul, Nat.zero_add, Nat.reduceAdd] at hx21_0); (try rw [show ((0 : Int)).toNat = 0 from rfl] at hf21_0); (try simp only [Nat.reduceMul, Nat.zero_mul, Nat.zero_add, Nat.reduceAdd] at hf21_0); (try rw [show ((0 : Int)).toNat = 0 from rfl] at hx21_1); (try simp only [Nat.reduceMul, Nat.zero_mul, Nat.zero_add, Nat.reduceAdd] at hx21_1); (try rw [show ((0 : Int)).toNat = 0 from rfl] at hf21_1); (try simp only [Nat.reduceMul, Nat.zero_mul, Nat.zero_add, Nat.reduceAdd] at hf21_1); replace p21 := eq_true p21; replace q21 := eq_true q21; have n_ := Aside0.mk (Kd.S_mono (ok' := (fun k_ => some k_ ≠ (.slice Ao24 y739.length co24 : Value).ownBlock)) HO_3.out (fun k_ hk => hk.2)); clear HO_3; have HO_3 := n_; clear n_; have HX26 := Aside0.mk (show Kd.S k57 57 w25 w.heap.size (fun k_ => ((fun k_ => some k_ ≠ (.slice Ao24 y739.length co24 : Value).ownBlock)) k_ /\ ¬ ((fun _ => False)) k_) (.slice (some ⟨go21, 0, none⟩) t732.length co21) t732 from (by (with_reducible repeat (first | apply Kd.S_alloc | apply Kd.S_drewN | apply Kd.S_drew)); exact Kd.S_mono HO_3.out (fun k_ hk => ⟨hk, fun e_ => e_⟩))); obtain ⟨oki26, ce26, hcl26, hM26, hcc26, hfr26, hoki26, hH26⟩ := Kd.S_elem HX26.out z57 (0 : Int) (by omega) (by have h_ : (0 : Int) < ((t732.length : Int) : Int) := of_decide_eq_true as_; first | exact h_ | (have e_ := (Kd.S_reads' HO_3.out).1; omega) | simpa using h_); obtain ⟨ve26_1, rfl, ge26_1⟩ := k57_openM hM26; have HP26 := Kd.S_seg hH26 (by omega) (by have h_ : (0 : Int) < ((t732.length : Int) : Int) := of_decide_eq_true as_; first | exact h_ | (have e_ := (Kd.S_reads' HO_3.out).1; omega) | simpa using h_) (seg := [.int .i64 t742]) (j := 0) (show 1 <= 2 from by decide) (x' := (⟨t742, (rd_T57 t732 0).f1⟩ : S57)) (k57_mkM _ _ _ (⟨t742, (rd_T57 t732 0).f1⟩ : S57) (Kd.R_mono ge26_1 (fun _ h_ => Or.inl h_))) (fun _ hk => hk) (fun k_ hk_ => hk_.elim); have hx26_0 := hcc26 0 _ rfl; (try simp only [show (k57).sz = 2 from rfl, Nat.mul_one, Nat.add_zero] at hx26_0); (try rw [show ((0 : Int)).toNat = 0 from rfl] at hx26_0); (try simp only [Nat.reduceMul, Nat.zero_mul, Nat.zero_add, Nat.reduceAdd] at hx26_0); have hf26_0 := hfr26 0; (try simp only [show (k57).sz = 2 from rfl, Nat.mul_one, Nat.add_zero] at hf26_0); (try rw [show ((0 : Int)).toNat = 0 from rfl] at hf26_0); (try simp only [Nat.reduceMul, Nat.zero_mul, Nat.zero_add, Nat.reduceAdd] at hf26_0); clear hcl26 hcc26 hfr26 hoki26 hH26; (try clear hM26)) | ((with_reducible refine gate_store (t := 3) (p := 26) rfl ?_); refine store_event (t := 3) (p := 26) (v := ?vo_w27) (w1 := (w25.setCell ⟨go21, 0, none⟩ (.int .i64 t742))) ?hg ?ho ?hn ?hr ?_; (case ho => rfl); (case hg => rfl); (case hn => rfl); (case hr => first | (go_simp; done) | (go_simp; rfl)); intro w27 hw; have hg : w25.grownBy w27 (some go21) := (by rw [hw]; exact HP26.2); have hp_ : Kd.S k57 57 w27 w.heap.size (fun k_ => some k_ ≠ (.slice Ao24 y739.length co24 : Value).ownBlock) (.slice (some ⟨go21, 0, none⟩) t732.length co21) y745 := (by rw [hw, Ny745.out]; exact HP26.1); clear HP26; have n0_ := Aside0.mk (hp_); have n1_ := Aside0.mk (IsS87.grown (q86_0 HI0.out) hg (IsS87.own_neS HI0.out HO_3.out (by decide))); have n2_ := Aside0.mk (Kd.R_over' (v := (.slice (some ⟨go21, 0, none⟩) t732.length co21)) (rk_ HO741.out) (Kd.S_typed HO_3.out) (by decide) hg); have n3_ := Aside0.mk ((by rw [hw]; exact below_set (HB.out) (Nat.le_trans HL.out GB21.out) : Below w0.heap.size w0 w27)); have n4_ := Aside0.mk (KeepBut.trans (q86_2 HK.out) (KeepBut.of_grown hg g) (Kd.S_base2 HO_3.out)); clear HO_3; clear HI0; clear HO741; clear HB; clear HK; have HO_3 := n0_; have HI0 := n1_; have HO741 := n2_; have HB := n3_; have HK := n4_; clear n0_ n1_ n2_ n3_ n4_; clear hg hw hp_))
     go_ret
     exact ⟨_, ew_, by (with_reducible repeat (first | apply Kd.S_alloc | apply Kd.S_drewN | apply Kd.S_drew)); exact Kd.S_mono HO_3.out (fun _ hk => trivial), by repeat (first | (with_reducible first | exact HI0.out | apply IsS87.alloc | apply IsS87.drewN | apply IsS87.drew | apply IsS87.set_1 | apply IsS87.set_2) | exact HI0.out), by repeat (first | (with_reducible first | exact HB.out | apply below_alloc | apply pw_below_drewN | apply below_drew1 | refine below_set ?_ (IsS87.ge HI0.out)) | exact HB.out), by repeat (first | (with_reducible first | exact HK.out | apply KeepBut.set_ | apply keep_drewN | apply keep_drew | apply keep_alloc) | exact HK.out)⟩
    ·rw [if_neg c20] at H
     exact absurd H (by simp)
   ·replace c18 := Bool.eq_false_iff.mpr c18
    subst c18
    have H1 : (some (t732, x1001_4, x1002_4)) = some (r1, r2, r3) := by rw [if_neg (show ¬ (false = true) by decide)] at H; exact H
    clear H
    have H := H1
    clear H1
    simp only [Option.some.injEq, Prod.mk.injEq] at H
    obtain ⟨rfl, rfl, rfl⟩ := H
    go_wp2
    go_ret
    exact ⟨_, ew_, by (with_reducible repeat (first | apply Kd.S_alloc | apply Kd.S_drewN | apply Kd.S_drew)); exact HO_3.out, by repeat (first | (with_reducible first | exact HI0.out | apply IsS87.alloc | apply IsS87.drewN | apply IsS87.drew | apply IsS87.set_1 | apply IsS87.set_2) | exact HI0.out), by repeat (first | (with_reducible first | exact HB.out | apply below_alloc | apply pw_below_drewN | apply below_drew1 | refine below_set ?_ (IsS87.ge HI0.out)) | exact HB.out), by repeat (first | (with_reducible first | exact HK.out | apply KeepBut.set_ | apply keep_drewN | apply keep_drew | apply keep_alloc) | exact HK.out)⟩
theorem q51_0 {p0 q : Prop} (h0 : p0) (h : p0 -> q := by intro q0_; repeat (first | (with_reducible first | exact q0_ | apply IsS87.alloc | apply IsS87.drewN | apply IsS87.drew | apply IsS87.set_1 | apply IsS87.set_2) | exact q0_)) : q := h h0
theorem q51_1 {p0 p1 q : Prop} (h0 : p0) (h1 : p1) (h : p0 -> p1 -> q := by intro q0_ q1_; repeat (first | (with_reducible first | exact q0_ | apply below_alloc | apply pw_below_drewN | apply below_drew1 | refine below_set ?_ (IsS87.ge q1_)) | exact q0_)) : q := h h0 h1
def spec_DrawMeetPosts.f (k : Nat) (l0 : List Int) : Option ((List (S57)) × (List (S57)) × Int) := (spec_l1Cur_posts.f k l0 0 0).bind fun bt757 => ((spec_l1Cur_posts.f k l0 bt757.2.1 bt757.2.2).bind fun bt762 => ((spec_l1Cur_among.f l0 bt762.2.1 bt762.2.2 (([(-21), (-1), 0, 1, 1, 2, 20, 21] : List Int))).bind fun bt770 => (some (bt757.1, bt762.1, bt770.1))))
theorem spec_DrawMeetPosts.mono : ∀ a0 k, LeO (spec_DrawMeetPosts.f k a0) (spec_DrawMeetPosts.f (k + 1) a0) := by
 intro a0 k
 unfold spec_DrawMeetPosts.f
 repeat' (with_reducible first | exact spec_l1Cur_posts.mono _ _ _ _ | exact LeO.refl _ | exact LeO.none _ | refine LeO.ite ?_ ?_ | refine LeO.bind ?_ (fun _ => ?_))
theorem spec_DrawMeetPosts.calls (k : Nat) (A0 : Option Addr) (c0 : Nat) (l0 : List Int) (r1 : List (S57)) (r2 : List (S57)) (r3 : Int) (w : World) (hr0 : Kd.C (Kd.int .u8) w A0 l0.length l0) (hc0 : l0.length <= c0) (h : spec_DrawMeetPosts.f k l0 = some (r1, r2, r3)) :
  Calls Try.prog 51 #[.slice A0 l0.length c0] w fun e w' => ∃ v0_ v1_ : Value, e = .returned (.tuple #[v0_, v1_, .int .i64 r3]) /\ Kd.S k57 57 w' w.heap.size (fun k_ => some k_ ≠ (v1_ : Value).ownBlock) v0_ r1 /\ Kd.S k57 57 w' w.heap.size (fun k_ => some k_ ≠ (v0_ : Value).ownBlock) v1_ r2 /\ Below w.heap.size w w' := by
 have hu87 := Try.underlying87
 have HR0 := Aside0.mk hr0
 have HC0 := Aside0.mk hc0
 clear hr0 hc0
 have HB := Aside0.mk (Below.refl w.heap.size w)
 have H : ((spec_l1Cur_posts.f k l0 0 0).bind fun bt757 => ((spec_l1Cur_posts.f k l0 bt757.2.1 bt757.2.2).bind fun bt762 => ((spec_l1Cur_among.f l0 bt762.2.1 bt762.2.2 (([(-21), (-1), 0, 1, 1, 2, 20, 21] : List Int))).bind fun bt770 => (some (bt757.1, bt762.1, bt770.1))))) = some (r1, r2, r3) := h
 clear h
 replace H := Option.bind_eq_some_iff.mp H
 obtain ⟨⟨t757, t760, t761⟩, A20, H⟩ := H
 replace H : ((spec_l1Cur_posts.f k l0 t760 t761).bind fun bt762 => ((spec_l1Cur_among.f l0 bt762.2.1 bt762.2.2 (([(-21), (-1), 0, 1, 1, 2, 20, 21] : List Int))).bind fun bt770 => (some (t757, bt762.1, bt770.1)))) = some (r1, r2, r3) := H
 have A2 := Aside0.mk A20
 clear A20
 replace H := Option.bind_eq_some_iff.mp H
 obtain ⟨⟨t762, t765, t766⟩, A30, H⟩ := H
 replace H : ((spec_l1Cur_among.f l0 t765 t766 (([(-21), (-1), 0, 1, 1, 2, 20, 21] : List Int))).bind fun bt770 => (some (t757, t762, bt770.1))) = some (r1, r2, r3) := H
 have A3 := Aside0.mk A30
 clear A30
 obtain ⟨y767, hy767⟩ : ∃ y_ : List Int, y_ = (([(-21), (-1), 0, 1, 1, 2, 20, 21] : List Int)) := ⟨_, rfl⟩
 replace H : ((spec_l1Cur_among.f l0 t765 t766 y767).bind fun bt770 => (some (t757, t762, bt770.1))) = some (r1, r2, r3) := by first | (rw [hy767]; with_reducible exact H) | (have H2_ := (Option.bind_some _ _).symm.trans H; rw [hy767]; with_reducible exact H2_) | (have H2_ := (Option.bind_some _ _).symm.trans H; with_reducible exact H2_) | with_reducible exact H | (rw [hy767]; exact H) | exact H
 have Ny767 := Aside0.mk hy767
 clear hy767
 replace H := Option.bind_eq_some_iff.mp H
 obtain ⟨⟨t770, t771, t772⟩, A40, H⟩ := H
 replace H : (some (t757, t762, t770)) = some (r1, r2, r3) := H
 have A4 := Aside0.mk A40
 clear A40
 simp only [Option.some.injEq, Prod.mk.injEq] at H
 obtain ⟨rfl, rfl, rfl⟩ := H
 go_enter Try.func51, Try.ntmps51
 go_wp2_with (first | ((with_reducible refine gate_dst (N := 8) rfl ?_); refine box_event ?hg (N := 8) ?hd (cs := #[.slice A0 l0.length c0, .int .i64 0, .int .u64 0]) (t := 87) ?hr ?_; (case hd => rfl); (case hg => rfl); (case hr => first | (go_simp; done) | (go_simp; rfl)); intro gb756 hg w5 hbox hb; have n0_ := Aside0.mk (bs_ HB.out hb); have n1_ := Aside0.mk ((⟨_, _, hbox, (by rw [hg]; exact (bw_ HB.out)), HR0.out⟩ : IsS87 w w5 gb756 l0 0 0)); have n2_ := Aside0.mk ((by rw [hg]; exact (bw_ HB.out) : w.heap.size <= gb756)); have n3_ := Aside0.mk ((by rw [hg]; exact (bw_ HB.out) : w.heap.size <= gb756)); clear HB; have HB := n0_; have HI756 := n1_; have GW756 := n2_; have GE756 := n3_; clear n0_ n1_ n2_ n3_; clear hb hbox hg) | ((with_reducible refine gate_callee (f := 86) rfl ?_); refine goesL_ (some 10) rfl rfl Try.func86 (by kernel_rfl) rfl #[.pointer (some ⟨gb756, 0, none⟩)] rfl (ag_) ?_; (with_reducible refine (spec_l1Cur_posts.calls k gb756 l0 0 0 t757 t760 t761 w _ ?side1 ?side2 A2.out).mono ?_); (case side1 => exact q51_0 HI756.out); (case side2 => exact q51_1 HB.out HI756.out); rintro e w6 ⟨v758, rfl, ho0, hi, hb, hk⟩; refine ⟨_, rfl, ?_⟩; have n0_ := Aside0.mk (Kd.S_lower ho0 (below_size (q51_1 HB.out HI756.out))); have n1_ := Aside0.mk (hb); have n2_ := Aside0.mk (hi); clear HB; clear HI756; have HO759 := n0_; have HB := n1_; have HI756 := n2_; clear n0_ n1_ n2_; (try clear hb); (try clear hb2); (try clear hk); (try clear hi); (try clear ho0)) | ((with_reducible refine gate_callee (f := 86) rfl ?_); refine goesL_ (some 12) rfl rfl Try.func86 (by kernel_rfl) rfl #[.pointer (some ⟨gb756, 0, none⟩)] rfl (ag_) ?_; (with_reducible refine (spec_l1Cur_posts.calls k gb756 l0 t760 t761 t762 t765 t766 w _ ?side1 ?side2 A3.out).mono ?_); (case side1 => exact q51_0 HI756.out); (case side2 => exact q51_1 HB.out HI756.out); rintro e w7 ⟨v763, rfl, ho0, hi, hb, hk⟩; refine ⟨_, rfl, ?_⟩; have n0_ := Aside0.mk (Kd.S_mono (Kd.S_told (Kd.S_oldK (IsS87.apartS (show IsS87 w _ gb756 l0 t760 t761 from by repeat (first | (with_reducible first | exact HI756.out | apply IsS87.alloc | apply IsS87.drewN | apply IsS87.drew | apply IsS87.set_1 | apply IsS87.set_2) | exact HI756.out)) (sk_ HO759.out) (by decide)) hk) (Kd.S_base ho0)) (fun _ h_ => h_.1)); have n1_ := Aside0.mk (Kd.S_lower (Kd.S_new' ho0 (Kd.S_lt (sk_ HO759.out))) (below_size (q51_1 HB.out HI756.out))); have n2_ := Aside0.mk (hb); have n3_ := Aside0.mk (hi); clear HO759; clear HB; clear HI756; have HO759 := n0_; have HO764 := n1_; have HB := n2_; have HI756 := n3_; clear n0_ n1_ n2_ n3_; (try clear hb); (try clear hb2); (try clear hk); (try clear hi); (try clear ho0)) | ((with_reducible refine gate_dst (N := 14) rfl ?_); refine Kd.R_lit (Kd.int .i64) _ 3 ?hg (N := 14) ?hd (xs := ([(-21), (-1), 0, 1, 1, 2, 20, 21] : List Int)) (inner := [.int .i64 (-21), .int .i64 (-1), .int .i64 0, .int .i64 1, .int .i64 1, .int .i64 2, .int .i64 20, .int .i64 21]) (ok := fun _ => True) (okp := fun _ => True) ?hr ?hp (fun _ hk => hk) trivial (Below.refl _ _) (Nat.le_refl _) (by simp) ?_; (case hd => rfl); (case hg => rfl); (case hr => first | (go_simp; done) | (go_simp; rfl)); (case hp => exact (Reps.one (show Kd.M (Kd.int .i64) _ _ _ (-21) [.int .i64 (-21)] from rfl) (Reps.one (show Kd.M (Kd.int .i64) _ _ _ (-1) [.int .i64 (-1)] from rfl) (Reps.one (show Kd.M (Kd.int .i64) _ _ _ 0 [.int .i64 0] from rfl) (Reps.one (show Kd.M (Kd.int .i64) _ _ _ 1 [.int .i64 1] from rfl) (Reps.one (show Kd.M (Kd.int .i64) _ _ _ 1 [.int .i64 1] from rfl) (Reps.one (show Kd.M (Kd.int .i64) _ _ _ 2 [.int .i64 2] from rfl) (Reps.one (show Kd.M (Kd.int .i64) _ _ _ 20 [.int .i64 20] from rfl) (Reps.one (show Kd.M (Kd.int .i64) _ _ _ 21 [.int .i64 21] from rfl) (Reps.none _ _)))))))))); intro v768 w8 ho9 hb hg_ hnew_; clear hg_ hnew_; (first | rw [<- Ny767.out] at ho9 | (simp only [Int.reduceToNat] at ho9; rw [<- Ny767.out] at ho9)); have n0_ := Aside0.mk (Kd.S_elder' (sk_ HO759.out) (Kd.R_base ho9) hb); have n1_ := Aside0.mk (Kd.S_elder' (sk_ HO764.out) (Kd.R_base ho9) hb); have n2_ := Aside0.mk (Kd.R_lower ho9 (below_size (q51_1 HB.out HI756.out))); have n3_ := Aside0.mk (IsS87.below (q51_0 HI756.out) hb); have n4_ := Aside0.mk (below_step (q51_1 HB.out HI756.out) hb); clear HO759; clear HO764; clear HI756; clear HB; have HO759 := n0_; have HO764 := n1_; have HO769 := n2_; have HI756 := n3_; have HB := n4_; clear n0_ n1_ n2_ n3_ n4_; clear hb ho9; obtain ⟨Ao10, co10, eo10⟩ := Kd.R_slice HO769.out; subst eo10) | ((with_reducible refine gate_callee (f := 85) rfl ?_); refine goesL_ (some 15) rfl rfl Try.func85 (by kernel_rfl) rfl #[.pointer (some ⟨gb756, 0, none⟩), .slice Ao10 y767.length co10] rfl (ag_) ?_; (with_reducible refine (spec_l1Cur_among.calls gb756 l0 t765 t766 _ _ y767 t770 t771 t772 w _ ?side1 ?side2 ?side3 ?side4 ?side5 A4.out).mono ?_); (case side1 => exact q51_0 HI756.out); (case side2 => exact q51_1 HB.out HI756.out); (case side3 => refine cd_ ?_; exact (Kd.R_reads' HO769.out).2.2); (case side4 => exact (Kd.R_reads' HO769.out).2.1); (case side5 => exact far_slice (IsS87.own_ne HI756.out HO769.out (by decide))); rintro e w11 ⟨rfl, hi, hb, hk⟩; refine ⟨_, rfl, ?_⟩; have n0_ := Aside0.mk (Kd.S_mono (Kd.S_keep (IsS87.apartS (show IsS87 w _ gb756 l0 t765 t766 from by repeat (first | (with_reducible first | exact HI756.out | apply IsS87.alloc | apply IsS87.drewN | apply IsS87.drew | apply IsS87.set_1 | apply IsS87.set_2) | exact HI756.out)) (sk_ HO759.out) (by decide)) hk (fun _ h => h.2)) (fun _ h => h.1)); have n1_ := Aside0.mk (Kd.S_mono (Kd.S_keep (IsS87.apartS (show IsS87 w _ gb756 l0 t765 t766 from by repeat (first | (with_reducible first | exact HI756.out | apply IsS87.alloc | apply IsS87.drewN | apply IsS87.drew | apply IsS87.set_1 | apply IsS87.set_2) | exact HI756.out)) (sk_ HO764.out) (by decide)) hk (fun _ h => h.2)) (fun _ h => h.1)); have n2_ := Aside0.mk (Kd.R_mono (Kd.R_keep (IsS87.apart (show IsS87 w _ gb756 l0 t765 t766 from by repeat (first | (with_reducible first | exact HI756.out | apply IsS87.alloc | apply IsS87.drewN | apply IsS87.drew | apply IsS87.set_1 | apply IsS87.set_2) | exact HI756.out)) (rk_ HO769.out) (by decide)) hk (fun _ h => h.2)) (fun _ h => h.1)); have n3_ := Aside0.mk (hb); have n4_ := Aside0.mk (hi); clear HO759; clear HO764; clear HO769; clear HB; clear HI756; have HO759 := n0_; have HO764 := n1_; have HO769 := n2_; have HB := n3_; have HI756 := n4_; clear n0_ n1_ n2_ n3_ n4_; (try clear hb); (try clear hb2); (try clear hk); (try clear hi)))
 go_ret3
 exact ⟨_, _, ew_, by (with_reducible repeat (first | apply Kd.S_alloc | apply Kd.S_drewN | apply Kd.S_drew)); exact Kd.S_mono HO759.out (fun _ hk => hk.1.2), by (with_reducible repeat (first | apply Kd.S_alloc | apply Kd.S_drewN | apply Kd.S_drew)); exact Kd.S_mono HO764.out (fun _ hk => hk.1.2), by repeat (first | (with_reducible first | exact HB.out | apply below_alloc | apply pw_below_drewN | apply below_drew1 | refine below_set ?_ (IsS87.ge HI756.out)) | exact HB.out)⟩
def idxQ (q : Int -> Bool) : List Int -> Nat -> Int
  | [], _ => -1
  | x :: t, i => if q x = true then (i : Int) else idxQ q t (i + 1)
theorem idxQ_iff (q : Int -> Bool) (xs : List Int) : ∀ i, idxQ q xs i ≥ 0 ↔ xs.any q = true := by
  induction xs with
  | nil => intro i; simp [idxQ]
  | cons x t ih =>
    intro i
    by_cases h : q x = true
    · have e : idxQ q (x :: t) i = (i : Int) := by simp only [idxQ]; rw [if_pos h]
      rw [e, List.any_cons, h, Bool.true_or]
      exact ⟨fun _ => rfl, fun _ => by omega⟩
    · have e : idxQ q (x :: t) i = idxQ q t (i + 1) := by simp only [idxQ]; rw [if_neg h]
      rw [e, List.any_cons, Bool.eq_false_iff.mpr h, Bool.false_or]
      exact ih (i + 1)
theorem idxQ_any (q : Int -> Bool) (xs : List Int) (i : Nat) : decide (idxQ q xs i ≥ 0) = xs.any q := by
  rw [Bool.eq_iff_iff, decide_eq_true_iff]
  exact idxQ_iff q xs i
def nearQ (b x q : Int) : Bool := (x != q) && (decide (wrap64 (-b) <= wrap64 (x - q)) && decide (wrap64 (x - q) <= b))
theorem within_some (a b c : Int) : impl_within.f a b c = some (decide (b <= a) && decide (a <= c)) := by
  unfold impl_within.f
  by_cases h : a ≥ b
  · rw [if_pos h, decide_eq_true (show b <= a from h), Bool.true_and]
  · rw [if_neg h, decide_eq_false (show ¬ b <= a from h), Bool.false_and]
theorem near11_calls (W : World) (p n : Addr) (x b q : Int) (hp : W.cell? p = some (.int .i64 x)) (hn : W.cell? n = some (.int .i64 b)) :
    Calls Try.prog 78 #[.int .i64 q, .pointer (some p), .pointer (some n)] W fun e w' => e = .returned (.bool (nearQ b x q)) /\ Below W.heap.size W w' := by
  have hw := Aside0.mk (within_some (wrap64 (x - q)) (wrap64 (-b)) b)
  by_cases hx : x = q
  · have c0 : (x == q) = true := beq_iff_eq.mpr hx
    have c1 : (x != q) = false := bne_eq_false_iff_eq.mpr hx
    have e0 := Aside0.mk (show nearQ b x q = false by unfold nearQ; rw [c1, Bool.false_and])
    clear hx hw
    go_enter Try.func78, Try.ntmps78
    go_wp2
    go_ret
    exact ⟨by rw [e0.out]; first | rfl | (simp; done), Below.refl _ _⟩
  · have c0 : (x == q) = false := beq_eq_false_iff_ne.mpr hx
    have c1 : (x != q) = true := bne_iff_ne.mpr hx
    have e0 := Aside0.mk (show nearQ b x q = (decide (wrap64 (-b) <= wrap64 (x - q)) && decide (wrap64 (x - q) <= b)) by unfold nearQ; rw [c1, Bool.true_and])
    clear hx
    go_enter Try.func78, Try.ntmps78
    go_wp2_with (go_at_call 70; (with_reducible refine (impl_within.calls _ _ _ _ _ hw.out).mono ?_); rintro e w' ⟨rfl, ⟨nd, rfl⟩⟩)
    go_ret
    exact ⟨by rw [e0.out]; first | rfl | (simp; done), pw_below_drewN (Below.refl _ _) _⟩
theorem idx78_calls (A0 : Option Addr) (c0 : Nat) (xs : List Int) (w : World) (hr0 : Kd.C (Kd.int .i64) w A0 xs.length xs) (hc0 : xs.length <= c0) (p n : Addr) (q : Int -> Bool)
    (hcall : ∀ (W : World) (x : Int), Below w.heap.size w W -> Calls Try.prog 78 #[.int .i64 x, .pointer (some p), .pointer (some n)] W fun e w' => e = .returned (.bool (q x)) /\ Below W.heap.size W w') :
    Calls Try.prog 104 #[.slice A0 xs.length c0, .func (.func 78) #[] #[.pointer (some p), .pointer (some n)]] w fun e w' => e = .returned (.int .i64 (idxQ q xs 0)) /\ Below w.heap.size w w' := by
  have HR0 := Aside0.mk hr0
  have HCALL := Aside0.mk hcall
  have hmax := hr0.2.1
  clear hr0 hcall
  go_enter Try.func104, Try.ntmps104
  go_wp2
  go_loopg [8] (xs.length + 1) (fun kq v8 w' => ∃ i : Nat, v8 = .int .i64 (i : Int) /\ Aside0 (idxQ q (xs.drop i) i = idxQ q xs 0) /\ Aside0 (i <= xs.length /\ xs.length + 1 <= kq + i) /\ Aside0 (Below w.heap.size w w'))
  case atStart => exact ⟨0, rfl, ⟨rfl⟩, ⟨by omega, by omega⟩, ⟨Below.refl _ w⟩⟩
  case round =>
    obtain ⟨i, rfl, HI, HK, HB⟩ := hrel
    by_cases hlt : i < xs.length
    · have c1b : decide ((i : Int) < (xs.length : Int)) = true := decide_eq_true (by omega)
      have c2b : decide (0 <= (i : Int)) = true := decide_eq_true (by omega)
      obtain ⟨ad, e0, hx⟩ := Kd.at_int (Kd.C_below HR0.out HB.out) (i : Int) (by omega) (by omega)
      have hxi : xs[i]? = some xs[i] := List.getElem?_eq_getElem hlt
      have erd : rd xs (i : Int) = xs[i] := Pure.rd_at hxi
      rw [erd, Int.toNat_natCast] at hx
      cases e0
      have hcall := HCALL.out _ xs[i] HB.out
      have hd : xs.drop i = xs[i] :: xs.drop (i + 1) := List.drop_eq_getElem_cons hlt
      have HI2 := HI.out
      rw [hd] at HI2
      generalize xs[i] = x at hx hcall HI2
      clear hxi erd hd
      cases hm : q x with
      | true =>
        rw [hm] at hcall
        simp only [idxQ] at HI2
        rw [if_pos hm] at HI2
        replace HI2 := Aside0.mk HI2
        replace hm := Aside0.mk hm
        go_wp2_with (go_at_call 78; (with_reducible refine hcall.mono ?_); rintro e w' ⟨rfl, hb⟩)
        go_ret
        exact ⟨by rw [<- HI2.out]; first | rfl | (simp; done), below_step HB.out hb⟩
      | false =>
        rw [hm] at hcall
        simp only [idxQ] at HI2
        rw [if_neg (by rw [hm]; simp)] at HI2
        replace HI2 := Aside0.mk HI2
        replace hm := Aside0.mk hm
        go_wp2_with (go_at_call 78; (with_reducible refine hcall.mono ?_); rintro e w' ⟨rfl, hb⟩)
        go_roundg (xs.length + 1 - (i + 1))
        case measure => have := HK.out; omega
        case rel => exact ⟨i + 1, by first | rfl | (simp; done) | (simp [Pure.wrap_succ (i := i) (by omega)]; done), HI2, ⟨by omega, by omega⟩, ⟨below_step HB.out hb⟩⟩
    · have c1b : decide ((i : Int) < (xs.length : Int)) = false := decide_eq_false (by omega)
      have c1n : decide (i < xs.length) = false := decide_eq_false hlt
      have c1m : ¬ ((i : Int) < (xs.length : Int)) := by omega
      have HI2 := HI.out
      rw [List.drop_eq_nil_of_le (by omega)] at HI2
      replace HI2 := Aside0.mk HI2
      go_wp2
      go_ret
      exact ⟨by rw [<- HI2.out]; first | rfl | (simp; done), HB.out⟩
theorem has78_calls (A0 : Option Addr) (c0 : Nat) (xs : List Int) (w : World) (hr0 : Kd.C (Kd.int .i64) w A0 xs.length xs) (hc0 : xs.length <= c0) (p n : Addr) (q : Int -> Bool)
    (hcall : ∀ (W : World) (x : Int), Below w.heap.size w W -> Calls Try.prog 78 #[.int .i64 x, .pointer (some p), .pointer (some n)] W fun e w' => e = .returned (.bool (q x)) /\ Below W.heap.size W w') :
    Calls Try.prog 76 #[.slice A0 xs.length c0, .func (.func 78) #[] #[.pointer (some p), .pointer (some n)]] w fun e w' => e = .returned (.bool (xs.any q)) /\ Below w.heap.size w w' := by
  have h := Aside0.mk (idx78_calls A0 c0 xs w hr0 hc0 p n q hcall)
  have e1 := Aside0.mk (idxQ_any q xs 0)
  clear hr0 hc0 hcall
  go_enter Try.func76, Try.ntmps76
  go_wp2_with (go_at_call 104; (with_reducible refine h.out.mono ?_); rintro e w' ⟨rfl, hb⟩)
  go_ret
  exact ⟨by rw [<- e1.out]; first | rfl | (simp; done), hb⟩
theorem near1_calls (W : World) (t n : Addr) (A : Option Addr) (c : Nat) (ys : List Int) (b x : Int) (ht : W.cell? t = some (.slice A ys.length c)) (hC : Kd.C (Kd.int .i64) W A ys.length ys) (hc : ys.length <= c) (hn : W.cell? n = some (.int .i64 b)) :
    Calls Try.prog 77 #[.int .i64 x, .pointer (some t), .pointer (some n)] W fun e w' => e = .returned (.bool (ys.any (nearQ b x))) /\ Below W.heap.size W w' := by
  have HT := Aside0.mk ht
  have HN := Aside0.mk hn
  have HC := Aside0.mk hC
  clear ht hn hC
  go_enter Try.func77, Try.ntmps77
  go_upto_region 1 with (first | ((with_reducible refine gate_dst (N := 3) rfl ?_); refine box_event ?hg (N := 3) ?hd (cs := #[.int .i64 x]) (t := 3) ?hr ?_; (case hd => rfl); (case hg => rfl); (case hr => first | (go_simp; done) | (go_simp; rfl)); intro g hga w1 hbox hb; have BA := Aside0.mk hbox; have HB1 := Aside0.mk hb; clear hbox hb hga))
  have hx1 : w1.cell? ⟨g, 0, none⟩ = some (.int .i64 x) := (blk_cell BA.out 0).trans rfl
  have hn1 : w1.cell? n = some (.int .i64 b) := (HB1.out.cell (World.block_lt_of_cell? W _ HN.out)).trans HN.out
  have ht1 : w1.cell? t = some (.slice A ys.length c) := (HB1.out.cell (World.block_lt_of_cell? W _ HT.out)).trans HT.out
  have hcall := Aside0.mk (has78_calls A c ys w1 (Kd.C_below HC.out HB1.out) hc ⟨g, 0, none⟩ n (nearQ b x) (fun W' y hb => near11_calls W' ⟨g, 0, none⟩ n x b y ((hb.cell (World.block_lt_of_cell? w1 _ hx1)).trans hx1) ((hb.cell (World.block_lt_of_cell? w1 _ hn1)).trans hn1)))
  clear hx1 hn1
  go_wp2_with (go_at_call 76; (with_reducible refine hcall.out.mono ?_); rintro e w' ⟨rfl, hb⟩)
  go_ret
  exact ⟨by first | rfl | (simp; done), below_step HB1.out hb⟩
theorem idx77_calls (A0 : Option Addr) (c0 : Nat) (xs : List Int) (w : World) (hr0 : Kd.C (Kd.int .i64) w A0 xs.length xs) (hc0 : xs.length <= c0) (p n : Addr) (q : Int -> Bool)
    (hcall : ∀ (W : World) (x : Int), Below w.heap.size w W -> Calls Try.prog 77 #[.int .i64 x, .pointer (some p), .pointer (some n)] W fun e w' => e = .returned (.bool (q x)) /\ Below W.heap.size W w') :
    Calls Try.prog 104 #[.slice A0 xs.length c0, .func (.func 77) #[] #[.pointer (some p), .pointer (some n)]] w fun e w' => e = .returned (.int .i64 (idxQ q xs 0)) /\ Below w.heap.size w w' := by
  have HR0 := Aside0.mk hr0
  have HCALL := Aside0.mk hcall
  have hmax := hr0.2.1
  clear hr0 hcall
  go_enter Try.func104, Try.ntmps104
  go_wp2
  go_loopg [8] (xs.length + 1) (fun kq v8 w' => ∃ i : Nat, v8 = .int .i64 (i : Int) /\ Aside0 (idxQ q (xs.drop i) i = idxQ q xs 0) /\ Aside0 (i <= xs.length /\ xs.length + 1 <= kq + i) /\ Aside0 (Below w.heap.size w w'))
  case atStart => exact ⟨0, rfl, ⟨rfl⟩, ⟨by omega, by omega⟩, ⟨Below.refl _ w⟩⟩
  case round =>
    obtain ⟨i, rfl, HI, HK, HB⟩ := hrel
    by_cases hlt : i < xs.length
    · have c1b : decide ((i : Int) < (xs.length : Int)) = true := decide_eq_true (by omega)
      have c2b : decide (0 <= (i : Int)) = true := decide_eq_true (by omega)
      obtain ⟨ad, e0, hx⟩ := Kd.at_int (Kd.C_below HR0.out HB.out) (i : Int) (by omega) (by omega)
      have hxi : xs[i]? = some xs[i] := List.getElem?_eq_getElem hlt
      have erd : rd xs (i : Int) = xs[i] := Pure.rd_at hxi
      rw [erd, Int.toNat_natCast] at hx
      cases e0
      have hcall := HCALL.out _ xs[i] HB.out
      have hd : xs.drop i = xs[i] :: xs.drop (i + 1) := List.drop_eq_getElem_cons hlt
      have HI2 := HI.out
      rw [hd] at HI2
      generalize xs[i] = x at hx hcall HI2
      clear hxi erd hd
      cases hm : q x with
      | true =>
        rw [hm] at hcall
        simp only [idxQ] at HI2
        rw [if_pos hm] at HI2
        replace HI2 := Aside0.mk HI2
        replace hm := Aside0.mk hm
        go_wp2_with (go_at_call 77; (with_reducible refine hcall.mono ?_); rintro e w' ⟨rfl, hb⟩)
        go_ret
        exact ⟨by rw [<- HI2.out]; first | rfl | (simp; done), below_step HB.out hb⟩
      | false =>
        rw [hm] at hcall
        simp only [idxQ] at HI2
        rw [if_neg (by rw [hm]; simp)] at HI2
        replace HI2 := Aside0.mk HI2
        replace hm := Aside0.mk hm
        go_wp2_with (go_at_call 77; (with_reducible refine hcall.mono ?_); rintro e w' ⟨rfl, hb⟩)
        go_roundg (xs.length + 1 - (i + 1))
        case measure => have := HK.out; omega
        case rel => exact ⟨i + 1, by first | rfl | (simp; done) | (simp [Pure.wrap_succ (i := i) (by omega)]; done), HI2, ⟨by omega, by omega⟩, ⟨below_step HB.out hb⟩⟩
    · have c1b : decide ((i : Int) < (xs.length : Int)) = false := decide_eq_false (by omega)
      have c1n : decide (i < xs.length) = false := decide_eq_false hlt
      have c1m : ¬ ((i : Int) < (xs.length : Int)) := by omega
      have HI2 := HI.out
      rw [List.drop_eq_nil_of_le (by omega)] at HI2
      replace HI2 := Aside0.mk HI2
      go_wp2
      go_ret
      exact ⟨by rw [<- HI2.out]; first | rfl | (simp; done), HB.out⟩
theorem has77_calls (A0 : Option Addr) (c0 : Nat) (xs : List Int) (w : World) (hr0 : Kd.C (Kd.int .i64) w A0 xs.length xs) (hc0 : xs.length <= c0) (p n : Addr) (q : Int -> Bool)
    (hcall : ∀ (W : World) (x : Int), Below w.heap.size w W -> Calls Try.prog 77 #[.int .i64 x, .pointer (some p), .pointer (some n)] W fun e w' => e = .returned (.bool (q x)) /\ Below W.heap.size W w') :
    Calls Try.prog 76 #[.slice A0 xs.length c0, .func (.func 77) #[] #[.pointer (some p), .pointer (some n)]] w fun e w' => e = .returned (.bool (xs.any q)) /\ Below w.heap.size w w' := by
  have h := Aside0.mk (idx77_calls A0 c0 xs w hr0 hc0 p n q hcall)
  have e1 := Aside0.mk (idxQ_any q xs 0)
  clear hr0 hc0 hcall
  go_enter Try.func76, Try.ntmps76
  go_wp2_with (go_at_call 104; (with_reducible refine h.out.mono ?_); rintro e w' ⟨rfl, hb⟩)
  go_ret
  exact ⟨by rw [<- e1.out]; first | rfl | (simp; done), hb⟩
def impl_NearIn.l0 : Nat -> ByteArray -> ByteArray -> Int -> List Int -> List ByteArray -> Int -> Int -> Option (List Int × Bool)
  | 0, _, _, _, _, _, _, _ => none
  | k + 1, x1, x2, x3, x10, x33, x34, x35 => if x35 < x34 then (if 0 <= x35 then ((impl_words.f k (rdOf ByteArray.empty x33 x35)).bind fun t => ((impl_placesOf.f k t x2).bind fun two => ((impl_placesOf.f k t x1).bind fun one => (if (one.any fun x => two.any (nearQ x3 x)) = true then (if x10.length < 17592186044416 then (impl_NearIn.l0 k x1 x2 x3 (x10 ++ [x35]) x33 x34 (wrap64 (x35 + 1))) else none) else (impl_NearIn.l0 k x1 x2 x3 x10 x33 x34 (wrap64 (x35 + 1))))))) else none) else (some (x10, true))
def impl_NearIn.f (k : Nat) (l0 : List ByteArray) (a1 : ByteArray) (a2 : ByteArray) (a3 : Int) : Option (List Int × Bool) :=
  (impl_areDocs.f k l0).bind fun d => (if d = true then ((impl_isWord.f k a1).bind fun x => (if x = true then ((impl_isWord.f k a2).bind fun y => (if y = true then (if 1 <= a3 /\ a3 <= 20 then (impl_NearIn.l0 k a1 a2 a3 ([] : List Int) l0 (l0.length : Int) 0) else some ([], false)) else some ([], false))) else some ([], false))) else some ([], false))
theorem impl_NearIn.mono_l : ∀ k, (∀ y0 y1 y2 y3 y4 y5 y6, LeO (impl_NearIn.l0 k y0 y1 y2 y3 y4 y5 y6) (impl_NearIn.l0 (k + 1) y0 y1 y2 y3 y4 y5 y6))
  | 0 => fun _ _ _ _ _ _ _ r h => by simp [impl_NearIn.l0] at h
  | k + 1 => by
    have ih0 := impl_NearIn.mono_l k
    · intro y0 y1 y2 y3 y4 y5 y6
      unfold impl_NearIn.l0
      repeat' first
      | (with_reducible exact ih0 _ _ _ _ _ _ _)
      | (with_reducible exact impl_words.mono _ _)
      | (with_reducible exact impl_placesOf.mono _ _ _)
      | (with_reducible exact LeO.refl _)
      | (with_reducible exact LeO.none _)
      | (with_reducible refine LeO.ite ?_ ?_)
      | (with_reducible refine LeO.bind ?_ (fun _ => ?_))
      | exact ih0 _ _ _ _ _ _ _
      | exact LeO.none _
      | refine LeO.ite ?_ ?_
      | refine LeO.bind ?_ (fun _ => ?_)
theorem impl_NearIn.mono : ∀ a0 a1 a2 a3 k, LeO (impl_NearIn.f k a0 a1 a2 a3) (impl_NearIn.f (k + 1) a0 a1 a2 a3) := by
  intro a0 a1 a2 a3 k
  have ih0 := impl_NearIn.mono_l k
  unfold impl_NearIn.f
  repeat' first
      | (with_reducible exact ih0 _ _ _ _ _ _ _)
      | (with_reducible exact impl_areDocs.mono _ _)
      | (with_reducible exact impl_isWord.mono _ _)
      | (with_reducible exact LeO.refl _)
      | (with_reducible exact LeO.none _)
      | (with_reducible refine LeO.ite ?_ ?_)
      | (with_reducible refine LeO.bind ?_ (fun _ => ?_))
      | exact LeO.none _
      | refine LeO.ite ?_ ?_
      | refine LeO.bind ?_ (fun _ => ?_)
theorem impl_NearIn.calls (k : Nat) (A0 : Option Addr) (c0 : Nat) (l0 : List ByteArray) (a1 : ByteArray) (a2 : ByteArray) (a3 : Int) (r1 : List Int) (r2 : Bool) (w : World) (hr0 : Kd.C Kd.string w A0 l0.length l0) (hc0 : l0.length <= c0) (h : impl_NearIn.f k l0 a1 a2 a3 = some (r1, r2)) :
    Calls Try.prog 38 #[.slice A0 l0.length c0, .string a1, .string a2, .int .i64 a3] w fun e w' => ∃ v0_ : Value, e = .returned (.tuple #[v0_, .bool r2]) /\ Kd.R (Kd.int .i64) 3 w' w.heap.size (fun _ => True) v0_ r1 /\ Below w.heap.size w w' := by
  have HR0 := Aside0.mk hr0
  have HC0 := Aside0.mk hc0
  clear hr0 hc0
  have hw := Aside0.mk (within_some a3 1 20)
  simp only [impl_NearIn.f] at h
  obtain ⟨d, ed, h⟩ := Option.bind_eq_some_iff.mp h
  have ED := Aside0.mk ed
  clear ed
  go_enter Try.func38, Try.ntmps38
  go_upto_region 1 with (first | ((with_reducible refine gate_dst (N := 7) rfl ?_); refine box_event ?hg (N := 7) ?hd (cs := #[.int .i64 a3]) (t := 3) ?hr ?_; (case hd => rfl); (case hg => rfl); (case hr => first | (go_simp; done) | (go_simp; rfl)); intro g hga w1 hbox hb; have BA := Aside0.mk hbox; have GA := Aside0.mk hga; have HB := Aside0.mk hb; clear hbox hb hga))
  have hn1 : w1.cell? ⟨g, 0, none⟩ = some (.int .i64 a3) := (blk_cell BA.out 0).trans rfl
  cases d with
  | false =>
    rw [if_neg (by simp)] at h
    simp only [Option.some.injEq, Prod.mk.injEq] at h
    obtain ⟨rfl, rfl⟩ := h
    go_wp2_with (go_at_call 58; (with_reducible refine (impl_areDocs.calls k A0 c0 l0 false _ (Kd.C_below HR0.out HB.out) HC0.out ED.out).mono ?_); rintro e w2 ⟨rfl, hb⟩)
    go_ret2
    exact ⟨_, rfl, Kd.R_nil _ _ _ _ _, below_step HB.out hb⟩
  | true =>
    rw [if_pos rfl] at h
    obtain ⟨x, ex, h⟩ := Option.bind_eq_some_iff.mp h
    have EX := Aside0.mk ex
    clear ex
    cases x with
    | false =>
      rw [if_neg (by simp)] at h
      simp only [Option.some.injEq, Prod.mk.injEq] at h
      obtain ⟨rfl, rfl⟩ := h
      go_wp2_with (first | (go_at_call 58; (with_reducible refine (impl_areDocs.calls k A0 c0 l0 true _ (Kd.C_below HR0.out HB.out) HC0.out ED.out).mono ?_); rintro e w2 ⟨rfl, hb⟩; have HB2 := Aside0.mk (below_step HB.out hb); clear hb) | (go_at_call 59; (with_reducible refine (impl_isWord.calls k a1 false _ EX.out).mono ?_); rintro e w3 ⟨rfl, ⟨nd, rfl⟩⟩))
      go_ret2
      exact ⟨_, rfl, Kd.R_nil _ _ _ _ _, pw_below_drewN HB2.out _⟩
    | true =>
      rw [if_pos rfl] at h
      obtain ⟨y, ey, h⟩ := Option.bind_eq_some_iff.mp h
      have EY := Aside0.mk ey
      clear ey
      cases y with
      | false =>
        rw [if_neg (by simp)] at h
        simp only [Option.some.injEq, Prod.mk.injEq] at h
        obtain ⟨rfl, rfl⟩ := h
        go_wp2_with (first | (go_at_call 58; (with_reducible refine (impl_areDocs.calls k A0 c0 l0 true _ (Kd.C_below HR0.out HB.out) HC0.out ED.out).mono ?_); rintro e w2 ⟨rfl, hb⟩; have HB2 := Aside0.mk (below_step HB.out hb); clear hb) | (go_at_call 59; (with_reducible refine (impl_isWord.calls k a2 false _ EY.out).mono ?_); rintro e w4 ⟨rfl, ⟨nd2, rfl⟩⟩) | (go_at_call 59; (with_reducible refine (impl_isWord.calls k a1 true _ EX.out).mono ?_); rintro e w3 ⟨rfl, ⟨nd, rfl⟩⟩))
        go_ret2
        exact ⟨_, rfl, Kd.R_nil _ _ _ _ _, pw_below_drewN HB2.out _⟩
      | true =>
        rw [if_pos rfl] at h
        have e20 : wrap64 a3 = wrap64 a3 := rfl
        have hcall70 := fun W => impl_within.calls a3 1 20 _ W hw.out
        have HW := Aside0.mk hcall70
        clear hcall70 e20 hw
        by_cases hb0 : 1 <= a3 /\ a3 <= 20
        · rw [if_pos hb0] at h
          rw [decide_eq_true hb0.1, decide_eq_true hb0.2, Bool.true_and] at HW
          have H' := Aside0.mk h
          clear h hb0
          go_upto_region 3 with (first | (go_at_call 58; (with_reducible refine (impl_areDocs.calls k A0 c0 l0 true _ (Kd.C_below HR0.out HB.out) HC0.out ED.out).mono ?_); rintro e w2 ⟨rfl, hb⟩; have HB2 := Aside0.mk (below_step HB.out hb); have hn2 := (hb.cell (World.block_lt_of_cell? w1 _ hn1)).trans hn1; have BA2 := Aside0.mk (blk_below BA.out hb); clear hb hn1) | (go_at_call 59; (with_reducible refine (impl_isWord.calls k a2 true _ EY.out).mono ?_); rintro e w4 ⟨rfl, ⟨nd2, rfl⟩⟩) | (go_at_call 59; (with_reducible refine (impl_isWord.calls k a1 true _ EX.out).mono ?_); rintro e w3 ⟨rfl, ⟨nd, rfl⟩⟩) | (go_at_call 70; (with_reducible refine (HW.out _).mono ?_); rintro e w5 ⟨rfl, ⟨nd3, rfl⟩⟩))
          clear hn2
          go_wp2
          go_loopg [10, 35] k (fun kq v10 v35 wr => ∃ (x10 : List Int) (x35 : Int), v35 = .int .i64 x35 /\ Aside0 (impl_NearIn.l0 kq a1 a2 a3 x10 l0 (l0.length : Int) x35 = some (r1, r2)) /\ Aside0 (kq <= k) /\ Aside0 (Kd.R (Kd.int .i64) 3 wr w.heap.size (fun k => k ≠ g) v10 x10) /\ Aside0 (wr.heap[g]? = some (.cells #[.int .i64 a3] 3 (0, 0))) /\ Aside0 (Below w.heap.size w wr))
          case atStart => exact ⟨[], 0, (by first | rfl | (simp; done) | (simp [*]; done)), H', ⟨Nat.le_refl _⟩, ⟨Kd.R_nil _ _ _ _ _⟩, ⟨BA2.out⟩, ⟨by repeat (first | exact HB2.out | apply pw_below_drewN)⟩⟩
          case round =>
            clear H' BA HB HB2 BA2
            obtain ⟨x10, x35, rfl, HA, HK, HR, BA, HB⟩ := hrel
            cases gk with
            | zero => exact absurd HA.out (by simp [impl_NearIn.l0])
            | succ k1 =>
              have H := HA.out
              clear HA
              simp only [impl_NearIn.l0] at H
              by_cases c3 : x35 < (l0.length : Int)
              · rw [if_pos c3] at H
                have c3b0 : decide (x35 < (l0.length : Int)) = true := decide_eq_true c3
                by_cases c4 : 0 <= x35
                · rw [if_pos c4] at H
                  have c4b0 : decide (0 <= x35) = true := decide_eq_true c4
                  obtain ⟨ts, e1, H⟩ := Option.bind_eq_some_iff.mp H
                  obtain ⟨two, e2, H⟩ := Option.bind_eq_some_iff.mp H
                  obtain ⟨one, e3, H⟩ := Option.bind_eq_some_iff.mp H
                  have E1 := Aside0.mk e1
                  have E2 := Aside0.mk e2
                  have E3 := Aside0.mk e3
                  have HN := Aside0.mk H
                  clear e1 e2 e3 H
                  obtain ⟨ad167, e167, hx167_0⟩ := Kd.at_string (Kd.C_below HR0.out HB.out) x35 c4 c3
                  cases e167
                  replace c3 := eq_true c3
                  replace c4 := eq_true c4
                  go_upto_region 9 with (first | (go_at_call 53; (with_reducible refine (impl_words.calls k1 _ ts _ E1.out).mono ?_); rintro e w6 ⟨v6, rfl, ho, hb⟩; obtain ⟨A6, c6, rfl⟩ := Kd.R_slice ho; have HT := Aside0.mk ho; have HR6 := Aside0.mk (Kd.R_below HR.out hb); have BA6 := Aside0.mk (blk_below BA.out hb); have HB6 := Aside0.mk (below_step HB.out hb); clear ho hb) | (go_at_call 75; (with_reducible refine (impl_placesOf.calls k1 A6 c6 ts a2 two _ (Kd.R_reads' HT.out).2.2 (Kd.R_reads' HT.out).2.1 E2.out).mono ?_); rintro e w7 ⟨v7, rfl, ho, hb⟩; obtain ⟨A7, c7, rfl⟩ := Kd.R_slice ho; have HY := Aside0.mk ho; have HC6 := Aside0.mk (Kd.C_below (Kd.R_reads' HT.out).2.2 hb); have HL6 := Aside0.mk (Kd.R_reads' HT.out).2.1; have HR7 := Aside0.mk (Kd.R_below HR6.out hb); have BA7 := Aside0.mk (blk_below BA6.out hb); have HB7 := Aside0.mk (below_step HB6.out hb); clear ho hb) | ((with_reducible refine gate_dst (N := 14) rfl ?_); refine box_event ?hg (N := 14) ?hd (cs := #[.slice none 0 0]) (t := 47) ?hr ?_; (case hd => rfl); (case hg => rfl); (case hr => first | (go_simp; done) | (go_simp; rfl)); intro gy hga w8 hbox hb; have BY := Aside0.mk hbox; have GY := Aside0.mk hga; have HB8 := Aside0.mk hb; clear hbox hb hga; have zgy : w8.cell? ⟨gy, 0, none⟩ = some (.slice none 0 0) := (blk_cell BY.out 0).trans rfl; have fgy : w8.frozen? ⟨gy, 0, none⟩ = false := blk_frozen BY.out 0))
                  have hp8 : (w8.setCell ⟨gy, 0, none⟩ (.slice A7 two.length c7)).cell? ⟨gy, 0, none⟩ = some (.slice A7 two.length c7) := by first | exact World.cell?_setCell_same zgy | exact World.cell?_setCell_same _ _ _ zgy | (apply World.cell?_setCell_same; exact zgy)
                  have hb8 : Below w7.heap.size w7 (w8.setCell ⟨gy, 0, none⟩ (.slice A7 two.length c7)) := HB8.out.setCell (by have := GY.out; show w7.heap.size <= gy; omega) _
                  have HT8 := Aside0.mk (Kd.C_below HC6.out hb8)
                  have HY8 := Aside0.mk (Kd.C_below (Kd.R_reads' HY.out).2.2 hb8)
                  have HL7 := Aside0.mk (Kd.R_reads' HY.out).2.1
                  have HR8 := Aside0.mk (Kd.R_below HR7.out hb8)
                  have BA8 := Aside0.mk (blk_below BA7.out hb8)
                  have HB9 := Aside0.mk (below_step HB7.out hb8)
                  have HP8 := Aside0.mk hp8
                  clear hp8 hb8 zgy fgy BY GY HB8 HR6 HR7 BA6 BA7 HB6 HB7 HY HT HC6
                  generalize w8.setCell ⟨gy, 0, none⟩ (.slice A7 two.length c7) = W8 at HT8 HY8 HR8 BA8 HB9 HP8 ⊢
                  have hcell9 : ∀ W' : World, Below W8.heap.size W8 W' -> W'.cell? ⟨gy, 0, none⟩ = some (.slice A7 two.length c7) := fun W' hb => (hb.cell (World.block_lt_of_cell? W8 _ HP8.out)).trans HP8.out
                  have HCELL := Aside0.mk hcell9
                  clear hcell9
                  generalize hbool : (one.any fun x => two.any (nearQ a3 x)) = bb at HN
                  have HBO := Aside0.mk hbool
                  clear hbool
                  cases bb with
                  | false =>
                    rw [if_neg (by simp)] at HN
                    go_wp2_with (first | (go_at_call 75; (with_reducible refine (impl_placesOf.calls k1 A6 c6 ts a1 one _ HT8.out HL6.out E3.out).mono ?_); rintro e w9 ⟨v9, rfl, ho, hb⟩; obtain ⟨A9, c9, rfl⟩ := Kd.R_slice ho; have HO9 := Aside0.mk ho; have HBX := Aside0.mk hb; have HR9 := Aside0.mk (Kd.R_below HR8.out hb); have BA9 := Aside0.mk (blk_below BA8.out hb); have HB10 := Aside0.mk (below_step HB9.out hb); clear ho hb) | (go_at_call 76; (with_reducible refine (has77_calls A9 c9 one _ (Kd.R_reads' HO9.out).2.2 (Kd.R_reads' HO9.out).2.1 ⟨gy, 0, none⟩ ⟨g, 0, none⟩ (fun x => two.any (nearQ a3 x)) (fun W' y hb => near1_calls W' ⟨gy, 0, none⟩ ⟨g, 0, none⟩ A7 c7 two a3 y (HCELL.out W' (below_step HBX.out hb)) (Kd.C_below HY8.out (below_step HBX.out hb)) HL7.out ((blk_cell (blk_below BA9.out hb) 0).trans rfl))).mono ?_); rintro e w10 ⟨rfl, hb⟩; rw [HBO.out]; have HR10 := Aside0.mk (Kd.R_below HR9.out hb); have BA10 := Aside0.mk (blk_below BA9.out hb); have HB11 := Aside0.mk (below_step HB10.out hb); clear hb))
                    go_roundg k1
                    case measure => have := HK.out; omega
                    case rel => exact ⟨x10, wrap64 (x35 + 1), (by first | rfl | (simp; done) | (simp [*]; done)), HN, ⟨by have := HK.out; omega⟩, ⟨HR10.out⟩, ⟨BA10.out⟩, ⟨HB11.out⟩⟩
                  | true =>
                    rw [if_pos rfl] at HN
                    by_cases c7 : x10.length < 17592186044416
                    · rw [if_pos c7] at HN
                      have LM := Aside0.mk c7
                      clear c7
                      go_wp2_with (first | (go_at_call 75; (with_reducible refine (impl_placesOf.calls k1 A6 c6 ts a1 one _ HT8.out HL6.out E3.out).mono ?_); rintro e w9 ⟨v9, rfl, ho, hb⟩; obtain ⟨A9, c9, rfl⟩ := Kd.R_slice ho; have HO9 := Aside0.mk ho; have HBX := Aside0.mk hb; have HR9 := Aside0.mk (Kd.R_below HR8.out hb); have BA9 := Aside0.mk (blk_below BA8.out hb); have HB10 := Aside0.mk (below_step HB9.out hb); clear ho hb) | (go_at_call 76; (with_reducible refine (has77_calls A9 c9 one _ (Kd.R_reads' HO9.out).2.2 (Kd.R_reads' HO9.out).2.1 ⟨gy, 0, none⟩ ⟨g, 0, none⟩ (fun x => two.any (nearQ a3 x)) (fun W' y hb => near1_calls W' ⟨gy, 0, none⟩ ⟨g, 0, none⟩ A7 c7 two a3 y (HCELL.out W' (below_step HBX.out hb)) (Kd.C_below HY8.out (below_step HBX.out hb)) HL7.out ((blk_cell (blk_below BA9.out hb) 0).trans rfl))).mono ?_); rintro e w10 ⟨rfl, hb⟩; rw [HBO.out]; have HR10 := Aside0.mk (Kd.R_below HR9.out hb); have BA10 := Aside0.mk (blk_below BA9.out hb); have HB11 := Aside0.mk (below_step HB10.out hb); clear hb) | ((with_reducible refine gate_builtin (b := .append) (xs := #[.tmp 50, .tmp 52]) rfl ?_); at_builtin; refine Kd.R_append (Kd.int .i64) (w0 := w) w.heap.size rfl (.tmp 50) (.tmp 52) 47 3 (.int .i64 0) 8 rfl Try.underlying47 info3 rfl (by decide) (by omega) u10 x10 x35 [.int .i64 x35] (fun k => k ≠ g) (fun _ => False) rfl rfl ?aP (fun _ hk => hk.elim) ?aF ?aO ?aB ?aS ?aL ?_; (case aP => exact rfl); (case aB => exact (by repeat (first | exact HB11.out | apply below_alloc))); (case aF => exact (fun q hq => by have := blk_lt BA10.out; have hq' : w10.heap.size <= q := Nat.le_trans (by simp [World.alloc]) hq; omega)); (case aO => exact (by (with_reducible repeat (first | apply Kd.R_alloc | apply Kd.R_drewN | apply Kd.R_drew)); exact HR10.out)); (case aS => exact (below_size (by repeat (first | exact HB11.out | apply below_alloc)))); (case aL => have := LM.out; omega); intro v11 w12 ho hb hg hat; have HR12 := Aside0.mk ho; have HB12 := Aside0.mk hb; have HG12 := Aside0.mk hg; clear ho hb hg hat))
                      go_roundg k1
                      case measure => have := HK.out; omega
                      case rel => exact ⟨x10 ++ [x35], wrap64 (x35 + 1), (by first | rfl | (simp; done) | (simp [*]; done)), HN, ⟨by have := HK.out; omega⟩, ⟨HR12.out⟩, ⟨blk_grown BA10.out HG12.out (fun e => absurd rfl (show g ≠ g from HR10.out.1 g e.symm))⟩, ⟨HB12.out⟩⟩
                    · rw [if_neg c7] at HN
                      exact absurd HN.out (by simp)
                · rw [if_neg c4] at H
                  exact absurd H (by simp)
              · rw [if_neg c3] at H
                have c3b0 : decide (x35 < (l0.length : Int)) = false := decide_eq_false c3
                simp only [Option.some.injEq, Prod.mk.injEq] at H
                obtain ⟨rfl, rfl⟩ := H
                go_wp2
                go_ret2
                exact ⟨_, rfl, Kd.R_mono HR.out (fun _ _ => trivial), HB.out⟩
        · rw [if_neg hb0] at h
          simp only [Option.some.injEq, Prod.mk.injEq] at h
          obtain ⟨rfl, rfl⟩ := h
          have ef : (decide (1 <= a3) && decide (a3 <= 20)) = false := by
            rw [Bool.eq_false_iff, ne_eq, Bool.and_eq_true, decide_eq_true_iff, decide_eq_true_iff]; exact hb0
          rw [ef] at HW
          clear hb0 ef
          go_wp2_with (first | (go_at_call 58; (with_reducible refine (impl_areDocs.calls k A0 c0 l0 true _ (Kd.C_below HR0.out HB.out) HC0.out ED.out).mono ?_); rintro e w2 ⟨rfl, hb⟩; have HB2 := Aside0.mk (below_step HB.out hb); have hn2 := (hb.cell (World.block_lt_of_cell? w1 _ hn1)).trans hn1; have BA2 := Aside0.mk (blk_below BA.out hb); clear hb hn1) | (go_at_call 59; (with_reducible refine (impl_isWord.calls k a2 true _ EY.out).mono ?_); rintro e w4 ⟨rfl, ⟨nd2, rfl⟩⟩) | (go_at_call 59; (with_reducible refine (impl_isWord.calls k a1 true _ EX.out).mono ?_); rintro e w3 ⟨rfl, ⟨nd, rfl⟩⟩) | (go_at_call 70; (with_reducible refine (HW.out _).mono ?_); rintro e w5 ⟨rfl, ⟨nd3, rfl⟩⟩))
          go_ret2
          exact ⟨_, rfl, Kd.R_nil _ _ _ _ _, pw_below_drewN HB2.out _⟩
end Go.Proofs.Ytcopakljdenolaa.Fn
