/- The law FnExactPhraseIn holds of the given program: at every input it answers true and leaves its arguments as they were; no condition. This text: part 3 of what its proof reaches. -/
import Derived.Laws.BitsLemmas
import Derived.Laws.BytesArg
import Derived.Test.YtcopakljdenolaaCXPhraseInA
import Derived.Test.YtcopakljdenolaaCXPhraseInB
namespace Go.Proofs.Ytcopakljdenolaa.Fn
open Go.RowKit Go.Proofs.YtcopakljdenolaaW.PrintWords Go.Proofs.YtcopakljdenolaaW.PrintLast Go.Proofs.YtcopakljdenolaaW.PrintMore
set_option linter.unusedSimpArgs false
set_option linter.unusedVariables false

def laws_FnExactPhraseIn.Runs (k : Nat) (l0 : List ByteArray) (l1 : List ByteArray) : Prop := ∃ left0 : Int, laws_szStringS.f k l0 1048576 = some left0 ∧ (left0 < 0 ∨ (0 ≤ left0 ∧ (∃ left1 : Int, laws_szStringS.f k l1 left0 = some left1 ∧ (left1 < 0 ∨ (0 ≤ left1 ∧ (laws_toStringS.f k l0 = some l0 ∧ laws_toStringS.f k l1 = some l1 ∧ ∃ (w0 : List (S57)) (w1 : Bool), spec_PhraseIn.f k l0 l1 = some (w0, w1) ∧ laws_toStringS.f k l0 = some l0 ∧ laws_toStringS.f k l1 = some l1 ∧ impl_PhraseIn.f k l0 l1 = some (w0, w1) ∧ laws_eqPostS.f k w0 w0 = some true ∧ laws_toStringS.f k l0 = some l0 ∧ laws_eqStringS.f k l0 l0 = some true ∧ laws_toStringS.f k l1 = some l1 ∧ laws_eqStringS.f k l1 l1 = some true ∧ ∃ (m0 : Int) (z0 : List ByteArray), laws_markStringS.f k l0 1 = some (m0, z0) ∧ 0 ≤ m0 ∧ ∃ (m1 : Int) (z1 : List ByteArray), laws_markStringS.f k l1 m0 = some (m1, z1) ∧ 0 ≤ m1 ∧ laws_eqPostS.f k w0 w0 = some true ∧ ∃ (m2 : Int) (z2 : List (S57)), laws_markPostS.f k w0 1 = some (m2, z2) ∧ 0 ≤ m2 ∧ laws_heldPostS.f k z2 1 = some m2 ∧ laws_toStringS.f k l0 = some l0 ∧ laws_toStringS.f k l1 = some l1 ∧ impl_PhraseIn.f k l0 l1 = some (w0, w1) ∧ laws_eqPostS.f k w0 w0 = some true ∧ laws_heldPostS.f k z2 1 = some m2 ∧ True))))))
set_option maxHeartbeats 8000000 in
set_option maxRecDepth 100000 in
theorem laws_FnExactPhraseIn.calls (k : Nat) (A0 : Option Addr) (c0 : Nat) (l0 : List ByteArray) (A1 : Option Addr) (c1 : Nat) (l1 : List ByteArray) (r : Bool) (w : World) (hr0 : Kd.C Kd.string w A0 l0.length l0) (hc0 : l0.length ≤ c0) (hr1 : Kd.C Kd.string w A1 l1.length l1) (hc1 : l1.length ≤ c1) (h : laws_FnExactPhraseIn.Runs k l0 l1) (ht : r = true) :
    Calls Try.prog 9 #[.slice A0 l0.length c0, .slice A1 l1.length c1] w fun e w' => e = .returned (.bool r) ∧ Below w.heap.size w w' := by
  have hu57 := Try.underlying57
  subst ht
  have HR0 := Aside0.mk hr0
  have HC0 := Aside0.mk hc0
  clear hr0 hc0
  have HR1 := Aside0.mk hr1
  have HC1 := Aside0.mk hc1
  clear hr1 hc1
  have HB := Aside0.mk (Below.refl w.heap.size w)
  unfold laws_FnExactPhraseIn.Runs at h
  go_enter Try.func9, Try.ntmps9
  obtain ⟨left0, h_, h⟩ := h
  have E0 := Aside0.mk h_
  clear h_
  rcases h with h | ⟨h_, h⟩
  · have cl_left0 : decide (left0 < 0) = true := decide_eq_true h
    clear h
    go_wp2_with (first | (go_at_call 18; (with_reducible refine (laws_szStringS.calls k _ _ l0 1048576 left0 _ ?side1 ?side2 E0.out).mono ?_); (case side1 => exact Kd.C_below HR0.out (by repeat (first | (with_reducible first | exact HB.out | apply below_alloc | apply pw_below_drewN | apply below_drew1) | exact HB.out))); (case side2 => exact HC0.out); rintro e w' ⟨rfl, ⟨nd, rfl⟩⟩))
    go_ret
    exact ⟨by first | rfl | (simp; done), (by repeat (first | (with_reducible first | exact HB.out | apply below_alloc | apply pw_below_drewN | apply below_drew1) | exact HB.out))⟩
  have cl_left0 : decide (left0 < 0) = false := decide_eq_false (by omega)
  clear h_
  obtain ⟨left1, h_, h⟩ := h
  have E1 := Aside0.mk h_
  clear h_
  rcases h with h | ⟨h_, h⟩
  · have cl_left1 : decide (left1 < 0) = true := decide_eq_true h
    clear h
    go_wp2_with (first | (go_at_call 18; (with_reducible refine (laws_szStringS.calls k _ _ l0 1048576 left0 _ ?side1 ?side2 E0.out).mono ?_); (case side1 => exact Kd.C_below HR0.out (by repeat (first | (with_reducible first | exact HB.out | apply below_alloc | apply pw_below_drewN | apply below_drew1) | exact HB.out))); (case side2 => exact HC0.out); rintro e w' ⟨rfl, ⟨nd, rfl⟩⟩) | (go_at_call 18; (with_reducible refine (laws_szStringS.calls k _ _ l1 left0 left1 _ ?side1 ?side2 E1.out).mono ?_); (case side1 => exact Kd.C_below HR1.out (by repeat (first | (with_reducible first | exact HB.out | apply below_alloc | apply pw_below_drewN | apply below_drew1) | exact HB.out))); (case side2 => exact HC1.out); rintro e w' ⟨rfl, ⟨nd, rfl⟩⟩))
    go_ret
    exact ⟨by first | rfl | (simp; done), (by repeat (first | (with_reducible first | exact HB.out | apply below_alloc | apply pw_below_drewN | apply below_drew1) | exact HB.out))⟩
  have cl_left1 : decide (left1 < 0) = false := decide_eq_false (by omega)
  clear h_
  obtain ⟨h_, h⟩ := h
  have E2 := Aside0.mk h_
  clear h_
  obtain ⟨h_, h⟩ := h
  have E3 := Aside0.mk h_
  clear h_
  obtain ⟨w0, w1, h⟩ := h
  obtain ⟨h_, h⟩ := h
  have E4 := Aside0.mk h_
  clear h_
  obtain ⟨h_, h⟩ := h
  have E5 := Aside0.mk h_
  clear h_
  obtain ⟨h_, h⟩ := h
  have E6 := Aside0.mk h_
  clear h_
  obtain ⟨h_, h⟩ := h
  have E7 := Aside0.mk h_
  clear h_
  obtain ⟨h_, h⟩ := h
  have E8 := Aside0.mk h_
  clear h_
  obtain ⟨h_, h⟩ := h
  have E9 := Aside0.mk h_
  clear h_
  obtain ⟨h_, h⟩ := h
  have E10 := Aside0.mk h_
  clear h_
  obtain ⟨h_, h⟩ := h
  have E11 := Aside0.mk h_
  clear h_
  obtain ⟨h_, h⟩ := h
  have E12 := Aside0.mk h_
  clear h_
  obtain ⟨m0, z0, h⟩ := h
  obtain ⟨h_, h⟩ := h
  have E13 := Aside0.mk h_
  clear h_
  obtain ⟨hz_m0, h⟩ := h
  have cz_m0 : decide (m0 < 0) = false := decide_eq_false (by omega)
  clear hz_m0
  obtain ⟨m1, z1, h⟩ := h
  obtain ⟨h_, h⟩ := h
  have E14 := Aside0.mk h_
  clear h_
  obtain ⟨hz_m1, h⟩ := h
  have cz_m1 : decide (m1 < 0) = false := decide_eq_false (by omega)
  clear hz_m1
  obtain ⟨h_, h⟩ := h
  have E15 := Aside0.mk h_
  clear h_
  obtain ⟨m2, z2, h⟩ := h
  obtain ⟨h_, h⟩ := h
  have E16 := Aside0.mk h_
  clear h_
  obtain ⟨hz_m2, h⟩ := h
  have cz_m2 : decide (m2 < 0) = false := decide_eq_false (by omega)
  clear hz_m2
  obtain ⟨h_, h⟩ := h
  have E17 := Aside0.mk h_
  clear h_
  obtain ⟨h_, h⟩ := h
  have E18 := Aside0.mk h_
  clear h_
  obtain ⟨h_, h⟩ := h
  have E19 := Aside0.mk h_
  clear h_
  obtain ⟨h_, h⟩ := h
  have E20 := Aside0.mk h_
  clear h_
  obtain ⟨h_, h⟩ := h
  have E21 := Aside0.mk h_
  clear h_
  obtain ⟨h_, h⟩ := h
  have E22 := Aside0.mk h_
  clear h_
  clear h
  have cb_w1 : (w1 != w1) = false := bne_self_eq_false w1
  have cn_m0 : (m0 != m0) = false := bne_self_eq_false m0
  have cn_m1 : (m1 != m1) = false := bne_self_eq_false m1
  have cn_m2 : (m2 != m2) = false := bne_self_eq_false m2
  go_upto_region 5 with (first | (go_at_call 18; (with_reducible refine (laws_szStringS.calls k _ _ l0 1048576 left0 _ ?side1 ?side2 E0.out).mono ?_); (case side1 => exact Kd.C_below HR0.out (by repeat (first | (with_reducible first | exact HB.out | apply below_alloc | apply pw_below_drewN | apply below_drew1) | exact HB.out))); (case side2 => exact HC0.out); rintro e w' ⟨rfl, ⟨nd, rfl⟩⟩))
  go_upto_region 8 with (first | (go_at_call 18; (with_reducible refine (laws_szStringS.calls k _ _ l1 left0 left1 _ ?side1 ?side2 E1.out).mono ?_); (case side1 => exact Kd.C_below HR1.out (by repeat (first | (with_reducible first | exact HB.out | apply below_alloc | apply pw_below_drewN | apply below_drew1) | exact HB.out))); (case side2 => exact HC1.out); rintro e w' ⟨rfl, ⟨nd, rfl⟩⟩))
  go_upto_region 9 with (first | (go_at_call 20; (with_reducible refine (laws_toStringS.calls k _ _ l0 l0 _ ?side1 ?side2 E2.out).mono ?_); (case side1 => exact Kd.C_below HR0.out (by repeat (first | (with_reducible first | exact HB.out | apply below_alloc | apply pw_below_drewN | apply below_drew1) | exact HB.out))); (case side2 => exact HC0.out); rintro e w1_ ⟨vt1, rfl, ho, hb⟩; obtain ⟨At1, ct1, ev_⟩ := Kd.R_slice ho; subst ev_; obtain ⟨nt1, mt1, o1_, o2_, o3_, hr_⟩ := Kd.R_iv ho hb (by repeat (first | (with_reducible first | exact HB.out | apply below_alloc | apply pw_below_drewN | apply below_drew1) | exact HB.out)) (below_size (by repeat (first | (with_reducible first | exact HB.out | apply below_alloc | apply pw_below_drewN | apply below_drew1) | exact HB.out))); have ORt1 := Aside0.mk (And.intro o1_ o2_); have HOt1 := Aside0.mk hr_; have N_HB := Aside0.mk (below_step (by repeat (first | (with_reducible first | exact HB.out | apply below_alloc | apply pw_below_drewN | apply below_drew1) | exact HB.out)) hb); clear HB; have HB := N_HB; clear N_HB; have HS := Aside0.mk o3_; clear hb ho hr_ o1_ o2_ o3_) | (go_at_call 20; (with_reducible refine (laws_toStringS.calls k _ _ l1 l1 _ ?side1 ?side2 E3.out).mono ?_); (case side1 => exact Kd.C_below HR1.out (by repeat (first | (with_reducible first | exact HB.out | apply below_alloc | apply pw_below_drewN | apply below_drew1) | exact HB.out))); (case side2 => exact HC1.out); rintro e w2_ ⟨vt2, rfl, ho, hb⟩; obtain ⟨At2, ct2, ev_⟩ := Kd.R_slice ho; subst ev_; obtain ⟨nt2, mt2, o1_, o2_, o3_, hr_⟩ := Kd.R_iv ho hb (by repeat (first | (with_reducible first | exact HB.out | apply below_alloc | apply pw_below_drewN | apply below_drew1) | exact HB.out)) HS.out; have ORt2 := Aside0.mk (And.intro o1_ o2_); have HOt2 := Aside0.mk hr_; have N_HOt1 := Aside0.mk (Kd.R_below (by (with_reducible repeat (first | apply Kd.R_alloc | apply Kd.R_drewN | apply Kd.R_drew)); exact HOt1.out) hb); have N_HB := Aside0.mk (below_step (by repeat (first | (with_reducible first | exact HB.out | apply below_alloc | apply pw_below_drewN | apply below_drew1) | exact HB.out)) hb); clear HOt1; have HOt1 := N_HOt1; clear N_HOt1; clear HB; have HB := N_HB; clear N_HB; clear HS; have HS := Aside0.mk o3_; clear hb ho hr_ o1_ o2_ o3_) | (go_at_call 35; (with_reducible refine (spec_PhraseIn.calls k _ _ l0 _ _ l1 w0 w1 _ ?side1 ?side2 ?side3 ?side4 E4.out).mono ?_); (case side1 => repeat (first | exact (Kd.R_reads' HOt1.out).2.2 | (with_reducible refine Kd.C_alloc ?_ _) | (with_reducible refine Kd.C_drewN ?_ _) | (with_reducible refine Kd.C_drew ?_))); (case side2 => (have h9 := Kd.R_reads' HOt1.out; rw [← h9.1]; exact h9.2.1)); (case side3 => repeat (first | exact (Kd.R_reads' HOt2.out).2.2 | (with_reducible refine Kd.C_alloc ?_ _) | (with_reducible refine Kd.C_drewN ?_ _) | (with_reducible refine Kd.C_drew ?_))); (case side4 => (have h9 := Kd.R_reads' HOt2.out; rw [← h9.1]; exact h9.2.1)); rintro e w3_ ⟨vt3, rfl, ho, hb⟩; obtain ⟨At3, ct3, ev_⟩ := Kd.S_slice ho; subst ev_; obtain ⟨nt3, mt3, o1_, o2_, o3_, hr_⟩ := Kd.S_iv ho hb (by repeat (first | (with_reducible first | exact HB.out | apply below_alloc | apply pw_below_drewN | apply below_drew1) | exact HB.out)) HS.out; have ORt3 := Aside0.mk (And.intro o1_ o2_); have HOt3 := Aside0.mk hr_; have N_HOt1 := Aside0.mk (Kd.R_below (by (with_reducible repeat (first | apply Kd.R_alloc | apply Kd.R_drewN | apply Kd.R_drew)); exact HOt1.out) hb); have N_HOt2 := Aside0.mk (Kd.R_below (by (with_reducible repeat (first | apply Kd.R_alloc | apply Kd.R_drewN | apply Kd.R_drew)); exact HOt2.out) hb); have N_HB := Aside0.mk (below_step (by repeat (first | (with_reducible first | exact HB.out | apply below_alloc | apply pw_below_drewN | apply below_drew1) | exact HB.out)) hb); clear HOt1; have HOt1 := N_HOt1; clear N_HOt1; clear HOt2; have HOt2 := N_HOt2; clear N_HOt2; clear HB; have HB := N_HB; clear N_HB; clear HS; have HS := Aside0.mk o3_; clear hb ho hr_ o1_ o2_ o3_))
  go_upto_region 10 with (first | (go_at_call 20; (with_reducible refine (laws_toStringS.calls k _ _ l0 l0 _ ?side1 ?side2 E5.out).mono ?_); (case side1 => exact Kd.C_below HR0.out (by repeat (first | (with_reducible first | exact HB.out | apply below_alloc | apply pw_below_drewN | apply below_drew1) | exact HB.out))); (case side2 => exact HC0.out); rintro e w4_ ⟨vt4, rfl, ho, hb⟩; obtain ⟨At4, ct4, ev_⟩ := Kd.R_slice ho; subst ev_; obtain ⟨nt4, mt4, o1_, o2_, o3_, hr_⟩ := Kd.R_iv ho hb (by repeat (first | (with_reducible first | exact HB.out | apply below_alloc | apply pw_below_drewN | apply below_drew1) | exact HB.out)) HS.out; have ORt4 := Aside0.mk (And.intro o1_ o2_); have HOt4 := Aside0.mk hr_; have N_HOt1 := Aside0.mk (Kd.R_below (by (with_reducible repeat (first | apply Kd.R_alloc | apply Kd.R_drewN | apply Kd.R_drew)); exact HOt1.out) hb); have N_HOt2 := Aside0.mk (Kd.R_below (by (with_reducible repeat (first | apply Kd.R_alloc | apply Kd.R_drewN | apply Kd.R_drew)); exact HOt2.out) hb); have N_HOt3 := Aside0.mk (Kd.S_below (by (with_reducible repeat (first | apply Kd.S_alloc | apply Kd.S_drewN | apply Kd.S_drew)); exact HOt3.out) hb); have N_HB := Aside0.mk (below_step (by repeat (first | (with_reducible first | exact HB.out | apply below_alloc | apply pw_below_drewN | apply below_drew1) | exact HB.out)) hb); clear HOt1; have HOt1 := N_HOt1; clear N_HOt1; clear HOt2; have HOt2 := N_HOt2; clear N_HOt2; clear HOt3; have HOt3 := N_HOt3; clear N_HOt3; clear HB; have HB := N_HB; clear N_HB; clear HS; have HS := Aside0.mk o3_; clear hb ho hr_ o1_ o2_ o3_))
  go_upto_region 14 with (first | (go_at_call 20; (with_reducible refine (laws_toStringS.calls k _ _ l1 l1 _ ?side1 ?side2 E6.out).mono ?_); (case side1 => exact Kd.C_below HR1.out (by repeat (first | (with_reducible first | exact HB.out | apply below_alloc | apply pw_below_drewN | apply below_drew1) | exact HB.out))); (case side2 => exact HC1.out); rintro e w5_ ⟨vt5, rfl, ho, hb⟩; obtain ⟨At5, ct5, ev_⟩ := Kd.R_slice ho; subst ev_; obtain ⟨nt5, mt5, o1_, o2_, o3_, hr_⟩ := Kd.R_iv ho hb (by repeat (first | (with_reducible first | exact HB.out | apply below_alloc | apply pw_below_drewN | apply below_drew1) | exact HB.out)) HS.out; have ORt5 := Aside0.mk (And.intro o1_ o2_); have HOt5 := Aside0.mk hr_; have N_HOt1 := Aside0.mk (Kd.R_below (by (with_reducible repeat (first | apply Kd.R_alloc | apply Kd.R_drewN | apply Kd.R_drew)); exact HOt1.out) hb); have N_HOt2 := Aside0.mk (Kd.R_below (by (with_reducible repeat (first | apply Kd.R_alloc | apply Kd.R_drewN | apply Kd.R_drew)); exact HOt2.out) hb); have N_HOt3 := Aside0.mk (Kd.S_below (by (with_reducible repeat (first | apply Kd.S_alloc | apply Kd.S_drewN | apply Kd.S_drew)); exact HOt3.out) hb); have N_HOt4 := Aside0.mk (Kd.R_below (by (with_reducible repeat (first | apply Kd.R_alloc | apply Kd.R_drewN | apply Kd.R_drew)); exact HOt4.out) hb); have N_HB := Aside0.mk (below_step (by repeat (first | (with_reducible first | exact HB.out | apply below_alloc | apply pw_below_drewN | apply below_drew1) | exact HB.out)) hb); clear HOt1; have HOt1 := N_HOt1; clear N_HOt1; clear HOt2; have HOt2 := N_HOt2; clear N_HOt2; clear HOt3; have HOt3 := N_HOt3; clear N_HOt3; clear HOt4; have HOt4 := N_HOt4; clear N_HOt4; clear HB; have HB := N_HB; clear N_HB; clear HS; have HS := Aside0.mk o3_; clear hb ho hr_ o1_ o2_ o3_) | (go_at_call 36; (with_reducible refine (impl_PhraseIn.calls k _ _ l0 _ _ l1 w0 w1 _ ?side1 ?side2 ?side3 ?side4 E7.out).mono ?_); (case side1 => repeat (first | exact (Kd.R_reads' HOt4.out).2.2 | (with_reducible refine Kd.C_alloc ?_ _) | (with_reducible refine Kd.C_drewN ?_ _) | (with_reducible refine Kd.C_drew ?_))); (case side2 => (have h9 := Kd.R_reads' HOt4.out; rw [← h9.1]; exact h9.2.1)); (case side3 => repeat (first | exact (Kd.R_reads' HOt5.out).2.2 | (with_reducible refine Kd.C_alloc ?_ _) | (with_reducible refine Kd.C_drewN ?_ _) | (with_reducible refine Kd.C_drew ?_))); (case side4 => (have h9 := Kd.R_reads' HOt5.out; rw [← h9.1]; exact h9.2.1)); rintro e w6_ ⟨vt6, rfl, ho, hb⟩; obtain ⟨At6, ct6, ev_⟩ := Kd.S_slice ho; subst ev_; obtain ⟨nt6, mt6, o1_, o2_, o3_, hr_⟩ := Kd.S_iv ho hb (by repeat (first | (with_reducible first | exact HB.out | apply below_alloc | apply pw_below_drewN | apply below_drew1) | exact HB.out)) HS.out; have ORt6 := Aside0.mk (And.intro o1_ o2_); have HOt6 := Aside0.mk hr_; have N_HOt1 := Aside0.mk (Kd.R_below (by (with_reducible repeat (first | apply Kd.R_alloc | apply Kd.R_drewN | apply Kd.R_drew)); exact HOt1.out) hb); have N_HOt2 := Aside0.mk (Kd.R_below (by (with_reducible repeat (first | apply Kd.R_alloc | apply Kd.R_drewN | apply Kd.R_drew)); exact HOt2.out) hb); have N_HOt3 := Aside0.mk (Kd.S_below (by (with_reducible repeat (first | apply Kd.S_alloc | apply Kd.S_drewN | apply Kd.S_drew)); exact HOt3.out) hb); have N_HOt4 := Aside0.mk (Kd.R_below (by (with_reducible repeat (first | apply Kd.R_alloc | apply Kd.R_drewN | apply Kd.R_drew)); exact HOt4.out) hb); have N_HOt5 := Aside0.mk (Kd.R_below (by (with_reducible repeat (first | apply Kd.R_alloc | apply Kd.R_drewN | apply Kd.R_drew)); exact HOt5.out) hb); have N_HB := Aside0.mk (below_step (by repeat (first | (with_reducible first | exact HB.out | apply below_alloc | apply pw_below_drewN | apply below_drew1) | exact HB.out)) hb); clear HOt1; have HOt1 := N_HOt1; clear N_HOt1; clear HOt2; have HOt2 := N_HOt2; clear N_HOt2; clear HOt3; have HOt3 := N_HOt3; clear N_HOt3; clear HOt4; have HOt4 := N_HOt4; clear N_HOt4; clear HOt5; have HOt5 := N_HOt5; clear N_HOt5; clear HB; have HB := N_HB; clear N_HB; clear HS; have HS := Aside0.mk o3_; clear hb ho hr_ o1_ o2_ o3_) | (go_at_call 22; (with_reducible refine (laws_eqPostS.calls k _ _ w0 _ _ w0 true _ ?side1 ?side2 ?side3 ?side4 E8.out).mono ?_); (case side1 => repeat (first | exact (Kd.S_reads' HOt6.out).2.2 | (with_reducible refine Kd.C_alloc ?_ _) | (with_reducible refine Kd.C_drewN ?_ _) | (with_reducible refine Kd.C_drew ?_))); (case side2 => (have h9 := Kd.S_reads' HOt6.out; rw [← h9.1]; exact h9.2.1)); (case side3 => repeat (first | exact (Kd.S_reads' HOt3.out).2.2 | (with_reducible refine Kd.C_alloc ?_ _) | (with_reducible refine Kd.C_drewN ?_ _) | (with_reducible refine Kd.C_drew ?_))); (case side4 => (have h9 := Kd.S_reads' HOt3.out; rw [← h9.1]; exact h9.2.1)); rintro e w7_ ⟨rfl, hb⟩; have N_HOt1 := Aside0.mk (Kd.R_below (by (with_reducible repeat (first | apply Kd.R_alloc | apply Kd.R_drewN | apply Kd.R_drew)); exact HOt1.out) hb); have N_HOt2 := Aside0.mk (Kd.R_below (by (with_reducible repeat (first | apply Kd.R_alloc | apply Kd.R_drewN | apply Kd.R_drew)); exact HOt2.out) hb); have N_HOt3 := Aside0.mk (Kd.S_below (by (with_reducible repeat (first | apply Kd.S_alloc | apply Kd.S_drewN | apply Kd.S_drew)); exact HOt3.out) hb); have N_HOt4 := Aside0.mk (Kd.R_below (by (with_reducible repeat (first | apply Kd.R_alloc | apply Kd.R_drewN | apply Kd.R_drew)); exact HOt4.out) hb); have N_HOt5 := Aside0.mk (Kd.R_below (by (with_reducible repeat (first | apply Kd.R_alloc | apply Kd.R_drewN | apply Kd.R_drew)); exact HOt5.out) hb); have N_HOt6 := Aside0.mk (Kd.S_below (by (with_reducible repeat (first | apply Kd.S_alloc | apply Kd.S_drewN | apply Kd.S_drew)); exact HOt6.out) hb); have N_HB := Aside0.mk (below_step (by repeat (first | (with_reducible first | exact HB.out | apply below_alloc | apply pw_below_drewN | apply below_drew1) | exact HB.out)) hb); have N_HS := Aside0.mk (Nat.le_trans HS.out hb.size); clear HOt1; have HOt1 := N_HOt1; clear N_HOt1; clear HOt2; have HOt2 := N_HOt2; clear N_HOt2; clear HOt3; have HOt3 := N_HOt3; clear N_HOt3; clear HOt4; have HOt4 := N_HOt4; clear N_HOt4; clear HOt5; have HOt5 := N_HOt5; clear N_HOt5; clear HOt6; have HOt6 := N_HOt6; clear N_HOt6; clear HB; have HB := N_HB; clear N_HB; clear HS; have HS := N_HS; clear N_HS; clear hb))
  go_upto_region 16 with (first | (go_at_call 20; (with_reducible refine (laws_toStringS.calls k _ _ l0 l0 _ ?side1 ?side2 E9.out).mono ?_); (case side1 => exact Kd.C_below HR0.out (by repeat (first | (with_reducible first | exact HB.out | apply below_alloc | apply pw_below_drewN | apply below_drew1) | exact HB.out))); (case side2 => exact HC0.out); rintro e w8_ ⟨vt7, rfl, ho, hb⟩; obtain ⟨At7, ct7, ev_⟩ := Kd.R_slice ho; subst ev_; obtain ⟨nt7, mt7, o1_, o2_, o3_, hr_⟩ := Kd.R_iv ho hb (by repeat (first | (with_reducible first | exact HB.out | apply below_alloc | apply pw_below_drewN | apply below_drew1) | exact HB.out)) HS.out; have ORt7 := Aside0.mk (And.intro o1_ o2_); have HOt7 := Aside0.mk hr_; have N_HOt1 := Aside0.mk (Kd.R_below (by (with_reducible repeat (first | apply Kd.R_alloc | apply Kd.R_drewN | apply Kd.R_drew)); exact HOt1.out) hb); have N_HOt2 := Aside0.mk (Kd.R_below (by (with_reducible repeat (first | apply Kd.R_alloc | apply Kd.R_drewN | apply Kd.R_drew)); exact HOt2.out) hb); have N_HOt3 := Aside0.mk (Kd.S_below (by (with_reducible repeat (first | apply Kd.S_alloc | apply Kd.S_drewN | apply Kd.S_drew)); exact HOt3.out) hb); have N_HOt4 := Aside0.mk (Kd.R_below (by (with_reducible repeat (first | apply Kd.R_alloc | apply Kd.R_drewN | apply Kd.R_drew)); exact HOt4.out) hb); have N_HOt5 := Aside0.mk (Kd.R_below (by (with_reducible repeat (first | apply Kd.R_alloc | apply Kd.R_drewN | apply Kd.R_drew)); exact HOt5.out) hb); have N_HOt6 := Aside0.mk (Kd.S_below (by (with_reducible repeat (first | apply Kd.S_alloc | apply Kd.S_drewN | apply Kd.S_drew)); exact HOt6.out) hb); have N_HB := Aside0.mk (below_step (by repeat (first | (with_reducible first | exact HB.out | apply below_alloc | apply pw_below_drewN | apply below_drew1) | exact HB.out)) hb); clear HOt1; have HOt1 := N_HOt1; clear N_HOt1; clear HOt2; have HOt2 := N_HOt2; clear N_HOt2; clear HOt3; have HOt3 := N_HOt3; clear N_HOt3; clear HOt4; have HOt4 := N_HOt4; clear N_HOt4; clear HOt5; have HOt5 := N_HOt5; clear N_HOt5; clear HOt6; have HOt6 := N_HOt6; clear N_HOt6; clear HB; have HB := N_HB; clear N_HB; clear HS; have HS := Aside0.mk o3_; clear hb ho hr_ o1_ o2_ o3_) | (go_at_call 15; (with_reducible refine (laws_eqStringS.calls k _ _ l0 _ _ l0 true _ ?side1 ?side2 ?side3 ?side4 E10.out).mono ?_); (case side1 => repeat (first | exact (Kd.R_reads' HOt4.out).2.2 | (with_reducible refine Kd.C_alloc ?_ _) | (with_reducible refine Kd.C_drewN ?_ _) | (with_reducible refine Kd.C_drew ?_))); (case side2 => (have h9 := Kd.R_reads' HOt4.out; rw [← h9.1]; exact h9.2.1)); (case side3 => repeat (first | exact (Kd.R_reads' HOt7.out).2.2 | (with_reducible refine Kd.C_alloc ?_ _) | (with_reducible refine Kd.C_drewN ?_ _) | (with_reducible refine Kd.C_drew ?_))); (case side4 => (have h9 := Kd.R_reads' HOt7.out; rw [← h9.1]; exact h9.2.1)); rintro e w' ⟨rfl, ⟨nd, rfl⟩⟩))
  go_upto_region 20 with (first | (go_at_call 20; (with_reducible refine (laws_toStringS.calls k _ _ l1 l1 _ ?side1 ?side2 E11.out).mono ?_); (case side1 => exact Kd.C_below HR1.out (by repeat (first | (with_reducible first | exact HB.out | apply below_alloc | apply pw_below_drewN | apply below_drew1) | exact HB.out))); (case side2 => exact HC1.out); rintro e w9_ ⟨vt8, rfl, ho, hb⟩; obtain ⟨At8, ct8, ev_⟩ := Kd.R_slice ho; subst ev_; obtain ⟨nt8, mt8, o1_, o2_, o3_, hr_⟩ := Kd.R_iv ho hb (by repeat (first | (with_reducible first | exact HB.out | apply below_alloc | apply pw_below_drewN | apply below_drew1) | exact HB.out)) HS.out; have ORt8 := Aside0.mk (And.intro o1_ o2_); have HOt8 := Aside0.mk hr_; have N_HOt1 := Aside0.mk (Kd.R_below (by (with_reducible repeat (first | apply Kd.R_alloc | apply Kd.R_drewN | apply Kd.R_drew)); exact HOt1.out) hb); have N_HOt2 := Aside0.mk (Kd.R_below (by (with_reducible repeat (first | apply Kd.R_alloc | apply Kd.R_drewN | apply Kd.R_drew)); exact HOt2.out) hb); have N_HOt3 := Aside0.mk (Kd.S_below (by (with_reducible repeat (first | apply Kd.S_alloc | apply Kd.S_drewN | apply Kd.S_drew)); exact HOt3.out) hb); have N_HOt4 := Aside0.mk (Kd.R_below (by (with_reducible repeat (first | apply Kd.R_alloc | apply Kd.R_drewN | apply Kd.R_drew)); exact HOt4.out) hb); have N_HOt5 := Aside0.mk (Kd.R_below (by (with_reducible repeat (first | apply Kd.R_alloc | apply Kd.R_drewN | apply Kd.R_drew)); exact HOt5.out) hb); have N_HOt6 := Aside0.mk (Kd.S_below (by (with_reducible repeat (first | apply Kd.S_alloc | apply Kd.S_drewN | apply Kd.S_drew)); exact HOt6.out) hb); have N_HOt7 := Aside0.mk (Kd.R_below (by (with_reducible repeat (first | apply Kd.R_alloc | apply Kd.R_drewN | apply Kd.R_drew)); exact HOt7.out) hb); have N_HB := Aside0.mk (below_step (by repeat (first | (with_reducible first | exact HB.out | apply below_alloc | apply pw_below_drewN | apply below_drew1) | exact HB.out)) hb); clear HOt1; have HOt1 := N_HOt1; clear N_HOt1; clear HOt2; have HOt2 := N_HOt2; clear N_HOt2; clear HOt3; have HOt3 := N_HOt3; clear N_HOt3; clear HOt4; have HOt4 := N_HOt4; clear N_HOt4; clear HOt5; have HOt5 := N_HOt5; clear N_HOt5; clear HOt6; have HOt6 := N_HOt6; clear N_HOt6; clear HOt7; have HOt7 := N_HOt7; clear N_HOt7; clear HB; have HB := N_HB; clear N_HB; clear HS; have HS := Aside0.mk o3_; clear hb ho hr_ o1_ o2_ o3_) | (go_at_call 15; (with_reducible refine (laws_eqStringS.calls k _ _ l1 _ _ l1 true _ ?side1 ?side2 ?side3 ?side4 E12.out).mono ?_); (case side1 => repeat (first | exact (Kd.R_reads' HOt5.out).2.2 | (with_reducible refine Kd.C_alloc ?_ _) | (with_reducible refine Kd.C_drewN ?_ _) | (with_reducible refine Kd.C_drew ?_))); (case side2 => (have h9 := Kd.R_reads' HOt5.out; rw [← h9.1]; exact h9.2.1)); (case side3 => repeat (first | exact (Kd.R_reads' HOt8.out).2.2 | (with_reducible refine Kd.C_alloc ?_ _) | (with_reducible refine Kd.C_drewN ?_ _) | (with_reducible refine Kd.C_drew ?_))); (case side4 => (have h9 := Kd.R_reads' HOt8.out; rw [← h9.1]; exact h9.2.1)); rintro e w' ⟨rfl, ⟨nd, rfl⟩⟩) | (go_at_call 16; (with_reducible refine (laws_markStringS.calls k (fun k_ => nt4 ≤ k_ ∧ k_ < mt4) (.slice At4 l0.length ct4) l0 1 m0 z0 w _ ?side1 ?side2 E13.out).mono ?_); (case side1 => exact (by repeat (first | (with_reducible first | exact HB.out | apply below_alloc | apply pw_below_drewN | apply below_drew1) | exact HB.out))); (case side2 => exact (by (with_reducible repeat (first | apply Kd.R_alloc | apply Kd.R_drewN | apply Kd.R_drew)); exact HOt4.out)); rintro e w10_ ⟨rfl, hy, hb, hkp⟩; have N_HOt1 := Aside0.mk (Kd.R_kept (by (with_reducible repeat (first | apply Kd.R_alloc | apply Kd.R_drewN | apply Kd.R_drew)); exact HOt1.out) hkp (fun k_ h1_ h2_ => by have ORt1_ := ORt1.out; have ORt2_ := ORt2.out; have ORt3_ := ORt3.out; have ORt4_ := ORt4.out; have ORt5_ := ORt5.out; have ORt6_ := ORt6.out; have ORt7_ := ORt7.out; have ORt8_ := ORt8.out; omega)); have N_HOt2 := Aside0.mk (Kd.R_kept (by (with_reducible repeat (first | apply Kd.R_alloc | apply Kd.R_drewN | apply Kd.R_drew)); exact HOt2.out) hkp (fun k_ h1_ h2_ => by have ORt1_ := ORt1.out; have ORt2_ := ORt2.out; have ORt3_ := ORt3.out; have ORt4_ := ORt4.out; have ORt5_ := ORt5.out; have ORt6_ := ORt6.out; have ORt7_ := ORt7.out; have ORt8_ := ORt8.out; omega)); have N_HOt3 := Aside0.mk (Kd.S_kept (by (with_reducible repeat (first | apply Kd.S_alloc | apply Kd.S_drewN | apply Kd.S_drew)); exact HOt3.out) hkp (fun k_ h1_ h2_ => by have ORt1_ := ORt1.out; have ORt2_ := ORt2.out; have ORt3_ := ORt3.out; have ORt4_ := ORt4.out; have ORt5_ := ORt5.out; have ORt6_ := ORt6.out; have ORt7_ := ORt7.out; have ORt8_ := ORt8.out; omega)); have N_HOt5 := Aside0.mk (Kd.R_kept (by (with_reducible repeat (first | apply Kd.R_alloc | apply Kd.R_drewN | apply Kd.R_drew)); exact HOt5.out) hkp (fun k_ h1_ h2_ => by have ORt1_ := ORt1.out; have ORt2_ := ORt2.out; have ORt3_ := ORt3.out; have ORt4_ := ORt4.out; have ORt5_ := ORt5.out; have ORt6_ := ORt6.out; have ORt7_ := ORt7.out; have ORt8_ := ORt8.out; omega)); have N_HOt6 := Aside0.mk (Kd.S_kept (by (with_reducible repeat (first | apply Kd.S_alloc | apply Kd.S_drewN | apply Kd.S_drew)); exact HOt6.out) hkp (fun k_ h1_ h2_ => by have ORt1_ := ORt1.out; have ORt2_ := ORt2.out; have ORt3_ := ORt3.out; have ORt4_ := ORt4.out; have ORt5_ := ORt5.out; have ORt6_ := ORt6.out; have ORt7_ := ORt7.out; have ORt8_ := ORt8.out; omega)); have N_HOt7 := Aside0.mk (Kd.R_kept (by (with_reducible repeat (first | apply Kd.R_alloc | apply Kd.R_drewN | apply Kd.R_drew)); exact HOt7.out) hkp (fun k_ h1_ h2_ => by have ORt1_ := ORt1.out; have ORt2_ := ORt2.out; have ORt3_ := ORt3.out; have ORt4_ := ORt4.out; have ORt5_ := ORt5.out; have ORt6_ := ORt6.out; have ORt7_ := ORt7.out; have ORt8_ := ORt8.out; omega)); have N_HOt8 := Aside0.mk (Kd.R_kept (by (with_reducible repeat (first | apply Kd.R_alloc | apply Kd.R_drewN | apply Kd.R_drew)); exact HOt8.out) hkp (fun k_ h1_ h2_ => by have ORt1_ := ORt1.out; have ORt2_ := ORt2.out; have ORt3_ := ORt3.out; have ORt4_ := ORt4.out; have ORt5_ := ORt5.out; have ORt6_ := ORt6.out; have ORt7_ := ORt7.out; have ORt8_ := ORt8.out; omega)); have N_HOt4 := Aside0.mk (Kd.R_mono (Kd.R_tight rfl hy) (fun k_ e_ => HOt4.out.1 k_ e_.symm)); have N_HB := Aside0.mk (hb); have N_HS := Aside0.mk (Nat.le_trans HS.out hkp.1); clear HOt1; have HOt1 := N_HOt1; clear N_HOt1; clear HOt2; have HOt2 := N_HOt2; clear N_HOt2; clear HOt3; have HOt3 := N_HOt3; clear N_HOt3; clear HOt5; have HOt5 := N_HOt5; clear N_HOt5; clear HOt6; have HOt6 := N_HOt6; clear N_HOt6; clear HOt7; have HOt7 := N_HOt7; clear N_HOt7; clear HOt8; have HOt8 := N_HOt8; clear N_HOt8; clear HOt4; have HOt4 := N_HOt4; clear N_HOt4; clear HB; have HB := N_HB; clear N_HB; clear HS; have HS := N_HS; clear N_HS; clear hb hkp hy))
  go_upto_region 31 with (first | (go_at_call 16; (with_reducible refine (laws_markStringS.calls k (fun k_ => nt5 ≤ k_ ∧ k_ < mt5) (.slice At5 l1.length ct5) l1 m0 m1 z1 w _ ?side1 ?side2 E14.out).mono ?_); (case side1 => exact (by repeat (first | (with_reducible first | exact HB.out | apply below_alloc | apply pw_below_drewN | apply below_drew1) | exact HB.out))); (case side2 => exact (by (with_reducible repeat (first | apply Kd.R_alloc | apply Kd.R_drewN | apply Kd.R_drew)); exact HOt5.out)); rintro e w11_ ⟨rfl, hy, hb, hkp⟩; have N_HOt1 := Aside0.mk (Kd.R_kept (by (with_reducible repeat (first | apply Kd.R_alloc | apply Kd.R_drewN | apply Kd.R_drew)); exact HOt1.out) hkp (fun k_ h1_ h2_ => by have ORt1_ := ORt1.out; have ORt2_ := ORt2.out; have ORt3_ := ORt3.out; have ORt4_ := ORt4.out; have ORt5_ := ORt5.out; have ORt6_ := ORt6.out; have ORt7_ := ORt7.out; have ORt8_ := ORt8.out; omega)); have N_HOt2 := Aside0.mk (Kd.R_kept (by (with_reducible repeat (first | apply Kd.R_alloc | apply Kd.R_drewN | apply Kd.R_drew)); exact HOt2.out) hkp (fun k_ h1_ h2_ => by have ORt1_ := ORt1.out; have ORt2_ := ORt2.out; have ORt3_ := ORt3.out; have ORt4_ := ORt4.out; have ORt5_ := ORt5.out; have ORt6_ := ORt6.out; have ORt7_ := ORt7.out; have ORt8_ := ORt8.out; omega)); have N_HOt3 := Aside0.mk (Kd.S_kept (by (with_reducible repeat (first | apply Kd.S_alloc | apply Kd.S_drewN | apply Kd.S_drew)); exact HOt3.out) hkp (fun k_ h1_ h2_ => by have ORt1_ := ORt1.out; have ORt2_ := ORt2.out; have ORt3_ := ORt3.out; have ORt4_ := ORt4.out; have ORt5_ := ORt5.out; have ORt6_ := ORt6.out; have ORt7_ := ORt7.out; have ORt8_ := ORt8.out; omega)); have N_HOt4 := Aside0.mk (Kd.R_kept (by (with_reducible repeat (first | apply Kd.R_alloc | apply Kd.R_drewN | apply Kd.R_drew)); exact HOt4.out) hkp (fun k_ h1_ h2_ => by have ORt1_ := ORt1.out; have ORt2_ := ORt2.out; have ORt3_ := ORt3.out; have ORt4_ := ORt4.out; have ORt5_ := ORt5.out; have ORt6_ := ORt6.out; have ORt7_ := ORt7.out; have ORt8_ := ORt8.out; omega)); have N_HOt6 := Aside0.mk (Kd.S_kept (by (with_reducible repeat (first | apply Kd.S_alloc | apply Kd.S_drewN | apply Kd.S_drew)); exact HOt6.out) hkp (fun k_ h1_ h2_ => by have ORt1_ := ORt1.out; have ORt2_ := ORt2.out; have ORt3_ := ORt3.out; have ORt4_ := ORt4.out; have ORt5_ := ORt5.out; have ORt6_ := ORt6.out; have ORt7_ := ORt7.out; have ORt8_ := ORt8.out; omega)); have N_HOt7 := Aside0.mk (Kd.R_kept (by (with_reducible repeat (first | apply Kd.R_alloc | apply Kd.R_drewN | apply Kd.R_drew)); exact HOt7.out) hkp (fun k_ h1_ h2_ => by have ORt1_ := ORt1.out; have ORt2_ := ORt2.out; have ORt3_ := ORt3.out; have ORt4_ := ORt4.out; have ORt5_ := ORt5.out; have ORt6_ := ORt6.out; have ORt7_ := ORt7.out; have ORt8_ := ORt8.out; omega)); have N_HOt8 := Aside0.mk (Kd.R_kept (by (with_reducible repeat (first | apply Kd.R_alloc | apply Kd.R_drewN | apply Kd.R_drew)); exact HOt8.out) hkp (fun k_ h1_ h2_ => by have ORt1_ := ORt1.out; have ORt2_ := ORt2.out; have ORt3_ := ORt3.out; have ORt4_ := ORt4.out; have ORt5_ := ORt5.out; have ORt6_ := ORt6.out; have ORt7_ := ORt7.out; have ORt8_ := ORt8.out; omega)); have N_HOt5 := Aside0.mk (Kd.R_mono (Kd.R_tight rfl hy) (fun k_ e_ => HOt5.out.1 k_ e_.symm)); have N_HB := Aside0.mk (hb); have N_HS := Aside0.mk (Nat.le_trans HS.out hkp.1); clear HOt1; have HOt1 := N_HOt1; clear N_HOt1; clear HOt2; have HOt2 := N_HOt2; clear N_HOt2; clear HOt3; have HOt3 := N_HOt3; clear N_HOt3; clear HOt4; have HOt4 := N_HOt4; clear N_HOt4; clear HOt6; have HOt6 := N_HOt6; clear N_HOt6; clear HOt7; have HOt7 := N_HOt7; clear N_HOt7; clear HOt8; have HOt8 := N_HOt8; clear N_HOt8; clear HOt5; have HOt5 := N_HOt5; clear N_HOt5; clear HB; have HB := N_HB; clear N_HB; clear HS; have HS := N_HS; clear N_HS; clear hb hkp hy) | (go_at_call 22; (with_reducible refine (laws_eqPostS.calls k _ _ w0 _ _ w0 true _ ?side1 ?side2 ?side3 ?side4 E15.out).mono ?_); (case side1 => repeat (first | exact (Kd.S_reads' HOt6.out).2.2 | (with_reducible refine Kd.C_alloc ?_ _) | (with_reducible refine Kd.C_drewN ?_ _) | (with_reducible refine Kd.C_drew ?_))); (case side2 => (have h9 := Kd.S_reads' HOt6.out; rw [← h9.1]; exact h9.2.1)); (case side3 => repeat (first | exact (Kd.S_reads' HOt3.out).2.2 | (with_reducible refine Kd.C_alloc ?_ _) | (with_reducible refine Kd.C_drewN ?_ _) | (with_reducible refine Kd.C_drew ?_))); (case side4 => (have h9 := Kd.S_reads' HOt3.out; rw [← h9.1]; exact h9.2.1)); rintro e w12_ ⟨rfl, hb⟩; have N_HOt1 := Aside0.mk (Kd.R_below (by (with_reducible repeat (first | apply Kd.R_alloc | apply Kd.R_drewN | apply Kd.R_drew)); exact HOt1.out) hb); have N_HOt2 := Aside0.mk (Kd.R_below (by (with_reducible repeat (first | apply Kd.R_alloc | apply Kd.R_drewN | apply Kd.R_drew)); exact HOt2.out) hb); have N_HOt3 := Aside0.mk (Kd.S_below (by (with_reducible repeat (first | apply Kd.S_alloc | apply Kd.S_drewN | apply Kd.S_drew)); exact HOt3.out) hb); have N_HOt4 := Aside0.mk (Kd.R_below (by (with_reducible repeat (first | apply Kd.R_alloc | apply Kd.R_drewN | apply Kd.R_drew)); exact HOt4.out) hb); have N_HOt5 := Aside0.mk (Kd.R_below (by (with_reducible repeat (first | apply Kd.R_alloc | apply Kd.R_drewN | apply Kd.R_drew)); exact HOt5.out) hb); have N_HOt6 := Aside0.mk (Kd.S_below (by (with_reducible repeat (first | apply Kd.S_alloc | apply Kd.S_drewN | apply Kd.S_drew)); exact HOt6.out) hb); have N_HOt7 := Aside0.mk (Kd.R_below (by (with_reducible repeat (first | apply Kd.R_alloc | apply Kd.R_drewN | apply Kd.R_drew)); exact HOt7.out) hb); have N_HOt8 := Aside0.mk (Kd.R_below (by (with_reducible repeat (first | apply Kd.R_alloc | apply Kd.R_drewN | apply Kd.R_drew)); exact HOt8.out) hb); have N_HB := Aside0.mk (below_step (by repeat (first | (with_reducible first | exact HB.out | apply below_alloc | apply pw_below_drewN | apply below_drew1) | exact HB.out)) hb); have N_HS := Aside0.mk (Nat.le_trans HS.out hb.size); clear HOt1; have HOt1 := N_HOt1; clear N_HOt1; clear HOt2; have HOt2 := N_HOt2; clear N_HOt2; clear HOt3; have HOt3 := N_HOt3; clear N_HOt3; clear HOt4; have HOt4 := N_HOt4; clear N_HOt4; clear HOt5; have HOt5 := N_HOt5; clear N_HOt5; clear HOt6; have HOt6 := N_HOt6; clear N_HOt6; clear HOt7; have HOt7 := N_HOt7; clear N_HOt7; clear HOt8; have HOt8 := N_HOt8; clear N_HOt8; clear HB; have HB := N_HB; clear N_HB; clear HS; have HS := N_HS; clear N_HS; clear hb) | (go_at_call 23; (with_reducible refine (laws_markPostS.calls k (fun k_ => nt6 ≤ k_ ∧ k_ < mt6) (.slice At6 w0.length ct6) w0 1 m2 z2 w _ ?side1 ?side2 E16.out).mono ?_); (case side1 => exact (by repeat (first | (with_reducible first | exact HB.out | apply below_alloc | apply pw_below_drewN | apply below_drew1) | exact HB.out))); (case side2 => exact (by (with_reducible repeat (first | apply Kd.S_alloc | apply Kd.S_drewN | apply Kd.S_drew)); exact HOt6.out)); rintro e w13_ ⟨rfl, hy, hb, hkp⟩; have N_HOt1 := Aside0.mk (Kd.R_kept (by (with_reducible repeat (first | apply Kd.R_alloc | apply Kd.R_drewN | apply Kd.R_drew)); exact HOt1.out) hkp (fun k_ h1_ h2_ => by have ORt1_ := ORt1.out; have ORt2_ := ORt2.out; have ORt3_ := ORt3.out; have ORt4_ := ORt4.out; have ORt5_ := ORt5.out; have ORt6_ := ORt6.out; have ORt7_ := ORt7.out; have ORt8_ := ORt8.out; omega)); have N_HOt2 := Aside0.mk (Kd.R_kept (by (with_reducible repeat (first | apply Kd.R_alloc | apply Kd.R_drewN | apply Kd.R_drew)); exact HOt2.out) hkp (fun k_ h1_ h2_ => by have ORt1_ := ORt1.out; have ORt2_ := ORt2.out; have ORt3_ := ORt3.out; have ORt4_ := ORt4.out; have ORt5_ := ORt5.out; have ORt6_ := ORt6.out; have ORt7_ := ORt7.out; have ORt8_ := ORt8.out; omega)); have N_HOt3 := Aside0.mk (Kd.S_kept (by (with_reducible repeat (first | apply Kd.S_alloc | apply Kd.S_drewN | apply Kd.S_drew)); exact HOt3.out) hkp (fun k_ h1_ h2_ => by have ORt1_ := ORt1.out; have ORt2_ := ORt2.out; have ORt3_ := ORt3.out; have ORt4_ := ORt4.out; have ORt5_ := ORt5.out; have ORt6_ := ORt6.out; have ORt7_ := ORt7.out; have ORt8_ := ORt8.out; omega)); have N_HOt4 := Aside0.mk (Kd.R_kept (by (with_reducible repeat (first | apply Kd.R_alloc | apply Kd.R_drewN | apply Kd.R_drew)); exact HOt4.out) hkp (fun k_ h1_ h2_ => by have ORt1_ := ORt1.out; have ORt2_ := ORt2.out; have ORt3_ := ORt3.out; have ORt4_ := ORt4.out; have ORt5_ := ORt5.out; have ORt6_ := ORt6.out; have ORt7_ := ORt7.out; have ORt8_ := ORt8.out; omega)); have N_HOt5 := Aside0.mk (Kd.R_kept (by (with_reducible repeat (first | apply Kd.R_alloc | apply Kd.R_drewN | apply Kd.R_drew)); exact HOt5.out) hkp (fun k_ h1_ h2_ => by have ORt1_ := ORt1.out; have ORt2_ := ORt2.out; have ORt3_ := ORt3.out; have ORt4_ := ORt4.out; have ORt5_ := ORt5.out; have ORt6_ := ORt6.out; have ORt7_ := ORt7.out; have ORt8_ := ORt8.out; omega)); have N_HOt7 := Aside0.mk (Kd.R_kept (by (with_reducible repeat (first | apply Kd.R_alloc | apply Kd.R_drewN | apply Kd.R_drew)); exact HOt7.out) hkp (fun k_ h1_ h2_ => by have ORt1_ := ORt1.out; have ORt2_ := ORt2.out; have ORt3_ := ORt3.out; have ORt4_ := ORt4.out; have ORt5_ := ORt5.out; have ORt6_ := ORt6.out; have ORt7_ := ORt7.out; have ORt8_ := ORt8.out; omega)); have N_HOt8 := Aside0.mk (Kd.R_kept (by (with_reducible repeat (first | apply Kd.R_alloc | apply Kd.R_drewN | apply Kd.R_drew)); exact HOt8.out) hkp (fun k_ h1_ h2_ => by have ORt1_ := ORt1.out; have ORt2_ := ORt2.out; have ORt3_ := ORt3.out; have ORt4_ := ORt4.out; have ORt5_ := ORt5.out; have ORt6_ := ORt6.out; have ORt7_ := ORt7.out; have ORt8_ := ORt8.out; omega)); have N_HOt6 := Aside0.mk (hy); have N_HB := Aside0.mk (hb); have N_HS := Aside0.mk (Nat.le_trans HS.out hkp.1); clear HOt1; have HOt1 := N_HOt1; clear N_HOt1; clear HOt2; have HOt2 := N_HOt2; clear N_HOt2; clear HOt3; have HOt3 := N_HOt3; clear N_HOt3; clear HOt4; have HOt4 := N_HOt4; clear N_HOt4; clear HOt5; have HOt5 := N_HOt5; clear N_HOt5; clear HOt7; have HOt7 := N_HOt7; clear N_HOt7; clear HOt8; have HOt8 := N_HOt8; clear N_HOt8; clear HOt6; have HOt6 := N_HOt6; clear N_HOt6; clear HB; have HB := N_HB; clear N_HB; clear HS; have HS := N_HS; clear N_HS; clear hb hkp hy) | (go_at_call 24; refine calls_of_args (args' := #[.slice At6 z2.length ct6, .int .i64 1]) (by rw [show z2.length = w0.length from (Kd.S_reads' HOt6.out).1.symm] <;> rfl) ?_; (with_reducible refine (laws_heldPostS.calls k _ _ z2 1 m2 _ ?side1 ?side2 E17.out).mono ?_); (case side1 => repeat (first | exact (Kd.S_reads' HOt6.out).2.2 | (with_reducible refine Kd.C_alloc ?_ _) | (with_reducible refine Kd.C_drewN ?_ _) | (with_reducible refine Kd.C_drew ?_))); (case side2 => (have h9 := Kd.S_reads' HOt6.out; rw [← h9.1]; exact h9.2.1)); rintro e w' ⟨rfl, ⟨nd, rfl⟩⟩))
  go_wp2_with (first | (go_at_call 20; (with_reducible refine (laws_toStringS.calls k _ _ l0 l0 _ ?side1 ?side2 E18.out).mono ?_); (case side1 => exact Kd.C_below HR0.out (by repeat (first | (with_reducible first | exact HB.out | apply below_alloc | apply pw_below_drewN | apply below_drew1) | exact HB.out))); (case side2 => exact HC0.out); rintro e w14_ ⟨vt9, rfl, ho, hb⟩; obtain ⟨At9, ct9, ev_⟩ := Kd.R_slice ho; subst ev_; obtain ⟨nt9, mt9, o1_, o2_, o3_, hr_⟩ := Kd.R_iv ho hb (by repeat (first | (with_reducible first | exact HB.out | apply below_alloc | apply pw_below_drewN | apply below_drew1) | exact HB.out)) HS.out; have ORt9 := Aside0.mk (And.intro o1_ o2_); have HOt9 := Aside0.mk hr_; have N_HOt1 := Aside0.mk (Kd.R_below (by (with_reducible repeat (first | apply Kd.R_alloc | apply Kd.R_drewN | apply Kd.R_drew)); exact HOt1.out) hb); have N_HOt2 := Aside0.mk (Kd.R_below (by (with_reducible repeat (first | apply Kd.R_alloc | apply Kd.R_drewN | apply Kd.R_drew)); exact HOt2.out) hb); have N_HOt3 := Aside0.mk (Kd.S_below (by (with_reducible repeat (first | apply Kd.S_alloc | apply Kd.S_drewN | apply Kd.S_drew)); exact HOt3.out) hb); have N_HOt4 := Aside0.mk (Kd.R_below (by (with_reducible repeat (first | apply Kd.R_alloc | apply Kd.R_drewN | apply Kd.R_drew)); exact HOt4.out) hb); have N_HOt5 := Aside0.mk (Kd.R_below (by (with_reducible repeat (first | apply Kd.R_alloc | apply Kd.R_drewN | apply Kd.R_drew)); exact HOt5.out) hb); have N_HOt6 := Aside0.mk (Kd.S_below (by (with_reducible repeat (first | apply Kd.S_alloc | apply Kd.S_drewN | apply Kd.S_drew)); exact HOt6.out) hb); have N_HOt7 := Aside0.mk (Kd.R_below (by (with_reducible repeat (first | apply Kd.R_alloc | apply Kd.R_drewN | apply Kd.R_drew)); exact HOt7.out) hb); have N_HOt8 := Aside0.mk (Kd.R_below (by (with_reducible repeat (first | apply Kd.R_alloc | apply Kd.R_drewN | apply Kd.R_drew)); exact HOt8.out) hb); have N_HB := Aside0.mk (below_step (by repeat (first | (with_reducible first | exact HB.out | apply below_alloc | apply pw_below_drewN | apply below_drew1) | exact HB.out)) hb); clear HOt1; have HOt1 := N_HOt1; clear N_HOt1; clear HOt2; have HOt2 := N_HOt2; clear N_HOt2; clear HOt3; have HOt3 := N_HOt3; clear N_HOt3; clear HOt4; have HOt4 := N_HOt4; clear N_HOt4; clear HOt5; have HOt5 := N_HOt5; clear N_HOt5; clear HOt6; have HOt6 := N_HOt6; clear N_HOt6; clear HOt7; have HOt7 := N_HOt7; clear N_HOt7; clear HOt8; have HOt8 := N_HOt8; clear N_HOt8; clear HB; have HB := N_HB; clear N_HB; clear HS; have HS := Aside0.mk o3_; clear hb ho hr_ o1_ o2_ o3_) | (go_at_call 20; (with_reducible refine (laws_toStringS.calls k _ _ l1 l1 _ ?side1 ?side2 E19.out).mono ?_); (case side1 => exact Kd.C_below HR1.out (by repeat (first | (with_reducible first | exact HB.out | apply below_alloc | apply pw_below_drewN | apply below_drew1) | exact HB.out))); (case side2 => exact HC1.out); rintro e w15_ ⟨vt10, rfl, ho, hb⟩; obtain ⟨At10, ct10, ev_⟩ := Kd.R_slice ho; subst ev_; obtain ⟨nt10, mt10, o1_, o2_, o3_, hr_⟩ := Kd.R_iv ho hb (by repeat (first | (with_reducible first | exact HB.out | apply below_alloc | apply pw_below_drewN | apply below_drew1) | exact HB.out)) HS.out; have ORt10 := Aside0.mk (And.intro o1_ o2_); have HOt10 := Aside0.mk hr_; have N_HOt1 := Aside0.mk (Kd.R_below (by (with_reducible repeat (first | apply Kd.R_alloc | apply Kd.R_drewN | apply Kd.R_drew)); exact HOt1.out) hb); have N_HOt2 := Aside0.mk (Kd.R_below (by (with_reducible repeat (first | apply Kd.R_alloc | apply Kd.R_drewN | apply Kd.R_drew)); exact HOt2.out) hb); have N_HOt3 := Aside0.mk (Kd.S_below (by (with_reducible repeat (first | apply Kd.S_alloc | apply Kd.S_drewN | apply Kd.S_drew)); exact HOt3.out) hb); have N_HOt4 := Aside0.mk (Kd.R_below (by (with_reducible repeat (first | apply Kd.R_alloc | apply Kd.R_drewN | apply Kd.R_drew)); exact HOt4.out) hb); have N_HOt5 := Aside0.mk (Kd.R_below (by (with_reducible repeat (first | apply Kd.R_alloc | apply Kd.R_drewN | apply Kd.R_drew)); exact HOt5.out) hb); have N_HOt6 := Aside0.mk (Kd.S_below (by (with_reducible repeat (first | apply Kd.S_alloc | apply Kd.S_drewN | apply Kd.S_drew)); exact HOt6.out) hb); have N_HOt7 := Aside0.mk (Kd.R_below (by (with_reducible repeat (first | apply Kd.R_alloc | apply Kd.R_drewN | apply Kd.R_drew)); exact HOt7.out) hb); have N_HOt8 := Aside0.mk (Kd.R_below (by (with_reducible repeat (first | apply Kd.R_alloc | apply Kd.R_drewN | apply Kd.R_drew)); exact HOt8.out) hb); have N_HOt9 := Aside0.mk (Kd.R_below (by (with_reducible repeat (first | apply Kd.R_alloc | apply Kd.R_drewN | apply Kd.R_drew)); exact HOt9.out) hb); have N_HB := Aside0.mk (below_step (by repeat (first | (with_reducible first | exact HB.out | apply below_alloc | apply pw_below_drewN | apply below_drew1) | exact HB.out)) hb); clear HOt1; have HOt1 := N_HOt1; clear N_HOt1; clear HOt2; have HOt2 := N_HOt2; clear N_HOt2; clear HOt3; have HOt3 := N_HOt3; clear N_HOt3; clear HOt4; have HOt4 := N_HOt4; clear N_HOt4; clear HOt5; have HOt5 := N_HOt5; clear N_HOt5; clear HOt6; have HOt6 := N_HOt6; clear N_HOt6; clear HOt7; have HOt7 := N_HOt7; clear N_HOt7; clear HOt8; have HOt8 := N_HOt8; clear N_HOt8; clear HOt9; have HOt9 := N_HOt9; clear N_HOt9; clear HB; have HB := N_HB; clear N_HB; clear HS; have HS := Aside0.mk o3_; clear hb ho hr_ o1_ o2_ o3_) | (go_at_call 36; (with_reducible refine (impl_PhraseIn.calls k _ _ l0 _ _ l1 w0 w1 _ ?side1 ?side2 ?side3 ?side4 E20.out).mono ?_); (case side1 => repeat (first | exact (Kd.R_reads' HOt9.out).2.2 | (with_reducible refine Kd.C_alloc ?_ _) | (with_reducible refine Kd.C_drewN ?_ _) | (with_reducible refine Kd.C_drew ?_))); (case side2 => (have h9 := Kd.R_reads' HOt9.out; rw [← h9.1]; exact h9.2.1)); (case side3 => repeat (first | exact (Kd.R_reads' HOt10.out).2.2 | (with_reducible refine Kd.C_alloc ?_ _) | (with_reducible refine Kd.C_drewN ?_ _) | (with_reducible refine Kd.C_drew ?_))); (case side4 => (have h9 := Kd.R_reads' HOt10.out; rw [← h9.1]; exact h9.2.1)); rintro e w16_ ⟨vt11, rfl, ho, hb⟩; obtain ⟨At11, ct11, ev_⟩ := Kd.S_slice ho; subst ev_; obtain ⟨nt11, mt11, o1_, o2_, o3_, hr_⟩ := Kd.S_iv ho hb (by repeat (first | (with_reducible first | exact HB.out | apply below_alloc | apply pw_below_drewN | apply below_drew1) | exact HB.out)) HS.out; have ORt11 := Aside0.mk (And.intro o1_ o2_); have HOt11 := Aside0.mk hr_; have N_HOt1 := Aside0.mk (Kd.R_below (by (with_reducible repeat (first | apply Kd.R_alloc | apply Kd.R_drewN | apply Kd.R_drew)); exact HOt1.out) hb); have N_HOt2 := Aside0.mk (Kd.R_below (by (with_reducible repeat (first | apply Kd.R_alloc | apply Kd.R_drewN | apply Kd.R_drew)); exact HOt2.out) hb); have N_HOt3 := Aside0.mk (Kd.S_below (by (with_reducible repeat (first | apply Kd.S_alloc | apply Kd.S_drewN | apply Kd.S_drew)); exact HOt3.out) hb); have N_HOt4 := Aside0.mk (Kd.R_below (by (with_reducible repeat (first | apply Kd.R_alloc | apply Kd.R_drewN | apply Kd.R_drew)); exact HOt4.out) hb); have N_HOt5 := Aside0.mk (Kd.R_below (by (with_reducible repeat (first | apply Kd.R_alloc | apply Kd.R_drewN | apply Kd.R_drew)); exact HOt5.out) hb); have N_HOt6 := Aside0.mk (Kd.S_below (by (with_reducible repeat (first | apply Kd.S_alloc | apply Kd.S_drewN | apply Kd.S_drew)); exact HOt6.out) hb); have N_HOt7 := Aside0.mk (Kd.R_below (by (with_reducible repeat (first | apply Kd.R_alloc | apply Kd.R_drewN | apply Kd.R_drew)); exact HOt7.out) hb); have N_HOt8 := Aside0.mk (Kd.R_below (by (with_reducible repeat (first | apply Kd.R_alloc | apply Kd.R_drewN | apply Kd.R_drew)); exact HOt8.out) hb); have N_HOt9 := Aside0.mk (Kd.R_below (by (with_reducible repeat (first | apply Kd.R_alloc | apply Kd.R_drewN | apply Kd.R_drew)); exact HOt9.out) hb); have N_HOt10 := Aside0.mk (Kd.R_below (by (with_reducible repeat (first | apply Kd.R_alloc | apply Kd.R_drewN | apply Kd.R_drew)); exact HOt10.out) hb); have N_HB := Aside0.mk (below_step (by repeat (first | (with_reducible first | exact HB.out | apply below_alloc | apply pw_below_drewN | apply below_drew1) | exact HB.out)) hb); clear HOt1; have HOt1 := N_HOt1; clear N_HOt1; clear HOt2; have HOt2 := N_HOt2; clear N_HOt2; clear HOt3; have HOt3 := N_HOt3; clear N_HOt3; clear HOt4; have HOt4 := N_HOt4; clear N_HOt4; clear HOt5; have HOt5 := N_HOt5; clear N_HOt5; clear HOt6; have HOt6 := N_HOt6; clear N_HOt6; clear HOt7; have HOt7 := N_HOt7; clear N_HOt7; clear HOt8; have HOt8 := N_HOt8; clear N_HOt8; clear HOt9; have HOt9 := N_HOt9; clear N_HOt9; clear HOt10; have HOt10 := N_HOt10; clear N_HOt10; clear HB; have HB := N_HB; clear N_HB; clear HS; have HS := Aside0.mk o3_; clear hb ho hr_ o1_ o2_ o3_) | (go_at_call 22; (with_reducible refine (laws_eqPostS.calls k _ _ w0 _ _ w0 true _ ?side1 ?side2 ?side3 ?side4 E21.out).mono ?_); (case side1 => repeat (first | exact (Kd.S_reads' HOt11.out).2.2 | (with_reducible refine Kd.C_alloc ?_ _) | (with_reducible refine Kd.C_drewN ?_ _) | (with_reducible refine Kd.C_drew ?_))); (case side2 => (have h9 := Kd.S_reads' HOt11.out; rw [← h9.1]; exact h9.2.1)); (case side3 => repeat (first | exact (Kd.S_reads' HOt3.out).2.2 | (with_reducible refine Kd.C_alloc ?_ _) | (with_reducible refine Kd.C_drewN ?_ _) | (with_reducible refine Kd.C_drew ?_))); (case side4 => (have h9 := Kd.S_reads' HOt3.out; rw [← h9.1]; exact h9.2.1)); rintro e w17_ ⟨rfl, hb⟩; have N_HOt1 := Aside0.mk (Kd.R_below (by (with_reducible repeat (first | apply Kd.R_alloc | apply Kd.R_drewN | apply Kd.R_drew)); exact HOt1.out) hb); have N_HOt2 := Aside0.mk (Kd.R_below (by (with_reducible repeat (first | apply Kd.R_alloc | apply Kd.R_drewN | apply Kd.R_drew)); exact HOt2.out) hb); have N_HOt3 := Aside0.mk (Kd.S_below (by (with_reducible repeat (first | apply Kd.S_alloc | apply Kd.S_drewN | apply Kd.S_drew)); exact HOt3.out) hb); have N_HOt4 := Aside0.mk (Kd.R_below (by (with_reducible repeat (first | apply Kd.R_alloc | apply Kd.R_drewN | apply Kd.R_drew)); exact HOt4.out) hb); have N_HOt5 := Aside0.mk (Kd.R_below (by (with_reducible repeat (first | apply Kd.R_alloc | apply Kd.R_drewN | apply Kd.R_drew)); exact HOt5.out) hb); have N_HOt6 := Aside0.mk (Kd.S_below (by (with_reducible repeat (first | apply Kd.S_alloc | apply Kd.S_drewN | apply Kd.S_drew)); exact HOt6.out) hb); have N_HOt7 := Aside0.mk (Kd.R_below (by (with_reducible repeat (first | apply Kd.R_alloc | apply Kd.R_drewN | apply Kd.R_drew)); exact HOt7.out) hb); have N_HOt8 := Aside0.mk (Kd.R_below (by (with_reducible repeat (first | apply Kd.R_alloc | apply Kd.R_drewN | apply Kd.R_drew)); exact HOt8.out) hb); have N_HOt9 := Aside0.mk (Kd.R_below (by (with_reducible repeat (first | apply Kd.R_alloc | apply Kd.R_drewN | apply Kd.R_drew)); exact HOt9.out) hb); have N_HOt10 := Aside0.mk (Kd.R_below (by (with_reducible repeat (first | apply Kd.R_alloc | apply Kd.R_drewN | apply Kd.R_drew)); exact HOt10.out) hb); have N_HOt11 := Aside0.mk (Kd.S_below (by (with_reducible repeat (first | apply Kd.S_alloc | apply Kd.S_drewN | apply Kd.S_drew)); exact HOt11.out) hb); have N_HB := Aside0.mk (below_step (by repeat (first | (with_reducible first | exact HB.out | apply below_alloc | apply pw_below_drewN | apply below_drew1) | exact HB.out)) hb); have N_HS := Aside0.mk (Nat.le_trans HS.out hb.size); clear HOt1; have HOt1 := N_HOt1; clear N_HOt1; clear HOt2; have HOt2 := N_HOt2; clear N_HOt2; clear HOt3; have HOt3 := N_HOt3; clear N_HOt3; clear HOt4; have HOt4 := N_HOt4; clear N_HOt4; clear HOt5; have HOt5 := N_HOt5; clear N_HOt5; clear HOt6; have HOt6 := N_HOt6; clear N_HOt6; clear HOt7; have HOt7 := N_HOt7; clear N_HOt7; clear HOt8; have HOt8 := N_HOt8; clear N_HOt8; clear HOt9; have HOt9 := N_HOt9; clear N_HOt9; clear HOt10; have HOt10 := N_HOt10; clear N_HOt10; clear HOt11; have HOt11 := N_HOt11; clear N_HOt11; clear HB; have HB := N_HB; clear N_HB; clear HS; have HS := N_HS; clear N_HS; clear hb) | (go_at_call 24; refine calls_of_args (args' := #[.slice At6 z2.length ct6, .int .i64 1]) (by rw [show z2.length = w0.length from (Kd.S_reads' HOt6.out).1.symm] <;> rfl) ?_; (with_reducible refine (laws_heldPostS.calls k _ _ z2 1 m2 _ ?side1 ?side2 E22.out).mono ?_); (case side1 => repeat (first | exact (Kd.S_reads' HOt6.out).2.2 | (with_reducible refine Kd.C_alloc ?_ _) | (with_reducible refine Kd.C_drewN ?_ _) | (with_reducible refine Kd.C_drew ?_))); (case side2 => (have h9 := Kd.S_reads' HOt6.out; rw [← h9.1]; exact h9.2.1)); rintro e w' ⟨rfl, ⟨nd, rfl⟩⟩))
  go_ret
  exact ⟨by first | rfl | (simp; done), (by repeat (first | (with_reducible first | exact HB.out | apply below_alloc | apply pw_below_drewN | apply below_drew1) | exact HB.out))⟩
end Go.Proofs.Ytcopakljdenolaa.Fn
namespace Go.Proofs.Ytcopakljdenolaa.Pure
open Go.RowKit Go.Proofs.YtcopakljdenolaaW.PrintWords Go.Proofs.YtcopakljdenolaaW.PrintLast Go.Proofs.YtcopakljdenolaaW.PrintMore

/-- A string's bytes, as numbers. -/
def nm (s : ByteArray) : List Int := s.data.toList.map fun b => (b.toNat : Int)
theorem nm_length (s : ByteArray) : (nm s).length = s.size := by
  rw [nm, List.length_map, Array.length_toList]; rfl
theorem u8_inj {a b : UInt8} (h : (a.toNat : Int) = (b.toNat : Int)) : a = b := UInt8.toNat_inj.1 (by omega)
theorem nm_inj {s t : ByteArray} (h : nm s = nm t) : s = t := by
  have : s.data.toList = t.data.toList := List.map_inj_right (fun a b h => u8_inj h) |>.1 h
  exact WideShapes.bytes_inj this
theorem toList_iff {s t : ByteArray} : s.toList = t.toList ↔ nm s = nm t := by
  rw [Lib.toList_data, Lib.toList_data, nm, nm]
  exact ⟨fun h => by rw [h], fun h => List.map_inj_right (fun a b h => u8_inj h) |>.1 h⟩
theorem toList_nil {s : ByteArray} : s.toList = ([] : List UInt8) ↔ nm s = [] := by
  rw [Lib.toList_data, nm]
  simp
theorem nm_range {s : ByteArray} {x : Int} (h : x ∈ nm s) : 0 ≤ x ∧ x < 256 := by
  obtain ⟨b, _, rfl⟩ := List.mem_map.1 h
  have := UInt8.toNat_lt b
  omega
theorem bt_nm (s : ByteArray) (i : Int) : bt s i = rd (nm s) i := (rd_bytesOf s i).symm
theorem nm_get {s : ByteArray} {i : Nat} {x : Int} (h : (nm s)[i]? = some x) : bt s (i : Int) = x := by rw [bt_nm]; exact rd_at h
theorem nm_extract (s : ByteArray) (a b : Nat) : nm (s.extract a b) = ((nm s).drop a).take (b - a) := by
  rw [nm, ← Lib.toList_data, Lib.extract_toList, List.map_take, List.map_drop]; rfl
theorem nm_tail (s : ByteArray) (a : Nat) : nm (s.extract a s.size) = (nm s).drop a := by
  rw [nm_extract]
  exact List.take_of_length_le (by rw [List.length_drop, nm_length]; omega)
/-- Bytes of a tail. -/
theorem bt_tail (s : ByteArray) (a : Nat) (i : Nat) : bt (s.extract a s.size) (i : Int) = bt s ((a + i : Nat) : Int) := by
  rw [bt_nm, bt_nm, nm_tail]
  have e : ((a + i : Nat) : Int).toNat = a + i := by omega
  simp only [rd, List.getD_eq_getElem?_getD, e, Int.toNat_natCast, List.getElem?_drop]
theorem nm_nums (xs : List Int) (h : ∀ x ∈ xs, 0 ≤ x ∧ x < 256) : nm (strOfNums xs) = xs := by
  rw [nm, strOfNums_data, List.map_map]
  conv => rhs; rw [← List.map_id xs]
  refine List.map_congr_left fun x hx => ?_
  have := h x hx
  simp only [Function.comp, id, UInt8.toNat_ofNat']
  omega
theorem nums_nm (s : ByteArray) : strOfNums (nm s) = s := nm_inj (nm_nums _ fun _ h => nm_range h)
theorem nm_append (s t : ByteArray) : nm (s ++ t) = nm s ++ nm t := by
  simp [nm]
theorem nm_empty : nm (⟨#[]⟩ : ByteArray) = [] := rfl
theorem or64 (i : Nat) (x y : Int) (hx0 : 0 ≤ x) (hx : x % 2 ^ i = 0) (hx1 : x < 2 ^ 62) (hy0 : 0 ≤ y) (hy : y < 2 ^ i) (hy1 : y < 2 ^ 62) : Go.bits .or .i64 x y = x + y :=
  bits_join .i64 62 (by decide) (fun n h0 h1 => by rw [IntKind.wrap_i64]; omega) i x y hx0 hx hx1 hy0 hy hy1
/-- A row is marked, element by element: c is the next mark. -/
theorem mark_ev {α γ : Type} (L : Nat → List α → γ → Int → Option (γ × List α)) (cn : Nat → γ) (e : Nat → α → α) (l : List α)
    (hend : ∀ k x, x.length = l.length → L (k + 1) x (cn l.length) (l.length : Int) = some (cn l.length, x))
    (hstep : ∀ (i : Nat) (y : α), l[i]? = some y → ∃ K, ∀ k (x : List α), K ≤ k → x.length = l.length → x[i]? = some y → L (k + 1) x (cn i) (i : Int) = L k (x.set i (e i y)) (cn (i + 1)) ((i + 1 : Nat) : Int)) :
    Ev (fun k => L k l (cn 0) 0) (cn l.length, l.mapIdx e) := by
  have := ev_down l.length (fun i => Ev (fun k => L k ((l.mapIdx e).take i ++ l.drop i) (cn i) (i : Int)) (cn l.length, l.mapIdx e)) ?_ ?_
  · simpa using this
  · refine ⟨1, fun k hk => ?_⟩
    obtain ⟨m, rfl⟩ : ∃ m, k = m + 1 := ⟨k - 1, by omega⟩
    dsimp only
    rw [hend _ _ (by simp)]
    simp only [List.drop_length, List.append_nil]
    rw [List.take_of_length_le (by simp)]
  · intro i hi ih
    have hx : l[i]? = some l[i] := List.getElem?_eq_getElem hi
    have hm : i = ((l.mapIdx e).take i).length := by simp; omega
    obtain ⟨K, hK⟩ := hstep i _ hx
    refine Ev.next (K := K) (fun k hk => ?_) ih
    have hd : l.drop i = l[i] :: l.drop (i + 1) := List.drop_eq_getElem_cons hi
    have hat : ((l.mapIdx e).take i ++ l.drop i)[i]? = some l[i] := by
      rw [List.getElem?_append_right (by omega), hd]
      have h0 : i - ((l.mapIdx e).take i).length = 0 := by omega
      rw [h0]; rfl
    rw [hK k _ hk (by simp; omega) hat]
    congr 1
    rw [List.set_append_right _ _ (by omega)]
    have h1 : i - ((l.mapIdx e).take i).length = 0 := by omega
    rw [h1, hd, List.set_cons_zero, List.take_succ_eq_append_getElem (by simpa using hi)]
    simp
/-- Two rows of one length, compared element by element. -/
theorem same_ev {α : Type} [DecidableEq α] (L : Nat → Int → Option Bool) (a b : List α) (hlen : a.length = b.length) (hend : ∀ k, L (k + 1) (a.length : Int) = some true)
    (hyes : ∀ k (i : Nat) x, i < a.length → a[i]? = some x → b[i]? = some x → L (k + 1) (i : Int) = L k ((i + 1 : Nat) : Int))
    (hno : ∀ k (i : Nat) x y, i < a.length → a[i]? = some x → b[i]? = some y → x ≠ y → L (k + 1) (i : Int) = some false) : Ev (fun k => L k 0) (decide (a = b)) := by
  have key : ∀ (t u : List α) (i : Nat), a.drop i = t → b.drop i = u → i ≤ a.length → Ev (fun k => L k (i : Int)) (decide (t = u)) := by
    intro t
    induction t with
    | nil =>
      intro u i h1 h2 hi
      have h3 := drop_len h1 hi
      have h4 := drop_len h2 (by omega)
      have e : i = a.length := by simpa using h3
      have hu : u = [] := List.length_eq_zero_iff.1 (by omega)
      subst hu
      refine Ev.up ?_
      rw [e]
      exact Ev.same (K := 0) (fun k _ => hend k) (Ev.val (by simp))
    | cons x t ih =>
      intro u i h1 h2 hi
      have h3 := drop_len h1 hi
      have h4 := drop_len h2 (by omega)
      cases u with
      | nil => simp at h3 h4; omega
      | cons y u =>
        obtain ⟨p1, p2, p3⟩ := drop_cons h1
        obtain ⟨q1, q2, q3⟩ := drop_cons h2
        by_cases hxy : x = y
        · subst hxy
          have := ih u (i + 1) p3 q3 (by omega)
          have e : decide (x :: t = x :: u) = decide (t = u) := by simp
          rw [e]
          exact Ev.up (Ev.same (K := 0) (fun k _ => hyes k i x (by omega) p2 q2) this)
        · exact Ev.up (Ev.same (K := 0) (fun k _ => hno k i x y (by omega) p2 q2 hxy) (Ev.val (by simp [hxy])))
  have h := key a b 0 rfl rfl (by omega)
  exact h
end Go.Proofs.Ytcopakljdenolaa.Pure
namespace Go.Proofs.Ytcopakljdenolaa.Pure
open Go.RowKit Go.Proofs.Ytcopakljdenolaa.Fn Go.Proofs.YtcopakljdenolaaW.PrintWords Go.Proofs.YtcopakljdenolaaW.PrintLast Go.Proofs.YtcopakljdenolaaW.PrintMore
set_option linter.unusedSimpArgs false

theorem szStrs_ev (l : List ByteArray) (hl : l.length ≤ maxLen) (hs : ∀ y ∈ l, y.size ≤ maxLen) (a : Int) (h0 : 0 ≤ a) (h1 : a ≤ 1048576) :
    ∃ r : Int, Ev (fun k => laws_szStringS.f k l a) r ∧ r ≤ a ∧ (0 ≤ r → (l.length : Int) ≤ a ∧ ∀ y ∈ l, (y.size : Int) ≤ a) := by
  simp only [maxLen] at hl hs
  have key : ∀ (t : List ByteArray) (i : Nat) (m : Int), l.drop i = t → i ≤ l.length → 0 ≤ m → m ≤ a →
      ∃ r : Int, Ev (fun k => laws_szStringS.l0 k l m i) r ∧ r ≤ a ∧ (0 ≤ r → ∀ y ∈ t, (y.size : Int) ≤ a) := by
    intro t
    induction t with
    | nil =>
      intro i m h _ _ hm
      have := drop_nil h
      exact ⟨m, by (refine Ev.up ?_; simp only [laws_szStringS.l0, decT]); (repeat (first | with_reducible refine Ev.bindS ?_ | (with_reducible refine Ev.ifp ?_ ?_; (· first | omega | assumption | rfl | (simp only [List.length_map, List.length_replicate, List.length_take, List.length_drop, List.length_append, List.length_cons, List.length_nil, List.length_set]; omega) | (simp; done))) | (with_reducible refine Ev.ifn ?_ ?_; (· first | omega | assumption | rfl | (simp only [List.length_map, List.length_replicate, List.length_take, List.length_drop, List.length_append, List.length_cons, List.length_nil, List.length_set]; omega) | (simp; done))))); exact Ev.val rfl, hm, by simp⟩
    | cons x t ih =>
      intro i m h hi hm0 hm
      obtain ⟨p1, p2, p3⟩ := drop_cons h
      have hx := hs x (List.mem_of_getElem? p2)
      have e : wrap64 (m - (x.size : Int)) = m - (x.size : Int) := wrap_ok (by omega) (by omega)
      by_cases hlt : m - (x.size : Int) < 0
      · refine ⟨-1, ?_, by omega, by omega⟩
        (refine Ev.up ?_; simp only [laws_szStringS.l0, decT])
        rw [rdOf_at p2, e]
        (repeat (first | with_reducible refine Ev.bindS ?_ | (with_reducible refine Ev.ifp ?_ ?_; (· first | omega | assumption | rfl | (simp only [List.length_map, List.length_replicate, List.length_take, List.length_drop, List.length_append, List.length_cons, List.length_nil, List.length_set]; omega) | (simp; done))) | (with_reducible refine Ev.ifn ?_ ?_; (· first | omega | assumption | rfl | (simp only [List.length_map, List.length_replicate, List.length_take, List.length_drop, List.length_append, List.length_cons, List.length_nil, List.length_set]; omega) | (simp; done)))))
        exact Ev.val rfl
      · obtain ⟨r, q1, q2, q3⟩ := ih (i + 1) (m - x.size) p3 (by omega) (by omega) (by omega)
        refine ⟨r, ?_, q2, fun hr y hy => ?_⟩
        · (refine Ev.up ?_; simp only [laws_szStringS.l0, decT])
          rw [rdOf_at p2, e, wrap_succ (by omega)]
          (repeat (first | with_reducible refine Ev.bindS ?_ | (with_reducible refine Ev.ifp ?_ ?_; (· first | omega | assumption | rfl | (simp only [List.length_map, List.length_replicate, List.length_take, List.length_drop, List.length_append, List.length_cons, List.length_nil, List.length_set]; omega) | (simp; done))) | (with_reducible refine Ev.ifn ?_ ?_; (· first | omega | assumption | rfl | (simp only [List.length_map, List.length_replicate, List.length_take, List.length_drop, List.length_append, List.length_cons, List.length_nil, List.length_set]; omega) | (simp; done)))))
          exact q1
        · rcases List.mem_cons.1 hy with rfl | hy
          · omega
          · exact q3 hr y hy
  have e : wrap64 (a - (l.length : Int)) = a - (l.length : Int) := wrap_ok (by omega) (by omega)
  by_cases hlt : a - (l.length : Int) < 0
  · refine ⟨-1, ?_, by omega, by omega⟩
    simp only [laws_szStringS.f, e]
    (repeat (first | with_reducible refine Ev.bindS ?_ | (with_reducible refine Ev.ifp ?_ ?_; (· first | omega | assumption | rfl | (simp only [List.length_map, List.length_replicate, List.length_take, List.length_drop, List.length_append, List.length_cons, List.length_nil, List.length_set]; omega) | (simp; done))) | (with_reducible refine Ev.ifn ?_ ?_; (· first | omega | assumption | rfl | (simp only [List.length_map, List.length_replicate, List.length_take, List.length_drop, List.length_append, List.length_cons, List.length_nil, List.length_set]; omega) | (simp; done)))))
    exact Ev.val rfl
  · obtain ⟨r, q1, q2, q3⟩ := key l 0 (a - l.length) rfl (by omega) (by omega) (by omega)
    refine ⟨r, ?_, q2, fun hr => ⟨by omega, q3 hr⟩⟩
    simp only [laws_szStringS.f, e]
    (repeat (first | with_reducible refine Ev.bindS ?_ | (with_reducible refine Ev.ifp ?_ ?_; (· first | omega | assumption | rfl | (simp only [List.length_map, List.length_replicate, List.length_take, List.length_drop, List.length_append, List.length_cons, List.length_nil, List.length_set]; omega) | (simp; done))) | (with_reducible refine Ev.ifn ?_ ?_; (· first | omega | assumption | rfl | (simp only [List.length_map, List.length_replicate, List.length_take, List.length_drop, List.length_append, List.length_cons, List.length_nil, List.length_set]; omega) | (simp; done)))))
    exact q1
theorem toStrs_ev (l : List ByteArray) (hl : l.length ≤ 1048576) : Ev (fun k => laws_toStringS.f k l) l := by
  have h := copy_ev (fun k x3 i => laws_toStringS.l0 k l x3 i) id (⟨#[]⟩ : ByteArray) l ?_ ?_
  · rw [List.map_id] at h
    simp only [laws_toStringS.f, Int.toNat_natCast]
    (repeat (first | with_reducible refine Ev.bindS ?_ | (with_reducible refine Ev.ifp ?_ ?_; (· first | omega | assumption | rfl | (simp only [List.length_map, List.length_replicate, List.length_take, List.length_drop, List.length_append, List.length_cons, List.length_nil, List.length_set]; omega) | (simp; done))) | (with_reducible refine Ev.ifn ?_ ?_; (· first | omega | assumption | rfl | (simp only [List.length_map, List.length_replicate, List.length_take, List.length_drop, List.length_append, List.length_cons, List.length_nil, List.length_set]; omega) | (simp; done)))))
    exact h
  · intro k x3
    simp only [laws_toStringS.l0]
    rw [if_neg (by omega)]
  · intro i x hx
    have hlt := (List.getElem?_eq_some_iff.1 hx).1
    refine ⟨0, fun k x3 _ h3 => ?_⟩
    simp only [laws_toStringS.l0]
    rw [if_pos (by omega), if_pos (by omega), rdOf_at hx, if_pos (by omega), wrap_succ (by omega), Int.toNat_natCast]
    rfl
theorem eqStrs_ev (l : List ByteArray) (hl : l.length ≤ 1048576) : Ev (fun k => laws_eqStringS.f k l l) true := by
  have h := all_ev (fun k i => laws_eqStringS.l0 k l l i) l.length true ?_ ?_
  · simp only [laws_eqStringS.f]
    (repeat (first | with_reducible refine Ev.bindS ?_ | (with_reducible refine Ev.ifp ?_ ?_; (· first | omega | assumption | rfl | (simp only [List.length_map, List.length_replicate, List.length_take, List.length_drop, List.length_append, List.length_cons, List.length_nil, List.length_set]; omega) | (simp; done))) | (with_reducible refine Ev.ifn ?_ ?_; (· first | omega | assumption | rfl | (simp only [List.length_map, List.length_replicate, List.length_take, List.length_drop, List.length_append, List.length_cons, List.length_nil, List.length_set]; omega) | (simp; done)))))
    exact h
  · intro k
    simp only [laws_eqStringS.l0]
    rw [if_neg (by omega)]
  · intro i hi
    refine ⟨0, fun k _ => ?_⟩
    simp only [laws_eqStringS.l0]
    rw [if_pos (by omega), if_pos (by omega), if_pos (by omega), wrap_succ (by omega)]
    simp
end Go.Proofs.Ytcopakljdenolaa.Pure
namespace Go.Proofs.Ytcopakljdenolaa.Fn
open Go.RowKit Go.Proofs.YtcopakljdenolaaW.PrintWords Go.Proofs.YtcopakljdenolaaW.PrintLast Go.Proofs.YtcopakljdenolaaW.PrintMore
attribute [local go_sem] max2_int min2_int max_two min_two max_three min_three max_four min_four   -- for this text's walks alone
set_option linter.unusedVariables false
set_option linter.unusedSimpArgs false

/-! ### laws_heldStringS: function 17 -/
def laws_heldStringS.l0 : Nat → List ByteArray → Int → Int → Option (Int)
  | 0, _, _, _ => none
  | k + 1, x0, x1, x5 => if x5 < (x0.length : Int) then (if 0 ≤ x5 then ((laws_markText.f k x1).bind fun t394 => (if (rdOf ByteArray.empty x0 x5).toList = t394.toList then (laws_heldStringS.l0 k x0 (wrap64 (x1 + 1)) (wrap64 (x5 + 1))) else (some (-1)))) else (none)) else (some x1)
def laws_heldStringS.f (k : Nat) (l0 : List ByteArray) (a1 : Int) : Option (Int) := laws_heldStringS.l0 k l0 a1 0
theorem laws_heldStringS.mono_l : ∀ k, (∀ y0 y1 y2, LeO (laws_heldStringS.l0 k y0 y1 y2) (laws_heldStringS.l0 (k + 1) y0 y1 y2))
  | 0 => fun _ _ _ r h => by simp [laws_heldStringS.l0] at h
  | k + 1 => by
    have ih0 := laws_heldStringS.mono_l k
    · intro y0 y1 y2
      unfold laws_heldStringS.l0
      repeat' first
      | (with_reducible exact ih0 _ _ _)
      | (with_reducible exact laws_markText.mono _ _)
      | (with_reducible exact LeO.refl _)
      | (with_reducible exact LeO.none _)
      | (with_reducible refine LeO.ite ?_ ?_)
      | (with_reducible refine LeO.bind ?_ (fun _ => ?_))
      | exact ih0 _ _ _
      | exact laws_markText.mono _ _
      | exact LeO.none _
      | refine LeO.ite ?_ ?_
      | refine LeO.bind ?_ (fun _ => ?_)
theorem laws_heldStringS.mono : ∀ a0 a1 k, LeO (laws_heldStringS.f k a0 a1) (laws_heldStringS.f (k + 1) a0 a1) := by
  intro a0 a1 k
  have ih0 := laws_heldStringS.mono_l k
  unfold laws_heldStringS.f
  repeat' first
      | (with_reducible exact ih0 _ _ _)
      | (with_reducible exact laws_markText.mono _ _)
      | (with_reducible exact LeO.refl _)
      | (with_reducible exact LeO.none _)
      | (with_reducible refine LeO.ite ?_ ?_)
      | (with_reducible refine LeO.bind ?_ (fun _ => ?_))
      | exact ih0 _ _ _
      | exact laws_markText.mono _ _
      | exact LeO.none _
      | refine LeO.ite ?_ ?_
      | refine LeO.bind ?_ (fun _ => ?_)
set_option maxHeartbeats 8000000 in
set_option maxRecDepth 100000 in
theorem laws_heldStringS.calls (k : Nat) (A0 : Option Addr) (c0 : Nat) (l0 : List ByteArray) (a1 : Int) (r : Int) (w : World) (hr0 : Kd.C Kd.string w A0 l0.length l0) (hc0 : l0.length ≤ c0) (h : laws_heldStringS.f k l0 a1 = some r) :
    Calls Try.prog 17 #[.slice A0 l0.length c0, .int .i64 a1] w fun e w' => e = .returned (.int .i64 r) ∧ Below w.heap.size w w' := by
  have HR0 := Aside0.mk hr0
  have HC0 := Aside0.mk hc0
  clear hr0 hc0
  have HB := Aside0.mk (Below.refl w.heap.size w)
  have H : (laws_heldStringS.l0 k l0 a1 0) = some r := h
  clear h
  have H' := Aside0.mk H
  clear H
  go_enter Try.func17, Try.ntmps17
  go_wp2
  go_loopg [1, 5] k (fun kq v1 v5 w' => ∃ (x1_1 : Int) (x5_1 : Int), v1 = .int .i64 x1_1 ∧ v5 = .int .i64 x5_1 ∧ Aside0 (laws_heldStringS.l0 kq l0 x1_1 x5_1 = some r) ∧ Aside0 (kq ≤ k) ∧ Aside0 (Below w.heap.size w w'))
  case atStart => exact ⟨(a1), (0), (by first | rfl | (simp; done) | (simp [*]; done)), (by first | rfl | (simp; done) | (simp [*]; done)), H', ⟨Nat.le_refl _⟩, ⟨by repeat (first | (with_reducible first | exact HB.out | apply below_alloc | apply pw_below_drewN | apply below_drew1) | exact HB.out)⟩⟩
  case round =>
    clear H'
    try clear c1
    try clear p2
    obtain ⟨x1_1, x5_1, rfl, rfl, HA, HK1, HB⟩ := hrel
    cases gk with
    | zero => exact absurd HA.out (by simp [laws_heldStringS.l0])
    | succ k1 =>
      have H := HA.out
      clear HA
      simp only [laws_heldStringS.l0] at H
      by_cases c3 : x5_1 < (l0.length : Int)
      · rw [if_pos c3] at H
        have c3b0 : decide (x5_1 < (l0.length : Int)) = true := decide_eq_true c3
        clear c3
        by_cases c4 : 0 ≤ x5_1
        · rw [if_pos c4] at H
          have c4b0 : decide (0 ≤ x5_1) = true := decide_eq_true c4
          clear c4
          replace H := Option.bind_eq_some_iff.mp H
          obtain ⟨t394, A50, H⟩ := H
          replace H : (if (rdOf ByteArray.empty l0 x5_1).toList = t394.toList then (laws_heldStringS.l0 k1 l0 (wrap64 (x1_1 + 1)) (wrap64 (x5_1 + 1))) else (some (-1))) = some r := H
          have A5 := Aside0.mk A50
          clear A50
          by_cases c6 : (rdOf ByteArray.empty l0 x5_1).toList = t394.toList
          · rw [if_pos c6] at H
            have c6b0 : ((rdOf ByteArray.empty l0 x5_1).toList == t394.toList) = true := beq_iff_eq.mpr c6
            have c6b1 : ((rdOf ByteArray.empty l0 x5_1).toList != t394.toList) = false := bne_eq_false_iff_eq.mpr c6
            clear c6
            have H' := Aside0.mk H
            clear H
            try go_wp2
            have n0_ := Aside0.mk (below_drew1 HB.out)
            clear HB
            have HB := n0_
            clear n0_
            have p393 : 0 ≤ (x5_1 : Int) := of_decide_eq_true (by first | (with_reducible assumption) | assumption)
            have q393 : x5_1 < (l0.length : Int) := of_decide_eq_true (by first | (with_reducible assumption) | assumption)
            obtain ⟨ad393, e393, hx393_0⟩ := Kd.at_string HR0.out x5_1 p393 q393
            have hw393_0 := hx393_0
            cases e393
            replace hx393_0 := (HB.out.cell (World.block_lt_of_cell? w _ hx393_0)).trans hx393_0
            replace p393 := eq_true p393
            replace q393 := eq_true q393
            refine start_ (n := 7) (S := fun w' => w'.cell? (ad393.add (x5_1).toNat) = some (.string (rdOf ByteArray.empty l0 x5_1))) (ds := []) #[false, false, false, false, false, false, false] (by kernel_rfl) rfl rfl (((HB.out.cell (World.block_lt_of_cell? w _ hw393_0)).trans hw393_0)) (fun hHeld => ?_)
            generalize wr.drew = w7 at HB hx393_0 hHeld ⊢
            refine pure_ (i := 0) (N := some 12) (v := ?_) (a' := ?_) #[true, false, false, false, false, false, false] rfl rfl (by kernel_rfl) (fun _ _ _ h => h) (Or.inl ⟨by rfl, ?_⟩) ?_ ?_
            rotate_left
            · intro w'
              go_simp
              with_reducible rfl
            rotate_left
            · simp only [Act.put, List.setIfInBounds_toArray, List.set_cons_zero, List.set_cons_succ, i64_w, i32_w]
              rfl
            refine pure_ (i := 1) (N := some 13) (v := ?_) (a' := ?_) #[true, true, false, false, false, false, false] rfl rfl (by kernel_rfl) (fun _ _ _ h => h) (Or.inl ⟨by rfl, ?_⟩) ?_ ?_
            rotate_left
            · intro w'
              go_simp
              with_reducible rfl
            rotate_left
            · simp only [Act.put, List.setIfInBounds_toArray, List.set_cons_zero, List.set_cons_succ, i64_w, i32_w]
              rfl
            refine pure_ (i := 2) (N := some 14) (v := ?_) (a' := ?_) #[true, true, true, false, false, false, false] rfl rfl (by kernel_rfl) (fun _ _ _ h => h) (Or.inl ⟨by rfl, ?_⟩) ?_ ?_
            rotate_left
            · intro w'
              go_simp
              with_reducible rfl
            rotate_left
            · simp only [Act.put, List.setIfInBounds_toArray, List.set_cons_zero, List.set_cons_succ, i64_w, i32_w]
              rfl
            refine pure_ (i := 4) (N := some 16) (v := ?_) (a' := ?_) #[true, true, true, false, true, false, false] rfl rfl (by kernel_rfl) (fun _ _ _ h => h) (Or.inl ⟨by rfl, ?_⟩) ?_ ?_
            rotate_left
            · intro w'
              go_simp
              with_reducible rfl
            rotate_left
            · simp only [Act.put, List.setIfInBounds_toArray, List.set_cons_zero, List.set_cons_succ, i64_w, i32_w]
              rfl
            refine take_ (i := 3) (N := some 15) (v := ?_) (a' := ?_) #[true, true, true, true, true, false, false] rfl rfl (by kernel_rfl) (fun _ _ _ h => h) (Or.inl ⟨by rfl, ?_⟩) hHeld ?_ ?_
            rotate_left
            · intro w' s0
              go_simp
              with_reducible rfl
            rotate_left
            · simp only [Act.put, List.setIfInBounds_toArray, List.set_cons_zero, List.set_cons_succ, i64_w, i32_w]
              rfl
            refine one_ (i := 5) (N := some 17) #[true, true, true, true, true, true, false] rfl rfl (by kernel_rfl) (by decide) (fun K hK => ?_)
            refine goes_ Try.func54 (by kernel_rfl) rfl #[.int .i64 x1_1] (by rfl) rfl rfl (by (try simp only [List.map_toArray, List.map_cons, List.map_nil]); first | done | rfl | (simp only [List.length_drop, List.length_take]; rfl)) ?_
            with_reducible refine (laws_markText.calls k1 x1_1 t394 _ A5.out).mono ?_
            rintro e w8 ⟨rfl, hb⟩
            refine ⟨_, rfl, ?_⟩
            have n0_ := Aside0.mk (below_step (by repeat (first | (with_reducible first | exact HB.out | apply below_alloc | apply pw_below_drewN | apply below_drew1) | exact HB.out)) hb)
            clear HB
            have HB := n0_
            clear n0_
            (try clear hb)
            (try clear hb2)
            (try clear hk)
            (try clear hi)
            refine hK.out _ _ (((HB.out.cell (World.block_lt_of_cell? w _ hw393_0)).trans hw393_0)) (fun hHeld => ?_)
            clear hK K
            refine norm_ (a' := ?_) ?_ ?_
            rotate_left
            · show Act.put _ (some 17) _ = _
              simp only [Act.put, List.setIfInBounds_toArray, List.set_cons_zero, List.set_cons_succ, i64_w, i32_w]
              rfl
            refine pure_ (i := 6) (N := some 18) (v := ?_) (a' := ?_) #[true, true, true, true, true, true, true] rfl rfl (by kernel_rfl) (fun _ _ _ h => h) (Or.inl ⟨by rfl, ?_⟩) ?_ ?_
            rotate_left
            · intro w'
              go_simp
              with_reducible rfl
            rotate_left
            · simp only [Act.put, List.setIfInBounds_toArray, List.set_cons_zero, List.set_cons_succ, i64_w, i32_w]
              rfl
            refine done_ (by kernel_rfl) ?_
            try go_wp2
            go_roundg k1
            case measure => have := HK1.out; omega
            case rel => exact ⟨(wrap64 (x1_1 + 1)), (wrap64 (x5_1 + 1)), (by first | rfl | (simp; done) | (simp [*]; done)), (by first | rfl | (simp; done) | (simp [*]; done)), H', ⟨by have := HK1.out; omega⟩, ⟨by repeat (first | (with_reducible first | exact HB.out | apply below_alloc | apply pw_below_drewN | apply below_drew1) | exact HB.out)⟩⟩
          · rw [if_neg c6] at H
            have c6b0 : ((rdOf ByteArray.empty l0 x5_1).toList == t394.toList) = false := beq_eq_false_iff_ne.mpr c6
            have c6b1 : ((rdOf ByteArray.empty l0 x5_1).toList != t394.toList) = true := bne_iff_ne.mpr c6
            obtain rfl := Option.some.inj H
            try go_wp2
            have n0_ := Aside0.mk (below_drew1 HB.out)
            clear HB
            have HB := n0_
            clear n0_
            have p393 : 0 ≤ (x5_1 : Int) := of_decide_eq_true (by first | (with_reducible assumption) | assumption)
            have q393 : x5_1 < (l0.length : Int) := of_decide_eq_true (by first | (with_reducible assumption) | assumption)
            obtain ⟨ad393, e393, hx393_0⟩ := Kd.at_string HR0.out x5_1 p393 q393
            have hw393_0 := hx393_0
            cases e393
            replace hx393_0 := (HB.out.cell (World.block_lt_of_cell? w _ hx393_0)).trans hx393_0
            replace p393 := eq_true p393
            replace q393 := eq_true q393
            refine start_ (n := 7) (S := fun w' => w'.cell? (ad393.add (x5_1).toNat) = some (.string (rdOf ByteArray.empty l0 x5_1))) (ds := []) #[false, false, false, false, false, false, false] (by kernel_rfl) rfl rfl (((HB.out.cell (World.block_lt_of_cell? w _ hw393_0)).trans hw393_0)) (fun hHeld => ?_)
            generalize wr.drew = w9 at HB hx393_0 hHeld ⊢
            refine pure_ (i := 0) (N := some 12) (v := ?_) (a' := ?_) #[true, false, false, false, false, false, false] rfl rfl (by kernel_rfl) (fun _ _ _ h => h) (Or.inl ⟨by rfl, ?_⟩) ?_ ?_
            rotate_left
            · intro w'
              go_simp
              with_reducible rfl
            rotate_left
            · simp only [Act.put, List.setIfInBounds_toArray, List.set_cons_zero, List.set_cons_succ, i64_w, i32_w]
              rfl
            refine pure_ (i := 1) (N := some 13) (v := ?_) (a' := ?_) #[true, true, false, false, false, false, false] rfl rfl (by kernel_rfl) (fun _ _ _ h => h) (Or.inl ⟨by rfl, ?_⟩) ?_ ?_
            rotate_left
            · intro w'
              go_simp
              with_reducible rfl
            rotate_left
            · simp only [Act.put, List.setIfInBounds_toArray, List.set_cons_zero, List.set_cons_succ, i64_w, i32_w]
              rfl
            refine pure_ (i := 2) (N := some 14) (v := ?_) (a' := ?_) #[true, true, true, false, false, false, false] rfl rfl (by kernel_rfl) (fun _ _ _ h => h) (Or.inl ⟨by rfl, ?_⟩) ?_ ?_
            rotate_left
            · intro w'
              go_simp
              with_reducible rfl
            rotate_left
            · simp only [Act.put, List.setIfInBounds_toArray, List.set_cons_zero, List.set_cons_succ, i64_w, i32_w]
              rfl
            refine pure_ (i := 4) (N := some 16) (v := ?_) (a' := ?_) #[true, true, true, false, true, false, false] rfl rfl (by kernel_rfl) (fun _ _ _ h => h) (Or.inl ⟨by rfl, ?_⟩) ?_ ?_
            rotate_left
            · intro w'
              go_simp
              with_reducible rfl
            rotate_left
            · simp only [Act.put, List.setIfInBounds_toArray, List.set_cons_zero, List.set_cons_succ, i64_w, i32_w]
              rfl
            refine take_ (i := 3) (N := some 15) (v := ?_) (a' := ?_) #[true, true, true, true, true, false, false] rfl rfl (by kernel_rfl) (fun _ _ _ h => h) (Or.inl ⟨by rfl, ?_⟩) hHeld ?_ ?_
            rotate_left
            · intro w' s0
              go_simp
              with_reducible rfl
            rotate_left
            · simp only [Act.put, List.setIfInBounds_toArray, List.set_cons_zero, List.set_cons_succ, i64_w, i32_w]
              rfl
            refine one_ (i := 5) (N := some 17) #[true, true, true, true, true, true, false] rfl rfl (by kernel_rfl) (by decide) (fun K hK => ?_)
            refine goes_ Try.func54 (by kernel_rfl) rfl #[.int .i64 x1_1] (by rfl) rfl rfl (by (try simp only [List.map_toArray, List.map_cons, List.map_nil]); first | done | rfl | (simp only [List.length_drop, List.length_take]; rfl)) ?_
            with_reducible refine (laws_markText.calls k1 x1_1 t394 _ A5.out).mono ?_
            rintro e w10 ⟨rfl, hb⟩
            refine ⟨_, rfl, ?_⟩
            have n0_ := Aside0.mk (below_step (by repeat (first | (with_reducible first | exact HB.out | apply below_alloc | apply pw_below_drewN | apply below_drew1) | exact HB.out)) hb)
            clear HB
            have HB := n0_
            clear n0_
            (try clear hb)
            (try clear hb2)
            (try clear hk)
            (try clear hi)
            refine hK.out _ _ (((HB.out.cell (World.block_lt_of_cell? w _ hw393_0)).trans hw393_0)) (fun hHeld => ?_)
            clear hK K
            refine norm_ (a' := ?_) ?_ ?_
            rotate_left
            · show Act.put _ (some 17) _ = _
              simp only [Act.put, List.setIfInBounds_toArray, List.set_cons_zero, List.set_cons_succ, i64_w, i32_w]
              rfl
            refine pure_ (i := 6) (N := some 18) (v := ?_) (a' := ?_) #[true, true, true, true, true, true, true] rfl rfl (by kernel_rfl) (fun _ _ _ h => h) (Or.inl ⟨by rfl, ?_⟩) ?_ ?_
            rotate_left
            · intro w'
              go_simp
              with_reducible rfl
            rotate_left
            · simp only [Act.put, List.setIfInBounds_toArray, List.set_cons_zero, List.set_cons_succ, i64_w, i32_w]
              rfl
            refine done_ (by kernel_rfl) ?_
            try go_wp2
            go_ret
            exact ⟨by first | rfl | (simp [errW_none, errW_some] <;> rfl) | (simp [*, errW_none, errW_some] <;> rfl), by repeat (first | (with_reducible first | exact HB.out | apply below_alloc | apply pw_below_drewN | apply below_drew1) | exact HB.out)⟩
        · rw [if_neg c4] at H
          exact absurd H (by simp)
      · rw [if_neg c3] at H
        have c3b0 : decide (x5_1 < (l0.length : Int)) = false := decide_eq_false c3
        clear c3
        obtain rfl := Option.some.inj H
        go_wp2
        go_ret
        exact ⟨by first | rfl | (simp [errW_none, errW_some] <;> rfl) | (simp [*, errW_none, errW_some] <;> rfl), by repeat (first | (with_reducible first | exact HB.out | apply below_alloc | apply pw_below_drewN | apply below_drew1) | exact HB.out)⟩

end Go.Proofs.Ytcopakljdenolaa.Fn
namespace Go.Proofs.Ytcopakljdenolaa.Pure
open Go.RowKit Go.Proofs.Ytcopakljdenolaa.Fn Go.Proofs.YtcopakljdenolaaW.PrintWords Go.Proofs.YtcopakljdenolaaW.PrintLast Go.Proofs.YtcopakljdenolaaW.PrintMore
set_option linter.unusedSimpArgs false
set_option linter.unusedVariables false

theorem str_append_size (a b : ByteArray) : (a ++ b).size = a.size + b.size := by
  rw [← nm_length, ← nm_length, ← nm_length, nm_append, List.length_append]
theorem one_size (c : Int) : (strOfNums [c]).size = 1 := rfl
theorem markText_some (n : Int) (hn : n ≤ 1073741824) : ∃ t, Ev (fun k => laws_markText.f k n) t := by
  have key : ∀ (d : Nat) (x : Int) (s : ByteArray), x ≤ d → x ≤ 1073741824 → (s.size : Int) + d ≤ 4611686018427387904 → ∃ t, Ev (fun k => laws_markText.l0 k x s) t := by
    intro d
    induction d with
    | zero =>
      intro x s h1 h2 h3
      refine ⟨(⟨#[109]⟩ : ByteArray) ++ s, ?_⟩
      (refine Ev.up ?_; simp only [laws_markText.l0, decT])
      (repeat (first | with_reducible refine Ev.bindS ?_ | (with_reducible refine Ev.ifp ?_ ?_; (· first | omega | assumption | rfl | (simp only [List.length_map, List.length_replicate, List.length_take, List.length_drop, List.length_append, List.length_cons, List.length_nil, List.length_set]; omega) | (simp; done))) | (with_reducible refine Ev.ifn ?_ ?_; (· first | omega | assumption | rfl | (simp only [List.length_map, List.length_replicate, List.length_take, List.length_drop, List.length_append, List.length_cons, List.length_nil, List.length_set]; omega) | (simp; done)))))
      exact Ev.val rfl
    | succ d ih =>
      intro x s h1 h2 h3
      by_cases hx : x > 0
      · have e1 : wrap64 (Int.tdiv x 10) = x / 10 := by
          rw [Int.tdiv_eq_ediv_of_nonneg (by omega)]
          exact wrap_ok (by omega) (by omega)
        have hz : ∀ c : Int, (strOfNums [c]).size = 1 := one_size
        obtain ⟨t, ht⟩ := ih (x / 10) (strOfNums [(wrap64 (48 + (Int.tmod x 10))) % 256] ++ s) (by omega) (by omega) (by rw [str_append_size, hz]; omega)
        refine ⟨t, ?_⟩
        (refine Ev.up ?_; simp only [laws_markText.l0, decT])
        rw [e1]
        (repeat (first | with_reducible refine Ev.bindS ?_ | (with_reducible refine Ev.ifp ?_ ?_; (· first | omega | assumption | rfl | (simp only [List.length_map, List.length_replicate, List.length_take, List.length_drop, List.length_append, List.length_cons, List.length_nil, List.length_set]; omega) | (simp; done))) | (with_reducible refine Ev.ifn ?_ ?_; (· first | omega | assumption | rfl | (simp only [List.length_map, List.length_replicate, List.length_take, List.length_drop, List.length_append, List.length_cons, List.length_nil, List.length_set]; omega) | (simp; done)))))
        rw [hz]
        (repeat (first | with_reducible refine Ev.bindS ?_ | (with_reducible refine Ev.ifp ?_ ?_; (· first | omega | assumption | rfl | (simp only [List.length_map, List.length_replicate, List.length_take, List.length_drop, List.length_append, List.length_cons, List.length_nil, List.length_set]; omega) | (simp; done))) | (with_reducible refine Ev.ifn ?_ ?_; (· first | omega | assumption | rfl | (simp only [List.length_map, List.length_replicate, List.length_take, List.length_drop, List.length_append, List.length_cons, List.length_nil, List.length_set]; omega) | (simp; done)))))
        exact ht
      · refine ⟨(⟨#[109]⟩ : ByteArray) ++ s, ?_⟩
        (refine Ev.up ?_; simp only [laws_markText.l0, decT])
        (repeat (first | with_reducible refine Ev.bindS ?_ | (with_reducible refine Ev.ifp ?_ ?_; (· first | omega | assumption | rfl | (simp only [List.length_map, List.length_replicate, List.length_take, List.length_drop, List.length_append, List.length_cons, List.length_nil, List.length_set]; omega) | (simp; done))) | (with_reducible refine Ev.ifn ?_ ?_; (· first | omega | assumption | rfl | (simp only [List.length_map, List.length_replicate, List.length_take, List.length_drop, List.length_append, List.length_cons, List.length_nil, List.length_set]; omega) | (simp; done)))))
        exact Ev.val rfl
  by_cases h : n ≤ 0
  · refine ⟨(⟨#[109, 48]⟩ : ByteArray), ?_⟩
    simp only [laws_markText.f]
    (repeat (first | with_reducible refine Ev.bindS ?_ | (with_reducible refine Ev.ifp ?_ ?_; (· first | omega | assumption | rfl | (simp only [List.length_map, List.length_replicate, List.length_take, List.length_drop, List.length_append, List.length_cons, List.length_nil, List.length_set]; omega) | (simp; done))) | (with_reducible refine Ev.ifn ?_ ?_; (· first | omega | assumption | rfl | (simp only [List.length_map, List.length_replicate, List.length_take, List.length_drop, List.length_append, List.length_cons, List.length_nil, List.length_set]; omega) | (simp; done)))))
    exact Ev.val rfl
  · obtain ⟨t, ht⟩ := key n.toNat n (⟨#[]⟩ : ByteArray) (by omega) hn (by show ((0 : Nat) : Int) + _ ≤ _; omega)
    refine ⟨t, ?_⟩
    simp only [laws_markText.f]
    (repeat (first | with_reducible refine Ev.bindS ?_ | (with_reducible refine Ev.ifp ?_ ?_; (· first | omega | assumption | rfl | (simp only [List.length_map, List.length_replicate, List.length_take, List.length_drop, List.length_append, List.length_cons, List.length_nil, List.length_set]; omega) | (simp; done))) | (with_reducible refine Ev.ifn ?_ ?_; (· first | omega | assumption | rfl | (simp only [List.length_map, List.length_replicate, List.length_take, List.length_drop, List.length_append, List.length_cons, List.length_nil, List.length_set]; omega) | (simp; done)))))
    exact ht
theorem markText_all : ∃ f : Int → ByteArray, ∀ n, n ≤ 1073741824 → Ev (fun k => laws_markText.f k n) (f n) := by
  have h : ∀ n : Int, ∃ t, n ≤ 1073741824 → Ev (fun k => laws_markText.f k n) t := by
    intro n
    by_cases hn : n ≤ 1073741824
    · obtain ⟨t, ht⟩ := markText_some n hn
      exact ⟨t, fun _ => ht⟩
    · exact ⟨(⟨#[]⟩ : ByteArray), fun h => absurd h hn⟩
  exact ⟨fun n => Classical.choose (h n), fun n => Classical.choose_spec (h n)⟩
theorem markStrs_ev (l : List ByteArray) (hl : l.length ≤ 1048576) (c : Int) (h0 : 0 ≤ c) (h1 : c ≤ 1000000000) :
    ∃ l' : List ByteArray, l'.length = l.length ∧ Ev (fun k => laws_markStringS.f k l c) (c + l.length, l') ∧ Ev (fun k => laws_heldStringS.f k l' c) (c + l.length) := by
  obtain ⟨f, hf⟩ := markText_all
  refine ⟨l.mapIdx fun i _ => f (c + i), by simp, ?_, ?_⟩
  · have h := mark_ev (fun k x a i => laws_markStringS.l0 k x a i) (fun i => c + (i : Int)) (fun i _ => f (c + i)) l ?_ ?_
    · simp only [laws_markStringS.f]
      rw [show c + ((0 : Nat) : Int) = c by omega] at h
      exact h
    · intro k x hx
      simp only [laws_markStringS.l0]
      rw [if_neg (by omega)]
    · intro i y hy
      have hlt := (List.getElem?_eq_some_iff.1 hy).1
      obtain ⟨K, hK⟩ := hf (c + i) (by omega)
      refine ⟨K, fun k x hk hx _ => ?_⟩
      have e1 : wrap64 (c + (i : Int) + 1) = c + ((i + 1 : Nat) : Int) := by rw [wrap_ok (by omega) (by omega)]; omega
      have hk := hK k hk
      dsimp only at hk
      simp only [laws_markStringS.l0]
      rw [if_pos (by omega), hk, Option.bind_some, if_pos (by omega), wrap_succ (by omega), e1, Int.toNat_natCast]
  · have key : ∀ (t : List ByteArray) (i : Nat), (l.mapIdx fun i _ => f (c + i)).drop i = t → i ≤ l.length → Ev (fun k => laws_heldStringS.l0 k (l.mapIdx fun i _ => f (c + i)) (c + i) i) (c + l.length) := by
      intro t
      induction t with
      | nil =>
        intro i h hi
        have h2 := drop_nil h
        simp only [List.length_mapIdx] at h2
        have e : i = l.length := by omega
        (refine Ev.up ?_; simp only [laws_heldStringS.l0, decT])
        rw [List.length_mapIdx]
        (repeat (first | with_reducible refine Ev.bindS ?_ | (with_reducible refine Ev.ifp ?_ ?_; (· first | omega | assumption | rfl | (simp only [List.length_map, List.length_replicate, List.length_take, List.length_drop, List.length_append, List.length_cons, List.length_nil, List.length_set]; omega) | (simp; done))) | (with_reducible refine Ev.ifn ?_ ?_; (· first | omega | assumption | rfl | (simp only [List.length_map, List.length_replicate, List.length_take, List.length_drop, List.length_append, List.length_cons, List.length_nil, List.length_set]; omega) | (simp; done)))))
        exact Ev.val (by rw [e])
      | cons x t ih =>
        intro i h hi
        obtain ⟨p1, p2, p3⟩ := drop_cons h
        rw [List.length_mapIdx] at p1
        have ih := ih (i + 1) p3 (by omega)
        have hx : x = f (c + i) := by
          rw [List.getElem?_mapIdx] at p2
          obtain ⟨y, _, hy⟩ := Option.map_eq_some_iff.1 p2
          exact hy.symm
        have e1 : wrap64 (c + (i : Int) + 1) = c + ((i + 1 : Nat) : Int) := by rw [wrap_ok (by omega) (by omega)]; omega
        (refine Ev.up ?_; simp only [laws_heldStringS.l0, decT])
        rw [List.length_mapIdx, rdOf_at p2, e1, wrap_succ (by omega)]
        (repeat (first | with_reducible refine Ev.bindS ?_ | (with_reducible refine Ev.ifp ?_ ?_; (· first | omega | assumption | rfl | (simp only [List.length_map, List.length_replicate, List.length_take, List.length_drop, List.length_append, List.length_cons, List.length_nil, List.length_set]; omega) | (simp; done))) | (with_reducible refine Ev.ifn ?_ ?_; (· first | omega | assumption | rfl | (simp only [List.length_map, List.length_replicate, List.length_take, List.length_drop, List.length_append, List.length_cons, List.length_nil, List.length_set]; omega) | (simp; done)))))
        refine Ev.bind (hf (c + i) (by omega)) ?_
        rw [hx]
        (repeat (first | with_reducible refine Ev.bindS ?_ | (with_reducible refine Ev.ifp ?_ ?_; (· first | omega | assumption | rfl | (simp only [List.length_map, List.length_replicate, List.length_take, List.length_drop, List.length_append, List.length_cons, List.length_nil, List.length_set]; omega) | (simp; done))) | (with_reducible refine Ev.ifn ?_ ?_; (· first | omega | assumption | rfl | (simp only [List.length_map, List.length_replicate, List.length_take, List.length_drop, List.length_append, List.length_cons, List.length_nil, List.length_set]; omega) | (simp; done)))))
        exact ih
    have h := key _ 0 rfl (by omega)
    simp only [laws_heldStringS.f]
    rw [show c + ((0 : Nat) : Int) = c by omega] at h
    exact h
end Go.Proofs.Ytcopakljdenolaa.Pure
namespace Go.Proofs.Ytcopakljdenolaa.Fn
open Go.RowKit Go.Proofs.YtcopakljdenolaaW.PrintWords Go.Proofs.YtcopakljdenolaaW.PrintLast Go.Proofs.YtcopakljdenolaaW.PrintMore
attribute [local go_sem] max2_int min2_int max_two min_two max_three min_three max_four min_four   -- for this text's walks alone
set_option linter.unusedVariables false
set_option linter.unusedSimpArgs false

/-! ### spec_WordsOf: function 13 -/
def spec_WordsOf.f (k : Nat) (a0 : ByteArray) : Option (List ByteArray × Bool) := (spec_l9Words.f k a0).bind fun t573 => (if (a0.size : Int) > 120 then (some (([] : List ByteArray), false)) else (if (t573.length : Int) > 20 then (some (([] : List ByteArray), false)) else (some (t573, true))))
theorem spec_WordsOf.mono : ∀ a0 k, LeO (spec_WordsOf.f k a0) (spec_WordsOf.f (k + 1) a0) := by
  intro a0 k
  unfold spec_WordsOf.f
  repeat' first
      | (with_reducible exact spec_l9Words.mono _ _)
      | (with_reducible exact LeO.refl _)
      | (with_reducible exact LeO.none _)
      | (with_reducible refine LeO.ite ?_ ?_)
      | (with_reducible refine LeO.bind ?_ (fun _ => ?_))
      | exact spec_l9Words.mono _ _
      | exact LeO.none _
      | refine LeO.ite ?_ ?_
      | refine LeO.bind ?_ (fun _ => ?_)
set_option maxHeartbeats 8000000 in
set_option maxRecDepth 100000 in
theorem spec_WordsOf.calls (k : Nat) (a0 : ByteArray) (r1 : List ByteArray) (r2 : Bool) (w : World) (h : spec_WordsOf.f k a0 = some (r1, r2)) :
    Calls Try.prog 13 #[.string a0] w fun e w' => ∃ v0_ : Value, e = .returned (.tuple #[v0_, .bool r2]) ∧ Kd.R Kd.string 9 w' w.heap.size (fun _ => True) v0_ r1 ∧ Below w.heap.size w w' := by
  have HB := Aside0.mk (Below.refl w.heap.size w)
  have H : ((spec_l9Words.f k a0).bind fun t573 => (if (a0.size : Int) > 120 then (some (([] : List ByteArray), false)) else (if (t573.length : Int) > 20 then (some (([] : List ByteArray), false)) else (some (t573, true))))) = some (r1, r2) := h
  clear h
  replace H := Option.bind_eq_some_iff.mp H
  obtain ⟨t573, A20, H⟩ := H
  replace H : (if (a0.size : Int) > 120 then (some (([] : List ByteArray), false)) else (if (t573.length : Int) > 20 then (some (([] : List ByteArray), false)) else (some (t573, true)))) = some (r1, r2) := H
  have A2 := Aside0.mk A20
  clear A20
  by_cases c3 : (a0.size : Int) > 120
  · rw [if_pos c3] at H
    have c3b0 : decide (120 < (a0.size : Int)) = true := decide_eq_true c3
    have c3b1 : decide (120 < a0.size) = true := decide_eq_true (by omega)
    clear c3
    simp only [Option.some.injEq, Prod.mk.injEq] at H
    obtain ⟨rfl, rfl⟩ := H
    go_enter Try.func13, Try.ntmps13
    go_wp2_with (first | ((with_reducible refine gate_callee (f := 52) rfl ?_); refine goesL_ (some 6) rfl rfl Try.func52 (by kernel_rfl) rfl #[.string a0] rfl (by (try simp only [List.map_toArray, List.map_cons, List.map_nil]); first | done | rfl | (simp only [List.length_drop, List.length_take]; rfl)) ?_; (with_reducible refine (spec_l9Words.calls k a0 t573 _ A2.out).mono ?_); rintro e w4 ⟨v574, rfl, ho0, hb⟩; refine ⟨_, rfl, ?_⟩; have n0_ := Aside0.mk (Kd.R_lower ho0 (below_size (by repeat (first | (with_reducible first | exact HB.out | apply below_alloc | apply pw_below_drewN | apply below_drew1) | exact HB.out)))); have n1_ := Aside0.mk (below_step (by repeat (first | (with_reducible first | exact HB.out | apply below_alloc | apply pw_below_drewN | apply below_drew1) | exact HB.out)) hb); clear HB; have HO575 := n0_; have HB := n1_; clear n0_ n1_; (try clear hb); (try clear hb2); (try clear hk); (try clear hi); (try clear ho0)))
    go_ret2
    exact ⟨_, by first | rfl | (simp [errW_none, errW_some] <;> rfl) | (simp [*, errW_none, errW_some] <;> rfl), by first | exact Kd.R_nil _ _ _ _ _ | exact Kd.N_nil _ _ _ _ _ | exact Kd.V_nil _ _ _ _ _ | exact Kd.Q_nil _ _ _ _ _ | exact Kd.S_nil _ _ _ _ _, by repeat (first | (with_reducible first | exact HB.out | apply below_alloc | apply pw_below_drewN | apply below_drew1) | exact HB.out)⟩
  · rw [if_neg c3] at H
    have c3b0 : decide (120 < (a0.size : Int)) = false := decide_eq_false c3
    have c3b1 : decide (120 < a0.size) = false := decide_eq_false (by omega)
    clear c3
    by_cases c5 : (t573.length : Int) > 20
    · rw [if_pos c5] at H
      have c5b0 : decide (20 < (t573.length : Int)) = true := decide_eq_true c5
      have c5b1 : decide (20 < t573.length) = true := decide_eq_true (by omega)
      clear c5
      simp only [Option.some.injEq, Prod.mk.injEq] at H
      obtain ⟨rfl, rfl⟩ := H
      go_enter Try.func13, Try.ntmps13
      go_wp2_with (first | ((with_reducible refine gate_callee (f := 52) rfl ?_); refine goesL_ (some 6) rfl rfl Try.func52 (by kernel_rfl) rfl #[.string a0] rfl (by (try simp only [List.map_toArray, List.map_cons, List.map_nil]); first | done | rfl | (simp only [List.length_drop, List.length_take]; rfl)) ?_; (with_reducible refine (spec_l9Words.calls k a0 t573 _ A2.out).mono ?_); rintro e w6 ⟨v574, rfl, ho0, hb⟩; refine ⟨_, rfl, ?_⟩; have n0_ := Aside0.mk (Kd.R_lower ho0 (below_size (by repeat (first | (with_reducible first | exact HB.out | apply below_alloc | apply pw_below_drewN | apply below_drew1) | exact HB.out)))); have n1_ := Aside0.mk (below_step (by repeat (first | (with_reducible first | exact HB.out | apply below_alloc | apply pw_below_drewN | apply below_drew1) | exact HB.out)) hb); clear HB; have HO575 := n0_; have HB := n1_; clear n0_ n1_; (try clear hb); (try clear hb2); (try clear hk); (try clear hi); (try clear ho0); obtain ⟨Ao7, co7, eo7⟩ := Kd.R_slice HO575.out; subst eo7))
      go_ret2
      exact ⟨_, by first | rfl | (simp [errW_none, errW_some] <;> rfl) | (simp [*, errW_none, errW_some] <;> rfl), by first | exact Kd.R_nil _ _ _ _ _ | exact Kd.N_nil _ _ _ _ _ | exact Kd.V_nil _ _ _ _ _ | exact Kd.Q_nil _ _ _ _ _ | exact Kd.S_nil _ _ _ _ _, by repeat (first | (with_reducible first | exact HB.out | apply below_alloc | apply pw_below_drewN | apply below_drew1) | exact HB.out)⟩
    · rw [if_neg c5] at H
      have c5b0 : decide (20 < (t573.length : Int)) = false := decide_eq_false c5
      have c5b1 : decide (20 < t573.length) = false := decide_eq_false (by omega)
      clear c5
      simp only [Option.some.injEq, Prod.mk.injEq] at H
      obtain ⟨rfl, rfl⟩ := H
      go_enter Try.func13, Try.ntmps13
      go_wp2_with (first | ((with_reducible refine gate_callee (f := 52) rfl ?_); refine goesL_ (some 6) rfl rfl Try.func52 (by kernel_rfl) rfl #[.string a0] rfl (by (try simp only [List.map_toArray, List.map_cons, List.map_nil]); first | done | rfl | (simp only [List.length_drop, List.length_take]; rfl)) ?_; (with_reducible refine (spec_l9Words.calls k a0 t573 _ A2.out).mono ?_); rintro e w8 ⟨v574, rfl, ho0, hb⟩; refine ⟨_, rfl, ?_⟩; have n0_ := Aside0.mk (Kd.R_lower ho0 (below_size (by repeat (first | (with_reducible first | exact HB.out | apply below_alloc | apply pw_below_drewN | apply below_drew1) | exact HB.out)))); have n1_ := Aside0.mk (below_step (by repeat (first | (with_reducible first | exact HB.out | apply below_alloc | apply pw_below_drewN | apply below_drew1) | exact HB.out)) hb); clear HB; have HO575 := n0_; have HB := n1_; clear n0_ n1_; (try clear hb); (try clear hb2); (try clear hk); (try clear hi); (try clear ho0); obtain ⟨Ao9, co9, eo9⟩ := Kd.R_slice HO575.out; subst eo9))
      go_ret2
      exact ⟨_, by first | rfl | (simp [errW_none, errW_some] <;> rfl) | (simp [*, errW_none, errW_some] <;> rfl), by (with_reducible repeat (first | apply Kd.R_alloc | apply Kd.R_drewN | apply Kd.R_drew)); exact HO575.out, by repeat (first | (with_reducible first | exact HB.out | apply below_alloc | apply pw_below_drewN | apply below_drew1) | exact HB.out)⟩

end Go.Proofs.Ytcopakljdenolaa.Fn
namespace Go.Proofs.Ytcopakljdenolaa.Pure
open Go.RowKit Go.Proofs.Ytcopakljdenolaa.Fn Go.Proofs.YtcopakljdenolaaW.PrintWords Go.Proofs.YtcopakljdenolaaW.PrintLast Go.Proofs.YtcopakljdenolaaW.PrintMore
set_option linter.unusedSimpArgs false
set_option linter.unusedVariables false

abbrev eS : ByteArray := ⟨#[]⟩
def letter (b : Int) : Int := if 97 ≤ b ∧ b ≤ 122 then b else if 65 ≤ b ∧ b ≤ 90 then b + 32 else 0
theorem nil_size {w : ByteArray} : w.toList = ([] : List UInt8) ↔ w.size = 0 := by
  rw [toList_nil, ← nm_length]
  exact List.length_eq_zero_iff.symm
def flush (w : ByteArray) (out : List ByteArray) : List ByteArray := if w.size = 0 then out else out ++ [w]
def wordsFrom : List Int → ByteArray → List ByteArray → List ByteArray
  | [], w, out => flush w out
  | b :: t, w, out => if letter b = 0 then wordsFrom t eS (flush w out) else wordsFrom t (w ++ strOfNums [letter b]) out
def wordsOf (s : ByteArray) : List ByteArray := wordsFrom (nm s) eS []
theorem flush_len (w : ByteArray) (out : List ByteArray) : (flush w out).length ≤ out.length + 1 := by
  unfold flush
  split
  · omega
  · simp
theorem words_len (t : List Int) : ∀ (w : ByteArray) (out : List ByteArray), (wordsFrom t w out).length ≤ out.length + t.length + 1 := by
  induction t with
  | nil => intro w out; have := flush_len w out; simp only [wordsFrom, List.length_nil]; omega
  | cons b t ih =>
    intro w out
    simp only [wordsFrom, List.length_cons]
    split
    · have h1 := ih eS (flush w out)
      have h2 := flush_len w out
      omega
    · have := ih (w ++ strOfNums [letter b]) out
      omega
theorem specLetter_ev (b : Int) (h0 : 0 ≤ b) (h1 : b < 256) : Ev (fun k => spec_l9Letter.f k b) (letter b) := by
  simp only [spec_l9Letter.f]
  by_cases h : b ≥ 97
  · (repeat (first | with_reducible refine Ev.bindS ?_ | (with_reducible refine Ev.ifp ?_ ?_; (· first | omega | assumption | rfl | (simp only [List.length_map, List.length_replicate, List.length_take, List.length_drop, List.length_append, List.length_cons, List.length_nil, List.length_set]; omega) | (simp; done))) | (with_reducible refine Ev.ifn ?_ ?_; (· first | omega | assumption | rfl | (simp only [List.length_map, List.length_replicate, List.length_take, List.length_drop, List.length_append, List.length_cons, List.length_nil, List.length_set]; omega) | (simp; done)))))
    (refine Ev.up ?_; simp only [spec_l9Letter.j0, decT])
    by_cases h2 : b ≤ 122
    · (repeat (first | with_reducible refine Ev.bindS ?_ | (with_reducible refine Ev.ifp ?_ ?_; (· first | omega | assumption | rfl | (simp only [List.length_map, List.length_replicate, List.length_take, List.length_drop, List.length_append, List.length_cons, List.length_nil, List.length_set]; omega) | (simp; done))) | (with_reducible refine Ev.ifn ?_ ?_; (· first | omega | assumption | rfl | (simp only [List.length_map, List.length_replicate, List.length_take, List.length_drop, List.length_append, List.length_cons, List.length_nil, List.length_set]; omega) | (simp; done)))))
      exact Ev.val (by rw [letter, if_pos ⟨h, h2⟩])
    · (repeat (first | with_reducible refine Ev.bindS ?_ | (with_reducible refine Ev.ifp ?_ ?_; (· first | omega | assumption | rfl | (simp only [List.length_map, List.length_replicate, List.length_take, List.length_drop, List.length_append, List.length_cons, List.length_nil, List.length_set]; omega) | (simp; done))) | (with_reducible refine Ev.ifn ?_ ?_; (· first | omega | assumption | rfl | (simp only [List.length_map, List.length_replicate, List.length_take, List.length_drop, List.length_append, List.length_cons, List.length_nil, List.length_set]; omega) | (simp; done)))))
      exact Ev.val (by rw [letter, if_neg (by omega), if_neg (by omega)])
  · (repeat (first | with_reducible refine Ev.bindS ?_ | (with_reducible refine Ev.ifp ?_ ?_; (· first | omega | assumption | rfl | (simp only [List.length_map, List.length_replicate, List.length_take, List.length_drop, List.length_append, List.length_cons, List.length_nil, List.length_set]; omega) | (simp; done))) | (with_reducible refine Ev.ifn ?_ ?_; (· first | omega | assumption | rfl | (simp only [List.length_map, List.length_replicate, List.length_take, List.length_drop, List.length_append, List.length_cons, List.length_nil, List.length_set]; omega) | (simp; done)))))
    (refine Ev.up ?_; simp only [spec_l9Letter.j0, decT])
    (repeat (first | with_reducible refine Ev.bindS ?_ | (with_reducible refine Ev.ifp ?_ ?_; (· first | omega | assumption | rfl | (simp only [List.length_map, List.length_replicate, List.length_take, List.length_drop, List.length_append, List.length_cons, List.length_nil, List.length_set]; omega) | (simp; done))) | (with_reducible refine Ev.ifn ?_ ?_; (· first | omega | assumption | rfl | (simp only [List.length_map, List.length_replicate, List.length_take, List.length_drop, List.length_append, List.length_cons, List.length_nil, List.length_set]; omega) | (simp; done)))))
    by_cases h2 : b ≥ 65
    · by_cases h3 : b ≤ 90
      · (repeat (first | with_reducible refine Ev.bindS ?_ | (with_reducible refine Ev.ifp ?_ ?_; (· first | omega | assumption | rfl | (simp only [List.length_map, List.length_replicate, List.length_take, List.length_drop, List.length_append, List.length_cons, List.length_nil, List.length_set]; omega) | (simp; done))) | (with_reducible refine Ev.ifn ?_ ?_; (· first | omega | assumption | rfl | (simp only [List.length_map, List.length_replicate, List.length_take, List.length_drop, List.length_append, List.length_cons, List.length_nil, List.length_set]; omega) | (simp; done)))))
        exact Ev.val (by rw [letter, if_neg (by omega), if_pos (by omega)]; omega)
      · (repeat (first | with_reducible refine Ev.bindS ?_ | (with_reducible refine Ev.ifp ?_ ?_; (· first | omega | assumption | rfl | (simp only [List.length_map, List.length_replicate, List.length_take, List.length_drop, List.length_append, List.length_cons, List.length_nil, List.length_set]; omega) | (simp; done))) | (with_reducible refine Ev.ifn ?_ ?_; (· first | omega | assumption | rfl | (simp only [List.length_map, List.length_replicate, List.length_take, List.length_drop, List.length_append, List.length_cons, List.length_nil, List.length_set]; omega) | (simp; done)))))
        exact Ev.val (by rw [letter, if_neg (by omega), if_neg (by omega)])
    · (repeat (first | with_reducible refine Ev.bindS ?_ | (with_reducible refine Ev.ifp ?_ ?_; (· first | omega | assumption | rfl | (simp only [List.length_map, List.length_replicate, List.length_take, List.length_drop, List.length_append, List.length_cons, List.length_nil, List.length_set]; omega) | (simp; done))) | (with_reducible refine Ev.ifn ?_ ?_; (· first | omega | assumption | rfl | (simp only [List.length_map, List.length_replicate, List.length_take, List.length_drop, List.length_append, List.length_cons, List.length_nil, List.length_set]; omega) | (simp; done)))))
      exact Ev.val (by rw [letter, if_neg (by omega), if_neg (by omega)])
theorem app_size (w : ByteArray) (c : Int) : (w ++ strOfNums [c]).size = w.size + 1 := by rw [str_append_size, one_size]
theorem specWords_ev (s : ByteArray) (hs : s.size ≤ 1048576) : Ev (fun k => spec_l9Words.f k s) (wordsOf s) := by
  have hn := nm_length s
  have key : ∀ (t : List Int) (i : Nat) (out : List ByteArray) (w : ByteArray), (nm s).drop i = t → i ≤ s.size → w.size ≤ i → out.length ≤ i →
      Ev (fun k => spec_l9Words.l0 k s out w i) (wordsFrom t w out) := by
    intro t
    induction t with
    | nil =>
      intro i out w h hi hw ho
      have := drop_nil h
      (refine Ev.up ?_; simp only [spec_l9Words.l0, decT])
      simp only [wordsFrom, flush]
      by_cases h0 : w.size = 0
      · have h1 := nil_size.2 h0
        rw [if_pos h0]
        (repeat (first | with_reducible refine Ev.bindS ?_ | (with_reducible refine Ev.ifp ?_ ?_; (· first | omega | assumption | rfl | (simp only [List.length_map, List.length_replicate, List.length_take, List.length_drop, List.length_append, List.length_cons, List.length_nil, List.length_set]; omega) | (simp; done))) | (with_reducible refine Ev.ifn ?_ ?_; (· first | omega | assumption | rfl | (simp only [List.length_map, List.length_replicate, List.length_take, List.length_drop, List.length_append, List.length_cons, List.length_nil, List.length_set]; omega) | (simp; done)))))
        exact Ev.val rfl
      · have h1 : ¬ w.toList = ([] : List UInt8) := fun h => h0 (nil_size.1 h)
        rw [if_neg h0]
        (repeat (first | with_reducible refine Ev.bindS ?_ | (with_reducible refine Ev.ifp ?_ ?_; (· first | omega | assumption | rfl | (simp only [List.length_map, List.length_replicate, List.length_take, List.length_drop, List.length_append, List.length_cons, List.length_nil, List.length_set]; omega) | (simp; done))) | (with_reducible refine Ev.ifn ?_ ?_; (· first | omega | assumption | rfl | (simp only [List.length_map, List.length_replicate, List.length_take, List.length_drop, List.length_append, List.length_cons, List.length_nil, List.length_set]; omega) | (simp; done)))))
        exact Ev.val rfl
    | cons b t ih =>
      intro i out w h hi hw ho
      obtain ⟨p1, p2, p3⟩ := drop_cons h
      have hb := nm_range (List.mem_of_getElem? p2)
      (refine Ev.up ?_; simp only [spec_l9Words.l0, decT])
      rw [nm_get p2, wrap_succ (by omega)]
      (repeat (first | with_reducible refine Ev.bindS ?_ | (with_reducible refine Ev.ifp ?_ ?_; (· first | omega | assumption | rfl | (simp only [List.length_map, List.length_replicate, List.length_take, List.length_drop, List.length_append, List.length_cons, List.length_nil, List.length_set]; omega) | (simp; done))) | (with_reducible refine Ev.ifn ?_ ?_; (· first | omega | assumption | rfl | (simp only [List.length_map, List.length_replicate, List.length_take, List.length_drop, List.length_append, List.length_cons, List.length_nil, List.length_set]; omega) | (simp; done)))))
      refine Ev.bind (specLetter_ev b hb.1 hb.2) ?_
      simp only [wordsFrom]
      by_cases hl : letter b = 0
      · rw [if_pos hl]
        (repeat (first | with_reducible refine Ev.bindS ?_ | (with_reducible refine Ev.ifp ?_ ?_; (· first | omega | assumption | rfl | (simp only [List.length_map, List.length_replicate, List.length_take, List.length_drop, List.length_append, List.length_cons, List.length_nil, List.length_set]; omega) | (simp; done))) | (with_reducible refine Ev.ifn ?_ ?_; (· first | omega | assumption | rfl | (simp only [List.length_map, List.length_replicate, List.length_take, List.length_drop, List.length_append, List.length_cons, List.length_nil, List.length_set]; omega) | (simp; done)))))
        by_cases h0 : w.size = 0
        · have h1 := nil_size.2 h0
          have e : flush w out = out := by rw [flush, if_pos h0]
          rw [e]
          (repeat (first | with_reducible refine Ev.bindS ?_ | (with_reducible refine Ev.ifp ?_ ?_; (· first | omega | assumption | rfl | (simp only [List.length_map, List.length_replicate, List.length_take, List.length_drop, List.length_append, List.length_cons, List.length_nil, List.length_set]; omega) | (simp; done))) | (with_reducible refine Ev.ifn ?_ ?_; (· first | omega | assumption | rfl | (simp only [List.length_map, List.length_replicate, List.length_take, List.length_drop, List.length_append, List.length_cons, List.length_nil, List.length_set]; omega) | (simp; done)))))
          exact ih (i + 1) out eS p3 (by omega) (by show 0 ≤ _; omega) (by omega)
        · have h1 : ¬ w.toList = ([] : List UInt8) := fun h => h0 (nil_size.1 h)
          have e : flush w out = out ++ [w] := by rw [flush, if_neg h0]
          rw [e]
          (repeat (first | with_reducible refine Ev.bindS ?_ | (with_reducible refine Ev.ifp ?_ ?_; (· first | omega | assumption | rfl | (simp only [List.length_map, List.length_replicate, List.length_take, List.length_drop, List.length_append, List.length_cons, List.length_nil, List.length_set]; omega) | (simp; done))) | (with_reducible refine Ev.ifn ?_ ?_; (· first | omega | assumption | rfl | (simp only [List.length_map, List.length_replicate, List.length_take, List.length_drop, List.length_append, List.length_cons, List.length_nil, List.length_set]; omega) | (simp; done)))))
          exact ih (i + 1) (out ++ [w]) eS p3 (by omega) (by show 0 ≤ _; omega) (by simp; omega)
      · rw [if_neg hl]
        (repeat (first | with_reducible refine Ev.bindS ?_ | (with_reducible refine Ev.ifp ?_ ?_; (· first | omega | assumption | rfl | (simp only [List.length_map, List.length_replicate, List.length_take, List.length_drop, List.length_append, List.length_cons, List.length_nil, List.length_set]; omega) | (simp; done))) | (with_reducible refine Ev.ifn ?_ ?_; (· first | omega | assumption | rfl | (simp only [List.length_map, List.length_replicate, List.length_take, List.length_drop, List.length_append, List.length_cons, List.length_nil, List.length_set]; omega) | (simp; done)))))
        rw [one_size]
        (repeat (first | with_reducible refine Ev.bindS ?_ | (with_reducible refine Ev.ifp ?_ ?_; (· first | omega | assumption | rfl | (simp only [List.length_map, List.length_replicate, List.length_take, List.length_drop, List.length_append, List.length_cons, List.length_nil, List.length_set]; omega) | (simp; done))) | (with_reducible refine Ev.ifn ?_ ?_; (· first | omega | assumption | rfl | (simp only [List.length_map, List.length_replicate, List.length_take, List.length_drop, List.length_append, List.length_cons, List.length_nil, List.length_set]; omega) | (simp; done)))))
        exact ih (i + 1) out _ p3 (by omega) (by rw [app_size]; omega) (by omega)
  exact key (nm s) 0 [] eS rfl (by omega) (by show 0 ≤ _; omega) (by simp)
theorem isLetter_eq (c : Int) : impl_isLetter.f c = some (decide (97 ≤ c ∧ c ≤ 122)) := by
  simp only [impl_isLetter.f]
  by_cases h : c ≥ 97
  · rw [if_pos h]; simp [h]
  · rw [if_neg h]; simp [h]
theorem implWords_ev (s : ByteArray) (hs : s.size ≤ 1048576) : Ev (fun k => impl_words.f k s) (wordsOf s) := by
  have hn := nm_length s
  have e0 : wrap64 ((s.size : Int) + 1) = ((s.size + 1 : Nat) : Int) := wrap_succ (by omega)
  -- one letter, as the program turns it
  have step : ∀ (b : Int) (i : Nat) (out : List ByteArray) (w : ByteArray) (r : List ByteArray), 0 ≤ b → b < 256 → i ≤ s.size → w.size ≤ i → out.length ≤ i →
      (letter b = 0 → Ev (fun k => impl_words.l0 k s (flush w out) eS ((s.size + 1 : Nat) : Int) ((i + 1 : Nat) : Int)) r) →
      (letter b ≠ 0 → Ev (fun k => impl_words.l0 k s out (w ++ strOfNums [letter b]) ((s.size + 1 : Nat) : Int) ((i + 1 : Nat) : Int)) r) →
      Ev (fun k => impl_words.j1 k s out w b ((s.size + 1 : Nat) : Int) (i : Int)) r := by
    intro b i out w r hb0 hb1 hi hw ho hz hl
    have last : ∀ c : Int, (97 ≤ c ∧ c ≤ 122 → c = letter b ∧ letter b ≠ 0) → (¬ (97 ≤ c ∧ c ≤ 122) → letter b = 0) → Ev (fun k => impl_words.j3 k s out w c ((s.size + 1 : Nat) : Int) (i : Int)) r := by
      intro c h1 h2
      (refine Ev.up ?_; simp only [impl_words.j3, decT])
      rw [isLetter_eq, wrap_succ (by omega)]
      by_cases hc : 97 ≤ c ∧ c ≤ 122
      · obtain ⟨q1, q2⟩ := h1 hc
        rw [decide_eq_true hc]
        (repeat (first | with_reducible refine Ev.bindS ?_ | (with_reducible refine Ev.ifp ?_ ?_; (· first | omega | assumption | rfl | (simp only [List.length_map, List.length_replicate, List.length_take, List.length_drop, List.length_append, List.length_cons, List.length_nil, List.length_set]; omega) | (simp; done))) | (with_reducible refine Ev.ifn ?_ ?_; (· first | omega | assumption | rfl | (simp only [List.length_map, List.length_replicate, List.length_take, List.length_drop, List.length_append, List.length_cons, List.length_nil, List.length_set]; omega) | (simp; done)))))
        rw [one_size]
        (repeat (first | with_reducible refine Ev.bindS ?_ | (with_reducible refine Ev.ifp ?_ ?_; (· first | omega | assumption | rfl | (simp only [List.length_map, List.length_replicate, List.length_take, List.length_drop, List.length_append, List.length_cons, List.length_nil, List.length_set]; omega) | (simp; done))) | (with_reducible refine Ev.ifn ?_ ?_; (· first | omega | assumption | rfl | (simp only [List.length_map, List.length_replicate, List.length_take, List.length_drop, List.length_append, List.length_cons, List.length_nil, List.length_set]; omega) | (simp; done)))))
        rw [q1]
        exact hl q2
      · have q := h2 hc
        rw [decide_eq_false hc]
        (repeat (first | with_reducible refine Ev.bindS ?_ | (with_reducible refine Ev.ifp ?_ ?_; (· first | omega | assumption | rfl | (simp only [List.length_map, List.length_replicate, List.length_take, List.length_drop, List.length_append, List.length_cons, List.length_nil, List.length_set]; omega) | (simp; done))) | (with_reducible refine Ev.ifn ?_ ?_; (· first | omega | assumption | rfl | (simp only [List.length_map, List.length_replicate, List.length_take, List.length_drop, List.length_append, List.length_cons, List.length_nil, List.length_set]; omega) | (simp; done)))))
        have hz := hz q
        by_cases h0 : w.size = 0
        · have h1 := nil_size.2 h0
          have e : flush w out = out := by rw [flush, if_pos h0]
          have ew : w = eS := nm_inj (by rw [nm_empty]; exact List.length_eq_zero_iff.1 (by rw [nm_length]; exact h0))
          rw [e] at hz
          (repeat (first | with_reducible refine Ev.bindS ?_ | (with_reducible refine Ev.ifp ?_ ?_; (· first | omega | assumption | rfl | (simp only [List.length_map, List.length_replicate, List.length_take, List.length_drop, List.length_append, List.length_cons, List.length_nil, List.length_set]; omega) | (simp; done))) | (with_reducible refine Ev.ifn ?_ ?_; (· first | omega | assumption | rfl | (simp only [List.length_map, List.length_replicate, List.length_take, List.length_drop, List.length_append, List.length_cons, List.length_nil, List.length_set]; omega) | (simp; done)))))
          rw [ew]
          exact hz
        · have h1 : ¬ w.toList = ([] : List UInt8) := fun h => h0 (nil_size.1 h)
          have e : flush w out = out ++ [w] := by rw [flush, if_neg h0]
          rw [e] at hz
          (repeat (first | with_reducible refine Ev.bindS ?_ | (with_reducible refine Ev.ifp ?_ ?_; (· first | omega | assumption | rfl | (simp only [List.length_map, List.length_replicate, List.length_take, List.length_drop, List.length_append, List.length_cons, List.length_nil, List.length_set]; omega) | (simp; done))) | (with_reducible refine Ev.ifn ?_ ?_; (· first | omega | assumption | rfl | (simp only [List.length_map, List.length_replicate, List.length_take, List.length_drop, List.length_append, List.length_cons, List.length_nil, List.length_set]; omega) | (simp; done)))))
          exact hz
    (refine Ev.up ?_; simp only [impl_words.j1, decT])
    by_cases ha : b ≥ 65
    · (repeat (first | with_reducible refine Ev.bindS ?_ | (with_reducible refine Ev.ifp ?_ ?_; (· first | omega | assumption | rfl | (simp only [List.length_map, List.length_replicate, List.length_take, List.length_drop, List.length_append, List.length_cons, List.length_nil, List.length_set]; omega) | (simp; done))) | (with_reducible refine Ev.ifn ?_ ?_; (· first | omega | assumption | rfl | (simp only [List.length_map, List.length_replicate, List.length_take, List.length_drop, List.length_append, List.length_cons, List.length_nil, List.length_set]; omega) | (simp; done)))))
      (refine Ev.up ?_; simp only [impl_words.j2, decT])
      by_cases hz2 : b ≤ 90
      · (repeat (first | with_reducible refine Ev.bindS ?_ | (with_reducible refine Ev.ifp ?_ ?_; (· first | omega | assumption | rfl | (simp only [List.length_map, List.length_replicate, List.length_take, List.length_drop, List.length_append, List.length_cons, List.length_nil, List.length_set]; omega) | (simp; done))) | (with_reducible refine Ev.ifn ?_ ?_; (· first | omega | assumption | rfl | (simp only [List.length_map, List.length_replicate, List.length_take, List.length_drop, List.length_append, List.length_cons, List.length_nil, List.length_set]; omega) | (simp; done)))))
        have e : (b + 32) % 256 = b + 32 := by omega
        have el : letter b = b + 32 := by rw [letter, if_neg (by omega), if_pos (by omega)]
        rw [e]
        exact last (b + 32) (fun _ => ⟨el.symm, by omega⟩) (fun h => by omega)
      · (repeat (first | with_reducible refine Ev.bindS ?_ | (with_reducible refine Ev.ifp ?_ ?_; (· first | omega | assumption | rfl | (simp only [List.length_map, List.length_replicate, List.length_take, List.length_drop, List.length_append, List.length_cons, List.length_nil, List.length_set]; omega) | (simp; done))) | (with_reducible refine Ev.ifn ?_ ?_; (· first | omega | assumption | rfl | (simp only [List.length_map, List.length_replicate, List.length_take, List.length_drop, List.length_append, List.length_cons, List.length_nil, List.length_set]; omega) | (simp; done)))))
        refine last b (fun h => ⟨by rw [letter, if_pos h], by rw [letter, if_pos h]; omega⟩) (fun h => ?_)
        rw [letter, if_neg h, if_neg (by omega)]
    · (repeat (first | with_reducible refine Ev.bindS ?_ | (with_reducible refine Ev.ifp ?_ ?_; (· first | omega | assumption | rfl | (simp only [List.length_map, List.length_replicate, List.length_take, List.length_drop, List.length_append, List.length_cons, List.length_nil, List.length_set]; omega) | (simp; done))) | (with_reducible refine Ev.ifn ?_ ?_; (· first | omega | assumption | rfl | (simp only [List.length_map, List.length_replicate, List.length_take, List.length_drop, List.length_append, List.length_cons, List.length_nil, List.length_set]; omega) | (simp; done)))))
      (refine Ev.up ?_; simp only [impl_words.j2, decT])
      (repeat (first | with_reducible refine Ev.bindS ?_ | (with_reducible refine Ev.ifp ?_ ?_; (· first | omega | assumption | rfl | (simp only [List.length_map, List.length_replicate, List.length_take, List.length_drop, List.length_append, List.length_cons, List.length_nil, List.length_set]; omega) | (simp; done))) | (with_reducible refine Ev.ifn ?_ ?_; (· first | omega | assumption | rfl | (simp only [List.length_map, List.length_replicate, List.length_take, List.length_drop, List.length_append, List.length_cons, List.length_nil, List.length_set]; omega) | (simp; done)))))
      refine last b (fun h => ⟨by rw [letter, if_pos h], by rw [letter, if_pos h]; omega⟩) (fun h => ?_)
      rw [letter, if_neg h, if_neg (by omega)]
  have key : ∀ (t : List Int) (i : Nat) (out : List ByteArray) (w : ByteArray), (nm s).drop i = t → i ≤ s.size → w.size ≤ i → out.length ≤ i →
      Ev (fun k => impl_words.l0 k s out w ((s.size + 1 : Nat) : Int) i) (wordsFrom t w out) := by
    intro t
    induction t with
    | nil =>
      intro i out w h hi hw ho
      have hd := drop_nil h
      have ei : i = s.size := by omega
      have done : ∀ out', Ev (fun k => impl_words.l0 k s out' eS ((s.size + 1 : Nat) : Int) ((i + 1 : Nat) : Int)) out' := by
        intro out'
        (refine Ev.up ?_; simp only [impl_words.l0, decT])
        (repeat (first | with_reducible refine Ev.bindS ?_ | (with_reducible refine Ev.ifp ?_ ?_; (· first | omega | assumption | rfl | (simp only [List.length_map, List.length_replicate, List.length_take, List.length_drop, List.length_append, List.length_cons, List.length_nil, List.length_set]; omega) | (simp; done))) | (with_reducible refine Ev.ifn ?_ ?_; (· first | omega | assumption | rfl | (simp only [List.length_map, List.length_replicate, List.length_take, List.length_drop, List.length_append, List.length_cons, List.length_nil, List.length_set]; omega) | (simp; done)))))
        exact Ev.val rfl
      (refine Ev.up ?_; simp only [impl_words.l0, decT])
      (repeat (first | with_reducible refine Ev.bindS ?_ | (with_reducible refine Ev.ifp ?_ ?_; (· first | omega | assumption | rfl | (simp only [List.length_map, List.length_replicate, List.length_take, List.length_drop, List.length_append, List.length_cons, List.length_nil, List.length_set]; omega) | (simp; done))) | (with_reducible refine Ev.ifn ?_ ?_; (· first | omega | assumption | rfl | (simp only [List.length_map, List.length_replicate, List.length_take, List.length_drop, List.length_append, List.length_cons, List.length_nil, List.length_set]; omega) | (simp; done)))))
      refine step 0 i out w _ (by omega) (by omega) hi hw ho (fun _ => ?_) (fun h => absurd rfl h)
      exact done _
    | cons b t ih =>
      intro i out w h hi hw ho
      obtain ⟨p1, p2, p3⟩ := drop_cons h
      have hb := nm_range (List.mem_of_getElem? p2)
      (refine Ev.up ?_; simp only [impl_words.l0, decT])
      rw [nm_get p2]
      (repeat (first | with_reducible refine Ev.bindS ?_ | (with_reducible refine Ev.ifp ?_ ?_; (· first | omega | assumption | rfl | (simp only [List.length_map, List.length_replicate, List.length_take, List.length_drop, List.length_append, List.length_cons, List.length_nil, List.length_set]; omega) | (simp; done))) | (with_reducible refine Ev.ifn ?_ ?_; (· first | omega | assumption | rfl | (simp only [List.length_map, List.length_replicate, List.length_take, List.length_drop, List.length_append, List.length_cons, List.length_nil, List.length_set]; omega) | (simp; done)))))
      refine step b i out w _ hb.1 hb.2 hi hw ho (fun hl => ?_) (fun hl => ?_)
      · simp only [wordsFrom]
        rw [if_pos hl]
        have := flush_len w out
        exact ih (i + 1) _ eS p3 (by omega) (by show 0 ≤ _; omega) (by omega)
      · simp only [wordsFrom]
        rw [if_neg hl]
        exact ih (i + 1) out _ p3 (by omega) (by rw [app_size]; omega) (by omega)
  simp only [impl_words.f, e0]
  exact key (nm s) 0 [] eS rfl (by omega) (by show 0 ≤ _; omega) (by simp)
/-- What both call the words of a text. -/
def wordsRes (s : ByteArray) : List ByteArray × Bool := if (s.size : Int) > 120 then ([], false) else if ((wordsOf s).length : Int) > 20 then ([], false) else (wordsOf s, true)
theorem specWordsOf_ev (s : ByteArray) (hs : s.size ≤ 1048576) : Ev (fun k => spec_WordsOf.f k s) (wordsRes s) := by
  simp only [spec_WordsOf.f]
  refine Ev.bind (specWords_ev s hs) ?_
  by_cases h1 : (s.size : Int) > 120
  · have e : wordsRes s = ([], false) := by rw [wordsRes, if_pos h1]
    rw [e]; (repeat (first | with_reducible refine Ev.bindS ?_ | (with_reducible refine Ev.ifp ?_ ?_; (· first | omega | assumption | rfl | (simp only [List.length_map, List.length_replicate, List.length_take, List.length_drop, List.length_append, List.length_cons, List.length_nil, List.length_set]; omega) | (simp; done))) | (with_reducible refine Ev.ifn ?_ ?_; (· first | omega | assumption | rfl | (simp only [List.length_map, List.length_replicate, List.length_take, List.length_drop, List.length_append, List.length_cons, List.length_nil, List.length_set]; omega) | (simp; done))))); exact Ev.val rfl
  · by_cases h2 : ((wordsOf s).length : Int) > 20
    · have e : wordsRes s = ([], false) := by rw [wordsRes, if_neg h1, if_pos h2]
      rw [e]; (repeat (first | with_reducible refine Ev.bindS ?_ | (with_reducible refine Ev.ifp ?_ ?_; (· first | omega | assumption | rfl | (simp only [List.length_map, List.length_replicate, List.length_take, List.length_drop, List.length_append, List.length_cons, List.length_nil, List.length_set]; omega) | (simp; done))) | (with_reducible refine Ev.ifn ?_ ?_; (· first | omega | assumption | rfl | (simp only [List.length_map, List.length_replicate, List.length_take, List.length_drop, List.length_append, List.length_cons, List.length_nil, List.length_set]; omega) | (simp; done))))); exact Ev.val rfl
    · have e : wordsRes s = (wordsOf s, true) := by rw [wordsRes, if_neg h1, if_neg h2]
      rw [e]; (repeat (first | with_reducible refine Ev.bindS ?_ | (with_reducible refine Ev.ifp ?_ ?_; (· first | omega | assumption | rfl | (simp only [List.length_map, List.length_replicate, List.length_take, List.length_drop, List.length_append, List.length_cons, List.length_nil, List.length_set]; omega) | (simp; done))) | (with_reducible refine Ev.ifn ?_ ?_; (· first | omega | assumption | rfl | (simp only [List.length_map, List.length_replicate, List.length_take, List.length_drop, List.length_append, List.length_cons, List.length_nil, List.length_set]; omega) | (simp; done))))); exact Ev.val rfl
theorem implWordsOf_ev (s : ByteArray) (hs : s.size ≤ 1048576) : Ev (fun k => impl_WordsOf.f k s) (wordsRes s) := by
  simp only [impl_WordsOf.f]
  by_cases h1 : (s.size : Int) > 120
  · have e : wordsRes s = ([], false) := by rw [wordsRes, if_pos h1]
    rw [e]; (repeat (first | with_reducible refine Ev.bindS ?_ | (with_reducible refine Ev.ifp ?_ ?_; (· first | omega | assumption | rfl | (simp only [List.length_map, List.length_replicate, List.length_take, List.length_drop, List.length_append, List.length_cons, List.length_nil, List.length_set]; omega) | (simp; done))) | (with_reducible refine Ev.ifn ?_ ?_; (· first | omega | assumption | rfl | (simp only [List.length_map, List.length_replicate, List.length_take, List.length_drop, List.length_append, List.length_cons, List.length_nil, List.length_set]; omega) | (simp; done))))); exact Ev.val rfl
  · (repeat (first | with_reducible refine Ev.bindS ?_ | (with_reducible refine Ev.ifp ?_ ?_; (· first | omega | assumption | rfl | (simp only [List.length_map, List.length_replicate, List.length_take, List.length_drop, List.length_append, List.length_cons, List.length_nil, List.length_set]; omega) | (simp; done))) | (with_reducible refine Ev.ifn ?_ ?_; (· first | omega | assumption | rfl | (simp only [List.length_map, List.length_replicate, List.length_take, List.length_drop, List.length_append, List.length_cons, List.length_nil, List.length_set]; omega) | (simp; done)))))
    refine Ev.bind (implWords_ev s hs) ?_
    by_cases h2 : ((wordsOf s).length : Int) > 20
    · have e : wordsRes s = ([], false) := by rw [wordsRes, if_neg h1, if_pos h2]
      rw [e]; (repeat (first | with_reducible refine Ev.bindS ?_ | (with_reducible refine Ev.ifp ?_ ?_; (· first | omega | assumption | rfl | (simp only [List.length_map, List.length_replicate, List.length_take, List.length_drop, List.length_append, List.length_cons, List.length_nil, List.length_set]; omega) | (simp; done))) | (with_reducible refine Ev.ifn ?_ ?_; (· first | omega | assumption | rfl | (simp only [List.length_map, List.length_replicate, List.length_take, List.length_drop, List.length_append, List.length_cons, List.length_nil, List.length_set]; omega) | (simp; done))))); exact Ev.val rfl
    · have e : wordsRes s = (wordsOf s, true) := by rw [wordsRes, if_neg h1, if_neg h2]
      rw [e]; (repeat (first | with_reducible refine Ev.bindS ?_ | (with_reducible refine Ev.ifp ?_ ?_; (· first | omega | assumption | rfl | (simp only [List.length_map, List.length_replicate, List.length_take, List.length_drop, List.length_append, List.length_cons, List.length_nil, List.length_set]; omega) | (simp; done))) | (with_reducible refine Ev.ifn ?_ ?_; (· first | omega | assumption | rfl | (simp only [List.length_map, List.length_replicate, List.length_take, List.length_drop, List.length_append, List.length_cons, List.length_nil, List.length_set]; omega) | (simp; done))))); exact Ev.val rfl
theorem wordsRes_len (s : ByteArray) : (wordsRes s).1.length ≤ 20 := by
  unfold wordsRes
  split
  · simp
  · split
    · simp
    · dsimp only; omega
end Go.Proofs.Ytcopakljdenolaa.Pure
namespace Go.Proofs.Ytcopakljdenolaa.Fn
open Go.RowKit Go.Proofs.YtcopakljdenolaaW.PrintWords Go.Proofs.YtcopakljdenolaaW.PrintLast Go.Proofs.YtcopakljdenolaaW.PrintMore
attribute [local go_sem] max2_int min2_int max_two min_two max_three min_three max_four min_four   -- for this text's walks alone
set_option linter.unusedVariables false
set_option linter.unusedSimpArgs false

/-! ### spec_PostsOf: function 19 -/
def spec_PostsOf.f (k : Nat) (l0 : List ByteArray) (a1 : ByteArray) : Option ((List (S57)) × Bool) := (spec_l9Docs.f k l0).bind fun t136 => (if t136 = true then ((spec_l9Word.f k a1).bind fun t137 => (if t137 = true then ((spec_l9Posts.f k l0 a1).bind fun t138 => (some (t138, true))) else (some (([] : List (S57)), false)))) else (some (([] : List (S57)), false)))
theorem spec_PostsOf.mono : ∀ a0 a1 k, LeO (spec_PostsOf.f k a0 a1) (spec_PostsOf.f (k + 1) a0 a1) := by
  intro a0 a1 k
  unfold spec_PostsOf.f
  repeat' first
      | (with_reducible exact spec_l9Docs.mono _ _)
      | (with_reducible exact spec_l9Posts.mono _ _ _)
      | (with_reducible exact spec_l9Word.mono _ _)
      | (with_reducible exact LeO.refl _)
      | (with_reducible exact LeO.none _)
      | (with_reducible refine LeO.ite ?_ ?_)
      | (with_reducible refine LeO.bind ?_ (fun _ => ?_))
      | exact spec_l9Docs.mono _ _
      | exact spec_l9Posts.mono _ _ _
      | exact spec_l9Word.mono _ _
      | exact LeO.none _
      | refine LeO.ite ?_ ?_
      | refine LeO.bind ?_ (fun _ => ?_)
set_option maxHeartbeats 8000000 in
set_option maxRecDepth 100000 in
theorem spec_PostsOf.calls (k : Nat) (A0 : Option Addr) (c0 : Nat) (l0 : List ByteArray) (a1 : ByteArray) (r1 : List (S57)) (r2 : Bool) (w : World) (hr0 : Kd.C Kd.string w A0 l0.length l0) (hc0 : l0.length ≤ c0) (h : spec_PostsOf.f k l0 a1 = some (r1, r2)) :
    Calls Try.prog 19 #[.slice A0 l0.length c0, .string a1] w fun e w' => ∃ v0_ : Value, e = .returned (.tuple #[v0_, .bool r2]) ∧ Kd.S k57 57 w' w.heap.size (fun _ => True) v0_ r1 ∧ Below w.heap.size w w' := by
  have HR0 := Aside0.mk hr0
  have HC0 := Aside0.mk hc0
  clear hr0 hc0
  have HB := Aside0.mk (Below.refl w.heap.size w)
  have H : ((spec_l9Docs.f k l0).bind fun t136 => (if t136 = true then ((spec_l9Word.f k a1).bind fun t137 => (if t137 = true then ((spec_l9Posts.f k l0 a1).bind fun t138 => (some (t138, true))) else (some (([] : List (S57)), false)))) else (some (([] : List (S57)), false)))) = some (r1, r2) := h
  clear h
  replace H := Option.bind_eq_some_iff.mp H
  obtain ⟨t136, A30, H⟩ := H
  replace H : (if t136 = true then ((spec_l9Word.f k a1).bind fun t137 => (if t137 = true then ((spec_l9Posts.f k l0 a1).bind fun t138 => (some (t138, true))) else (some (([] : List (S57)), false)))) else (some (([] : List (S57)), false))) = some (r1, r2) := H
  have A3 := Aside0.mk A30
  clear A30
  by_cases c4 : t136 = true
  · subst c4
    have H1 : ((spec_l9Word.f k a1).bind fun t137 => (if t137 = true then ((spec_l9Posts.f k l0 a1).bind fun t138 => (some (t138, true))) else (some (([] : List (S57)), false)))) = some (r1, r2) := by rw [if_pos rfl] at H; exact H
    clear H
    have H := H1
    clear H1
    replace H := Option.bind_eq_some_iff.mp H
    obtain ⟨t137, A50, H⟩ := H
    replace H : (if t137 = true then ((spec_l9Posts.f k l0 a1).bind fun t138 => (some (t138, true))) else (some (([] : List (S57)), false))) = some (r1, r2) := H
    have A5 := Aside0.mk A50
    clear A50
    by_cases c6 : t137 = true
    · subst c6
      have H1 : ((spec_l9Posts.f k l0 a1).bind fun t138 => (some (t138, true))) = some (r1, r2) := by rw [if_pos rfl] at H; exact H
      clear H
      have H := H1
      clear H1
      replace H := Option.bind_eq_some_iff.mp H
      obtain ⟨t138, A70, H⟩ := H
      replace H : (some (t138, true)) = some (r1, r2) := H
      have A7 := Aside0.mk A70
      clear A70
      simp only [Option.some.injEq, Prod.mk.injEq] at H
      obtain ⟨rfl, rfl⟩ := H
      go_enter Try.func19, Try.ntmps19
      go_wp2_with (first | ((with_reducible refine gate_callee (f := 55) rfl ?_); refine goesL_ (some 7) rfl rfl Try.func55 (by kernel_rfl) rfl #[.slice A0 l0.length c0] rfl (by (try simp only [List.map_toArray, List.map_cons, List.map_nil]); first | done | rfl | (simp only [List.length_drop, List.length_take]; rfl)) ?_; (with_reducible refine (spec_l9Docs.calls k _ _ l0 true _ ?side1 ?side2 A3.out).mono ?_); (case side1 => repeat (first | exact HR0.out | (with_reducible refine Kd.C_alloc ?_ _) | (with_reducible refine Kd.C_drewN ?_ _) | (with_reducible refine Kd.C_drew ?_))); (case side2 => exact HC0.out); rintro e w8 ⟨rfl, hb⟩; refine ⟨_, rfl, ?_⟩; have n0_ := Aside0.mk (below_step (by repeat (first | (with_reducible first | exact HB.out | apply below_alloc | apply pw_below_drewN | apply below_drew1) | exact HB.out)) hb); clear HB; have HB := n0_; clear n0_; (try clear hb); (try clear hb2); (try clear hk); (try clear hi)) | (go_at_call 56; (with_reducible refine (spec_l9Word.calls k a1 true _ A5.out).mono ?_); rintro e w' ⟨rfl, ⟨nd, rfl⟩⟩) | ((with_reducible refine gate_callee (f := 57) rfl ?_); refine goesL_ (some 16) rfl rfl Try.func57 (by kernel_rfl) rfl #[.slice A0 l0.length c0, .string a1] rfl (by (try simp only [List.map_toArray, List.map_cons, List.map_nil]); first | done | rfl | (simp only [List.length_drop, List.length_take]; rfl)) ?_; (with_reducible refine (spec_l9Posts.calls k _ _ l0 a1 t138 _ ?side1 ?side2 A7.out).mono ?_); (case side1 => repeat (first | exact (Kd.C_below HR0.out (by repeat (first | (with_reducible first | exact HB.out | apply below_alloc | apply pw_below_drewN | apply below_drew1) | exact HB.out))) | (with_reducible refine Kd.C_alloc ?_ _) | (with_reducible refine Kd.C_drewN ?_ _) | (with_reducible refine Kd.C_drew ?_))); (case side2 => exact HC0.out); rintro e w9 ⟨v139, rfl, ho0, hb⟩; refine ⟨_, rfl, ?_⟩; have n0_ := Aside0.mk (Kd.S_lower ho0 (below_size (by repeat (first | (with_reducible first | exact HB.out | apply below_alloc | apply pw_below_drewN | apply below_drew1) | exact HB.out)))); have n1_ := Aside0.mk (below_step (by repeat (first | (with_reducible first | exact HB.out | apply below_alloc | apply pw_below_drewN | apply below_drew1) | exact HB.out)) hb); clear HB; have HO140 := n0_; have HB := n1_; clear n0_ n1_; (try clear hb); (try clear hb2); (try clear hk); (try clear hi); (try clear ho0)))
      go_ret2
      exact ⟨_, by first | rfl | (simp [errW_none, errW_some] <;> rfl) | (simp [*, errW_none, errW_some] <;> rfl), by (with_reducible repeat (first | apply Kd.S_alloc | apply Kd.S_drewN | apply Kd.S_drew)); exact HO140.out, by repeat (first | (with_reducible first | exact HB.out | apply below_alloc | apply pw_below_drewN | apply below_drew1) | exact HB.out)⟩
    · replace c6 := Bool.eq_false_iff.mpr c6
      subst c6
      have H1 : (some (([] : List (S57)), false)) = some (r1, r2) := by rw [if_neg (show ¬ (false = true) by decide)] at H; exact H
      clear H
      have H := H1
      clear H1
      simp only [Option.some.injEq, Prod.mk.injEq] at H
      obtain ⟨rfl, rfl⟩ := H
      go_enter Try.func19, Try.ntmps19
      go_wp2_with (first | ((with_reducible refine gate_callee (f := 55) rfl ?_); refine goesL_ (some 7) rfl rfl Try.func55 (by kernel_rfl) rfl #[.slice A0 l0.length c0] rfl (by (try simp only [List.map_toArray, List.map_cons, List.map_nil]); first | done | rfl | (simp only [List.length_drop, List.length_take]; rfl)) ?_; (with_reducible refine (spec_l9Docs.calls k _ _ l0 true _ ?side1 ?side2 A3.out).mono ?_); (case side1 => repeat (first | exact HR0.out | (with_reducible refine Kd.C_alloc ?_ _) | (with_reducible refine Kd.C_drewN ?_ _) | (with_reducible refine Kd.C_drew ?_))); (case side2 => exact HC0.out); rintro e w10 ⟨rfl, hb⟩; refine ⟨_, rfl, ?_⟩; have n0_ := Aside0.mk (below_step (by repeat (first | (with_reducible first | exact HB.out | apply below_alloc | apply pw_below_drewN | apply below_drew1) | exact HB.out)) hb); clear HB; have HB := n0_; clear n0_; (try clear hb); (try clear hb2); (try clear hk); (try clear hi)) | (go_at_call 56; (with_reducible refine (spec_l9Word.calls k a1 false _ A5.out).mono ?_); rintro e w' ⟨rfl, ⟨nd, rfl⟩⟩))
      go_ret2
      exact ⟨_, by first | rfl | (simp [errW_none, errW_some] <;> rfl) | (simp [*, errW_none, errW_some] <;> rfl), by first | exact Kd.S_nil _ _ _ _ _ | exact Kd.N_nil _ _ _ _ _ | exact Kd.V_nil _ _ _ _ _ | exact Kd.Q_nil _ _ _ _ _ | exact Kd.R_nil _ _ _ _ _, by repeat (first | (with_reducible first | exact HB.out | apply below_alloc | apply pw_below_drewN | apply below_drew1) | exact HB.out)⟩
  · replace c4 := Bool.eq_false_iff.mpr c4
    subst c4
    have H1 : (some (([] : List (S57)), false)) = some (r1, r2) := by rw [if_neg (show ¬ (false = true) by decide)] at H; exact H
    clear H
    have H := H1
    clear H1
    simp only [Option.some.injEq, Prod.mk.injEq] at H
    obtain ⟨rfl, rfl⟩ := H
    go_enter Try.func19, Try.ntmps19
    go_wp2_with (first | ((with_reducible refine gate_callee (f := 55) rfl ?_); refine goesL_ (some 7) rfl rfl Try.func55 (by kernel_rfl) rfl #[.slice A0 l0.length c0] rfl (by (try simp only [List.map_toArray, List.map_cons, List.map_nil]); first | done | rfl | (simp only [List.length_drop, List.length_take]; rfl)) ?_; (with_reducible refine (spec_l9Docs.calls k _ _ l0 false _ ?side1 ?side2 A3.out).mono ?_); (case side1 => repeat (first | exact HR0.out | (with_reducible refine Kd.C_alloc ?_ _) | (with_reducible refine Kd.C_drewN ?_ _) | (with_reducible refine Kd.C_drew ?_))); (case side2 => exact HC0.out); rintro e w11 ⟨rfl, hb⟩; refine ⟨_, rfl, ?_⟩; have n0_ := Aside0.mk (below_step (by repeat (first | (with_reducible first | exact HB.out | apply below_alloc | apply pw_below_drewN | apply below_drew1) | exact HB.out)) hb); clear HB; have HB := n0_; clear n0_; (try clear hb); (try clear hb2); (try clear hk); (try clear hi)))
    go_ret2
    exact ⟨_, by first | rfl | (simp [errW_none, errW_some] <;> rfl) | (simp [*, errW_none, errW_some] <;> rfl), by first | exact Kd.S_nil _ _ _ _ _ | exact Kd.N_nil _ _ _ _ _ | exact Kd.V_nil _ _ _ _ _ | exact Kd.Q_nil _ _ _ _ _ | exact Kd.R_nil _ _ _ _ _, by repeat (first | (with_reducible first | exact HB.out | apply below_alloc | apply pw_below_drewN | apply below_drew1) | exact HB.out)⟩

end Go.Proofs.Ytcopakljdenolaa.Fn
namespace Go.Proofs.Ytcopakljdenolaa.Fn
open Go.RowKit Go.Proofs.YtcopakljdenolaaW.PrintWords Go.Proofs.YtcopakljdenolaaW.PrintLast Go.Proofs.YtcopakljdenolaaW.PrintMore
attribute [local go_sem] max2_int min2_int max_two min_two max_three min_three max_four min_four   -- for this text's walks alone
set_option linter.unusedVariables false
set_option linter.unusedSimpArgs false

/-! ### impl_PostsOf: function 21 -/
def impl_PostsOf.f (k : Nat) (l0 : List ByteArray) (a1 : ByteArray) : Option ((List (S57)) × Bool) := (impl_areDocs.f k l0).bind fun t181 => (if t181 = true then ((impl_isWord.f k a1).bind fun t182 => (if t182 = true then ((impl_posts.f k l0 a1).bind fun t183 => (some (t183, true))) else (some (([] : List (S57)), false)))) else (some (([] : List (S57)), false)))
theorem impl_PostsOf.mono : ∀ a0 a1 k, LeO (impl_PostsOf.f k a0 a1) (impl_PostsOf.f (k + 1) a0 a1) := by
  intro a0 a1 k
  unfold impl_PostsOf.f
  repeat' first
      | (with_reducible exact impl_areDocs.mono _ _)
      | (with_reducible exact impl_isWord.mono _ _)
      | (with_reducible exact impl_posts.mono _ _ _)
      | (with_reducible exact LeO.refl _)
      | (with_reducible exact LeO.none _)
      | (with_reducible refine LeO.ite ?_ ?_)
      | (with_reducible refine LeO.bind ?_ (fun _ => ?_))
      | exact impl_areDocs.mono _ _
      | exact impl_isWord.mono _ _
      | exact impl_posts.mono _ _ _
      | exact LeO.none _
      | refine LeO.ite ?_ ?_
      | refine LeO.bind ?_ (fun _ => ?_)
set_option maxHeartbeats 8000000 in
set_option maxRecDepth 100000 in
theorem impl_PostsOf.calls (k : Nat) (A0 : Option Addr) (c0 : Nat) (l0 : List ByteArray) (a1 : ByteArray) (r1 : List (S57)) (r2 : Bool) (w : World) (hr0 : Kd.C Kd.string w A0 l0.length l0) (hc0 : l0.length ≤ c0) (h : impl_PostsOf.f k l0 a1 = some (r1, r2)) :
    Calls Try.prog 21 #[.slice A0 l0.length c0, .string a1] w fun e w' => ∃ v0_ : Value, e = .returned (.tuple #[v0_, .bool r2]) ∧ Kd.S k57 57 w' w.heap.size (fun _ => True) v0_ r1 ∧ Below w.heap.size w w' := by
  have HR0 := Aside0.mk hr0
  have HC0 := Aside0.mk hc0
  clear hr0 hc0
  have HB := Aside0.mk (Below.refl w.heap.size w)
  have H : ((impl_areDocs.f k l0).bind fun t181 => (if t181 = true then ((impl_isWord.f k a1).bind fun t182 => (if t182 = true then ((impl_posts.f k l0 a1).bind fun t183 => (some (t183, true))) else (some (([] : List (S57)), false)))) else (some (([] : List (S57)), false)))) = some (r1, r2) := h
  clear h
  replace H := Option.bind_eq_some_iff.mp H
  obtain ⟨t181, A30, H⟩ := H
  replace H : (if t181 = true then ((impl_isWord.f k a1).bind fun t182 => (if t182 = true then ((impl_posts.f k l0 a1).bind fun t183 => (some (t183, true))) else (some (([] : List (S57)), false)))) else (some (([] : List (S57)), false))) = some (r1, r2) := H
  have A3 := Aside0.mk A30
  clear A30
  by_cases c4 : t181 = true
  · subst c4
    have H1 : ((impl_isWord.f k a1).bind fun t182 => (if t182 = true then ((impl_posts.f k l0 a1).bind fun t183 => (some (t183, true))) else (some (([] : List (S57)), false)))) = some (r1, r2) := by rw [if_pos rfl] at H; exact H
    clear H
    have H := H1
    clear H1
    replace H := Option.bind_eq_some_iff.mp H
    obtain ⟨t182, A50, H⟩ := H
    replace H : (if t182 = true then ((impl_posts.f k l0 a1).bind fun t183 => (some (t183, true))) else (some (([] : List (S57)), false))) = some (r1, r2) := H
    have A5 := Aside0.mk A50
    clear A50
    by_cases c6 : t182 = true
    · subst c6
      have H1 : ((impl_posts.f k l0 a1).bind fun t183 => (some (t183, true))) = some (r1, r2) := by rw [if_pos rfl] at H; exact H
      clear H
      have H := H1
      clear H1
      replace H := Option.bind_eq_some_iff.mp H
      obtain ⟨t183, A70, H⟩ := H
      replace H : (some (t183, true)) = some (r1, r2) := H
      have A7 := Aside0.mk A70
      clear A70
      simp only [Option.some.injEq, Prod.mk.injEq] at H
      obtain ⟨rfl, rfl⟩ := H
      go_enter Try.func21, Try.ntmps21
      go_wp2_with (first | ((with_reducible refine gate_callee (f := 58) rfl ?_); refine goesL_ (some 7) rfl rfl Try.func58 (by kernel_rfl) rfl #[.slice A0 l0.length c0] rfl (by (try simp only [List.map_toArray, List.map_cons, List.map_nil]); first | done | rfl | (simp only [List.length_drop, List.length_take]; rfl)) ?_; (with_reducible refine (impl_areDocs.calls k _ _ l0 true _ ?side1 ?side2 A3.out).mono ?_); (case side1 => repeat (first | exact HR0.out | (with_reducible refine Kd.C_alloc ?_ _) | (with_reducible refine Kd.C_drewN ?_ _) | (with_reducible refine Kd.C_drew ?_))); (case side2 => exact HC0.out); rintro e w8 ⟨rfl, hb⟩; refine ⟨_, rfl, ?_⟩; have n0_ := Aside0.mk (below_step (by repeat (first | (with_reducible first | exact HB.out | apply below_alloc | apply pw_below_drewN | apply below_drew1) | exact HB.out)) hb); clear HB; have HB := n0_; clear n0_; (try clear hb); (try clear hb2); (try clear hk); (try clear hi)) | (go_at_call 59; (with_reducible refine (impl_isWord.calls k a1 true _ A5.out).mono ?_); rintro e w' ⟨rfl, ⟨nd, rfl⟩⟩) | ((with_reducible refine gate_callee (f := 60) rfl ?_); refine goesL_ (some 16) rfl rfl Try.func60 (by kernel_rfl) rfl #[.slice A0 l0.length c0, .string a1] rfl (by (try simp only [List.map_toArray, List.map_cons, List.map_nil]); first | done | rfl | (simp only [List.length_drop, List.length_take]; rfl)) ?_; (with_reducible refine (impl_posts.calls k _ _ l0 a1 t183 _ ?side1 ?side2 A7.out).mono ?_); (case side1 => repeat (first | exact (Kd.C_below HR0.out (by repeat (first | (with_reducible first | exact HB.out | apply below_alloc | apply pw_below_drewN | apply below_drew1) | exact HB.out))) | (with_reducible refine Kd.C_alloc ?_ _) | (with_reducible refine Kd.C_drewN ?_ _) | (with_reducible refine Kd.C_drew ?_))); (case side2 => exact HC0.out); rintro e w9 ⟨v184, rfl, ho0, hb⟩; refine ⟨_, rfl, ?_⟩; have n0_ := Aside0.mk (Kd.S_lower ho0 (below_size (by repeat (first | (with_reducible first | exact HB.out | apply below_alloc | apply pw_below_drewN | apply below_drew1) | exact HB.out)))); have n1_ := Aside0.mk (below_step (by repeat (first | (with_reducible first | exact HB.out | apply below_alloc | apply pw_below_drewN | apply below_drew1) | exact HB.out)) hb); clear HB; have HO185 := n0_; have HB := n1_; clear n0_ n1_; (try clear hb); (try clear hb2); (try clear hk); (try clear hi); (try clear ho0)))
      go_ret2
      exact ⟨_, by first | rfl | (simp [errW_none, errW_some] <;> rfl) | (simp [*, errW_none, errW_some] <;> rfl), by (with_reducible repeat (first | apply Kd.S_alloc | apply Kd.S_drewN | apply Kd.S_drew)); exact HO185.out, by repeat (first | (with_reducible first | exact HB.out | apply below_alloc | apply pw_below_drewN | apply below_drew1) | exact HB.out)⟩
    · replace c6 := Bool.eq_false_iff.mpr c6
      subst c6
      have H1 : (some (([] : List (S57)), false)) = some (r1, r2) := by rw [if_neg (show ¬ (false = true) by decide)] at H; exact H
      clear H
      have H := H1
      clear H1
      simp only [Option.some.injEq, Prod.mk.injEq] at H
      obtain ⟨rfl, rfl⟩ := H
      go_enter Try.func21, Try.ntmps21
      go_wp2_with (first | ((with_reducible refine gate_callee (f := 58) rfl ?_); refine goesL_ (some 7) rfl rfl Try.func58 (by kernel_rfl) rfl #[.slice A0 l0.length c0] rfl (by (try simp only [List.map_toArray, List.map_cons, List.map_nil]); first | done | rfl | (simp only [List.length_drop, List.length_take]; rfl)) ?_; (with_reducible refine (impl_areDocs.calls k _ _ l0 true _ ?side1 ?side2 A3.out).mono ?_); (case side1 => repeat (first | exact HR0.out | (with_reducible refine Kd.C_alloc ?_ _) | (with_reducible refine Kd.C_drewN ?_ _) | (with_reducible refine Kd.C_drew ?_))); (case side2 => exact HC0.out); rintro e w10 ⟨rfl, hb⟩; refine ⟨_, rfl, ?_⟩; have n0_ := Aside0.mk (below_step (by repeat (first | (with_reducible first | exact HB.out | apply below_alloc | apply pw_below_drewN | apply below_drew1) | exact HB.out)) hb); clear HB; have HB := n0_; clear n0_; (try clear hb); (try clear hb2); (try clear hk); (try clear hi)) | (go_at_call 59; (with_reducible refine (impl_isWord.calls k a1 false _ A5.out).mono ?_); rintro e w' ⟨rfl, ⟨nd, rfl⟩⟩))
      go_ret2
      exact ⟨_, by first | rfl | (simp [errW_none, errW_some] <;> rfl) | (simp [*, errW_none, errW_some] <;> rfl), by first | exact Kd.S_nil _ _ _ _ _ | exact Kd.N_nil _ _ _ _ _ | exact Kd.V_nil _ _ _ _ _ | exact Kd.Q_nil _ _ _ _ _ | exact Kd.R_nil _ _ _ _ _, by repeat (first | (with_reducible first | exact HB.out | apply below_alloc | apply pw_below_drewN | apply below_drew1) | exact HB.out)⟩
  · replace c4 := Bool.eq_false_iff.mpr c4
    subst c4
    have H1 : (some (([] : List (S57)), false)) = some (r1, r2) := by rw [if_neg (show ¬ (false = true) by decide)] at H; exact H
    clear H
    have H := H1
    clear H1
    simp only [Option.some.injEq, Prod.mk.injEq] at H
    obtain ⟨rfl, rfl⟩ := H
    go_enter Try.func21, Try.ntmps21
    go_wp2_with (first | ((with_reducible refine gate_callee (f := 58) rfl ?_); refine goesL_ (some 7) rfl rfl Try.func58 (by kernel_rfl) rfl #[.slice A0 l0.length c0] rfl (by (try simp only [List.map_toArray, List.map_cons, List.map_nil]); first | done | rfl | (simp only [List.length_drop, List.length_take]; rfl)) ?_; (with_reducible refine (impl_areDocs.calls k _ _ l0 false _ ?side1 ?side2 A3.out).mono ?_); (case side1 => repeat (first | exact HR0.out | (with_reducible refine Kd.C_alloc ?_ _) | (with_reducible refine Kd.C_drewN ?_ _) | (with_reducible refine Kd.C_drew ?_))); (case side2 => exact HC0.out); rintro e w11 ⟨rfl, hb⟩; refine ⟨_, rfl, ?_⟩; have n0_ := Aside0.mk (below_step (by repeat (first | (with_reducible first | exact HB.out | apply below_alloc | apply pw_below_drewN | apply below_drew1) | exact HB.out)) hb); clear HB; have HB := n0_; clear n0_; (try clear hb); (try clear hb2); (try clear hk); (try clear hi)))
    go_ret2
    exact ⟨_, by first | rfl | (simp [errW_none, errW_some] <;> rfl) | (simp [*, errW_none, errW_some] <;> rfl), by first | exact Kd.S_nil _ _ _ _ _ | exact Kd.N_nil _ _ _ _ _ | exact Kd.V_nil _ _ _ _ _ | exact Kd.Q_nil _ _ _ _ _ | exact Kd.R_nil _ _ _ _ _, by repeat (first | (with_reducible first | exact HB.out | apply below_alloc | apply pw_below_drewN | apply below_drew1) | exact HB.out)⟩

end Go.Proofs.Ytcopakljdenolaa.Fn
namespace Go.Proofs.Ytcopakljdenolaa.Pure
open Go.RowKit Go.Proofs.Ytcopakljdenolaa.Fn Go.Proofs.YtcopakljdenolaaW.PrintWords Go.Proofs.YtcopakljdenolaaW.PrintLast Go.Proofs.YtcopakljdenolaaW.PrintMore
set_option linter.unusedSimpArgs false
set_option linter.unusedVariables false

theorem within_eq (a b c : Int) : impl_within.f a b c = some (decide (b ≤ a ∧ a ≤ c)) := by
  unfold impl_within.f
  by_cases h : b ≤ a
  · rw [if_pos h]; simp [h]
  · rw [if_neg h]; simp [h]
theorem specIn_eq (a b c : Int) : spec_l1In.f a b c = some (decide (b ≤ a ∧ a ≤ c)) := within_eq a b c
def docOk (s : ByteArray) : Bool := (wordsRes s).2
def docsOk (l : List ByteArray) : Bool := decide (l.length ≤ 12) && l.all docOk
def Small (l : List ByteArray) : Prop := l.length ≤ 1048576 ∧ ∀ y ∈ l, y.size ≤ 1048576
theorem doc_cases (s : ByteArray) : ((s.size : Int) > 120 ∧ docOk s = false) ∨ (¬ (s.size : Int) > 120 ∧ ((wordsOf s).length : Int) > 20 ∧ docOk s = false) ∨ (¬ (s.size : Int) > 120 ∧ ¬ ((wordsOf s).length : Int) > 20 ∧ docOk s = true) := by
  by_cases h1 : (s.size : Int) > 120
  · exact .inl ⟨h1, by rw [docOk, wordsRes, if_pos h1]⟩
  · by_cases h2 : ((wordsOf s).length : Int) > 20
    · exact .inr (.inl ⟨h1, h2, by rw [docOk, wordsRes, if_neg h1, if_pos h2]⟩)
    · exact .inr (.inr ⟨h1, h2, by rw [docOk, wordsRes, if_neg h1, if_neg h2]⟩)
theorem specDocs_ev (l : List ByteArray) (hl : Small l) : Ev (fun k => spec_l9Docs.f k l) (docsOk l) := by
  have hl1 := hl.1
  have key : ∀ (t : List ByteArray) (i : Nat), l.drop i = t → i ≤ l.length → Ev (fun k => spec_l9Docs.l0 k l l l.length i) (t.all docOk && decide ((l.length : Int) ≤ 12)) := by
    intro t
    induction t with
    | nil =>
      intro i h hi
      have := drop_nil h
      (refine Ev.up ?_; simp only [spec_l9Docs.l0, decT])
      (repeat (first | with_reducible refine Ev.bindS ?_ | (with_reducible refine Ev.ifp ?_ ?_; (· first | omega | assumption | rfl | (simp only [List.length_map, List.length_replicate, List.length_take, List.length_drop, List.length_append, List.length_cons, List.length_nil, List.length_set]; omega) | (simp; done))) | (with_reducible refine Ev.ifn ?_ ?_; (· first | omega | assumption | rfl | (simp only [List.length_map, List.length_replicate, List.length_take, List.length_drop, List.length_append, List.length_cons, List.length_nil, List.length_set]; omega) | (simp; done)))))
      exact Ev.val (by simp)
    | cons s t ih =>
      intro i h hi
      obtain ⟨p1, p2, p3⟩ := drop_cons h
      have ih := ih (i + 1) p3 (by omega)
      have hs := hl.2 s (List.mem_of_getElem? p2)
      (refine Ev.up ?_; simp only [spec_l9Docs.l0, decT])
      rw [rdOf_at p2, wrap_succ (by omega)]
      rw [List.all_cons]
      rcases doc_cases s with ⟨h1, h2⟩ | ⟨h1, h2, h3⟩ | ⟨h1, h2, h3⟩
      · (repeat (first | with_reducible refine Ev.bindS ?_ | (with_reducible refine Ev.ifp ?_ ?_; (· first | omega | assumption | rfl | (simp only [List.length_map, List.length_replicate, List.length_take, List.length_drop, List.length_append, List.length_cons, List.length_nil, List.length_set]; omega) | (simp; done))) | (with_reducible refine Ev.ifn ?_ ?_; (· first | omega | assumption | rfl | (simp only [List.length_map, List.length_replicate, List.length_take, List.length_drop, List.length_append, List.length_cons, List.length_nil, List.length_set]; omega) | (simp; done)))))
        exact Ev.val (by rw [h2]; rfl)
      · (repeat (first | with_reducible refine Ev.bindS ?_ | (with_reducible refine Ev.ifp ?_ ?_; (· first | omega | assumption | rfl | (simp only [List.length_map, List.length_replicate, List.length_take, List.length_drop, List.length_append, List.length_cons, List.length_nil, List.length_set]; omega) | (simp; done))) | (with_reducible refine Ev.ifn ?_ ?_; (· first | omega | assumption | rfl | (simp only [List.length_map, List.length_replicate, List.length_take, List.length_drop, List.length_append, List.length_cons, List.length_nil, List.length_set]; omega) | (simp; done)))))
        refine Ev.bind (specWords_ev s hs) ?_
        (repeat (first | with_reducible refine Ev.bindS ?_ | (with_reducible refine Ev.ifp ?_ ?_; (· first | omega | assumption | rfl | (simp only [List.length_map, List.length_replicate, List.length_take, List.length_drop, List.length_append, List.length_cons, List.length_nil, List.length_set]; omega) | (simp; done))) | (with_reducible refine Ev.ifn ?_ ?_; (· first | omega | assumption | rfl | (simp only [List.length_map, List.length_replicate, List.length_take, List.length_drop, List.length_append, List.length_cons, List.length_nil, List.length_set]; omega) | (simp; done)))))
        exact Ev.val (by rw [h3]; rfl)
      · (repeat (first | with_reducible refine Ev.bindS ?_ | (with_reducible refine Ev.ifp ?_ ?_; (· first | omega | assumption | rfl | (simp only [List.length_map, List.length_replicate, List.length_take, List.length_drop, List.length_append, List.length_cons, List.length_nil, List.length_set]; omega) | (simp; done))) | (with_reducible refine Ev.ifn ?_ ?_; (· first | omega | assumption | rfl | (simp only [List.length_map, List.length_replicate, List.length_take, List.length_drop, List.length_append, List.length_cons, List.length_nil, List.length_set]; omega) | (simp; done)))))
        refine Ev.bind (specWords_ev s hs) ?_
        rw [h3, Bool.true_and]
        (repeat (first | with_reducible refine Ev.bindS ?_ | (with_reducible refine Ev.ifp ?_ ?_; (· first | omega | assumption | rfl | (simp only [List.length_map, List.length_replicate, List.length_take, List.length_drop, List.length_append, List.length_cons, List.length_nil, List.length_set]; omega) | (simp; done))) | (with_reducible refine Ev.ifn ?_ ?_; (· first | omega | assumption | rfl | (simp only [List.length_map, List.length_replicate, List.length_take, List.length_drop, List.length_append, List.length_cons, List.length_nil, List.length_set]; omega) | (simp; done)))))
        exact ih
  have h := key l 0 rfl (by omega)
  have e : docsOk l = (l.all docOk && decide ((l.length : Int) ≤ 12)) := by
    have e2 : decide ((l.length : Int) ≤ 12) = decide (l.length ≤ 12) := by rw [decide_eq_decide]; omega
    rw [docsOk, e2, Bool.and_comm]
  rw [e]
  exact h
theorem find_ev (l : List ByteArray) (hl : Small l) : Ev (fun k => slices_ContainsFunc_at89.f k l) (!(l.all docOk)) := by
  have hl1 := hl.1
  have hd : ∀ x, x.size ≤ 1048576 → Ev (fun k => impl_areDocs_1.f k x) (!docOk x) := by
    intro x hx
    simp only [impl_areDocs_1.f]
    refine Ev.bind (implWordsOf_ev x hx) ?_
    exact Ev.val rfl
  have key : ∀ (t : List ByteArray) (i : Nat), l.drop i = t → i ≤ l.length → ∃ r : Int, Ev (fun k => slices_IndexFunc_at89.l0 k l l.length i) r ∧ decide (r ≥ 0) = !(t.all docOk) := by
    intro t
    induction t with
    | nil =>
      intro i h hi
      have := drop_nil h
      refine ⟨-1, ?_, by simp⟩
      (refine Ev.up ?_; simp only [slices_IndexFunc_at89.l0, decT])
      (repeat (first | with_reducible refine Ev.bindS ?_ | (with_reducible refine Ev.ifp ?_ ?_; (· first | omega | assumption | rfl | (simp only [List.length_map, List.length_replicate, List.length_take, List.length_drop, List.length_append, List.length_cons, List.length_nil, List.length_set]; omega) | (simp; done))) | (with_reducible refine Ev.ifn ?_ ?_; (· first | omega | assumption | rfl | (simp only [List.length_map, List.length_replicate, List.length_take, List.length_drop, List.length_append, List.length_cons, List.length_nil, List.length_set]; omega) | (simp; done)))))
      exact Ev.val rfl
    | cons x t ih =>
      intro i h hi
      obtain ⟨p1, p2, p3⟩ := drop_cons h
      have hx := hl.2 x (List.mem_of_getElem? p2)
      obtain ⟨r, ih, hr⟩ := ih (i + 1) p3 (by omega)
      cases hk : docOk x with
      | true =>
        refine ⟨r, ?_, by rw [List.all_cons, hk, hr]; simp⟩
        (refine Ev.up ?_; simp only [slices_IndexFunc_at89.l0, decT])
        rw [rdOf_at p2, wrap_succ (by omega)]
        (repeat (first | with_reducible refine Ev.bindS ?_ | (with_reducible refine Ev.ifp ?_ ?_; (· first | omega | assumption | rfl | (simp only [List.length_map, List.length_replicate, List.length_take, List.length_drop, List.length_append, List.length_cons, List.length_nil, List.length_set]; omega) | (simp; done))) | (with_reducible refine Ev.ifn ?_ ?_; (· first | omega | assumption | rfl | (simp only [List.length_map, List.length_replicate, List.length_take, List.length_drop, List.length_append, List.length_cons, List.length_nil, List.length_set]; omega) | (simp; done)))))
        refine Ev.bind (hd x hx) ?_
        rw [hk]
        (repeat (first | with_reducible refine Ev.bindS ?_ | (with_reducible refine Ev.ifp ?_ ?_; (· first | omega | assumption | rfl | (simp only [List.length_map, List.length_replicate, List.length_take, List.length_drop, List.length_append, List.length_cons, List.length_nil, List.length_set]; omega) | (simp; done))) | (with_reducible refine Ev.ifn ?_ ?_; (· first | omega | assumption | rfl | (simp only [List.length_map, List.length_replicate, List.length_take, List.length_drop, List.length_append, List.length_cons, List.length_nil, List.length_set]; omega) | (simp; done)))))
        exact ih
      | false =>
        refine ⟨i, ?_, by rw [List.all_cons, hk]; simp⟩
        (refine Ev.up ?_; simp only [slices_IndexFunc_at89.l0, decT])
        rw [rdOf_at p2, wrap_succ (by omega)]
        (repeat (first | with_reducible refine Ev.bindS ?_ | (with_reducible refine Ev.ifp ?_ ?_; (· first | omega | assumption | rfl | (simp only [List.length_map, List.length_replicate, List.length_take, List.length_drop, List.length_append, List.length_cons, List.length_nil, List.length_set]; omega) | (simp; done))) | (with_reducible refine Ev.ifn ?_ ?_; (· first | omega | assumption | rfl | (simp only [List.length_map, List.length_replicate, List.length_take, List.length_drop, List.length_append, List.length_cons, List.length_nil, List.length_set]; omega) | (simp; done)))))
        refine Ev.bind (hd x hx) ?_
        rw [hk]
        (repeat (first | with_reducible refine Ev.bindS ?_ | (with_reducible refine Ev.ifp ?_ ?_; (· first | omega | assumption | rfl | (simp only [List.length_map, List.length_replicate, List.length_take, List.length_drop, List.length_append, List.length_cons, List.length_nil, List.length_set]; omega) | (simp; done))) | (with_reducible refine Ev.ifn ?_ ?_; (· first | omega | assumption | rfl | (simp only [List.length_map, List.length_replicate, List.length_take, List.length_drop, List.length_append, List.length_cons, List.length_nil, List.length_set]; omega) | (simp; done)))))
        exact Ev.val rfl
  obtain ⟨r, h1, h2⟩ := key l 0 rfl (by omega)
  simp only [slices_ContainsFunc_at89.f]
  refine Ev.bind (g := fun k => slices_IndexFunc_at89.f k l) h1 ?_
  exact Ev.val h2
theorem implDocs_ev (l : List ByteArray) (hl : Small l) : Ev (fun k => impl_areDocs.f k l) (docsOk l) := by
  have hl1 := hl.1
  simp only [impl_areDocs.f, docsOk]
  by_cases h : l.length ≤ 12
  · rw [decide_eq_true h, Bool.true_and]
    (repeat (first | with_reducible refine Ev.bindS ?_ | (with_reducible refine Ev.ifp ?_ ?_; (· first | omega | assumption | rfl | (simp only [List.length_map, List.length_replicate, List.length_take, List.length_drop, List.length_append, List.length_cons, List.length_nil, List.length_set]; omega) | (simp; done))) | (with_reducible refine Ev.ifn ?_ ?_; (· first | omega | assumption | rfl | (simp only [List.length_map, List.length_replicate, List.length_take, List.length_drop, List.length_append, List.length_cons, List.length_nil, List.length_set]; omega) | (simp; done)))))
    refine Ev.bind (find_ev l hl) ?_
    exact Ev.val (by simp)
  · rw [decide_eq_false h]
    (repeat (first | with_reducible refine Ev.bindS ?_ | (with_reducible refine Ev.ifp ?_ ?_; (· first | omega | assumption | rfl | (simp only [List.length_map, List.length_replicate, List.length_take, List.length_drop, List.length_append, List.length_cons, List.length_nil, List.length_set]; omega) | (simp; done))) | (with_reducible refine Ev.ifn ?_ ?_; (· first | omega | assumption | rfl | (simp only [List.length_map, List.length_replicate, List.length_take, List.length_drop, List.length_append, List.length_cons, List.length_nil, List.length_set]; omega) | (simp; done)))))
    exact Ev.val rfl
def lower (b : Int) : Bool := decide (97 ≤ b ∧ b ≤ 122)
def wordOk (w : ByteArray) : Bool := (nm w).all lower && decide (1 ≤ (w.size : Int) ∧ (w.size : Int) ≤ 12)
theorem specWord_ev (w : ByteArray) (hw : w.size ≤ 1048576) : Ev (fun k => spec_l9Word.f k w) (wordOk w) := by
  have hn := nm_length w
  have key : ∀ (t : List Int) (i : Nat), (nm w).drop i = t → i ≤ w.size → Ev (fun k => spec_l9Word.l0 k w i) (t.all lower && decide (1 ≤ (w.size : Int) ∧ (w.size : Int) ≤ 12)) := by
    intro t
    induction t with
    | nil =>
      intro i h hi
      have := drop_nil h
      (refine Ev.up ?_; simp only [spec_l9Word.l0, decT])
      rw [specIn_eq]
      (repeat (first | with_reducible refine Ev.bindS ?_ | (with_reducible refine Ev.ifp ?_ ?_; (· first | omega | assumption | rfl | (simp only [List.length_map, List.length_replicate, List.length_take, List.length_drop, List.length_append, List.length_cons, List.length_nil, List.length_set]; omega) | (simp; done))) | (with_reducible refine Ev.ifn ?_ ?_; (· first | omega | assumption | rfl | (simp only [List.length_map, List.length_replicate, List.length_take, List.length_drop, List.length_append, List.length_cons, List.length_nil, List.length_set]; omega) | (simp; done)))))
      exact Ev.val (by simp)
    | cons b t ih =>
      intro i h hi
      obtain ⟨p1, p2, p3⟩ := drop_cons h
      have ih := ih (i + 1) p3 (by omega)
      (refine Ev.up ?_; simp only [spec_l9Word.l0, decT])
      rw [nm_get p2, wrap_succ (by omega), List.all_cons]
      by_cases h1 : b < 97
      · have e : lower b = false := decide_eq_false (by omega)
        rw [e]
        (repeat (first | with_reducible refine Ev.bindS ?_ | (with_reducible refine Ev.ifp ?_ ?_; (· first | omega | assumption | rfl | (simp only [List.length_map, List.length_replicate, List.length_take, List.length_drop, List.length_append, List.length_cons, List.length_nil, List.length_set]; omega) | (simp; done))) | (with_reducible refine Ev.ifn ?_ ?_; (· first | omega | assumption | rfl | (simp only [List.length_map, List.length_replicate, List.length_take, List.length_drop, List.length_append, List.length_cons, List.length_nil, List.length_set]; omega) | (simp; done)))))
        exact Ev.val rfl
      · by_cases h2 : b > 122
        · have e : lower b = false := decide_eq_false (by omega)
          rw [e]
          (repeat (first | with_reducible refine Ev.bindS ?_ | (with_reducible refine Ev.ifp ?_ ?_; (· first | omega | assumption | rfl | (simp only [List.length_map, List.length_replicate, List.length_take, List.length_drop, List.length_append, List.length_cons, List.length_nil, List.length_set]; omega) | (simp; done))) | (with_reducible refine Ev.ifn ?_ ?_; (· first | omega | assumption | rfl | (simp only [List.length_map, List.length_replicate, List.length_take, List.length_drop, List.length_append, List.length_cons, List.length_nil, List.length_set]; omega) | (simp; done)))))
          exact Ev.val rfl
        · have e : lower b = true := decide_eq_true (by omega)
          rw [e, Bool.true_and]
          (repeat (first | with_reducible refine Ev.bindS ?_ | (with_reducible refine Ev.ifp ?_ ?_; (· first | omega | assumption | rfl | (simp only [List.length_map, List.length_replicate, List.length_take, List.length_drop, List.length_append, List.length_cons, List.length_nil, List.length_set]; omega) | (simp; done))) | (with_reducible refine Ev.ifn ?_ ?_; (· first | omega | assumption | rfl | (simp only [List.length_map, List.length_replicate, List.length_take, List.length_drop, List.length_append, List.length_cons, List.length_nil, List.length_set]; omega) | (simp; done)))))
          exact ih
  exact key (nm w) 0 rfl (by omega)
theorem implWord_ev (w : ByteArray) (hw : w.size ≤ 1048576) : Ev (fun k => impl_isWord.f k w) (wordOk w) := by
  have hn := nm_length w
  have key : ∀ (t : List Int) (i : Nat), (nm w).drop i = t → i ≤ w.size → Ev (fun k => impl_areLetters.l0 k w w.size i) (t.all lower && decide ((w.size : Int) ≤ 12)) := by
    intro t
    induction t with
    | nil =>
      intro i h hi
      have := drop_nil h
      (refine Ev.up ?_; simp only [impl_areLetters.l0, decT])
      (repeat (first | with_reducible refine Ev.bindS ?_ | (with_reducible refine Ev.ifp ?_ ?_; (· first | omega | assumption | rfl | (simp only [List.length_map, List.length_replicate, List.length_take, List.length_drop, List.length_append, List.length_cons, List.length_nil, List.length_set]; omega) | (simp; done))) | (with_reducible refine Ev.ifn ?_ ?_; (· first | omega | assumption | rfl | (simp only [List.length_map, List.length_replicate, List.length_take, List.length_drop, List.length_append, List.length_cons, List.length_nil, List.length_set]; omega) | (simp; done)))))
      exact Ev.val (by simp)
    | cons b t ih =>
      intro i h hi
      obtain ⟨p1, p2, p3⟩ := drop_cons h
      have ih := ih (i + 1) p3 (by omega)
      (refine Ev.up ?_; simp only [impl_areLetters.l0, decT])
      rw [nm_get p2, wrap_succ (by omega), isLetter_eq, List.all_cons]
      by_cases h1 : 97 ≤ b ∧ b ≤ 122
      · have e : lower b = true := decide_eq_true h1
        rw [e, Bool.true_and, decide_eq_true h1]
        (repeat (first | with_reducible refine Ev.bindS ?_ | (with_reducible refine Ev.ifp ?_ ?_; (· first | omega | assumption | rfl | (simp only [List.length_map, List.length_replicate, List.length_take, List.length_drop, List.length_append, List.length_cons, List.length_nil, List.length_set]; omega) | (simp; done))) | (with_reducible refine Ev.ifn ?_ ?_; (· first | omega | assumption | rfl | (simp only [List.length_map, List.length_replicate, List.length_take, List.length_drop, List.length_append, List.length_cons, List.length_nil, List.length_set]; omega) | (simp; done)))))
        exact ih
      · have e : lower b = false := decide_eq_false h1
        rw [e, decide_eq_false h1]
        (repeat (first | with_reducible refine Ev.bindS ?_ | (with_reducible refine Ev.ifp ?_ ?_; (· first | omega | assumption | rfl | (simp only [List.length_map, List.length_replicate, List.length_take, List.length_drop, List.length_append, List.length_cons, List.length_nil, List.length_set]; omega) | (simp; done))) | (with_reducible refine Ev.ifn ?_ ?_; (· first | omega | assumption | rfl | (simp only [List.length_map, List.length_replicate, List.length_take, List.length_drop, List.length_append, List.length_cons, List.length_nil, List.length_set]; omega) | (simp; done)))))
        exact Ev.val rfl
  simp only [impl_isWord.f]
  by_cases h0 : w.size = 0
  · have h1 := nil_size.2 h0
    (repeat (first | with_reducible refine Ev.bindS ?_ | (with_reducible refine Ev.ifp ?_ ?_; (· first | omega | assumption | rfl | (simp only [List.length_map, List.length_replicate, List.length_take, List.length_drop, List.length_append, List.length_cons, List.length_nil, List.length_set]; omega) | (simp; done))) | (with_reducible refine Ev.ifn ?_ ?_; (· first | omega | assumption | rfl | (simp only [List.length_map, List.length_replicate, List.length_take, List.length_drop, List.length_append, List.length_cons, List.length_nil, List.length_set]; omega) | (simp; done)))))
    exact Ev.val (by simp [wordOk, h0])
  · have h1 : ¬ w.toList = ([] : List UInt8) := fun h => h0 (nil_size.1 h)
    (repeat (first | with_reducible refine Ev.bindS ?_ | (with_reducible refine Ev.ifp ?_ ?_; (· first | omega | assumption | rfl | (simp only [List.length_map, List.length_replicate, List.length_take, List.length_drop, List.length_append, List.length_cons, List.length_nil, List.length_set]; omega) | (simp; done))) | (with_reducible refine Ev.ifn ?_ ?_; (· first | omega | assumption | rfl | (simp only [List.length_map, List.length_replicate, List.length_take, List.length_drop, List.length_append, List.length_cons, List.length_nil, List.length_set]; omega) | (simp; done)))))
    refine Ev.bind (g := fun k => impl_areLetters.f k w) (key (nm w) 0 rfl (by omega)) ?_
    refine Ev.val ?_
    rw [wordOk]
    congr 1
    rw [decide_eq_decide]
    omega
/-- The places of a word in a list of words. -/
def placesFrom (w : ByteArray) : List ByteArray → Nat → List Int → List Int
  | [], _, acc => acc
  | x :: t, i, acc => if x.toList = w.toList then placesFrom w t (i + 1) (acc ++ [(i : Int)]) else placesFrom w t (i + 1) acc
def places (w : ByteArray) (s : ByteArray) : List Int := placesFrom w (wordsOf s) 0 []
theorem placesFrom_len (w : ByteArray) (t : List ByteArray) : ∀ (i : Nat) (acc : List Int), (placesFrom w t i acc).length ≤ acc.length + t.length := by
  induction t with
  | nil => intro i acc; simp [placesFrom]
  | cons x t ih =>
    intro i acc
    simp only [placesFrom, List.length_cons]
    split
    · have := ih (i + 1) (acc ++ [(i : Int)])
      simp only [List.length_append, List.length_cons, List.length_nil] at this
      omega
    · have := ih (i + 1) acc
      omega
def postsFrom (w : ByteArray) : List ByteArray → Nat → List S57 → List S57
  | [], _, acc => acc
  | s :: t, i, acc => if ((places w s).length : Int) > 0 then postsFrom w t (i + 1) (acc ++ [⟨(i : Int), places w s⟩]) else postsFrom w t (i + 1) acc
theorem implPlaces_ev (w : ByteArray) (l : List ByteArray) (hl : l.length ≤ 2097152) : Ev (fun k => impl_placesOf.f k l w) (placesFrom w l 0 []) := by
  have key : ∀ (t : List ByteArray) (i : Nat) (acc : List Int), l.drop i = t → i ≤ l.length → acc.length ≤ i → Ev (fun k => impl_placesOf.l0 k w acc l l.length i) (placesFrom w t i acc) := by
    intro t
    induction t with
    | nil =>
      intro i acc h hi ha
      have := drop_nil h
      (refine Ev.up ?_; simp only [impl_placesOf.l0, decT])
      (repeat (first | with_reducible refine Ev.bindS ?_ | (with_reducible refine Ev.ifp ?_ ?_; (· first | omega | assumption | rfl | (simp only [List.length_map, List.length_replicate, List.length_take, List.length_drop, List.length_append, List.length_cons, List.length_nil, List.length_set]; omega) | (simp; done))) | (with_reducible refine Ev.ifn ?_ ?_; (· first | omega | assumption | rfl | (simp only [List.length_map, List.length_replicate, List.length_take, List.length_drop, List.length_append, List.length_cons, List.length_nil, List.length_set]; omega) | (simp; done)))))
      exact Ev.val rfl
    | cons x t ih =>
      intro i acc h hi ha
      obtain ⟨p1, p2, p3⟩ := drop_cons h
      (refine Ev.up ?_; simp only [impl_placesOf.l0, decT])
      rw [rdOf_at p2, wrap_succ (by omega)]
      simp only [placesFrom]
      by_cases hx : x.toList = w.toList
      · rw [if_pos hx]
        (repeat (first | with_reducible refine Ev.bindS ?_ | (with_reducible refine Ev.ifp ?_ ?_; (· first | omega | assumption | rfl | (simp only [List.length_map, List.length_replicate, List.length_take, List.length_drop, List.length_append, List.length_cons, List.length_nil, List.length_set]; omega) | (simp; done))) | (with_reducible refine Ev.ifn ?_ ?_; (· first | omega | assumption | rfl | (simp only [List.length_map, List.length_replicate, List.length_take, List.length_drop, List.length_append, List.length_cons, List.length_nil, List.length_set]; omega) | (simp; done)))))
        exact ih (i + 1) _ p3 (by omega) (by simp; omega)
      · rw [if_neg hx]
        (repeat (first | with_reducible refine Ev.bindS ?_ | (with_reducible refine Ev.ifp ?_ ?_; (· first | omega | assumption | rfl | (simp only [List.length_map, List.length_replicate, List.length_take, List.length_drop, List.length_append, List.length_cons, List.length_nil, List.length_set]; omega) | (simp; done))) | (with_reducible refine Ev.ifn ?_ ?_; (· first | omega | assumption | rfl | (simp only [List.length_map, List.length_replicate, List.length_take, List.length_drop, List.length_append, List.length_cons, List.length_nil, List.length_set]; omega) | (simp; done)))))
        exact ih (i + 1) _ p3 (by omega) (by omega)
  exact key l 0 [] rfl (by omega) (by simp)
theorem implPosts_ev (l : List ByteArray) (hl : Small l) (w : ByteArray) : Ev (fun k => impl_posts.f k l w) (postsFrom w l 0 []) := by
  have hl1 := hl.1
  have key : ∀ (t : List ByteArray) (i : Nat) (acc : List S57), l.drop i = t → i ≤ l.length → acc.length ≤ i → Ev (fun k => impl_posts.l0 k w acc l l.length i) (postsFrom w t i acc) := by
    intro t
    induction t with
    | nil =>
      intro i acc h hi ha
      have := drop_nil h
      (refine Ev.up ?_; simp only [impl_posts.l0, decT])
      (repeat (first | with_reducible refine Ev.bindS ?_ | (with_reducible refine Ev.ifp ?_ ?_; (· first | omega | assumption | rfl | (simp only [List.length_map, List.length_replicate, List.length_take, List.length_drop, List.length_append, List.length_cons, List.length_nil, List.length_set]; omega) | (simp; done))) | (with_reducible refine Ev.ifn ?_ ?_; (· first | omega | assumption | rfl | (simp only [List.length_map, List.length_replicate, List.length_take, List.length_drop, List.length_append, List.length_cons, List.length_nil, List.length_set]; omega) | (simp; done)))))
      exact Ev.val rfl
    | cons s t ih =>
      intro i acc h hi ha
      obtain ⟨p1, p2, p3⟩ := drop_cons h
      have hs := hl.2 s (List.mem_of_getElem? p2)
      have hw := words_len (nm s) eS []
      have hn := nm_length s
      simp only [List.length_nil] at hw
      (refine Ev.up ?_; simp only [impl_posts.l0, decT])
      rw [rdOf_at p2, wrap_succ (by omega)]
      (repeat (first | with_reducible refine Ev.bindS ?_ | (with_reducible refine Ev.ifp ?_ ?_; (· first | omega | assumption | rfl | (simp only [List.length_map, List.length_replicate, List.length_take, List.length_drop, List.length_append, List.length_cons, List.length_nil, List.length_set]; omega) | (simp; done))) | (with_reducible refine Ev.ifn ?_ ?_; (· first | omega | assumption | rfl | (simp only [List.length_map, List.length_replicate, List.length_take, List.length_drop, List.length_append, List.length_cons, List.length_nil, List.length_set]; omega) | (simp; done)))))
      refine Ev.bind (implWords_ev s hs) ?_
      refine Ev.bind (implPlaces_ev w (wordsOf s) (by rw [wordsOf]; omega)) ?_
      simp only [postsFrom]
      by_cases hx : ((places w s).length : Int) > 0
      · have hx' : ((placesFrom w (wordsOf s) 0 []).length : Int) > 0 := hx
        rw [if_pos hx]
        (repeat (first | with_reducible refine Ev.bindS ?_ | (with_reducible refine Ev.ifp ?_ ?_; (· first | omega | assumption | rfl | (simp only [List.length_map, List.length_replicate, List.length_take, List.length_drop, List.length_append, List.length_cons, List.length_nil, List.length_set]; omega) | (simp; done))) | (with_reducible refine Ev.ifn ?_ ?_; (· first | omega | assumption | rfl | (simp only [List.length_map, List.length_replicate, List.length_take, List.length_drop, List.length_append, List.length_cons, List.length_nil, List.length_set]; omega) | (simp; done)))))
        exact ih (i + 1) _ p3 (by omega) (by simp; omega)
      · have hx' : ¬ ((placesFrom w (wordsOf s) 0 []).length : Int) > 0 := hx
        rw [if_neg hx]
        (repeat (first | with_reducible refine Ev.bindS ?_ | (with_reducible refine Ev.ifp ?_ ?_; (· first | omega | assumption | rfl | (simp only [List.length_map, List.length_replicate, List.length_take, List.length_drop, List.length_append, List.length_cons, List.length_nil, List.length_set]; omega) | (simp; done))) | (with_reducible refine Ev.ifn ?_ ?_; (· first | omega | assumption | rfl | (simp only [List.length_map, List.length_replicate, List.length_take, List.length_drop, List.length_append, List.length_cons, List.length_nil, List.length_set]; omega) | (simp; done)))))
        exact ih (i + 1) _ p3 (by omega) (by omega)
  exact key l 0 [] rfl (by omega) (by simp)
theorem specPosts_ev (l : List ByteArray) (hl : Small l) (w : ByteArray) : Ev (fun k => spec_l9Posts.f k l w) (postsFrom w l 0 []) := by
  have hl1 := hl.1
  -- the inner loop: the places of a text's words
  have inner : ∀ (i : Nat) (ws : List ByteArray) (out : List S57) (r : List S57), ws.length ≤ 2097152 →
      (((placesFrom w ws 0 []).length : Int) > 0 → Ev (fun k => if out.length < 4398046511104 then spec_l9Posts.l0 k w (out ++ [⟨(i : Int), placesFrom w ws 0 []⟩]) l l.length (wrap64 ((i : Int) + 1)) else none) r) →
      (¬ ((placesFrom w ws 0 []).length : Int) > 0 → Ev (fun k => spec_l9Posts.l0 k w out l l.length (wrap64 ((i : Int) + 1))) r) →
      Ev (fun k => spec_l9Posts.l1 k w out l l.length i ws ws.length 0 i []) r := by
    intro i ws out r hws hyes hno
    have key : ∀ (t : List ByteArray) (j : Nat) (acc : List Int), ws.drop j = t → j ≤ ws.length → acc.length ≤ j → placesFrom w t j acc = placesFrom w ws 0 [] → Ev (fun k => spec_l9Posts.l1 k w out l l.length i ws ws.length j i acc) r := by
      intro t
      induction t with
      | nil =>
        intro j acc h hj ha he
        have := drop_nil h
        simp only [placesFrom] at he
        rw [← he] at hyes hno
        (refine Ev.up ?_; simp only [spec_l9Posts.l1, decT])
        by_cases hx : (acc.length : Int) > 0
        · have := hyes hx
          exact Ev.ifn (by omega) (Ev.ifp hx this)
        · have := hno hx
          (repeat (first | with_reducible refine Ev.bindS ?_ | (with_reducible refine Ev.ifp ?_ ?_; (· first | omega | assumption | rfl | (simp only [List.length_map, List.length_replicate, List.length_take, List.length_drop, List.length_append, List.length_cons, List.length_nil, List.length_set]; omega) | (simp; done))) | (with_reducible refine Ev.ifn ?_ ?_; (· first | omega | assumption | rfl | (simp only [List.length_map, List.length_replicate, List.length_take, List.length_drop, List.length_append, List.length_cons, List.length_nil, List.length_set]; omega) | (simp; done)))))
          exact this
      | cons x t ih =>
        intro j acc h hj ha he
        obtain ⟨p1, p2, p3⟩ := drop_cons h
        simp only [placesFrom] at he
        (refine Ev.up ?_; simp only [spec_l9Posts.l1, decT])
        rw [rdOf_at p2, wrap_succ (i := j) (by omega)]
        by_cases hx : x.toList = w.toList
        · rw [if_pos hx] at he
          (repeat (first | with_reducible refine Ev.bindS ?_ | (with_reducible refine Ev.ifp ?_ ?_; (· first | omega | assumption | rfl | (simp only [List.length_map, List.length_replicate, List.length_take, List.length_drop, List.length_append, List.length_cons, List.length_nil, List.length_set]; omega) | (simp; done))) | (with_reducible refine Ev.ifn ?_ ?_; (· first | omega | assumption | rfl | (simp only [List.length_map, List.length_replicate, List.length_take, List.length_drop, List.length_append, List.length_cons, List.length_nil, List.length_set]; omega) | (simp; done)))))
          exact ih (j + 1) _ p3 (by omega) (by simp; omega) he
        · rw [if_neg hx] at he
          (repeat (first | with_reducible refine Ev.bindS ?_ | (with_reducible refine Ev.ifp ?_ ?_; (· first | omega | assumption | rfl | (simp only [List.length_map, List.length_replicate, List.length_take, List.length_drop, List.length_append, List.length_cons, List.length_nil, List.length_set]; omega) | (simp; done))) | (with_reducible refine Ev.ifn ?_ ?_; (· first | omega | assumption | rfl | (simp only [List.length_map, List.length_replicate, List.length_take, List.length_drop, List.length_append, List.length_cons, List.length_nil, List.length_set]; omega) | (simp; done)))))
          exact ih (j + 1) _ p3 (by omega) (by omega) he
    exact key ws 0 [] rfl (by omega) (by simp) rfl
  have key : ∀ (t : List ByteArray) (i : Nat) (acc : List S57), l.drop i = t → i ≤ l.length → acc.length ≤ i → Ev (fun k => spec_l9Posts.l0 k w acc l l.length i) (postsFrom w t i acc) := by
    intro t
    induction t with
    | nil =>
      intro i acc h hi ha
      have := drop_nil h
      (refine Ev.up ?_; simp only [spec_l9Posts.l0, decT])
      (repeat (first | with_reducible refine Ev.bindS ?_ | (with_reducible refine Ev.ifp ?_ ?_; (· first | omega | assumption | rfl | (simp only [List.length_map, List.length_replicate, List.length_take, List.length_drop, List.length_append, List.length_cons, List.length_nil, List.length_set]; omega) | (simp; done))) | (with_reducible refine Ev.ifn ?_ ?_; (· first | omega | assumption | rfl | (simp only [List.length_map, List.length_replicate, List.length_take, List.length_drop, List.length_append, List.length_cons, List.length_nil, List.length_set]; omega) | (simp; done)))))
      exact Ev.val rfl
    | cons s t ih =>
      intro i acc h hi ha
      obtain ⟨p1, p2, p3⟩ := drop_cons h
      have hs := hl.2 s (List.mem_of_getElem? p2)
      have hw := words_len (nm s) eS []
      have hn := nm_length s
      simp only [List.length_nil] at hw
      (refine Ev.up ?_; simp only [spec_l9Posts.l0, decT])
      rw [rdOf_at p2]
      (repeat (first | with_reducible refine Ev.bindS ?_ | (with_reducible refine Ev.ifp ?_ ?_; (· first | omega | assumption | rfl | (simp only [List.length_map, List.length_replicate, List.length_take, List.length_drop, List.length_append, List.length_cons, List.length_nil, List.length_set]; omega) | (simp; done))) | (with_reducible refine Ev.ifn ?_ ?_; (· first | omega | assumption | rfl | (simp only [List.length_map, List.length_replicate, List.length_take, List.length_drop, List.length_append, List.length_cons, List.length_nil, List.length_set]; omega) | (simp; done)))))
      refine Ev.bind (specWords_ev s hs) ?_
      simp only [postsFrom]
      refine inner i (wordsOf s) acc _ (by rw [wordsOf]; omega) (fun hx => ?_) (fun hx => ?_)
      · have hx' : ((places w s).length : Int) > 0 := hx
        rw [if_pos hx', wrap_succ (by omega)]
        (repeat (first | with_reducible refine Ev.bindS ?_ | (with_reducible refine Ev.ifp ?_ ?_; (· first | omega | assumption | rfl | (simp only [List.length_map, List.length_replicate, List.length_take, List.length_drop, List.length_append, List.length_cons, List.length_nil, List.length_set]; omega) | (simp; done))) | (with_reducible refine Ev.ifn ?_ ?_; (· first | omega | assumption | rfl | (simp only [List.length_map, List.length_replicate, List.length_take, List.length_drop, List.length_append, List.length_cons, List.length_nil, List.length_set]; omega) | (simp; done)))))
        exact ih (i + 1) _ p3 (by omega) (by simp; omega)
      · have hx' : ¬ ((places w s).length : Int) > 0 := hx
        rw [if_neg hx', wrap_succ (by omega)]
        exact ih (i + 1) _ p3 (by omega) (by omega)
  exact key l 0 [] rfl (by omega) (by simp)
def postsRes (l : List ByteArray) (w : ByteArray) : List S57 × Bool := if docsOk l = true ∧ wordOk w = true then (postsFrom w l 0 [], true) else ([], false)
theorem specPostsOf_ev (l : List ByteArray) (hl : Small l) (w : ByteArray) (hw : w.size ≤ 1048576) : Ev (fun k => spec_PostsOf.f k l w) (postsRes l w) := by
  simp only [spec_PostsOf.f]
  refine Ev.bind (specDocs_ev l hl) ?_
  cases h1 : docsOk l with
  | false =>
    have e : postsRes l w = ([], false) := by rw [postsRes, if_neg (by rw [h1]; simp)]
    rw [e]; (repeat (first | with_reducible refine Ev.bindS ?_ | (with_reducible refine Ev.ifp ?_ ?_; (· first | omega | assumption | rfl | (simp only [List.length_map, List.length_replicate, List.length_take, List.length_drop, List.length_append, List.length_cons, List.length_nil, List.length_set]; omega) | (simp; done))) | (with_reducible refine Ev.ifn ?_ ?_; (· first | omega | assumption | rfl | (simp only [List.length_map, List.length_replicate, List.length_take, List.length_drop, List.length_append, List.length_cons, List.length_nil, List.length_set]; omega) | (simp; done))))); exact Ev.val rfl
  | true =>
    (repeat (first | with_reducible refine Ev.bindS ?_ | (with_reducible refine Ev.ifp ?_ ?_; (· first | omega | assumption | rfl | (simp only [List.length_map, List.length_replicate, List.length_take, List.length_drop, List.length_append, List.length_cons, List.length_nil, List.length_set]; omega) | (simp; done))) | (with_reducible refine Ev.ifn ?_ ?_; (· first | omega | assumption | rfl | (simp only [List.length_map, List.length_replicate, List.length_take, List.length_drop, List.length_append, List.length_cons, List.length_nil, List.length_set]; omega) | (simp; done)))))
    refine Ev.bind (specWord_ev w hw) ?_
    cases h2 : wordOk w with
    | false =>
      have e : postsRes l w = ([], false) := by rw [postsRes, if_neg (by rw [h2]; simp)]
      rw [e]; (repeat (first | with_reducible refine Ev.bindS ?_ | (with_reducible refine Ev.ifp ?_ ?_; (· first | omega | assumption | rfl | (simp only [List.length_map, List.length_replicate, List.length_take, List.length_drop, List.length_append, List.length_cons, List.length_nil, List.length_set]; omega) | (simp; done))) | (with_reducible refine Ev.ifn ?_ ?_; (· first | omega | assumption | rfl | (simp only [List.length_map, List.length_replicate, List.length_take, List.length_drop, List.length_append, List.length_cons, List.length_nil, List.length_set]; omega) | (simp; done))))); exact Ev.val rfl
    | true =>
      have e : postsRes l w = (postsFrom w l 0 [], true) := by rw [postsRes, if_pos ⟨h1, h2⟩]
      rw [e]; (repeat (first | with_reducible refine Ev.bindS ?_ | (with_reducible refine Ev.ifp ?_ ?_; (· first | omega | assumption | rfl | (simp only [List.length_map, List.length_replicate, List.length_take, List.length_drop, List.length_append, List.length_cons, List.length_nil, List.length_set]; omega) | (simp; done))) | (with_reducible refine Ev.ifn ?_ ?_; (· first | omega | assumption | rfl | (simp only [List.length_map, List.length_replicate, List.length_take, List.length_drop, List.length_append, List.length_cons, List.length_nil, List.length_set]; omega) | (simp; done)))))
      refine Ev.bind (specPosts_ev l hl w) ?_
      exact Ev.val rfl
theorem implPostsOf_ev (l : List ByteArray) (hl : Small l) (w : ByteArray) (hw : w.size ≤ 1048576) : Ev (fun k => impl_PostsOf.f k l w) (postsRes l w) := by
  simp only [impl_PostsOf.f]
  refine Ev.bind (implDocs_ev l hl) ?_
  cases h1 : docsOk l with
  | false =>
    have e : postsRes l w = ([], false) := by rw [postsRes, if_neg (by rw [h1]; simp)]
    rw [e]; (repeat (first | with_reducible refine Ev.bindS ?_ | (with_reducible refine Ev.ifp ?_ ?_; (· first | omega | assumption | rfl | (simp only [List.length_map, List.length_replicate, List.length_take, List.length_drop, List.length_append, List.length_cons, List.length_nil, List.length_set]; omega) | (simp; done))) | (with_reducible refine Ev.ifn ?_ ?_; (· first | omega | assumption | rfl | (simp only [List.length_map, List.length_replicate, List.length_take, List.length_drop, List.length_append, List.length_cons, List.length_nil, List.length_set]; omega) | (simp; done))))); exact Ev.val rfl
  | true =>
    (repeat (first | with_reducible refine Ev.bindS ?_ | (with_reducible refine Ev.ifp ?_ ?_; (· first | omega | assumption | rfl | (simp only [List.length_map, List.length_replicate, List.length_take, List.length_drop, List.length_append, List.length_cons, List.length_nil, List.length_set]; omega) | (simp; done))) | (with_reducible refine Ev.ifn ?_ ?_; (· first | omega | assumption | rfl | (simp only [List.length_map, List.length_replicate, List.length_take, List.length_drop, List.length_append, List.length_cons, List.length_nil, List.length_set]; omega) | (simp; done)))))
    refine Ev.bind (implWord_ev w hw) ?_
    cases h2 : wordOk w with
    | false =>
      have e : postsRes l w = ([], false) := by rw [postsRes, if_neg (by rw [h2]; simp)]
      rw [e]; (repeat (first | with_reducible refine Ev.bindS ?_ | (with_reducible refine Ev.ifp ?_ ?_; (· first | omega | assumption | rfl | (simp only [List.length_map, List.length_replicate, List.length_take, List.length_drop, List.length_append, List.length_cons, List.length_nil, List.length_set]; omega) | (simp; done))) | (with_reducible refine Ev.ifn ?_ ?_; (· first | omega | assumption | rfl | (simp only [List.length_map, List.length_replicate, List.length_take, List.length_drop, List.length_append, List.length_cons, List.length_nil, List.length_set]; omega) | (simp; done))))); exact Ev.val rfl
    | true =>
      have e : postsRes l w = (postsFrom w l 0 [], true) := by rw [postsRes, if_pos ⟨h1, h2⟩]
      rw [e]; (repeat (first | with_reducible refine Ev.bindS ?_ | (with_reducible refine Ev.ifp ?_ ?_; (· first | omega | assumption | rfl | (simp only [List.length_map, List.length_replicate, List.length_take, List.length_drop, List.length_append, List.length_cons, List.length_nil, List.length_set]; omega) | (simp; done))) | (with_reducible refine Ev.ifn ?_ ?_; (· first | omega | assumption | rfl | (simp only [List.length_map, List.length_replicate, List.length_take, List.length_drop, List.length_append, List.length_cons, List.length_nil, List.length_set]; omega) | (simp; done)))))
      refine Ev.bind (implPosts_ev l hl w) ?_
      exact Ev.val rfl
theorem postsFrom_len (w : ByteArray) (t : List ByteArray) : ∀ (i : Nat) (acc : List S57), (postsFrom w t i acc).length ≤ acc.length + t.length := by
  induction t with
  | nil => intro i acc; simp [postsFrom]
  | cons x t ih =>
    intro i acc
    simp only [postsFrom, List.length_cons]
    split
    · have := ih (i + 1) (acc ++ [⟨(i : Int), places w x⟩])
      simp only [List.length_append, List.length_cons, List.length_nil] at this
      omega
    · have := ih (i + 1) acc
      omega
theorem postsRes_len (l : List ByteArray) (w : ByteArray) (hl : Small l) : (postsRes l w).1.length ≤ 1048576 := by
  unfold postsRes
  split
  · have := postsFrom_len w l 0 []
    have := hl.1
    simp only [List.length_nil] at *
    omega
  · simp
theorem rd57_at {l : List S57} {i : Nat} {x : S57} (h : l[i]? = some x) : rd_T57 l (i : Int) = x := getD_at h
end Go.Proofs.Ytcopakljdenolaa.Pure
namespace Go.Proofs.Ytcopakljdenolaa.Fn
open Go.RowKit Go.Proofs.YtcopakljdenolaaW.PrintWords Go.Proofs.YtcopakljdenolaaW.PrintLast Go.Proofs.YtcopakljdenolaaW.PrintMore
attribute [local go_sem] max2_int min2_int max_two min_two max_three min_three max_four min_four   -- for this text's walks alone
set_option linter.unusedVariables false
set_option linter.unusedSimpArgs false

/-! ### laws_toIntS: function 98 -/
def laws_toIntS.l0 : Nat → List Int → List Int → Int → Option (List Int)
  | 0, _, _, _ => none
  | k + 1, x0, x3, x4 => if x4 < (x0.length : Int) then (if 0 ≤ x4 then (if x4 < (x3.length : Int) then (laws_toIntS.l0 k x0 (x3.set (x4 : Int).toNat (rd x0 x4)) (wrap64 (x4 + 1))) else (none)) else (none)) else (some x3)
def laws_toIntS.f (k : Nat) (l0 : List Int) : Option (List Int) := if 0 ≤ (l0.length : Int) then (if ((l0.length : Int) : Int).toNat ≤ 35184372088832 then (laws_toIntS.l0 k l0 (List.replicate ((l0.length : Int) : Int).toNat 0) 0) else (none)) else (none)
theorem laws_toIntS.mono_l : ∀ k, (∀ y0 y1 y2, LeO (laws_toIntS.l0 k y0 y1 y2) (laws_toIntS.l0 (k + 1) y0 y1 y2))
  | 0 => fun _ _ _ r h => by simp [laws_toIntS.l0] at h
  | k + 1 => by
    have ih0 := laws_toIntS.mono_l k
    · intro y0 y1 y2
      unfold laws_toIntS.l0
      repeat' first
      | (with_reducible exact ih0 _ _ _)
      | (with_reducible exact LeO.refl _)
      | (with_reducible exact LeO.none _)
      | (with_reducible refine LeO.ite ?_ ?_)
      | (with_reducible refine LeO.bind ?_ (fun _ => ?_))
      | exact ih0 _ _ _
      | exact LeO.none _
      | refine LeO.ite ?_ ?_
      | refine LeO.bind ?_ (fun _ => ?_)
theorem laws_toIntS.mono : ∀ a0 k, LeO (laws_toIntS.f k a0) (laws_toIntS.f (k + 1) a0) := by
  intro a0 k
  have ih0 := laws_toIntS.mono_l k
  unfold laws_toIntS.f
  repeat' first
      | (with_reducible exact ih0 _ _ _)
      | (with_reducible exact LeO.refl _)
      | (with_reducible exact LeO.none _)
      | (with_reducible refine LeO.ite ?_ ?_)
      | (with_reducible refine LeO.bind ?_ (fun _ => ?_))
      | exact ih0 _ _ _
      | exact LeO.none _
      | refine LeO.ite ?_ ?_
      | refine LeO.bind ?_ (fun _ => ?_)
set_option maxHeartbeats 8000000 in
set_option maxRecDepth 100000 in
theorem laws_toIntS.calls (k : Nat) (A0 : Option Addr) (c0 : Nat) (l0 : List Int) (r : List Int) (w : World) (hr0 : Kd.C (Kd.int .i64) w A0 l0.length l0) (hc0 : l0.length ≤ c0) (h : laws_toIntS.f k l0 = some r) :
    Calls Try.prog 98 #[.slice A0 l0.length c0] w fun e w' => ∃ v0_ : Value, e = .returned (v0_) ∧ Kd.R (Kd.int .i64) 3 w' w.heap.size (fun _ => True) v0_ r ∧ Below w.heap.size w w' := by
  have HR0 := Aside0.mk hr0
  have HC0 := Aside0.mk hc0
  clear hr0 hc0
  have HB := Aside0.mk (Below.refl w.heap.size w)
  have H : (if 0 ≤ (l0.length : Int) then (if ((l0.length : Int) : Int).toNat ≤ 35184372088832 then (laws_toIntS.l0 k l0 (List.replicate ((l0.length : Int) : Int).toNat 0) 0) else (none)) else (none)) = some r := h
  clear h
  by_cases c2 : 0 ≤ (l0.length : Int)
  · rw [if_pos c2] at H
    have c2b0 := eq_true c2
    have c2b1 : decide (0 ≤ (l0.length : Int)) = true := decide_eq_true c2
    clear c2
    by_cases c3 : ((l0.length : Int) : Int).toNat ≤ 35184372088832
    · rw [if_pos c3] at H
      have c3b0 := eq_true c3
      have c3b1 : decide (((l0.length : Int) : Int).toNat ≤ 35184372088832) = true := decide_eq_true c3
      clear c3
      obtain ⟨y230, hy230⟩ : ∃ y_ : List Int, y_ = (List.replicate ((l0.length : Int) : Int).toNat 0) := ⟨_, rfl⟩
      replace H : (laws_toIntS.l0 k l0 y230 0) = some r := by first | (rw [hy230]; with_reducible exact H) | (have H2_ := (Option.bind_some _ _).symm.trans H; rw [hy230]; with_reducible exact H2_) | (have H2_ := (Option.bind_some _ _).symm.trans H; with_reducible exact H2_) | with_reducible exact H | (rw [hy230]; exact H) | exact H
      have Ny230 := Aside0.mk hy230
      clear hy230
      have H' := Aside0.mk H
      clear H
      go_enter Try.func98, Try.ntmps98
      go_wp2_with (first | ((with_reducible refine gate_dst (N := 7) rfl ?_); refine Kd.R_make (Kd.int .i64) _ 3 rfl (N := 7) rfl 47 _ _ rfl (l0.length : Int) rfl rfl Try.underlying47 (.int .i64 0) 8 info3 rfl (by decide) (by omega) 0 (ok := fun _ => True) (okp := fun _ => True) rfl (fun _ hk => hk) trivial (of_decide_eq_true (by first | (with_reducible assumption) | assumption)) (Nat.le_trans (Nat.mul_le_mul_right _ (of_decide_eq_true (by first | (with_reducible assumption) | assumption) : (l0.length : Int).toNat ≤ 35184372088832)) (by omega)) (Below.refl _ _) (Nat.le_refl _) ?_; intro v231 w4 ho5 hb hg_ hnew_; clear hg_ hnew_; (first | rw [← Ny230.out] at ho5 | (simp only [Int.reduceToNat] at ho5; rw [← Ny230.out] at ho5)); have n0_ := Aside0.mk (Kd.R_lower ho5 (below_size (by repeat (first | (with_reducible first | exact HB.out | apply below_alloc | apply pw_below_drewN | apply below_drew1) | exact HB.out)))); have n1_ := Aside0.mk (below_step (by repeat (first | (with_reducible first | exact HB.out | apply below_alloc | apply pw_below_drewN | apply below_drew1) | exact HB.out)) hb); clear HB; have HO232 := n0_; have HB := n1_; clear n0_ n1_; clear hb ho5))
      go_loopg [4] k (fun kq v4 w' => ∃ (x3_1 : List Int) (x4_1 : Int), v4 = .int .i64 x4_1 ∧ Aside0 (laws_toIntS.l0 kq l0 x3_1 x4_1 = some r) ∧ Aside0 (kq ≤ k) ∧ Aside0 (Kd.R (Kd.int .i64) 3 w' w.heap.size (fun _ => True) v231 x3_1) ∧ Aside0 (Below w.heap.size w w'))
      case atStart => exact ⟨(y230), (0), (by first | rfl | (simp; done) | (simp [*]; done)), H', ⟨Nat.le_refl _⟩, ⟨by (with_reducible repeat (first | apply Kd.R_alloc | apply Kd.R_drewN | apply Kd.R_drew)); exact HO232.out⟩, ⟨by repeat (first | (with_reducible first | exact HB.out | apply below_alloc | apply pw_below_drewN | apply below_drew1) | exact HB.out)⟩⟩
      case round =>
        clear H'
        try clear c2
        try clear c2b0
        try clear c2b1
        try clear p2
        try clear c3
        try clear c3b0
        try clear c3b1
        obtain ⟨x3_1, x4_1, rfl, HA, HK1, HO_3, HB⟩ := hrel
        cases gk with
        | zero => exact absurd HA.out (by simp [laws_toIntS.l0])
        | succ k1 =>
          have H := HA.out
          clear HA
          simp only [laws_toIntS.l0] at H
          by_cases c6 : x4_1 < (l0.length : Int)
          · rw [if_pos c6] at H
            have c6b0 : decide (x4_1 < (l0.length : Int)) = true := decide_eq_true c6
            clear c6
            by_cases c7 : 0 ≤ x4_1
            · rw [if_pos c7] at H
              have c7b0 : decide (0 ≤ x4_1) = true := decide_eq_true c7
              clear c7
              by_cases c8 : x4_1 < (x3_1.length : Int)
              · rw [if_pos c8] at H
                have c8b0 : decide (x4_1 < (x3_1.length : Int)) = true := decide_eq_true c8
                clear c8
                obtain ⟨y234, hy234⟩ : ∃ y_ : List Int, y_ = (x3_1.set (x4_1 : Int).toNat (rd l0 x4_1)) := ⟨_, rfl⟩
                replace H : (laws_toIntS.l0 k1 l0 y234 (wrap64 (x4_1 + 1))) = some r := by first | (rw [hy234]; with_reducible exact H) | (have H2_ := (Option.bind_some _ _).symm.trans H; rw [hy234]; with_reducible exact H2_) | (have H2_ := (Option.bind_some _ _).symm.trans H; with_reducible exact H2_) | with_reducible exact H | (rw [hy234]; exact H) | exact H
                have Ny234 := Aside0.mk hy234
                clear hy234
                have H' := Aside0.mk H
                clear H
                have p233 : 0 ≤ (x4_1 : Int) := of_decide_eq_true (by first | (with_reducible assumption) | assumption)
                have q233 : x4_1 < (l0.length : Int) := of_decide_eq_true (by first | (with_reducible assumption) | assumption)
                obtain ⟨ad233, e233, hx233_0⟩ := Kd.at_int HR0.out x4_1 p233 q233
                cases e233
                replace hx233_0 := (HB.out.cell (World.block_lt_of_cell? w _ hx233_0)).trans hx233_0
                replace p233 := eq_true p233
                replace q233 := eq_true q233
                have p9 : 0 ≤ (x4_1 : Int) := of_decide_eq_true (by first | (with_reducible assumption) | assumption)
                have q9 : (x4_1 : Int) < ((x3_1.length : Int) : Int) := of_decide_eq_true (by first | (with_reducible assumption) | assumption)
                obtain ⟨go9, co9, eo9, gb9, gl9, cl9, HG9⟩ := Kd.R_form HO_3.out (by omega)
                (first | cases eo9 | (injection eo9 with ea_ en_ ec_; (first | subst ea_ | (injection ea_ with ea_; subst ea_)); subst ec_; clear en_))
                have GB9 := Aside0.mk gb9
                have GG9 := Aside0.mk HG9
                clear gb9 gl9 HG9
                obtain ⟨hx9_0, hf9_0⟩ := Kd.R_celln 0 HO_3.out (x4_1 : Int) p9 q9
                replace p9 := eq_true p9
                replace q9 := eq_true q9
                have HP10 := Kd.R_putg HO_3.out (x4_1 : Int) (rd l0 x4_1)
                go_wp2_with (first | ((with_reducible refine gate_store (t := 3) (p := 20) rfl ?_); refine store_event (t := 3) (p := 20) (v := ?vo_w11) (w1 := (wr.setCell ⟨go9, (x4_1 : Int).toNat, none⟩ (.int .i64 (rd l0 x4_1)))) ?hg ?ho ?hn ?hr ?_; (case ho => rfl); (case hg => rfl); (case hn => rfl); (case hr => first | (go_simp; done) | (go_simp; rfl)); intro w11 hw; have hg : wr.grownBy w11 (some go9) := (by rw [hw]; exact HP10.2); have hp_ : Kd.R (Kd.int .i64) 3 w11 w.heap.size (fun _ => True) (.slice (some ⟨go9, 0, none⟩) x3_1.length co9) y234 := (by rw [hw, Ny234.out]; exact HP10.1); clear HP10; have n0_ := Aside0.mk (hp_); have n1_ := Aside0.mk ((by rw [hw]; exact below_set (HB.out) GB9.out : Below w.heap.size w w11)); clear HO_3; clear HB; have HO_3 := n0_; have HB := n1_; clear n0_ n1_; clear hg hw hp_))
                go_roundg k1
                case measure => have := HK1.out; omega
                case rel => exact ⟨(y234), (wrap64 (x4_1 + 1)), (by first | rfl | (simp; done) | (simp [*]; done)), H', ⟨by have := HK1.out; omega⟩, ⟨by (with_reducible repeat (first | apply Kd.R_alloc | apply Kd.R_drewN | apply Kd.R_drew)); exact HO_3.out⟩, ⟨by repeat (first | (with_reducible first | exact HB.out | apply below_alloc | apply pw_below_drewN | apply below_drew1) | exact HB.out)⟩⟩
              · rw [if_neg c8] at H
                exact absurd H (by simp)
            · rw [if_neg c7] at H
              exact absurd H (by simp)
          · rw [if_neg c6] at H
            have c6b0 : decide (x4_1 < (l0.length : Int)) = false := decide_eq_false c6
            clear c6
            obtain rfl := Option.some.inj H
            go_wp2
            go_ret
            exact ⟨_, by first | rfl | (simp [errW_none, errW_some] <;> rfl) | (simp [*, errW_none, errW_some] <;> rfl), by (with_reducible repeat (first | apply Kd.R_alloc | apply Kd.R_drewN | apply Kd.R_drew)); exact HO_3.out, by repeat (first | (with_reducible first | exact HB.out | apply below_alloc | apply pw_below_drewN | apply below_drew1) | exact HB.out)⟩
    · rw [if_neg c3] at H
      exact absurd H (by simp)
  · rw [if_neg c2] at H
    exact absurd H (by simp)

end Go.Proofs.Ytcopakljdenolaa.Fn
namespace Go.Proofs.Ytcopakljdenolaa.Pure
open Go.RowKit Go.Proofs.Ytcopakljdenolaa.Fn Go.Proofs.YtcopakljdenolaaW.PrintWords Go.Proofs.YtcopakljdenolaaW.PrintLast Go.Proofs.YtcopakljdenolaaW.PrintMore
set_option linter.unusedSimpArgs false

theorem toInts_ev (l : List Int) (hl : l.length ≤ 1048576) : Ev (fun k => laws_toIntS.f k l) l := by
  have h := copy_ev (fun k x3 i => laws_toIntS.l0 k l x3 i) id 0 l ?_ ?_
  · rw [List.map_id] at h
    simp only [laws_toIntS.f, Int.toNat_natCast]
    (repeat (first | with_reducible refine Ev.bindS ?_ | (with_reducible refine Ev.ifp ?_ ?_; (· first | omega | assumption | rfl | (simp only [List.length_map, List.length_replicate, List.length_take, List.length_drop, List.length_append, List.length_cons, List.length_nil, List.length_set]; omega) | (simp; done))) | (with_reducible refine Ev.ifn ?_ ?_; (· first | omega | assumption | rfl | (simp only [List.length_map, List.length_replicate, List.length_take, List.length_drop, List.length_append, List.length_cons, List.length_nil, List.length_set]; omega) | (simp; done)))))
    exact h
  · intro k x3
    simp only [laws_toIntS.l0]
    rw [if_neg (by omega)]
  · intro i x hx
    have hlt := (List.getElem?_eq_some_iff.1 hx).1
    refine ⟨0, fun k x3 _ h3 => ?_⟩
    simp only [laws_toIntS.l0]
    rw [if_pos (by omega), if_pos (by omega), rd_at hx, if_pos (by omega), wrap_succ (by omega), Int.toNat_natCast]
    rfl
theorem eqInts_ev (l : List Int) (hl : l.length ≤ 1048576) : Ev (fun k => laws_eqIntS.f k l l) true := by
  have h := all_ev (fun k i => laws_eqIntS.l0 k l l i) l.length true ?_ ?_
  · simp only [laws_eqIntS.f]
    (repeat (first | with_reducible refine Ev.bindS ?_ | (with_reducible refine Ev.ifp ?_ ?_; (· first | omega | assumption | rfl | (simp only [List.length_map, List.length_replicate, List.length_take, List.length_drop, List.length_append, List.length_cons, List.length_nil, List.length_set]; omega) | (simp; done))) | (with_reducible refine Ev.ifn ?_ ?_; (· first | omega | assumption | rfl | (simp only [List.length_map, List.length_replicate, List.length_take, List.length_drop, List.length_append, List.length_cons, List.length_nil, List.length_set]; omega) | (simp; done)))))
    exact h
  · intro k
    simp only [laws_eqIntS.l0]
    rw [if_neg (by omega)]
  · intro i hi
    refine ⟨0, fun k _ => ?_⟩
    simp only [laws_eqIntS.l0]
    rw [if_pos (by omega), if_pos (by omega), if_pos (by omega), wrap_succ (by omega)]
    simp
theorem markInts_ev (l : List Int) (hl : l.length ≤ 1048576) (c : Int) (h0 : 0 < c) (h1 : c ≤ 1000000000) :
    Ev (fun k => laws_markIntS.f k l c) (c + l.length, l.mapIdx fun i _ => c + (i : Int)) := by
  have h := mark_ev (fun k x c i => laws_markIntS.l0 k x c i) (fun i => c + (i : Int)) (fun i _ => c + (i : Int)) l ?_ ?_
  · simpa [laws_markIntS.f] using h
  · intro k x hx
    simp only [laws_markIntS.l0]
    rw [if_neg (by omega)]
  · intro i y hy
    have hlt : i < l.length := (List.getElem?_eq_some_iff.1 hy).1
    refine ⟨0, fun k x _ hx _ => ?_⟩
    simp only [laws_markIntS.l0]
    have e : wrap64 (c + (i : Int) + 1) = c + ((i + 1 : Nat) : Int) := by rw [wrap_ok (by omega) (by omega)]; omega
    rw [if_pos (by omega), if_pos (by omega), e, wrap_succ (by omega), Int.toNat_natCast]
theorem heldInts_ev (l : List Int) (hl : l.length ≤ 1048576) (c : Int) (h0 : 0 < c) (h1 : c ≤ 1000000000) :
    Ev (fun k => laws_heldIntS.f k (l.mapIdx fun i _ => c + (i : Int)) c) (c + l.length) := by
  have h := all_ev (fun k i => laws_heldIntS.l0 k (l.mapIdx fun i _ => c + (i : Int)) (c + i) i) l.length (c + l.length) ?_ ?_
  · simpa [laws_heldIntS.f] using h
  · intro k
    simp only [laws_heldIntS.l0]
    rw [if_neg (by simp)]
  · intro i hi
    refine ⟨0, fun k _ => ?_⟩
    have hat : rd (l.mapIdx fun i _ => c + (i : Int)) (i : Int) = c + (i : Int) := rd_at (by simp [hi])
    have e : wrap64 (c + (i : Int) + 1) = c + ((i + 1 : Nat) : Int) := by rw [wrap_ok (by omega) (by omega)]; omega
    simp only [laws_heldIntS.l0, hat]
    rw [if_pos (by simp; omega), if_pos (by omega), if_pos trivial, e, wrap_succ (by omega)]
end Go.Proofs.Ytcopakljdenolaa.Pure
namespace Go.Proofs.Ytcopakljdenolaa.Pure
open Go.RowKit Go.Proofs.Ytcopakljdenolaa.Fn Go.Proofs.YtcopakljdenolaaW.PrintWords Go.Proofs.YtcopakljdenolaaW.PrintLast Go.Proofs.YtcopakljdenolaaW.PrintMore
set_option linter.unusedSimpArgs false
set_option linter.unusedVariables false

def Fit (l : List S57) : Prop := l.length ≤ 1048576 ∧ ∀ p ∈ l, p.f1.length ≤ 1048576
theorem eqPosts_ev (l : List S57) (hl : Fit l) : Ev (fun k => laws_eqPostS.f k l l) true := by
  have hl1 := hl.1
  have h := all_ev (fun k i => laws_eqPostS.l0 k l l i) l.length true ?_ ?_
  · simp only [laws_eqPostS.f]
    (repeat (first | with_reducible refine Ev.bindS ?_ | (with_reducible refine Ev.ifp ?_ ?_; (· first | omega | assumption | rfl | (simp only [List.length_map, List.length_replicate, List.length_take, List.length_drop, List.length_append, List.length_cons, List.length_nil, List.length_set]; omega) | (simp; done))) | (with_reducible refine Ev.ifn ?_ ?_; (· first | omega | assumption | rfl | (simp only [List.length_map, List.length_replicate, List.length_take, List.length_drop, List.length_append, List.length_cons, List.length_nil, List.length_set]; omega) | (simp; done)))))
    exact h
  · intro k
    simp only [laws_eqPostS.l0]
    rw [if_neg (by omega)]
  · intro i hi
    have hx : l[i]? = some l[i] := List.getElem?_eq_getElem hi
    obtain ⟨K, hK⟩ := eqInts_ev (l[i]).f1 (hl.2 _ (List.getElem_mem hi))
    refine ⟨K, fun k hk => ?_⟩
    have hk := hK k hk
    dsimp only at hk
    simp only [laws_eqPostS.l0]
    rw [if_pos (by omega), if_pos (by omega), if_pos (by omega), rd57_at hx, wrap_succ (by omega)]
    simp only [laws_eqPost.f, hk, Option.bind_some, if_true]
end Go.Proofs.Ytcopakljdenolaa.Pure
namespace Go.Proofs.Ytcopakljdenolaa.Pure
open Go.RowKit Go.Proofs.YtcopakljdenolaaW.PrintWords Go.Proofs.YtcopakljdenolaaW.PrintLast Go.Proofs.YtcopakljdenolaaW.PrintMore
def Evt (P : Nat → Prop) : Prop := ∃ K, ∀ k, K ≤ k → P k
theorem Evt.and {P Q : Nat → Prop} (h : Evt P) (k : Evt Q) : Evt (fun n => P n ∧ Q n) := by
  obtain ⟨K, h⟩ := h
  obtain ⟨K', k⟩ := k
  exact ⟨max K K', fun n hn => ⟨h n (by omega), k n (by omega)⟩⟩
theorem Evt.const {p : Prop} (h : p) : Evt (fun _ => p) := ⟨0, fun _ _ => h⟩
theorem Evt.ex {α : Type} {P : Nat → α → Prop} (x : α) (h : Evt (fun n => P n x)) : Evt (fun n => ∃ x, P n x) := by
  obtain ⟨K, h⟩ := h
  exact ⟨K, fun n hn => ⟨x, h n hn⟩⟩
theorem Evt.inl {P Q : Nat → Prop} (h : Evt P) : Evt (fun n => P n ∨ Q n) := by
  obtain ⟨K, h⟩ := h
  exact ⟨K, fun n hn => .inl (h n hn)⟩
theorem Evt.inr {P Q : Nat → Prop} (h : Evt Q) : Evt (fun n => P n ∨ Q n) := by
  obtain ⟨K, h⟩ := h
  exact ⟨K, fun n hn => .inr (h n hn)⟩
theorem Evt.now {P : Nat → Prop} (h : Evt P) : ∃ k, P k := by
  obtain ⟨K, h⟩ := h
  exact ⟨K, h K (Nat.le_refl _)⟩
theorem Evt.of {α : Type} {g : Nat → Option α} {r : α} (h : Ev g r) : Evt (fun n => g n = some r) := h
end Go.Proofs.Ytcopakljdenolaa.Pure
namespace Go.Proofs.Ytcopakljdenolaa.Pure
open Go.RowKit Go.Proofs.Ytcopakljdenolaa.Fn Go.Proofs.YtcopakljdenolaaW.PrintWords Go.Proofs.YtcopakljdenolaaW.PrintLast Go.Proofs.YtcopakljdenolaaW.PrintMore
set_option linter.unusedSimpArgs false
set_option linter.unusedVariables false

def marked (l : List Int) (c : Int) : List Int := l.mapIdx fun i _ => c + (i : Int)
theorem markInts_far (l : List Int) (hl : l.length ≤ 1048576) (c : Int) (h0 : 0 < c) (h1 : c ≤ 4611686018427387904) :
    Ev (fun k => laws_markIntS.f k l c) (c + l.length, marked l c) := by
  have h := mark_ev (fun k x c i => laws_markIntS.l0 k x c i) (fun i => c + (i : Int)) (fun i _ => c + (i : Int)) l ?_ ?_
  · simpa [laws_markIntS.f, marked] using h
  · intro k x hx
    simp only [laws_markIntS.l0]
    rw [if_neg (by omega)]
  · intro i y hy
    have hlt : i < l.length := (List.getElem?_eq_some_iff.1 hy).1
    refine ⟨0, fun k x _ hx _ => ?_⟩
    simp only [laws_markIntS.l0]
    have e : wrap64 (c + (i : Int) + 1) = c + ((i + 1 : Nat) : Int) := by rw [wrap_ok (by omega) (by omega)]; omega
    rw [if_pos (by omega), if_pos (by omega), e, wrap_succ (by omega), Int.toNat_natCast]
theorem heldInts_far (l : List Int) (hl : l.length ≤ 1048576) (c : Int) (h0 : 0 < c) (h1 : c ≤ 4611686018427387904) :
    Ev (fun k => laws_heldIntS.f k (marked l c) c) (c + l.length) := by
  have h := all_ev (fun k i => laws_heldIntS.l0 k (marked l c) (c + i) i) l.length (c + l.length) ?_ ?_
  · simpa [laws_heldIntS.f] using h
  · intro k
    simp only [laws_heldIntS.l0]
    rw [if_neg (by simp [marked])]
  · intro i hi
    refine ⟨0, fun k _ => ?_⟩
    have hat : rd (marked l c) (i : Int) = c + (i : Int) := rd_at (by simp [marked, hi])
    have e : wrap64 (c + (i : Int) + 1) = c + ((i + 1 : Nat) : Int) := by rw [wrap_ok (by omega) (by omega)]; omega
    simp only [laws_heldIntS.l0, hat]
    rw [if_pos (by simp [marked]; omega), if_pos (by omega), if_pos trivial, e, wrap_succ (by omega)]
def endP : List S57 → Int → Int
  | [], c => c
  | p :: t, c => endP t (c + 1 + p.f1.length)
def markP : List S57 → Int → List S57
  | [], _ => []
  | p :: t, c => ⟨c, marked p.f1 (c + 1)⟩ :: markP t (c + 1 + p.f1.length)
theorem markP_len (l : List S57) : ∀ c, (markP l c).length = l.length := by
  induction l with
  | nil => intro c; rfl
  | cons p t ih => intro c; simp only [markP, List.length_cons, ih]
theorem endP_le (l : List S57) : ∀ c, c ≤ endP l c := by
  induction l with
  | nil => intro c; exact Int.le_refl _
  | cons p t ih => intro c; have := ih (c + 1 + p.f1.length); simp only [endP]; omega
theorem markPosts_loop (t : List S57) (hs : ∀ p ∈ t, p.f1.length ≤ 1048576) : ∀ (done : List S57) (c : Int), 0 < c → done.length + t.length ≤ 1048576 → c + 2097152 * (t.length : Int) ≤ 4611686018427387904 →
    Ev (fun k => laws_markPostS.l0 k (done ++ t) c (done.length : Int)) (endP t c, done ++ markP t c) := by
  induction t with
  | nil =>
    intro done c h0 h1 h2
    (refine Ev.up ?_; simp only [laws_markPostS.l0, decT])
    simp only [List.append_nil]
    (repeat (first | with_reducible refine Ev.bindS ?_ | (with_reducible refine Ev.ifp ?_ ?_; (· first | omega | assumption | rfl | (simp only [List.length_map, List.length_replicate, List.length_take, List.length_drop, List.length_append, List.length_cons, List.length_nil, List.length_set]; omega) | (simp; done))) | (with_reducible refine Ev.ifn ?_ ?_; (· first | omega | assumption | rfl | (simp only [List.length_map, List.length_replicate, List.length_take, List.length_drop, List.length_append, List.length_cons, List.length_nil, List.length_set]; omega) | (simp; done)))))
    exact Ev.val (by simp [endP, markP])
  | cons p t ih =>
    intro done c h0 h1 h2
    have hp := hs p List.mem_cons_self
    simp only [List.length_cons] at h1 h2
    have hx : (done ++ p :: t)[done.length]? = some p := by simp
    have e1 : wrap64 (c + 1) = c + 1 := wrap_ok (by omega) (by omega)
    have ih := ih (fun q hq => hs q (List.mem_cons_of_mem _ hq)) (done ++ [⟨c, marked p.f1 (c + 1)⟩]) (c + 1 + p.f1.length) (by omega) (by simp; omega) (by omega)
    have e2 : done ++ [(⟨c, marked p.f1 (c + 1)⟩ : S57)] ++ t = (done ++ p :: t).set done.length ⟨c, marked p.f1 (c + 1)⟩ := by
      rw [List.set_append_right _ _ (Nat.le_refl _), Nat.sub_self, List.set_cons_zero, List.append_assoc]; rfl
    have e3 : ((done ++ [(⟨c, marked p.f1 (c + 1)⟩ : S57)]).length : Int) = ((done.length + 1 : Nat) : Int) := by simp
    rw [e2, e3] at ih
    simp only [endP, markP]
    rw [List.append_assoc] at ih
    (refine Ev.up ?_; simp only [laws_markPostS.l0, decT])
    rw [rd57_at hx, e1, wrap_succ (i := done.length) (by omega), Int.toNat_natCast]
    (repeat (first | with_reducible refine Ev.bindS ?_ | (with_reducible refine Ev.ifp ?_ ?_; (· first | omega | assumption | rfl | (simp only [List.length_map, List.length_replicate, List.length_take, List.length_drop, List.length_append, List.length_cons, List.length_nil, List.length_set]; omega) | (simp; done))) | (with_reducible refine Ev.ifn ?_ ?_; (· first | omega | assumption | rfl | (simp only [List.length_map, List.length_replicate, List.length_take, List.length_drop, List.length_append, List.length_cons, List.length_nil, List.length_set]; omega) | (simp; done)))))
    refine Ev.bind (markInts_far p.f1 hp (c + 1) (by omega) (by omega)) ?_
    exact ih
theorem heldPosts_loop (t : List S57) (hs : ∀ p ∈ t, p.f1.length ≤ 1048576) : ∀ (L : List S57) (i : Nat) (c : Int), L.drop i = markP t c → 0 < c → i + t.length ≤ 1048576 → c + 2097152 * (t.length : Int) ≤ 4611686018427387904 →
    Ev (fun k => laws_heldPostS.l0 k L c (i : Int)) (endP t c) := by
  induction t with
  | nil =>
    intro L i c hd h0 h1 h2
    have := drop_nil hd
    (refine Ev.up ?_; simp only [laws_heldPostS.l0, decT])
    (repeat (first | with_reducible refine Ev.bindS ?_ | (with_reducible refine Ev.ifp ?_ ?_; (· first | omega | assumption | rfl | (simp only [List.length_map, List.length_replicate, List.length_take, List.length_drop, List.length_append, List.length_cons, List.length_nil, List.length_set]; omega) | (simp; done))) | (with_reducible refine Ev.ifn ?_ ?_; (· first | omega | assumption | rfl | (simp only [List.length_map, List.length_replicate, List.length_take, List.length_drop, List.length_append, List.length_cons, List.length_nil, List.length_set]; omega) | (simp; done)))))
    exact Ev.val rfl
  | cons p t ih =>
    intro L i c hd h0 h1 h2
    have hp := hs p List.mem_cons_self
    simp only [List.length_cons] at h1 h2
    simp only [markP] at hd
    obtain ⟨p1, p2, p3⟩ := drop_cons hd
    have e1 : wrap64 (c + 1) = c + 1 := wrap_ok (by omega) (by omega)
    have ih := ih (fun q hq => hs q (List.mem_cons_of_mem _ hq)) L (i + 1) (c + 1 + p.f1.length) p3 (by omega) (by omega) (by omega)
    simp only [endP]
    (refine Ev.up ?_; simp only [laws_heldPostS.l0, decT])
    rw [rd57_at p2, e1, wrap_succ (i := i) (by omega)]
    (repeat (first | with_reducible refine Ev.bindS ?_ | (with_reducible refine Ev.ifp ?_ ?_; (· first | omega | assumption | rfl | (simp only [List.length_map, List.length_replicate, List.length_take, List.length_drop, List.length_append, List.length_cons, List.length_nil, List.length_set]; omega) | (simp; done))) | (with_reducible refine Ev.ifn ?_ ?_; (· first | omega | assumption | rfl | (simp only [List.length_map, List.length_replicate, List.length_take, List.length_drop, List.length_append, List.length_cons, List.length_nil, List.length_set]; omega) | (simp; done)))))
    refine Ev.bind (heldInts_far p.f1 hp (c + 1) (by omega) (by omega)) ?_
    (repeat (first | with_reducible refine Ev.bindS ?_ | (with_reducible refine Ev.ifp ?_ ?_; (· first | omega | assumption | rfl | (simp only [List.length_map, List.length_replicate, List.length_take, List.length_drop, List.length_append, List.length_cons, List.length_nil, List.length_set]; omega) | (simp; done))) | (with_reducible refine Ev.ifn ?_ ?_; (· first | omega | assumption | rfl | (simp only [List.length_map, List.length_replicate, List.length_take, List.length_drop, List.length_append, List.length_cons, List.length_nil, List.length_set]; omega) | (simp; done)))))
    exact ih
theorem markPosts_ev (l : List S57) (hl : Fit l) (c : Int) (h0 : 0 < c) (h1 : c ≤ 4398046511104) : Ev (fun k => laws_markPostS.f k l c) (endP l c, markP l c) := by
  have := markPosts_loop l hl.2 [] c h0 (by have := hl.1; simp; omega) (by have := hl.1; omega)
  simpa [laws_markPostS.f] using this
theorem heldPosts_ev (l : List S57) (hl : Fit l) (c : Int) (h0 : 0 < c) (h1 : c ≤ 4398046511104) : Ev (fun k => laws_heldPostS.f k (markP l c) c) (endP l c) :=
  heldPosts_loop l hl.2 (markP l c) 0 c rfl h0 (by have := hl.1; omega) (by have := hl.1; omega)
theorem endP_max (l : List S57) (hs : ∀ p ∈ l, p.f1.length ≤ 1048576) : ∀ c, endP l c ≤ c + 1048577 * (l.length : Int) := by
  induction l with
  | nil => intro c; simp [endP]
  | cons p t ih =>
    intro c
    have hp := hs p List.mem_cons_self
    have := ih (fun q hq => hs q (List.mem_cons_of_mem _ hq)) (c + 1 + p.f1.length)
    simp only [endP, List.length_cons]
    omega
theorem places_len (w s : ByteArray) (hs : s.size ≤ 1048575) : (places w s).length ≤ 1048576 := by
  have h1 := placesFrom_len w (wordsOf s) 0 []
  have h2 := words_len (nm s) eS []
  have h3 := nm_length s
  simp only [List.length_nil] at *
  show (placesFrom w (wordsOf s) 0 []).length ≤ _
  have : (wordsOf s).length = (wordsFrom (nm s) eS []).length := rfl
  omega
theorem postsFrom_fit (w : ByteArray) (t : List ByteArray) (ht : ∀ s ∈ t, s.size ≤ 1048575) : ∀ (i : Nat) (acc : List S57), (∀ p ∈ acc, p.f1.length ≤ 1048576) → ∀ p ∈ postsFrom w t i acc, p.f1.length ≤ 1048576 := by
  induction t with
  | nil => intro i acc h p hp; exact h p hp
  | cons s t ih =>
    intro i acc h p hp
    simp only [postsFrom] at hp
    split at hp
    · refine ih (fun s' h' => ht s' (List.mem_cons_of_mem _ h')) (i + 1) _ (fun q hq => ?_) p hp
      rcases List.mem_append.1 hq with hq | hq
      · exact h q hq
      · rw [List.mem_singleton.1 hq]
        exact places_len w s (ht s List.mem_cons_self)
    · exact ih (fun s' h' => ht s' (List.mem_cons_of_mem _ h')) (i + 1) acc h p hp
theorem docsOk_small {l : List ByteArray} (h : docsOk l = true) : ∀ s ∈ l, s.size ≤ 120 := by
  intro s hs
  rw [docsOk, Bool.and_eq_true, List.all_eq_true] at h
  have h2 := h.2 s hs
  rcases doc_cases s with ⟨_, h3⟩ | ⟨_, _, h3⟩ | ⟨h1, _, _⟩
  · rw [h3] at h2; cases h2
  · rw [h3] at h2; cases h2
  · omega
theorem postsRes_fit (l : List ByteArray) (w : ByteArray) (hl : Small l) : Fit (postsRes l w).1 := by
  refine ⟨postsRes_len l w hl, ?_⟩
  unfold postsRes
  split
  · rename_i h
    exact postsFrom_fit w l (fun s hs => by have := docsOk_small h.1 s hs; omega) 0 [] (fun p hp => by cases hp)
  · intro p hp; cases hp
end Go.Proofs.Ytcopakljdenolaa.Pure
namespace Go.Proofs.Ytcopakljdenolaa.Pure
open Go.RowKit Go.Proofs.Ytcopakljdenolaa.Fn Go.Proofs.YtcopakljdenolaaW.PrintWords Go.Proofs.YtcopakljdenolaaW.PrintLast Go.Proofs.YtcopakljdenolaaW.PrintMore
set_option linter.unusedSimpArgs false
set_option linter.unusedVariables false

theorem containsInt_ev (ys : List Int) (n : Int) (hl : ys.length ≤ 9223372036854775806) : Ev (fun k => slices_Contains_int_int.f k ys n) (decide (n ∈ ys)) := by
  have key : ∀ (t : List Int) (i : Nat), ys.drop i = t → i ≤ ys.length → ∃ r : Int, Ev (fun k => slices_Index_int_int.l0 k ys n ys.length i) r ∧ decide (r ≥ 0) = decide (n ∈ t) := by
    intro t
    induction t with
    | nil =>
      intro i h hi
      have := drop_nil h
      refine ⟨-1, ?_, by simp⟩
      (refine Ev.up ?_; simp only [slices_Index_int_int.l0, decT])
      (repeat (first | with_reducible refine Ev.bindS ?_ | (with_reducible refine Ev.ifp ?_ ?_; (· first | omega | assumption | rfl | (simp only [List.length_map, List.length_replicate, List.length_take, List.length_drop, List.length_append, List.length_cons, List.length_nil, List.length_set]; omega) | (simp; done))) | (with_reducible refine Ev.ifn ?_ ?_; (· first | omega | assumption | rfl | (simp only [List.length_map, List.length_replicate, List.length_take, List.length_drop, List.length_append, List.length_cons, List.length_nil, List.length_set]; omega) | (simp; done)))))
      exact Ev.val rfl
    | cons x t ih =>
      intro i h hi
      obtain ⟨p1, p2, p3⟩ := drop_cons h
      by_cases hx : n = x
      · refine ⟨i, ?_, by rw [hx]; simp⟩
        (refine Ev.up ?_; simp only [slices_Index_int_int.l0, decT])
        rw [rd_at p2]
        (repeat (first | with_reducible refine Ev.bindS ?_ | (with_reducible refine Ev.ifp ?_ ?_; (· first | omega | assumption | rfl | (simp only [List.length_map, List.length_replicate, List.length_take, List.length_drop, List.length_append, List.length_cons, List.length_nil, List.length_set]; omega) | (simp; done))) | (with_reducible refine Ev.ifn ?_ ?_; (· first | omega | assumption | rfl | (simp only [List.length_map, List.length_replicate, List.length_take, List.length_drop, List.length_append, List.length_cons, List.length_nil, List.length_set]; omega) | (simp; done)))))
        exact Ev.val rfl
      · obtain ⟨r, h1, h2⟩ := ih (i + 1) p3 (by omega)
        refine ⟨r, ?_, by rw [h2, decide_eq_decide]; simp [hx]⟩
        (refine Ev.up ?_; simp only [slices_Index_int_int.l0, decT])
        rw [rd_at p2, wrap_succ (by omega)]
        (repeat (first | with_reducible refine Ev.bindS ?_ | (with_reducible refine Ev.ifp ?_ ?_; (· first | omega | assumption | rfl | (simp only [List.length_map, List.length_replicate, List.length_take, List.length_drop, List.length_append, List.length_cons, List.length_nil, List.length_set]; omega) | (simp; done))) | (with_reducible refine Ev.ifn ?_ ?_; (· first | omega | assumption | rfl | (simp only [List.length_map, List.length_replicate, List.length_take, List.length_drop, List.length_append, List.length_cons, List.length_nil, List.length_set]; omega) | (simp; done)))))
        exact h1
  obtain ⟨r, h1, h2⟩ := key ys 0 rfl (by omega)
  simp only [slices_Contains_int_int.f]
  refine Ev.bind (g := fun k => slices_Index_int_int.f k ys n) h1 ?_
  exact Ev.val h2
theorem specHas_ev (ys : List Int) (n : Int) (hl : ys.length ≤ 9223372036854775806) : Ev (fun k => spec_l1Has.f k ys n) (decide (n ∈ ys)) := by
  have key : ∀ (t : List Int) (i : Nat), ys.drop i = t → i ≤ ys.length → Ev (fun k => spec_l1Has.l0 k n ys ys.length i) (decide (n ∈ t)) := by
    intro t
    induction t with
    | nil =>
      intro i h hi
      have := drop_nil h
      (refine Ev.up ?_; simp only [spec_l1Has.l0, decT])
      (repeat (first | with_reducible refine Ev.bindS ?_ | (with_reducible refine Ev.ifp ?_ ?_; (· first | omega | assumption | rfl | (simp only [List.length_map, List.length_replicate, List.length_take, List.length_drop, List.length_append, List.length_cons, List.length_nil, List.length_set]; omega) | (simp; done))) | (with_reducible refine Ev.ifn ?_ ?_; (· first | omega | assumption | rfl | (simp only [List.length_map, List.length_replicate, List.length_take, List.length_drop, List.length_append, List.length_cons, List.length_nil, List.length_set]; omega) | (simp; done)))))
      exact Ev.val (by simp)
    | cons x t ih =>
      intro i h hi
      obtain ⟨p1, p2, p3⟩ := drop_cons h
      have ih := ih (i + 1) p3 (by omega)
      (refine Ev.up ?_; simp only [spec_l1Has.l0, decT])
      rw [rd_at p2, wrap_succ (by omega)]
      by_cases hx : x = n
      · (repeat (first | with_reducible refine Ev.bindS ?_ | (with_reducible refine Ev.ifp ?_ ?_; (· first | omega | assumption | rfl | (simp only [List.length_map, List.length_replicate, List.length_take, List.length_drop, List.length_append, List.length_cons, List.length_nil, List.length_set]; omega) | (simp; done))) | (with_reducible refine Ev.ifn ?_ ?_; (· first | omega | assumption | rfl | (simp only [List.length_map, List.length_replicate, List.length_take, List.length_drop, List.length_append, List.length_cons, List.length_nil, List.length_set]; omega) | (simp; done)))))
        exact Ev.val (by rw [hx]; simp)
      · (repeat (first | with_reducible refine Ev.bindS ?_ | (with_reducible refine Ev.ifp ?_ ?_; (· first | omega | assumption | rfl | (simp only [List.length_map, List.length_replicate, List.length_take, List.length_drop, List.length_append, List.length_cons, List.length_nil, List.length_set]; omega) | (simp; done))) | (with_reducible refine Ev.ifn ?_ ?_; (· first | omega | assumption | rfl | (simp only [List.length_map, List.length_replicate, List.length_take, List.length_drop, List.length_append, List.length_cons, List.length_nil, List.length_set]; omega) | (simp; done)))))
        have e : decide (n ∈ x :: t) = decide (n ∈ t) := by rw [decide_eq_decide]; simp [Ne.symm hx]
        rw [e]
        exact ih
  exact key ys 0 rfl (by omega)
def keepBy (n : Int) (ys xs : List Int) : List Int := xs.filter fun x => decide (wrap64 (x + n) ∈ ys)
def other (d : Int) : List S57 → Option S57
  | [] => none
  | q :: t => if q.f0 = d then some q else other d t
def meetOne (n : Int) (b : List S57) (p : S57) : List S57 :=
  match other p.f0 b with
  | none => []
  | some q => if (keepBy n q.f1 p.f1).length = 0 then [] else [⟨p.f0, keepBy n q.f1 p.f1⟩]
def meetAll (n : Int) (b : List S57) (a : List S57) : List S57 := a.flatMap (meetOne n b)
theorem keepBy_len (n : Int) (ys xs : List Int) : (keepBy n ys xs).length ≤ xs.length := List.length_filter_le _ _
theorem meetOne_len (n : Int) (b : List S57) (p : S57) : (meetOne n b p).length ≤ 1 := by
  unfold meetOne
  split
  · simp
  · split <;> simp
theorem meetAll_len (n : Int) (b a : List S57) : (meetAll n b a).length ≤ a.length := by
  induction a with
  | nil => simp [meetAll]
  | cons p t ih =>
    have h1 := meetOne_len n b p
    simp only [meetAll, List.flatMap_cons, List.length_append, List.length_cons] at *
    omega
theorem meetAll_fit (n : Int) (b a : List S57) (ha : Fit a) : Fit (meetAll n b a) := by
  refine ⟨Nat.le_trans (meetAll_len n b a) ha.1, fun p hp => ?_⟩
  obtain ⟨q, hq, hp⟩ := List.mem_flatMap.1 hp
  have h1 := ha.2 q hq
  unfold meetOne at hp
  split at hp
  · cases hp
  · split at hp
    · cases hp
    · rw [List.mem_singleton.1 hp]
      exact Nat.le_trans (keepBy_len _ _ _) h1
theorem idx_other (d : Int) (b : List S57) : ∀ (t : List S57) (i : Nat), b.drop i = t → i ≤ b.length → (other d t = none ∧ idxDoc d t i = -1) ∨ ∃ (j : Nat) (q : S57), other d t = some q ∧ idxDoc d t i = (j : Int) ∧ b[j]? = some q := by
  intro t
  induction t with
  | nil => intro i h hi; exact .inl ⟨rfl, rfl⟩
  | cons x t ih =>
    intro i h hi
    obtain ⟨p1, p2, p3⟩ := drop_cons h
    by_cases hx : x.f0 = d
    · exact .inr ⟨i, x, by rw [other, if_pos hx], by rw [idxDoc, if_pos hx], p2⟩
    · rw [other, if_neg hx, idxDoc, if_neg hx]
      exact ih (i + 1) p3 (by omega)
theorem implMeet_inner (n : Int) (b out : List S57) (at_ : Nat) (q : S57) (hq : b[at_]? = some q) (a : List S57) (i : Nat) (p : S57) (hb : Fit b) (hp : p.f1.length ≤ 1048576) (ho : out.length < 4398046511104) (hi : i ≤ 9223372036854775806) (r : List S57)
    (hr : Ev (fun k => impl_meet.l0 k b n (if (keepBy n q.f1 p.f1).length = 0 then out else out ++ [⟨p.f0, keepBy n q.f1 p.f1⟩]) a a.length ((i + 1 : Nat) : Int)) r) :
    ∀ (t : List Int) (j : Nat) (acc : List Int), p.f1.drop j = t → j ≤ p.f1.length → acc.length ≤ j → acc ++ keepBy n q.f1 t = keepBy n q.f1 p.f1 →
      Ev (fun k => impl_meet.l1 k b n out at_ acc a a.length i p.f1 p.f1.length j p.f0 p.f1) r := by
  have hqb := hb.2 q (List.mem_of_getElem? hq)
  have hlt : at_ < b.length := (List.getElem?_eq_some_iff.1 hq).1
  intro t
  induction t with
  | nil =>
    intro j acc h hj ha e
    have := drop_nil h
    have e : acc = keepBy n q.f1 p.f1 := by rw [← e]; simp [keepBy]
    rw [← e] at hr
    (refine Ev.up ?_; simp only [impl_meet.l1, decT])
    rw [wrap_succ (i := i) hi]
    by_cases h0 : acc.length = 0
    · rw [if_pos h0] at hr
      (repeat (first | with_reducible refine Ev.bindS ?_ | (with_reducible refine Ev.ifp ?_ ?_; (· first | omega | assumption | rfl | (simp only [List.length_map, List.length_replicate, List.length_take, List.length_drop, List.length_append, List.length_cons, List.length_nil, List.length_set]; omega) | (simp; done))) | (with_reducible refine Ev.ifn ?_ ?_; (· first | omega | assumption | rfl | (simp only [List.length_map, List.length_replicate, List.length_take, List.length_drop, List.length_append, List.length_cons, List.length_nil, List.length_set]; omega) | (simp; done)))))
      exact hr
    · rw [if_neg h0] at hr
      (repeat (first | with_reducible refine Ev.bindS ?_ | (with_reducible refine Ev.ifp ?_ ?_; (· first | omega | assumption | rfl | (simp only [List.length_map, List.length_replicate, List.length_take, List.length_drop, List.length_append, List.length_cons, List.length_nil, List.length_set]; omega) | (simp; done))) | (with_reducible refine Ev.ifn ?_ ?_; (· first | omega | assumption | rfl | (simp only [List.length_map, List.length_replicate, List.length_take, List.length_drop, List.length_append, List.length_cons, List.length_nil, List.length_set]; omega) | (simp; done)))))
      exact hr
  | cons x t ih =>
    intro j acc h hj ha e
    obtain ⟨p1, p2, p3⟩ := drop_cons h
    (refine Ev.up ?_; simp only [impl_meet.l1, decT])
    rw [rd_at p2, rd57_at hq, wrap_succ (i := j) (by omega)]
    (repeat (first | with_reducible refine Ev.bindS ?_ | (with_reducible refine Ev.ifp ?_ ?_; (· first | omega | assumption | rfl | (simp only [List.length_map, List.length_replicate, List.length_take, List.length_drop, List.length_append, List.length_cons, List.length_nil, List.length_set]; omega) | (simp; done))) | (with_reducible refine Ev.ifn ?_ ?_; (· first | omega | assumption | rfl | (simp only [List.length_map, List.length_replicate, List.length_take, List.length_drop, List.length_append, List.length_cons, List.length_nil, List.length_set]; omega) | (simp; done)))))
    refine Ev.bind (containsInt_ev q.f1 (wrap64 (x + n)) (by omega)) ?_
    by_cases hx : wrap64 (x + n) ∈ q.f1
    · rw [decide_eq_true hx]
      (repeat (first | with_reducible refine Ev.bindS ?_ | (with_reducible refine Ev.ifp ?_ ?_; (· first | omega | assumption | rfl | (simp only [List.length_map, List.length_replicate, List.length_take, List.length_drop, List.length_append, List.length_cons, List.length_nil, List.length_set]; omega) | (simp; done))) | (with_reducible refine Ev.ifn ?_ ?_; (· first | omega | assumption | rfl | (simp only [List.length_map, List.length_replicate, List.length_take, List.length_drop, List.length_append, List.length_cons, List.length_nil, List.length_set]; omega) | (simp; done)))))
      refine ih (j + 1) (acc ++ [x]) p3 (by omega) (by simp; omega) ?_
      rw [← e, List.append_assoc]
      simp [keepBy, hx]
    · rw [decide_eq_false hx]
      (repeat (first | with_reducible refine Ev.bindS ?_ | (with_reducible refine Ev.ifp ?_ ?_; (· first | omega | assumption | rfl | (simp only [List.length_map, List.length_replicate, List.length_take, List.length_drop, List.length_append, List.length_cons, List.length_nil, List.length_set]; omega) | (simp; done))) | (with_reducible refine Ev.ifn ?_ ?_; (· first | omega | assumption | rfl | (simp only [List.length_map, List.length_replicate, List.length_take, List.length_drop, List.length_append, List.length_cons, List.length_nil, List.length_set]; omega) | (simp; done)))))
      refine ih (j + 1) acc p3 (by omega) (by omega) ?_
      rw [← e]
      simp [keepBy, hx]
theorem implMeet_ev (n : Int) (a b : List S57) (ha : Fit a) (hb : Fit b) : Ev (fun k => impl_meet.f k a b n) (meetAll n b a) := by
  have ha1 := ha.1
  have hb1 := hb.1
  have key : ∀ (t : List S57) (i : Nat) (out : List S57), a.drop i = t → i ≤ a.length → out.length ≤ i → Ev (fun k => impl_meet.l0 k b n out a a.length i) (out ++ meetAll n b t) := by
    intro t
    induction t with
    | nil =>
      intro i out h hi ho
      have := drop_nil h
      (refine Ev.up ?_; simp only [impl_meet.l0, decT])
      (repeat (first | with_reducible refine Ev.bindS ?_ | (with_reducible refine Ev.ifp ?_ ?_; (· first | omega | assumption | rfl | (simp only [List.length_map, List.length_replicate, List.length_take, List.length_drop, List.length_append, List.length_cons, List.length_nil, List.length_set]; omega) | (simp; done))) | (with_reducible refine Ev.ifn ?_ ?_; (· first | omega | assumption | rfl | (simp only [List.length_map, List.length_replicate, List.length_take, List.length_drop, List.length_append, List.length_cons, List.length_nil, List.length_set]; omega) | (simp; done)))))
      exact Ev.val (by simp [meetAll])
    | cons p t ih =>
      intro i out h hi ho
      obtain ⟨p1, p2, p3⟩ := drop_cons h
      have hp := ha.2 p (List.mem_of_getElem? p2)
      have e0 : meetAll n b (p :: t) = meetOne n b p ++ meetAll n b t := by simp [meetAll]
      rw [e0]
      (refine Ev.up ?_; simp only [impl_meet.l0, decT])
      rw [rd57_at p2, wrap_succ (i := i) (by omega)]
      (repeat (first | with_reducible refine Ev.bindS ?_ | (with_reducible refine Ev.ifp ?_ ?_; (· first | omega | assumption | rfl | (simp only [List.length_map, List.length_replicate, List.length_take, List.length_drop, List.length_append, List.length_cons, List.length_nil, List.length_set]; omega) | (simp; done))) | (with_reducible refine Ev.ifn ?_ ?_; (· first | omega | assumption | rfl | (simp only [List.length_map, List.length_replicate, List.length_take, List.length_drop, List.length_append, List.length_cons, List.length_nil, List.length_set]; omega) | (simp; done)))))
      simp only [meet_idx.f]
      (repeat (first | with_reducible refine Ev.bindS ?_ | (with_reducible refine Ev.ifp ?_ ?_; (· first | omega | assumption | rfl | (simp only [List.length_map, List.length_replicate, List.length_take, List.length_drop, List.length_append, List.length_cons, List.length_nil, List.length_set]; omega) | (simp; done))) | (with_reducible refine Ev.ifn ?_ ?_; (· first | omega | assumption | rfl | (simp only [List.length_map, List.length_replicate, List.length_take, List.length_drop, List.length_append, List.length_cons, List.length_nil, List.length_set]; omega) | (simp; done)))))
      rcases idx_other p.f0 b b 0 rfl (by omega) with ⟨e1, e2⟩ | ⟨j, q, e1, e2, e3⟩
      · rw [e2]
        (repeat (first | with_reducible refine Ev.bindS ?_ | (with_reducible refine Ev.ifp ?_ ?_; (· first | omega | assumption | rfl | (simp only [List.length_map, List.length_replicate, List.length_take, List.length_drop, List.length_append, List.length_cons, List.length_nil, List.length_set]; omega) | (simp; done))) | (with_reducible refine Ev.ifn ?_ ?_; (· first | omega | assumption | rfl | (simp only [List.length_map, List.length_replicate, List.length_take, List.length_drop, List.length_append, List.length_cons, List.length_nil, List.length_set]; omega) | (simp; done)))))
        have e4 : meetOne n b p = [] := by unfold meetOne; rw [e1]
        rw [e4, List.nil_append]
        exact ih (i + 1) out p3 (by omega) (by omega)
      · rw [e2]
        (repeat (first | with_reducible refine Ev.bindS ?_ | (with_reducible refine Ev.ifp ?_ ?_; (· first | omega | assumption | rfl | (simp only [List.length_map, List.length_replicate, List.length_take, List.length_drop, List.length_append, List.length_cons, List.length_nil, List.length_set]; omega) | (simp; done))) | (with_reducible refine Ev.ifn ?_ ?_; (· first | omega | assumption | rfl | (simp only [List.length_map, List.length_replicate, List.length_take, List.length_drop, List.length_append, List.length_cons, List.length_nil, List.length_set]; omega) | (simp; done)))))
        refine implMeet_inner n b out j q e3 a i p hb hp (by omega) (by omega) _ ?_ p.f1 0 [] rfl (by omega) (by simp) (by simp)
        have e4 : meetOne n b p = if (keepBy n q.f1 p.f1).length = 0 then [] else [⟨p.f0, keepBy n q.f1 p.f1⟩] := by unfold meetOne; rw [e1]
        rw [e4]
        by_cases h0 : (keepBy n q.f1 p.f1).length = 0
        · rw [if_pos h0, if_pos h0, List.nil_append]
          exact ih (i + 1) out p3 (by omega) (by omega)
        · rw [if_neg h0, if_neg h0, ← List.append_assoc]
          exact ih (i + 1) _ p3 (by omega) (by simp; omega)
  have h := key a 0 [] rfl (by omega) (by simp)
  simpa [impl_meet.f] using h
def Apart (b : List S57) : Prop := b.Pairwise fun x y => x.f0 ≠ y.f0
theorem other_none {d : Int} {t : List S57} (h : ∀ q ∈ t, q.f0 ≠ d) : other d t = none := by
  induction t with
  | nil => rfl
  | cons x t ih =>
    rw [other, if_neg (h x List.mem_cons_self)]
    exact ih (fun q hq => h q (List.mem_cons_of_mem _ hq))
theorem specMeet_places (n : Int) (b out : List S57) (a : List S57) (i jb : Nat) (p q : S57) (hp : p.f1.length ≤ 1048576) (hq : q.f1.length ≤ 1048576) (ho : out.length < 4398046511104) (hjb : jb ≤ 9223372036854775806) (r : List S57)
    (hr : Ev (fun k => spec_l9Meet.l1 k b n (if (keepBy n q.f1 p.f1).length = 0 then out else out ++ [⟨p.f0, keepBy n q.f1 p.f1⟩]) a a.length i b b.length ((jb + 1 : Nat) : Int) p.f0 p.f1) r) :
    ∀ (t : List Int) (j : Nat) (acc : List Int), p.f1.drop j = t → j ≤ p.f1.length → acc.length ≤ j → acc ++ keepBy n q.f1 t = keepBy n q.f1 p.f1 →
      Ev (fun k => spec_l9Meet.l2 k b n out a a.length i b b.length jb p.f1 p.f1.length j p.f0 p.f1 q.f0 q.f1 p.f0 acc) r := by
  intro t
  induction t with
  | nil =>
    intro j acc h hj ha e
    have := drop_nil h
    have e : acc = keepBy n q.f1 p.f1 := by rw [← e]; simp [keepBy]
    rw [← e] at hr
    (refine Ev.up ?_; simp only [spec_l9Meet.l2, decT])
    rw [wrap_succ (i := jb) hjb]
    by_cases h0 : acc.length = 0
    · rw [if_pos h0] at hr
      (repeat (first | with_reducible refine Ev.bindS ?_ | (with_reducible refine Ev.ifp ?_ ?_; (· first | omega | assumption | rfl | (simp only [List.length_map, List.length_replicate, List.length_take, List.length_drop, List.length_append, List.length_cons, List.length_nil, List.length_set]; omega) | (simp; done))) | (with_reducible refine Ev.ifn ?_ ?_; (· first | omega | assumption | rfl | (simp only [List.length_map, List.length_replicate, List.length_take, List.length_drop, List.length_append, List.length_cons, List.length_nil, List.length_set]; omega) | (simp; done)))))
      exact hr
    · rw [if_neg h0] at hr
      (repeat (first | with_reducible refine Ev.bindS ?_ | (with_reducible refine Ev.ifp ?_ ?_; (· first | omega | assumption | rfl | (simp only [List.length_map, List.length_replicate, List.length_take, List.length_drop, List.length_append, List.length_cons, List.length_nil, List.length_set]; omega) | (simp; done))) | (with_reducible refine Ev.ifn ?_ ?_; (· first | omega | assumption | rfl | (simp only [List.length_map, List.length_replicate, List.length_take, List.length_drop, List.length_append, List.length_cons, List.length_nil, List.length_set]; omega) | (simp; done)))))
      exact hr
  | cons x t ih =>
    intro j acc h hj ha e
    obtain ⟨p1, p2, p3⟩ := drop_cons h
    (refine Ev.up ?_; simp only [spec_l9Meet.l2, decT])
    rw [rd_at p2, wrap_succ (i := j) (by omega)]
    (repeat (first | with_reducible refine Ev.bindS ?_ | (with_reducible refine Ev.ifp ?_ ?_; (· first | omega | assumption | rfl | (simp only [List.length_map, List.length_replicate, List.length_take, List.length_drop, List.length_append, List.length_cons, List.length_nil, List.length_set]; omega) | (simp; done))) | (with_reducible refine Ev.ifn ?_ ?_; (· first | omega | assumption | rfl | (simp only [List.length_map, List.length_replicate, List.length_take, List.length_drop, List.length_append, List.length_cons, List.length_nil, List.length_set]; omega) | (simp; done)))))
    refine Ev.bind (specHas_ev q.f1 (wrap64 (x + n)) (by omega)) ?_
    by_cases hx : wrap64 (x + n) ∈ q.f1
    · rw [decide_eq_true hx]
      (repeat (first | with_reducible refine Ev.bindS ?_ | (with_reducible refine Ev.ifp ?_ ?_; (· first | omega | assumption | rfl | (simp only [List.length_map, List.length_replicate, List.length_take, List.length_drop, List.length_append, List.length_cons, List.length_nil, List.length_set]; omega) | (simp; done))) | (with_reducible refine Ev.ifn ?_ ?_; (· first | omega | assumption | rfl | (simp only [List.length_map, List.length_replicate, List.length_take, List.length_drop, List.length_append, List.length_cons, List.length_nil, List.length_set]; omega) | (simp; done)))))
      refine ih (j + 1) (acc ++ [x]) p3 (by omega) (by simp; omega) ?_
      rw [← e, List.append_assoc]
      simp [keepBy, hx]
    · rw [decide_eq_false hx]
      (repeat (first | with_reducible refine Ev.bindS ?_ | (with_reducible refine Ev.ifp ?_ ?_; (· first | omega | assumption | rfl | (simp only [List.length_map, List.length_replicate, List.length_take, List.length_drop, List.length_append, List.length_cons, List.length_nil, List.length_set]; omega) | (simp; done))) | (with_reducible refine Ev.ifn ?_ ?_; (· first | omega | assumption | rfl | (simp only [List.length_map, List.length_replicate, List.length_take, List.length_drop, List.length_append, List.length_cons, List.length_nil, List.length_set]; omega) | (simp; done)))))
      refine ih (j + 1) acc p3 (by omega) (by omega) ?_
      rw [← e]
      simp [keepBy, hx]
theorem specMeet_docs (n : Int) (b : List S57) (a : List S57) (i : Nat) (p : S57) (hb : Fit b) (hp : p.f1.length ≤ 1048576) (hi : i ≤ 9223372036854775806) (r : List S57) :
    ∀ (t : List S57) (j : Nat) (out : List S57), b.drop j = t → j ≤ b.length → Apart t → out.length + 1 < 4398046511104 → Ev (fun k => spec_l9Meet.l0 k b n (out ++ meetOne n t p) a a.length ((i + 1 : Nat) : Int)) r →
      Ev (fun k => spec_l9Meet.l1 k b n out a a.length i b b.length j p.f0 p.f1) r := by
  have hb1 := hb.1
  intro t
  induction t with
  | nil =>
    intro j out h hj hA ho hr
    have := drop_nil h
    have e : meetOne n [] p = [] := rfl
    rw [e, List.append_nil] at hr
    (refine Ev.up ?_; simp only [spec_l9Meet.l1, decT])
    rw [wrap_succ (i := i) hi]
    (repeat (first | with_reducible refine Ev.bindS ?_ | (with_reducible refine Ev.ifp ?_ ?_; (· first | omega | assumption | rfl | (simp only [List.length_map, List.length_replicate, List.length_take, List.length_drop, List.length_append, List.length_cons, List.length_nil, List.length_set]; omega) | (simp; done))) | (with_reducible refine Ev.ifn ?_ ?_; (· first | omega | assumption | rfl | (simp only [List.length_map, List.length_replicate, List.length_take, List.length_drop, List.length_append, List.length_cons, List.length_nil, List.length_set]; omega) | (simp; done)))))
    exact hr
  | cons q t ih =>
    intro j out h hj hA ho hr
    obtain ⟨p1, p2, p3⟩ := drop_cons h
    have hq := hb.2 q (List.mem_of_getElem? p2)
    obtain ⟨hA1, hA2⟩ := List.pairwise_cons.1 hA
    (refine Ev.up ?_; simp only [spec_l9Meet.l1, decT])
    rw [rd57_at p2]
    by_cases hd : p.f0 = q.f0
    · (repeat (first | with_reducible refine Ev.bindS ?_ | (with_reducible refine Ev.ifp ?_ ?_; (· first | omega | assumption | rfl | (simp only [List.length_map, List.length_replicate, List.length_take, List.length_drop, List.length_append, List.length_cons, List.length_nil, List.length_set]; omega) | (simp; done))) | (with_reducible refine Ev.ifn ?_ ?_; (· first | omega | assumption | rfl | (simp only [List.length_map, List.length_replicate, List.length_take, List.length_drop, List.length_append, List.length_cons, List.length_nil, List.length_set]; omega) | (simp; done)))))
      refine specMeet_places n b out a i j p q hp hq (by omega) (by omega) r ?_ p.f1 0 [] rfl (by omega) (by simp) (by simp)
      have e1 : meetOne n (q :: t) p = if (keepBy n q.f1 p.f1).length = 0 then [] else [⟨p.f0, keepBy n q.f1 p.f1⟩] := by
        unfold meetOne; rw [other, if_pos hd.symm]
      have e2 : ∀ o, out.length ≤ (o : List S57).length → True := fun _ _ => trivial
      have e3 : meetOne n t p = [] := by
        unfold meetOne; rw [other_none (fun x hx => by rw [hd]; exact Ne.symm (hA1 x hx))]
      rw [e1] at hr
      by_cases h0 : (keepBy n q.f1 p.f1).length = 0
      · rw [if_pos h0] at hr ⊢
        refine ih (j + 1) out p3 (by omega) hA2 ho ?_
        rw [e3]
        exact hr
      · rw [if_neg h0] at hr ⊢
        -- no further document is this one: the rest of the round does nothing
        have rest : ∀ (t' : List S57) (j' : Nat), b.drop j' = t' → j' ≤ b.length → (∀ x ∈ t', x.f0 ≠ p.f0) → Ev (fun k => spec_l9Meet.l1 k b n (out ++ [⟨p.f0, keepBy n q.f1 p.f1⟩]) a a.length i b b.length j' p.f0 p.f1) r := by
          intro t'
          induction t' with
          | nil =>
            intro j' h' hj' _
            have := drop_nil h'
            (refine Ev.up ?_; simp only [spec_l9Meet.l1, decT])
            rw [wrap_succ (i := i) hi]
            (repeat (first | with_reducible refine Ev.bindS ?_ | (with_reducible refine Ev.ifp ?_ ?_; (· first | omega | assumption | rfl | (simp only [List.length_map, List.length_replicate, List.length_take, List.length_drop, List.length_append, List.length_cons, List.length_nil, List.length_set]; omega) | (simp; done))) | (with_reducible refine Ev.ifn ?_ ?_; (· first | omega | assumption | rfl | (simp only [List.length_map, List.length_replicate, List.length_take, List.length_drop, List.length_append, List.length_cons, List.length_nil, List.length_set]; omega) | (simp; done)))))
            exact hr
          | cons z t' ih' =>
            intro j' h' hj' hz
            obtain ⟨z1, z2, z3⟩ := drop_cons h'
            have hne : ¬ p.f0 = z.f0 := fun e => hz z List.mem_cons_self e.symm
            (refine Ev.up ?_; simp only [spec_l9Meet.l1, decT])
            rw [rd57_at z2, wrap_succ (i := j') (by omega)]
            (repeat (first | with_reducible refine Ev.bindS ?_ | (with_reducible refine Ev.ifp ?_ ?_; (· first | omega | assumption | rfl | (simp only [List.length_map, List.length_replicate, List.length_take, List.length_drop, List.length_append, List.length_cons, List.length_nil, List.length_set]; omega) | (simp; done))) | (with_reducible refine Ev.ifn ?_ ?_; (· first | omega | assumption | rfl | (simp only [List.length_map, List.length_replicate, List.length_take, List.length_drop, List.length_append, List.length_cons, List.length_nil, List.length_set]; omega) | (simp; done)))))
            exact ih' (j' + 1) z3 (by omega) (fun x hx => hz x (List.mem_cons_of_mem _ hx))
        exact rest t (j + 1) p3 (by omega) (fun x hx => by rw [hd]; exact Ne.symm (hA1 x hx))
    · rw [wrap_succ (i := j) (by omega)]
      (repeat (first | with_reducible refine Ev.bindS ?_ | (with_reducible refine Ev.ifp ?_ ?_; (· first | omega | assumption | rfl | (simp only [List.length_map, List.length_replicate, List.length_take, List.length_drop, List.length_append, List.length_cons, List.length_nil, List.length_set]; omega) | (simp; done))) | (with_reducible refine Ev.ifn ?_ ?_; (· first | omega | assumption | rfl | (simp only [List.length_map, List.length_replicate, List.length_take, List.length_drop, List.length_append, List.length_cons, List.length_nil, List.length_set]; omega) | (simp; done)))))
      refine ih (j + 1) out p3 (by omega) hA2 ho ?_
      have e1 : meetOne n (q :: t) p = meetOne n t p := by unfold meetOne; rw [other, if_neg (fun e => hd e.symm)]
      rw [← e1]
      exact hr
theorem specMeet_ev (n : Int) (a b : List S57) (ha : Fit a) (hb : Fit b) (hA : Apart b) : Ev (fun k => spec_l9Meet.f k a b n) (meetAll n b a) := by
  have ha1 := ha.1
  have hb1 := hb.1
  have key : ∀ (t : List S57) (i : Nat) (out : List S57), a.drop i = t → i ≤ a.length → out.length ≤ i → Ev (fun k => spec_l9Meet.l0 k b n out a a.length i) (out ++ meetAll n b t) := by
    intro t
    induction t with
    | nil =>
      intro i out h hi ho
      have := drop_nil h
      (refine Ev.up ?_; simp only [spec_l9Meet.l0, decT])
      (repeat (first | with_reducible refine Ev.bindS ?_ | (with_reducible refine Ev.ifp ?_ ?_; (· first | omega | assumption | rfl | (simp only [List.length_map, List.length_replicate, List.length_take, List.length_drop, List.length_append, List.length_cons, List.length_nil, List.length_set]; omega) | (simp; done))) | (with_reducible refine Ev.ifn ?_ ?_; (· first | omega | assumption | rfl | (simp only [List.length_map, List.length_replicate, List.length_take, List.length_drop, List.length_append, List.length_cons, List.length_nil, List.length_set]; omega) | (simp; done)))))
      exact Ev.val (by simp [meetAll])
    | cons p t ih =>
      intro i out h hi ho
      obtain ⟨p1, p2, p3⟩ := drop_cons h
      have hp := ha.2 p (List.mem_of_getElem? p2)
      have h1 := meetOne_len n b p
      have e0 : meetAll n b (p :: t) = meetOne n b p ++ meetAll n b t := by simp [meetAll]
      rw [e0, ← List.append_assoc]
      (refine Ev.up ?_; simp only [spec_l9Meet.l0, decT])
      rw [rd57_at p2]
      (repeat (first | with_reducible refine Ev.bindS ?_ | (with_reducible refine Ev.ifp ?_ ?_; (· first | omega | assumption | rfl | (simp only [List.length_map, List.length_replicate, List.length_take, List.length_drop, List.length_append, List.length_cons, List.length_nil, List.length_set]; omega) | (simp; done))) | (with_reducible refine Ev.ifn ?_ ?_; (· first | omega | assumption | rfl | (simp only [List.length_map, List.length_replicate, List.length_take, List.length_drop, List.length_append, List.length_cons, List.length_nil, List.length_set]; omega) | (simp; done)))))
      refine specMeet_docs n b a i p hb hp (by omega) _ b 0 out rfl (by omega) hA (by omega) ?_
      exact ih (i + 1) _ p3 (by omega) (by simp; omega)
  have h := key a 0 [] rfl (by omega) (by simp)
  simpa [spec_l9Meet.f] using h
end Go.Proofs.Ytcopakljdenolaa.Pure
namespace Go.Proofs.Ytcopakljdenolaa.Pure
open Go.RowKit Go.Proofs.Ytcopakljdenolaa.Fn Go.Proofs.YtcopakljdenolaaW.PrintWords Go.Proofs.YtcopakljdenolaaW.PrintLast Go.Proofs.YtcopakljdenolaaW.PrintMore
set_option linter.unusedSimpArgs false
set_option linter.unusedVariables false

theorem postsFrom_rise (w : ByteArray) (t : List ByteArray) : ∀ (i : Nat) (acc : List S57), acc.Pairwise (fun x y => x.f0 < y.f0) → (∀ p ∈ acc, 0 ≤ p.f0 ∧ p.f0 < (i : Int)) →
    (postsFrom w t i acc).Pairwise (fun x y => x.f0 < y.f0) ∧ ∀ p ∈ postsFrom w t i acc, 0 ≤ p.f0 ∧ p.f0 < ((i + t.length : Nat) : Int) := by
  induction t with
  | nil => intro i acc h1 h2; exact ⟨h1, fun p hp => h2 p hp⟩
  | cons s t ih =>
    intro i acc h1 h2
    simp only [postsFrom]
    have e : ((i + (s :: t).length : Nat) : Int) = ((i + 1 + t.length : Nat) : Int) := by simp; omega
    rw [e]
    split
    · refine ih (i + 1) _ (List.pairwise_append.2 ⟨h1, List.pairwise_singleton _ _, fun x hx y hy => ?_⟩) (fun p hp => ?_)
      · rw [List.mem_singleton.1 hy]
        exact (h2 x hx).2
      · rcases List.mem_append.1 hp with hp | hp
        · have := h2 p hp; omega
        · rw [List.mem_singleton.1 hp]
          show 0 ≤ (i : Int) ∧ (i : Int) < _
          omega
    · exact ih (i + 1) acc h1 (fun p hp => by have := h2 p hp; omega)
theorem postsFrom_apart (w : ByteArray) (l : List ByteArray) : Apart (postsFrom w l 0 []) :=
  (postsFrom_rise w l 0 [] List.Pairwise.nil (fun p hp => by cases hp)).1.imp (fun h e => by omega)
theorem posts_fit (w : ByteArray) (l : List ByteArray) (hl : Small l) (hd : docsOk l = true) : Fit (postsFrom w l 0 []) := by
  have h := postsRes_fit l w hl
  refine ⟨?_, postsFrom_fit w l (fun s hs => by have := docsOk_small hd s hs; omega) 0 [] (fun p hp => by cases hp)⟩
  have := postsFrom_len w l 0 []
  have := hl.1
  simp only [List.length_nil] at *
  omega
def phraseFrom (docs : List ByteArray) : List ByteArray → Nat → List S57 → List S57
  | [], _, out => out
  | w :: t, i, out => phraseFrom docs t (i + 1) (meetAll (i : Int) (postsFrom w docs 0 []) out)
def phraseRes (docs ws : List ByteArray) : List S57 × Bool :=
  match ws with
  | [] => ([], false)
  | w :: t => if docsOk docs = true ∧ ws.length ≤ 4 ∧ ws.all wordOk = true then (phraseFrom docs t 1 (postsFrom w docs 0 []), true) else ([], false)
theorem phraseFrom_fit (docs : List ByteArray) (t : List ByteArray) : ∀ (i : Nat) (out : List S57), Fit out → Fit (phraseFrom docs t i out) := by
  induction t with
  | nil => intro i out h; exact h
  | cons w t ih => intro i out h; exact ih (i + 1) _ (meetAll_fit _ _ _ h)
theorem phraseRes_fit (docs ws : List ByteArray) (hl : Small docs) : Fit (phraseRes docs ws).1 := by
  unfold phraseRes
  split
  · exact ⟨by simp, fun p hp => by cases hp⟩
  · split
    · rename_i h
      exact phraseFrom_fit _ _ _ _ (posts_fit _ _ hl h.1)
    · exact ⟨by simp, fun p hp => by cases hp⟩
theorem notWord_ev (l : List ByteArray) (hl : Small l) : Ev (fun k => slices_ContainsFunc_at74.f k l) (!(l.all wordOk)) := by
  have hl1 := hl.1
  have hd : ∀ x, x.size ≤ 1048576 → Ev (fun k => impl_PhraseIn_1.f k x) (!wordOk x) := by
    intro x hx
    simp only [impl_PhraseIn_1.f]
    refine Ev.bind (implWord_ev x hx) ?_
    exact Ev.val rfl
  have key : ∀ (t : List ByteArray) (i : Nat), l.drop i = t → i ≤ l.length → ∃ r : Int, Ev (fun k => slices_IndexFunc_at74.l0 k l l.length i) r ∧ decide (r ≥ 0) = !(t.all wordOk) := by
    intro t
    induction t with
    | nil =>
      intro i h hi
      have := drop_nil h
      refine ⟨-1, ?_, by simp⟩
      (refine Ev.up ?_; simp only [slices_IndexFunc_at74.l0, decT])
      (repeat (first | with_reducible refine Ev.bindS ?_ | (with_reducible refine Ev.ifp ?_ ?_; (· first | omega | assumption | rfl | (simp only [List.length_map, List.length_replicate, List.length_take, List.length_drop, List.length_append, List.length_cons, List.length_nil, List.length_set]; omega) | (simp; done))) | (with_reducible refine Ev.ifn ?_ ?_; (· first | omega | assumption | rfl | (simp only [List.length_map, List.length_replicate, List.length_take, List.length_drop, List.length_append, List.length_cons, List.length_nil, List.length_set]; omega) | (simp; done)))))
      exact Ev.val rfl
    | cons x t ih =>
      intro i h hi
      obtain ⟨p1, p2, p3⟩ := drop_cons h
      have hx := hl.2 x (List.mem_of_getElem? p2)
      obtain ⟨r, ih, hr⟩ := ih (i + 1) p3 (by omega)
      cases hk : wordOk x with
      | true =>
        refine ⟨r, ?_, by rw [List.all_cons, hk, hr]; simp⟩
        (refine Ev.up ?_; simp only [slices_IndexFunc_at74.l0, decT])
        rw [rdOf_at p2, wrap_succ (by omega)]
        (repeat (first | with_reducible refine Ev.bindS ?_ | (with_reducible refine Ev.ifp ?_ ?_; (· first | omega | assumption | rfl | (simp only [List.length_map, List.length_replicate, List.length_take, List.length_drop, List.length_append, List.length_cons, List.length_nil, List.length_set]; omega) | (simp; done))) | (with_reducible refine Ev.ifn ?_ ?_; (· first | omega | assumption | rfl | (simp only [List.length_map, List.length_replicate, List.length_take, List.length_drop, List.length_append, List.length_cons, List.length_nil, List.length_set]; omega) | (simp; done)))))
        refine Ev.bind (hd x hx) ?_
        rw [hk]
        (repeat (first | with_reducible refine Ev.bindS ?_ | (with_reducible refine Ev.ifp ?_ ?_; (· first | omega | assumption | rfl | (simp only [List.length_map, List.length_replicate, List.length_take, List.length_drop, List.length_append, List.length_cons, List.length_nil, List.length_set]; omega) | (simp; done))) | (with_reducible refine Ev.ifn ?_ ?_; (· first | omega | assumption | rfl | (simp only [List.length_map, List.length_replicate, List.length_take, List.length_drop, List.length_append, List.length_cons, List.length_nil, List.length_set]; omega) | (simp; done)))))
        exact ih
      | false =>
        refine ⟨i, ?_, by rw [List.all_cons, hk]; simp⟩
        (refine Ev.up ?_; simp only [slices_IndexFunc_at74.l0, decT])
        rw [rdOf_at p2, wrap_succ (by omega)]
        (repeat (first | with_reducible refine Ev.bindS ?_ | (with_reducible refine Ev.ifp ?_ ?_; (· first | omega | assumption | rfl | (simp only [List.length_map, List.length_replicate, List.length_take, List.length_drop, List.length_append, List.length_cons, List.length_nil, List.length_set]; omega) | (simp; done))) | (with_reducible refine Ev.ifn ?_ ?_; (· first | omega | assumption | rfl | (simp only [List.length_map, List.length_replicate, List.length_take, List.length_drop, List.length_append, List.length_cons, List.length_nil, List.length_set]; omega) | (simp; done)))))
        refine Ev.bind (hd x hx) ?_
        rw [hk]
        (repeat (first | with_reducible refine Ev.bindS ?_ | (with_reducible refine Ev.ifp ?_ ?_; (· first | omega | assumption | rfl | (simp only [List.length_map, List.length_replicate, List.length_take, List.length_drop, List.length_append, List.length_cons, List.length_nil, List.length_set]; omega) | (simp; done))) | (with_reducible refine Ev.ifn ?_ ?_; (· first | omega | assumption | rfl | (simp only [List.length_map, List.length_replicate, List.length_take, List.length_drop, List.length_append, List.length_cons, List.length_nil, List.length_set]; omega) | (simp; done)))))
        exact Ev.val rfl
  obtain ⟨r, h1, h2⟩ := key l 0 rfl (by omega)
  simp only [slices_ContainsFunc_at74.f]
  refine Ev.bind (g := fun k => slices_IndexFunc_at74.f k l) h1 ?_
  exact Ev.val h2
theorem implPhrase_loop (docs ws : List ByteArray) (hs : Small docs) (hd : docsOk docs = true) (hw : Small ws) :
    ∀ (t : List ByteArray) (i : Nat) (out : List S57), ws.drop i = t → i ≤ ws.length → Fit out → Ev (fun k => impl_PhraseIn.l0 k docs out ws ws.length i) (phraseFrom docs t (i + 1) out, true) := by
  have hw1 := hw.1
  intro t
  induction t with
  | nil =>
    intro i out h hi ho
    have := drop_nil h
    (refine Ev.up ?_; simp only [impl_PhraseIn.l0, decT])
    (repeat (first | with_reducible refine Ev.bindS ?_ | (with_reducible refine Ev.ifp ?_ ?_; (· first | omega | assumption | rfl | (simp only [List.length_map, List.length_replicate, List.length_take, List.length_drop, List.length_append, List.length_cons, List.length_nil, List.length_set]; omega) | (simp; done))) | (with_reducible refine Ev.ifn ?_ ?_; (· first | omega | assumption | rfl | (simp only [List.length_map, List.length_replicate, List.length_take, List.length_drop, List.length_append, List.length_cons, List.length_nil, List.length_set]; omega) | (simp; done)))))
    exact Ev.val rfl
  | cons w t ih =>
    intro i out h hi ho
    obtain ⟨p1, p2, p3⟩ := drop_cons h
    (refine Ev.up ?_; simp only [impl_PhraseIn.l0, decT])
    rw [rdOf_at p2, wrap_succ (i := i) (by omega)]
    (repeat (first | with_reducible refine Ev.bindS ?_ | (with_reducible refine Ev.ifp ?_ ?_; (· first | omega | assumption | rfl | (simp only [List.length_map, List.length_replicate, List.length_take, List.length_drop, List.length_append, List.length_cons, List.length_nil, List.length_set]; omega) | (simp; done))) | (with_reducible refine Ev.ifn ?_ ?_; (· first | omega | assumption | rfl | (simp only [List.length_map, List.length_replicate, List.length_take, List.length_drop, List.length_append, List.length_cons, List.length_nil, List.length_set]; omega) | (simp; done)))))
    refine Ev.bind (implPosts_ev docs hs w) (Ev.bind (implMeet_ev _ _ _ ho (posts_fit w docs hs hd)) ?_)
    exact ih (i + 1) _ p3 (by omega) (meetAll_fit _ _ _ ho)
theorem specPhrase_loop (docs ws : List ByteArray) (hs : Small docs) (hd : docsOk docs = true) (hw : Small ws) :
    ∀ (t : List ByteArray) (i : Nat) (out : List S57), ws.drop i = t → i ≤ ws.length → Fit out → Ev (fun k => spec_PhraseIn.l1 k docs ws out i) (phraseFrom docs t i out, true) := by
  have hw1 := hw.1
  intro t
  induction t with
  | nil =>
    intro i out h hi ho
    have := drop_nil h
    (refine Ev.up ?_; simp only [spec_PhraseIn.l1, decT])
    (repeat (first | with_reducible refine Ev.bindS ?_ | (with_reducible refine Ev.ifp ?_ ?_; (· first | omega | assumption | rfl | (simp only [List.length_map, List.length_replicate, List.length_take, List.length_drop, List.length_append, List.length_cons, List.length_nil, List.length_set]; omega) | (simp; done))) | (with_reducible refine Ev.ifn ?_ ?_; (· first | omega | assumption | rfl | (simp only [List.length_map, List.length_replicate, List.length_take, List.length_drop, List.length_append, List.length_cons, List.length_nil, List.length_set]; omega) | (simp; done)))))
    exact Ev.val rfl
  | cons w t ih =>
    intro i out h hi ho
    obtain ⟨p1, p2, p3⟩ := drop_cons h
    (refine Ev.up ?_; simp only [spec_PhraseIn.l1, decT])
    rw [rdOf_at p2, wrap_succ (i := i) (by omega)]
    (repeat (first | with_reducible refine Ev.bindS ?_ | (with_reducible refine Ev.ifp ?_ ?_; (· first | omega | assumption | rfl | (simp only [List.length_map, List.length_replicate, List.length_take, List.length_drop, List.length_append, List.length_cons, List.length_nil, List.length_set]; omega) | (simp; done))) | (with_reducible refine Ev.ifn ?_ ?_; (· first | omega | assumption | rfl | (simp only [List.length_map, List.length_replicate, List.length_take, List.length_drop, List.length_append, List.length_cons, List.length_nil, List.length_set]; omega) | (simp; done)))))
    refine Ev.bind (specPosts_ev docs hs w) (Ev.bind (specMeet_ev _ _ _ ho (posts_fit w docs hs hd) (postsFrom_apart w docs)) ?_)
    exact ih (i + 1) _ p3 (by omega) (meetAll_fit _ _ _ ho)
theorem implPhrase_ev (docs ws : List ByteArray) (hs : Small docs) (hw : Small ws) : Ev (fun k => impl_PhraseIn.f k docs ws) (phraseRes docs ws) := by
  have hw1 := hw.1
  have bad : phraseRes docs ws = ([], false) → Ev (fun k => impl_PhraseIn.j0 k docs ws true) (phraseRes docs ws) := fun h => by
    rw [h]
    (refine Ev.up ?_; simp only [impl_PhraseIn.j0, decT])
    (repeat (first | with_reducible refine Ev.bindS ?_ | (with_reducible refine Ev.ifp ?_ ?_; (· first | omega | assumption | rfl | (simp only [List.length_map, List.length_replicate, List.length_take, List.length_drop, List.length_append, List.length_cons, List.length_nil, List.length_set]; omega) | (simp; done))) | (with_reducible refine Ev.ifn ?_ ?_; (· first | omega | assumption | rfl | (simp only [List.length_map, List.length_replicate, List.length_take, List.length_drop, List.length_append, List.length_cons, List.length_nil, List.length_set]; omega) | (simp; done)))))
    exact Ev.val rfl
  simp only [impl_PhraseIn.f]
  refine Ev.bind (implDocs_ev docs hs) ?_
  cases h1 : docsOk docs with
  | false =>
    refine Ev.ifn (by simp) (bad ?_)
    unfold phraseRes
    split
    · rfl
    · rw [if_neg (fun h => by rw [h1] at h; cases h.1)]
  | true =>
    refine Ev.ifp rfl ?_
    rw [within_eq]
    by_cases h2 : 1 ≤ (ws.length : Int) ∧ (ws.length : Int) ≤ 4
    · rw [decide_eq_true h2]
      (repeat (first | with_reducible refine Ev.bindS ?_ | (with_reducible refine Ev.ifp ?_ ?_; (· first | omega | assumption | rfl | (simp only [List.length_map, List.length_replicate, List.length_take, List.length_drop, List.length_append, List.length_cons, List.length_nil, List.length_set]; omega) | (simp; done))) | (with_reducible refine Ev.ifn ?_ ?_; (· first | omega | assumption | rfl | (simp only [List.length_map, List.length_replicate, List.length_take, List.length_drop, List.length_append, List.length_cons, List.length_nil, List.length_set]; omega) | (simp; done)))))
      refine Ev.bind (notWord_ev ws hw) ?_
      cases h3 : ws.all wordOk with
      | false =>
        rw [Bool.not_false]
        refine bad ?_
        unfold phraseRes
        split
        · rfl
        · rw [if_neg (fun h => by rw [h3] at h; cases h.2.2)]
      | true =>
        rw [Bool.not_true]
        cases ws with
        | nil => simp at h2
        | cons w t =>
          have e : phraseRes docs (w :: t) = (phraseFrom docs t 1 (postsFrom w docs 0 []), true) := if_pos ⟨h1, by omega, h3⟩
          rw [e]
          have hw' : Small t := ⟨by simp at hw1; omega, fun y hy => hw.2 y (List.mem_cons_of_mem _ hy)⟩
          (refine Ev.up ?_; simp only [impl_PhraseIn.j0, decT])
          rw [show rdOf ByteArray.empty (w :: t) 0 = w from rfl]
          (repeat (first | with_reducible refine Ev.bindS ?_ | (with_reducible refine Ev.ifp ?_ ?_; (· first | omega | assumption | rfl | (simp only [List.length_map, List.length_replicate, List.length_take, List.length_drop, List.length_append, List.length_cons, List.length_nil, List.length_set]; omega) | (simp; done))) | (with_reducible refine Ev.ifn ?_ ?_; (· first | omega | assumption | rfl | (simp only [List.length_map, List.length_replicate, List.length_take, List.length_drop, List.length_append, List.length_cons, List.length_nil, List.length_set]; omega) | (simp; done)))))
          refine Ev.bind (implPosts_ev docs hs w) ?_
          (repeat (first | with_reducible refine Ev.bindS ?_ | (with_reducible refine Ev.ifp ?_ ?_; (· first | omega | assumption | rfl | (simp only [List.length_map, List.length_replicate, List.length_take, List.length_drop, List.length_append, List.length_cons, List.length_nil, List.length_set]; omega) | (simp; done))) | (with_reducible refine Ev.ifn ?_ ?_; (· first | omega | assumption | rfl | (simp only [List.length_map, List.length_replicate, List.length_take, List.length_drop, List.length_append, List.length_cons, List.length_nil, List.length_set]; omega) | (simp; done)))))
          exact implPhrase_loop docs t hs h1 hw' t 0 _ rfl (by omega) (posts_fit w docs hs h1)
    · rw [decide_eq_false h2]
      (repeat (first | with_reducible refine Ev.bindS ?_ | (with_reducible refine Ev.ifp ?_ ?_; (· first | omega | assumption | rfl | (simp only [List.length_map, List.length_replicate, List.length_take, List.length_drop, List.length_append, List.length_cons, List.length_nil, List.length_set]; omega) | (simp; done))) | (with_reducible refine Ev.ifn ?_ ?_; (· first | omega | assumption | rfl | (simp only [List.length_map, List.length_replicate, List.length_take, List.length_drop, List.length_append, List.length_cons, List.length_nil, List.length_set]; omega) | (simp; done)))))
      refine bad ?_
      unfold phraseRes
      split
      · rfl
      · rename_i w t
        rw [if_neg (fun h => h2 ⟨by simp; omega, by omega⟩)]
theorem specPhrase_ev (docs ws : List ByteArray) (hs : Small docs) (hw : Small ws) : Ev (fun k => spec_PhraseIn.f k docs ws) (phraseRes docs ws) := by
  have hw1 := hw.1
  have bad : phraseRes docs ws = ([], false) → Ev (fun k => spec_PhraseIn.j1 k docs ws true) (phraseRes docs ws) := fun h => by
    rw [h]
    (refine Ev.up ?_; simp only [spec_PhraseIn.j1, decT])
    (repeat (first | with_reducible refine Ev.bindS ?_ | (with_reducible refine Ev.ifp ?_ ?_; (· first | omega | assumption | rfl | (simp only [List.length_map, List.length_replicate, List.length_take, List.length_drop, List.length_append, List.length_cons, List.length_nil, List.length_set]; omega) | (simp; done))) | (with_reducible refine Ev.ifn ?_ ?_; (· first | omega | assumption | rfl | (simp only [List.length_map, List.length_replicate, List.length_take, List.length_drop, List.length_append, List.length_cons, List.length_nil, List.length_set]; omega) | (simp; done)))))
    exact Ev.val rfl
  have last : ws.all wordOk = true → Ev (fun k => (spec_l9Docs.f k docs).bind fun t392 => (if t392 = true then ((spec_l1In.f (ws.length : Int) 1 4).bind fun t393 => (spec_PhraseIn.j1 k docs ws (!t393))) else (spec_PhraseIn.j1 k docs ws true))) (phraseRes docs ws) := fun h3 => by
    refine Ev.bind (specDocs_ev docs hs) ?_
    cases h1 : docsOk docs with
    | false =>
      refine Ev.ifn (by simp) (bad ?_)
      unfold phraseRes
      split
      · rfl
      · rw [if_neg (fun h => by rw [h1] at h; cases h.1)]
    | true =>
      refine Ev.ifp rfl ?_
      rw [specIn_eq]
      by_cases h2 : 1 ≤ (ws.length : Int) ∧ (ws.length : Int) ≤ 4
      · rw [decide_eq_true h2]
        (repeat (first | with_reducible refine Ev.bindS ?_ | (with_reducible refine Ev.ifp ?_ ?_; (· first | omega | assumption | rfl | (simp only [List.length_map, List.length_replicate, List.length_take, List.length_drop, List.length_append, List.length_cons, List.length_nil, List.length_set]; omega) | (simp; done))) | (with_reducible refine Ev.ifn ?_ ?_; (· first | omega | assumption | rfl | (simp only [List.length_map, List.length_replicate, List.length_take, List.length_drop, List.length_append, List.length_cons, List.length_nil, List.length_set]; omega) | (simp; done)))))
        rw [Bool.not_true]
        cases ws with
        | nil => simp at h2
        | cons w t =>
          have e : phraseRes docs (w :: t) = (phraseFrom docs t 1 (postsFrom w docs 0 []), true) := if_pos ⟨h1, by omega, h3⟩
          rw [e]
          (refine Ev.up ?_; simp only [spec_PhraseIn.j1, decT])
          rw [show rdOf ByteArray.empty (w :: t) 0 = w from rfl]
          (repeat (first | with_reducible refine Ev.bindS ?_ | (with_reducible refine Ev.ifp ?_ ?_; (· first | omega | assumption | rfl | (simp only [List.length_map, List.length_replicate, List.length_take, List.length_drop, List.length_append, List.length_cons, List.length_nil, List.length_set]; omega) | (simp; done))) | (with_reducible refine Ev.ifn ?_ ?_; (· first | omega | assumption | rfl | (simp only [List.length_map, List.length_replicate, List.length_take, List.length_drop, List.length_append, List.length_cons, List.length_nil, List.length_set]; omega) | (simp; done)))))
          refine Ev.bind (specPosts_ev docs hs w) ?_
          exact specPhrase_loop docs (w :: t) hs h1 hw t 1 _ rfl (by simp) (posts_fit w docs hs h1)
      · rw [decide_eq_false h2]
        (repeat (first | with_reducible refine Ev.bindS ?_ | (with_reducible refine Ev.ifp ?_ ?_; (· first | omega | assumption | rfl | (simp only [List.length_map, List.length_replicate, List.length_take, List.length_drop, List.length_append, List.length_cons, List.length_nil, List.length_set]; omega) | (simp; done))) | (with_reducible refine Ev.ifn ?_ ?_; (· first | omega | assumption | rfl | (simp only [List.length_map, List.length_replicate, List.length_take, List.length_drop, List.length_append, List.length_cons, List.length_nil, List.length_set]; omega) | (simp; done)))))
        rw [Bool.not_false]
        refine bad ?_
        unfold phraseRes
        split
        · rfl
        · rename_i w t
          rw [if_neg (fun h => h2 ⟨by simp; omega, by omega⟩)]
  have key : ∀ (t : List ByteArray) (i : Nat), ws.drop i = t → i ≤ ws.length → (ws.all wordOk = t.all wordOk) → Ev (fun k => spec_PhraseIn.l0 k docs ws ws ws.length i) (phraseRes docs ws) := by
    intro t
    induction t with
    | nil =>
      intro i h hi ha
      have := drop_nil h
      (refine Ev.up ?_; simp only [spec_PhraseIn.l0, decT])
      (repeat (first | with_reducible refine Ev.bindS ?_ | (with_reducible refine Ev.ifp ?_ ?_; (· first | omega | assumption | rfl | (simp only [List.length_map, List.length_replicate, List.length_take, List.length_drop, List.length_append, List.length_cons, List.length_nil, List.length_set]; omega) | (simp; done))) | (with_reducible refine Ev.ifn ?_ ?_; (· first | omega | assumption | rfl | (simp only [List.length_map, List.length_replicate, List.length_take, List.length_drop, List.length_append, List.length_cons, List.length_nil, List.length_set]; omega) | (simp; done)))))
      exact last (by rw [ha]; rfl)
    | cons w t ih =>
      intro i h hi ha
      obtain ⟨p1, p2, p3⟩ := drop_cons h
      have hwd := hw.2 w (List.mem_of_getElem? p2)
      (refine Ev.up ?_; simp only [spec_PhraseIn.l0, decT])
      rw [rdOf_at p2, wrap_succ (i := i) (by omega)]
      (repeat (first | with_reducible refine Ev.bindS ?_ | (with_reducible refine Ev.ifp ?_ ?_; (· first | omega | assumption | rfl | (simp only [List.length_map, List.length_replicate, List.length_take, List.length_drop, List.length_append, List.length_cons, List.length_nil, List.length_set]; omega) | (simp; done))) | (with_reducible refine Ev.ifn ?_ ?_; (· first | omega | assumption | rfl | (simp only [List.length_map, List.length_replicate, List.length_take, List.length_drop, List.length_append, List.length_cons, List.length_nil, List.length_set]; omega) | (simp; done)))))
      refine Ev.bind (specWord_ev w hwd) ?_
      cases h3 : wordOk w with
      | false =>
        refine Ev.ifn (by simp) ?_
        have e : phraseRes docs ws = ([], false) := by
          unfold phraseRes
          split
          · rfl
          · rw [if_neg (fun h => by rw [ha, List.all_cons, h3] at h; cases h.2.2)]
        rw [e]
        exact Ev.val rfl
      | true =>
        refine Ev.ifp rfl ?_
        exact ih (i + 1) p3 (by omega) (by rw [ha, List.all_cons, h3, Bool.true_and])
  exact key ws 0 rfl (by omega) rfl
end Go.Proofs.Ytcopakljdenolaa.Pure
