/- The law FnExactBuildTree holds of the given program: at every input it answers true and leaves its arguments as they were; no condition. -/
import Derived.Test.YtoddejmlcnbdmaaQWWords
import Derived.ChangeArms
import Derived.ChangeSame
import Derived.Deep.Slices
import Derived.Deep.Strs
import Derived.Deep.Fields
import Derived.Lib.SmallJoins
import Derived.WideShapes
import Derived.Test.YtoddejmlcnbdmaaRows
import Derived.WalkKit
import Derived.ProofKit
import Derived.OpenShut
import Derived.ShutString
import Derived.ChangeOld
import Derived.Below
import Derived.SizedLaws
import Derived.Carry
import Derived.Test.YtoddejmlcnbdmaaCXBuildTreeA
import Derived.Test.YtoddejmlcnbdmaaCXBuildTreeB
import Derived.Test.YtoddejmlcnbdmaaCXBuildTreeC
set_option maxHeartbeats 8000000
set_option maxRecDepth 100000
set_option linter.unusedSimpArgs false
set_option linter.unusedVariables false
open Go.Proofs.Ytoddejmlcnbdmaa.Fn Go.Proofs.Ytoddejmlcnbdmaa.Tree
open Go.RowKit Go.Proofs.YtoddejmlcnbdmaaW.PrintWords Go.Proofs.YtoddejmlcnbdmaaW.PrintLast Go.Proofs.YtoddejmlcnbdmaaW.PrintMore Go.Proofs.Ytoddejmlcnbdmaa.Gen
namespace Go.Proofs.Ytoddejmlcnbdmaa.Fn
def laws_FnExactBuildTree.Runs (k : Nat) (l0 l1 : List ByteArray) : Prop := ∃ left : Int, laws_szStringS.f k l0 1048576 = some left /\ (left < 0 ∨ (0 <= left /\ ∃ lefu : Int, laws_szStringS.f k l1 left = some lefu /\ (lefu < 0 ∨ (0 <= lefu /\ ∃ (p0 p1 : List ByteArray) (r : List S110) (b : Bool) (n0 : Int) (y0 : List ByteArray) (m0 : Int) (y1 : List ByteArray) (m1 : Int) (z1 : List S110),
 laws_toStringS.f k l0 = some p0 /\ laws_toStringS.f k l1 = some p1 /\ spec_BuildTree.f p0 p1 = some (r, b) /\ impl_BuildTree.f k p0 p1 = some (r, b) /\ laws_eqTree.f k r r = some true /\ laws_eqStringS.f k p0 p0 = some true /\ laws_eqStringS.f k p1 p1 = some true /\ laws_markStringS.f k p0 1 = some (n0, y0) /\ laws_markStringS.f k p1 n0 = some (m0, y1) /\ laws_markPageS.f k r 1 = some (m1, z1) /\ laws_heldTree.f k z1 1 = some m1 /\ 0 <= m0 /\ 0 <= m1))))
theorem laws_FnExactBuildTree.calls (k : Nat) (A0 : Option Addr) (c0 : Nat) (l0 : List ByteArray) (A1 : Option Addr) (c1 : Nat) (l1 : List ByteArray) (r0 : Bool) (w : World) (hr0 : Kd.C Kd.string w A0 l0.length l0) (hc0 : l0.length <= c0) (hr1 : Kd.C Kd.string w A1 l1.length l1) (hc1 : l1.length <= c1) (h : laws_FnExactBuildTree.Runs k l0 l1) (ht : r0 = true) :
  Calls Try.prog 12 #[.slice A0 l0.length c0, .slice A1 l1.length c1] w fun e w' => e = .returned (.bool r0) /\ Below w.heap.size w w' := by
 have hu29 := Try.underlying29
 subst ht
 have HR0 := A_ hr0
 have HC0 := A_ hc0
 have HR1 := A_ hr1
 have HC1 := A_ hc1
 have HB := A_ (Below.refl w.heap.size w)
 clear hr0 hc0 hr1 hc1
 unfold laws_FnExactBuildTree.Runs at h
 obtain ⟨left, h0, h⟩ := h
 have E0 := A_ h0
 clear h0
 rcases h with h | ⟨hl0, h⟩
 ·have cl0 : decide (left < 0) = true := decide_eq_true h
  clear h
  go_enter Try.func12, Try.ntmps12
  go_wp2_with (first | (go_at_call 41; (with_reducible refine (laws_szStringS.calls k _ _ l0 1048576 left _ ?side1 HC0.out E0.out).mono ?_); (case side1 => exact Kd.C_below HR0.out (be_ HB.out)); rintro e w' ⟨rfl, ⟨nd, rfl⟩⟩))
  go_ret
  exact ⟨by first | rfl | (simp; done), (be_ HB.out)⟩
 have cl0 : decide (left < 0) = false := decide_eq_false (by omega)
 clear hl0
 obtain ⟨lefu, h0, h⟩ := h
 have E0b := A_ h0
 clear h0
 rcases h with h | ⟨hl0, h⟩
 ·have cl1 : decide (lefu < 0) = true := decide_eq_true h
  clear h
  go_enter Try.func12, Try.ntmps12
  go_wp2_with (first | (go_at_call 41; (with_reducible refine (laws_szStringS.calls k _ _ l0 1048576 left _ ?side1 HC0.out E0.out).mono ?_); (case side1 => exact Kd.C_below HR0.out (be_ HB.out)); rintro e w' ⟨rfl, ⟨nd, rfl⟩⟩) | (go_at_call 41; (with_reducible refine (laws_szStringS.calls k _ _ l1 left lefu _ ?side1 HC1.out E0b.out).mono ?_); (case side1 => exact Kd.C_below HR1.out (be_ HB.out)); rintro e w' ⟨rfl, ⟨nd, rfl⟩⟩))
  go_ret
  exact ⟨by first | rfl | (simp; done), (be_ HB.out)⟩
 have cl1 : decide (lefu < 0) = false := decide_eq_false (by omega)
 clear hl0
 obtain ⟨p0, p1, r, b, n0, y0, m0, y1, m1, z1, h1, h2, h3, h4, h5, h6, h7, h8, h9, h10, h11, h12, h13⟩ := h
 have E1 := A_ h1
 have E1b := A_ h2
 have E2 := A_ h3
 have E3 := A_ h4
 have E4 := A_ h5
 have E5 := A_ h6
 have E5b := A_ h7
 have E6 := A_ h8
 have E6b := A_ h9
 have E7 := A_ h10
 have E8 := A_ h11
 have cm0 : decide (m0 < 0) = false := decide_eq_false (by omega)
 have cm1 : decide (m1 < 0) = false := decide_eq_false (by omega)
 have cmm : (m1 != m1) = false := by simp
 have cbb : (b != b) = false := by simp
 clear h1 h2 h3 h4 h5 h6 h7 h8 h9 h10 h11 h12 h13
 have HS := A_ (show w.heap.size <= w.heap.size from Nat.le_refl _)
 go_enter Try.func12, Try.ntmps12
 go_upto_region 9 with (first | (go_at_call 41; (with_reducible refine (laws_szStringS.calls k _ _ l0 1048576 left _ ?side1 HC0.out E0.out).mono ?_); (case side1 => exact Kd.C_below HR0.out (be_ HB.out)); rintro e w' ⟨rfl, ⟨nd, rfl⟩⟩) | (go_at_call 41; (with_reducible refine (laws_szStringS.calls k _ _ l1 left lefu _ ?side1 HC1.out E0b.out).mono ?_); (case side1 => exact Kd.C_below HR1.out (be_ HB.out)); rintro e w' ⟨rfl, ⟨nd, rfl⟩⟩) | (go_at_call 43; (with_reducible refine (laws_toStringS.calls k A0 c0 l0 p0 _ ?side1 HC0.out E1.out).mono ?_); (case side1 => exact Kd.C_below HR0.out (be_ HB.out)); rintro e w1_ ⟨vHA, rfl, ho, hb⟩; obtain ⟨AHA, cHA, ev_⟩ := Kd.R_slice ho; subst ev_; obtain ⟨nHA, mHA, o1_, o2_, o3_, hr_⟩ := Kd.R_iv (last := w.heap.size) ho hb (be_ HB.out) (show w.heap.size <= _ from HS.out); have O_HA := A_ (And.intro o1_ o2_); have N_HB := A_ (bs_ HB.out hb); have N_HS := A_ (show w.heap.size <= _ from Nat.le_trans (by exact HS.out) (Below.size hb)); clear HB HS; have HB := N_HB; have HS := N_HS; clear N_HB N_HS; clear HS; have HS := A_ o3_; have HA := A_ hr_; clear hb ho hr_ o1_ o2_ o3_) | (go_at_call 43; (with_reducible refine (laws_toStringS.calls k A1 c1 l1 p1 _ ?side1 HC1.out E1b.out).mono ?_); (case side1 => exact Kd.C_below HR1.out (be_ HB.out)); rintro e w2_ ⟨vHC, rfl, ho, hb⟩; obtain ⟨AHC, cHC, ev_⟩ := Kd.R_slice ho; subst ev_; obtain ⟨nHC, mHC, o1_, o2_, o3_, hr_⟩ := Kd.R_iv (last := mHA) ho hb (be_ HB.out) (show mHA <= _ from HS.out); have O_HC := A_ (And.intro o1_ o2_); have N_HA := A_ (Kd.R_below (rk_ HA.out) hb); have N_HB := A_ (bs_ HB.out hb); have N_HS := A_ (show mHA <= _ from Nat.le_trans (by exact HS.out) (Below.size hb)); clear HA HB HS; have HA := N_HA; have HB := N_HB; have HS := N_HS; clear N_HA N_HB N_HS; clear HS; have HS := A_ o3_; have HC := A_ hr_; clear hb ho hr_ o1_ o2_ o3_) | (go_at_call 42; (with_reducible refine (spec_BuildTree.callsS _ _ p0 _ _ p1 r b _ ?side1 ?side2 ?side3 ?side4 E2.out).mono ?_); (case side1 => refine cd_ ?_; exact (Kd.R_reads' HA.out).2.2); (case side2 => exact (Kd.R_reads' HA.out).2.1); (case side3 => refine cd_ ?_; exact (Kd.R_reads' HC.out).2.2); (case side4 => exact (Kd.R_reads' HC.out).2.1); rintro e w3_ ⟨vHW, rfl, ho, hb⟩; obtain ⟨AHW, cHW, ev_⟩ := Kd.S_slice ho; subst ev_; obtain ⟨nHW, mHW, o1_, o2_, o3_, hr_⟩ := Kd.S_iv (last := mHC) ho hb (be_ HB.out) (show mHC <= _ from HS.out); have O_HW := A_ (And.intro o1_ o2_); have N_HA := A_ (Kd.R_below (rk_ HA.out) hb); have N_HC := A_ (Kd.R_below (rk_ HC.out) hb); have N_HB := A_ (bs_ HB.out hb); have N_HS := A_ (show mHC <= _ from Nat.le_trans (by exact HS.out) (Below.size hb)); clear HA HC HB HS; have HA := N_HA; have HC := N_HC; have HB := N_HB; have HS := N_HS; clear N_HA N_HC N_HB N_HS; clear HS; have HS := A_ o3_; have HW := A_ hr_; clear hb ho hr_ o1_ o2_ o3_) | ((with_reducible refine gate_dst (N := 6) rfl ?_); refine box_event ?hg (N := 6) ?hd (cs := #[.slice none 0 0]) (t := 29) ?hr ?_; (case hd => rfl); (case hg => rfl); (case hr => first | (go_simp; done) | (go_simp; rfl)); clear HA HC; intro gw hg w4_ hbox hb; have O_gw := A_ (show mHW <= gw from by rw [hg]; exact (show _ <= _ from HS.out)); have LW_gw := A_ (show w.heap.size <= gw from by rw [hg]; exact bw_ HB.out); have N_HW := A_ (Kd.S_below (sk_ HW.out) hb); have N_HB := A_ (bs_ HB.out hb); have N_HS := A_ (show mHW <= _ from Nat.le_trans (by exact HS.out) (Below.size hb)); clear HW HB HS; have HW := N_HW; have HB := N_HB; have HS := N_HS; clear N_HW N_HB N_HS; clear HS; have HS := A_ (show gw + 1 <= _ from blk_lt hbox); have BX := A_ hbox; have hcz_ := (blk_cell hbox 0).trans rfl; have hfz_ := blk_frozen hbox 0; clear hg hbox hb))
 have N_HB := A_ (below_set (j := 0) (v := .slice AHW r.length cHW) HB.out LW_gw.out)
 have N_HW := A_ (Kd.S_far (p := ⟨gw, 0, none⟩) HW.out (fun k_ h_ => show k_ ≠ gw from by have := O_HA.out; have := O_HC.out; have := O_HW.out; have := O_gw.out; have h2_ : nHW <= k_ /\ k_ < mHW := h_; omega) (.slice AHW r.length cHW))
 have BW := A_ (tree_box (v := .slice AHW r.length cHW) BX.out)
 have N_HS := A_ (show gw + 1 <= _ from blk_lt BW.out)
 generalize hWW : World.setCell _ ⟨gw, 0, none⟩ (.slice AHW r.length cHW) = wSw at N_HB N_HW BW N_HS ⊢
 clear hWW HB HW BX HS  hcz_ hfz_
 have HB := N_HB
 have HW := N_HW
 have HS := N_HS
 clear N_HB N_HS N_HW
 have hzw : World.cell? _ ⟨gw, 0, none⟩ = some (.slice AHW r.length cHW) := (blk_cell BW.out 0).trans rfl
 go_upto_region 12 with (first | (go_at_call 43; (with_reducible refine (laws_toStringS.calls k A0 c0 l0 p0 _ ?side1 HC0.out E1.out).mono ?_); (case side1 => exact Kd.C_below HR0.out (be_ HB.out)); rintro e w5_ ⟨vX0, rfl, ho, hb⟩; obtain ⟨AX0, cX0, ev_⟩ := Kd.R_slice ho; subst ev_; obtain ⟨nX0, mX0, o1_, o2_, o3_, hr_⟩ := Kd.R_iv (last := gw + 1) ho hb (be_ HB.out) (show gw + 1 <= _ from HS.out); have O_X0 := A_ (And.intro o1_ o2_); have N_HW := A_ (Kd.S_below (sk_ HW.out) hb); have N_BW := A_ (blk_below (g := gw) (o := .cells #[.slice AHW r.length cHW] 29 (0, 0)) (pk_ BW.out) hb); have N_HB := A_ (bs_ HB.out hb); have N_HS := A_ (show gw + 1 <= _ from Nat.le_trans (by exact HS.out) (Below.size hb)); clear HW BW HB HS; have HW := N_HW; have BW := N_BW; have HB := N_HB; have HS := N_HS; clear N_HW N_BW N_HB N_HS; (try clear hzw); have hzw : World.cell? _ ⟨gw, 0, none⟩ = some (.slice AHW r.length cHW) := (blk_cell BW.out 0).trans rfl; clear HS; have HS := A_ o3_; have X0 := A_ hr_; clear hb ho hr_ o1_ o2_ o3_) | (go_at_call 43; (with_reducible refine (laws_toStringS.calls k A1 c1 l1 p1 _ ?side1 HC1.out E1b.out).mono ?_); (case side1 => exact Kd.C_below HR1.out (be_ HB.out)); rintro e w6_ ⟨vX1, rfl, ho, hb⟩; obtain ⟨AX1, cX1, ev_⟩ := Kd.R_slice ho; subst ev_; obtain ⟨nX1, mX1, o1_, o2_, o3_, hr_⟩ := Kd.R_iv (last := mX0) ho hb (be_ HB.out) (show mX0 <= _ from HS.out); have O_X1 := A_ (And.intro o1_ o2_); have N_HW := A_ (Kd.S_below (sk_ HW.out) hb); have N_BW := A_ (blk_below (g := gw) (o := .cells #[.slice AHW r.length cHW] 29 (0, 0)) (pk_ BW.out) hb); have N_X0 := A_ (Kd.R_below (rk_ X0.out) hb); have N_HB := A_ (bs_ HB.out hb); have N_HS := A_ (show mX0 <= _ from Nat.le_trans (by exact HS.out) (Below.size hb)); clear HW BW X0 HB HS; have HW := N_HW; have BW := N_BW; have X0 := N_X0; have HB := N_HB; have HS := N_HS; clear N_HW N_BW N_X0 N_HB N_HS; (try clear hzw); have hzw : World.cell? _ ⟨gw, 0, none⟩ = some (.slice AHW r.length cHW) := (blk_cell BW.out 0).trans rfl; clear HS; have HS := A_ o3_; have X1 := A_ hr_; clear hb ho hr_ o1_ o2_ o3_) | (go_at_call 44; (with_reducible refine (impl_BuildTree.callsS k _ _ p0 _ _ p1 r b _ ?side1 ?side2 ?side3 ?side4 E3.out).mono ?_); (case side1 => refine cd_ ?_; exact (Kd.R_reads' X0.out).2.2); (case side2 => exact (Kd.R_reads' X0.out).2.1); (case side3 => refine cd_ ?_; exact (Kd.R_reads' X1.out).2.2); (case side4 => exact (Kd.R_reads' X1.out).2.1); rintro e w7_ ⟨vHG, rfl, ho, hb⟩; obtain ⟨AHG, cHG, ev_⟩ := Kd.S_slice ho; subst ev_; obtain ⟨nHG, mHG, o1_, o2_, o3_, hr_⟩ := Kd.S_iv (last := mX1) ho hb (be_ HB.out) (show mX1 <= _ from HS.out); have O_HG := A_ (And.intro o1_ o2_); have N_HW := A_ (Kd.S_below (sk_ HW.out) hb); have N_BW := A_ (blk_below (g := gw) (o := .cells #[.slice AHW r.length cHW] 29 (0, 0)) (pk_ BW.out) hb); have N_X0 := A_ (Kd.R_below (rk_ X0.out) hb); have N_X1 := A_ (Kd.R_below (rk_ X1.out) hb); have N_HB := A_ (bs_ HB.out hb); have N_HS := A_ (show mX1 <= _ from Nat.le_trans (by exact HS.out) (Below.size hb)); clear HW BW X0 X1 HB HS; have HW := N_HW; have BW := N_BW; have X0 := N_X0; have X1 := N_X1; have HB := N_HB; have HS := N_HS; clear N_HW N_BW N_X0 N_X1 N_HB N_HS; (try clear hzw); have hzw : World.cell? _ ⟨gw, 0, none⟩ = some (.slice AHW r.length cHW) := (blk_cell BW.out 0).trans rfl; clear HS; have HS := A_ o3_; have HG := A_ hr_; clear hb ho hr_ o1_ o2_ o3_) | ((with_reducible refine gate_dst (N := 10) rfl ?_); refine box_event ?hg (N := 10) ?hd (cs := #[.slice none 0 0]) (t := 29) ?hr ?_; (case hd => rfl); (case hg => rfl); (case hr => first | (go_simp; done) | (go_simp; rfl)); intro gg hg w8_ hbox hb; have O_gg := A_ (show mHG <= gg from by rw [hg]; exact (show _ <= _ from HS.out)); have LW_gg := A_ (show w.heap.size <= gg from by rw [hg]; exact bw_ HB.out); have N_HW := A_ (Kd.S_below (sk_ HW.out) hb); have N_BW := A_ (blk_below (g := gw) (o := .cells #[.slice AHW r.length cHW] 29 (0, 0)) (pk_ BW.out) hb); have N_X0 := A_ (Kd.R_below (rk_ X0.out) hb); have N_X1 := A_ (Kd.R_below (rk_ X1.out) hb); have N_HG := A_ (Kd.S_below (sk_ HG.out) hb); have N_HB := A_ (bs_ HB.out hb); have N_HS := A_ (show mHG <= _ from Nat.le_trans (by exact HS.out) (Below.size hb)); clear HW BW X0 X1 HG HB HS; have HW := N_HW; have BW := N_BW; have X0 := N_X0; have X1 := N_X1; have HG := N_HG; have HB := N_HB; have HS := N_HS; clear N_HW N_BW N_X0 N_X1 N_HG N_HB N_HS; (try clear hzw); have hzw : World.cell? _ ⟨gw, 0, none⟩ = some (.slice AHW r.length cHW) := (blk_cell BW.out 0).trans rfl; clear HS; have HS := A_ (show gg + 1 <= _ from blk_lt hbox); have BX := A_ hbox; have hcz_ := (blk_cell hbox 0).trans rfl; have hfz_ := blk_frozen hbox 0; clear hg hbox hb))
 have N_HB := A_ (below_set (j := 0) (v := .slice AHG r.length cHG) HB.out LW_gg.out)
 have N_HW := A_ (Kd.S_far (p := ⟨gg, 0, none⟩) HW.out (fun k_ h_ => show k_ ≠ gg from by have := O_HA.out; have := O_HC.out; have := O_HW.out; have := O_gw.out; have := O_X0.out; have := O_X1.out; have := O_HG.out; have := O_gg.out; have h2_ : nHW <= k_ /\ k_ < mHW := h_; omega) (.slice AHG r.length cHG))
 have N_BW := A_ (blk_away BW.out (p := ⟨gg, 0, none⟩) (show gw ≠ gg from by have := O_HA.out; have := O_HC.out; have := O_HW.out; have := O_gw.out; have := O_X0.out; have := O_X1.out; have := O_HG.out; have := O_gg.out; omega) (.slice AHG r.length cHG))
 have N_X0 := A_ (Kd.R_far (p := ⟨gg, 0, none⟩) X0.out (fun k_ h_ => show k_ ≠ gg from by have := O_HA.out; have := O_HC.out; have := O_HW.out; have := O_gw.out; have := O_X0.out; have := O_X1.out; have := O_HG.out; have := O_gg.out; have h2_ : nX0 <= k_ /\ k_ < mX0 := h_; omega) (.slice AHG r.length cHG))
 have N_X1 := A_ (Kd.R_far (p := ⟨gg, 0, none⟩) X1.out (fun k_ h_ => show k_ ≠ gg from by have := O_HA.out; have := O_HC.out; have := O_HW.out; have := O_gw.out; have := O_X0.out; have := O_X1.out; have := O_HG.out; have := O_gg.out; have h2_ : nX1 <= k_ /\ k_ < mX1 := h_; omega) (.slice AHG r.length cHG))
 have N_HG := A_ (Kd.S_far (p := ⟨gg, 0, none⟩) HG.out (fun k_ h_ => show k_ ≠ gg from by have := O_HA.out; have := O_HC.out; have := O_HW.out; have := O_gw.out; have := O_X0.out; have := O_X1.out; have := O_HG.out; have := O_gg.out; have h2_ : nHG <= k_ /\ k_ < mHG := h_; omega) (.slice AHG r.length cHG))
 have BG := A_ (tree_box (v := .slice AHG r.length cHG) BX.out)
 have N_HS := A_ (show gg + 1 <= _ from blk_lt BG.out)
 generalize hWW : World.setCell _ ⟨gg, 0, none⟩ (.slice AHG r.length cHG) = wSg at N_HB N_HW N_BW N_X0 N_X1 N_HG BG N_HS ⊢
 clear hWW HB HW BW X0 X1 HG BX HS hzw hcz_ hfz_
 have HB := N_HB
 have HW := N_HW
 have BW := N_BW
 have X0 := N_X0
 have X1 := N_X1
 have HG := N_HG
 have HS := N_HS
 clear N_HB N_HS N_HW N_BW N_X0 N_X1 N_HG
 have hzw : World.cell? _ ⟨gw, 0, none⟩ = some (.slice AHW r.length cHW) := (blk_cell BW.out 0).trans rfl
 have hzg : World.cell? _ ⟨gg, 0, none⟩ = some (.slice AHG r.length cHG) := (blk_cell BG.out 0).trans rfl
 go_upto_region 14 with (first | (go_at_call 19; (with_reducible refine (laws_eqTree.calls k AHG cHG r AHW cHW r true _ ?side1 ?side2 ?side3 ?side4 E4.out).mono ?_); (case side1 => refine cd_ ?_; exact kp110_C (Kd.S_reads' HG.out).2.2); (case side2 => exact (Kd.S_reads' HG.out).2.1); (case side3 => refine cd_ ?_; exact kp110_C (Kd.S_reads' HW.out).2.2); (case side4 => exact (Kd.S_reads' HW.out).2.1); rintro e w9_ ⟨rfl, hb⟩; have N_HW := A_ (Kd.S_below (sk_ HW.out) hb); have N_BW := A_ (blk_below (g := gw) (o := .cells #[.slice AHW r.length cHW] 29 (0, 0)) (pk_ BW.out) hb); have N_X0 := A_ (Kd.R_below (rk_ X0.out) hb); have N_X1 := A_ (Kd.R_below (rk_ X1.out) hb); have N_HG := A_ (Kd.S_below (sk_ HG.out) hb); have N_BG := A_ (blk_below (g := gg) (o := .cells #[.slice AHG r.length cHG] 29 (0, 0)) (pk_ BG.out) hb); have N_HB := A_ (bs_ HB.out hb); have N_HS := A_ (show gg + 1 <= _ from Nat.le_trans (by exact HS.out) (Below.size hb)); clear HW BW X0 X1 HG BG HB HS; have HW := N_HW; have BW := N_BW; have X0 := N_X0; have X1 := N_X1; have HG := N_HG; have BG := N_BG; have HB := N_HB; have HS := N_HS; clear N_HW N_BW N_X0 N_X1 N_HG N_BG N_HB N_HS; (try clear hzw); have hzw : World.cell? _ ⟨gw, 0, none⟩ = some (.slice AHW r.length cHW) := (blk_cell BW.out 0).trans rfl; (try clear hzg); have hzg : World.cell? _ ⟨gg, 0, none⟩ = some (.slice AHG r.length cHG) := (blk_cell BG.out 0).trans rfl; clear hb))
 go_upto_region 16 with (first | (go_at_call 43; (with_reducible refine (laws_toStringS.calls k A0 c0 l0 p0 _ ?side1 HC0.out E1.out).mono ?_); (case side1 => exact Kd.C_below HR0.out (be_ HB.out)); rintro e w10_ ⟨vQ0, rfl, ho, hb⟩; obtain ⟨AQ0, cQ0, ev_⟩ := Kd.R_slice ho; subst ev_; obtain ⟨nQ0, mQ0, o1_, o2_, o3_, hr_⟩ := Kd.R_iv (last := gg + 1) ho hb (be_ HB.out) (show gg + 1 <= _ from HS.out); have O_Q0 := A_ (And.intro o1_ o2_); have N_HW := A_ (Kd.S_below (sk_ HW.out) hb); have N_BW := A_ (blk_below (g := gw) (o := .cells #[.slice AHW r.length cHW] 29 (0, 0)) (pk_ BW.out) hb); have N_X0 := A_ (Kd.R_below (rk_ X0.out) hb); have N_X1 := A_ (Kd.R_below (rk_ X1.out) hb); have N_HG := A_ (Kd.S_below (sk_ HG.out) hb); have N_BG := A_ (blk_below (g := gg) (o := .cells #[.slice AHG r.length cHG] 29 (0, 0)) (pk_ BG.out) hb); have N_HB := A_ (bs_ HB.out hb); have N_HS := A_ (show gg + 1 <= _ from Nat.le_trans (by exact HS.out) (Below.size hb)); clear HW BW X0 X1 HG BG HB HS; have HW := N_HW; have BW := N_BW; have X0 := N_X0; have X1 := N_X1; have HG := N_HG; have BG := N_BG; have HB := N_HB; have HS := N_HS; clear N_HW N_BW N_X0 N_X1 N_HG N_BG N_HB N_HS; (try clear hzw); have hzw : World.cell? _ ⟨gw, 0, none⟩ = some (.slice AHW r.length cHW) := (blk_cell BW.out 0).trans rfl; (try clear hzg); have hzg : World.cell? _ ⟨gg, 0, none⟩ = some (.slice AHG r.length cHG) := (blk_cell BG.out 0).trans rfl; clear HS; have HS := A_ o3_; have Q0 := A_ hr_; clear hb ho hr_ o1_ o2_ o3_) | (go_at_call 26; (with_reducible refine (laws_eqStringS.calls k AX0 cX0 p0 AQ0 cQ0 p0 true _ ?side1 ?side2 ?side3 ?side4 E5.out).mono ?_); (case side1 => refine cd_ ?_; exact (Kd.R_reads' X0.out).2.2); (case side2 => exact (Kd.R_reads' X0.out).2.1); (case side3 => refine cd_ ?_; exact (Kd.R_reads' Q0.out).2.2); (case side4 => exact (Kd.R_reads' Q0.out).2.1); rintro e w' ⟨rfl, ⟨nd, rfl⟩⟩))
 clear Q0
 go_upto_region 18 with (first | (go_at_call 43; (with_reducible refine (laws_toStringS.calls k A1 c1 l1 p1 _ ?side1 HC1.out E1b.out).mono ?_); (case side1 => exact Kd.C_below HR1.out (be_ HB.out)); rintro e w11_ ⟨vQ1, rfl, ho, hb⟩; obtain ⟨AQ1, cQ1, ev_⟩ := Kd.R_slice ho; subst ev_; obtain ⟨nQ1, mQ1, o1_, o2_, o3_, hr_⟩ := Kd.R_iv (last := mQ0) ho hb (be_ HB.out) (show mQ0 <= _ from HS.out); have O_Q1 := A_ (And.intro o1_ o2_); have N_HW := A_ (Kd.S_below (sk_ HW.out) hb); have N_BW := A_ (blk_below (g := gw) (o := .cells #[.slice AHW r.length cHW] 29 (0, 0)) (pk_ BW.out) hb); have N_X0 := A_ (Kd.R_below (rk_ X0.out) hb); have N_X1 := A_ (Kd.R_below (rk_ X1.out) hb); have N_HG := A_ (Kd.S_below (sk_ HG.out) hb); have N_BG := A_ (blk_below (g := gg) (o := .cells #[.slice AHG r.length cHG] 29 (0, 0)) (pk_ BG.out) hb); have N_HB := A_ (bs_ HB.out hb); have N_HS := A_ (show mQ0 <= _ from Nat.le_trans (by exact HS.out) (Below.size hb)); clear HW BW X0 X1 HG BG HB HS; have HW := N_HW; have BW := N_BW; have X0 := N_X0; have X1 := N_X1; have HG := N_HG; have BG := N_BG; have HB := N_HB; have HS := N_HS; clear N_HW N_BW N_X0 N_X1 N_HG N_BG N_HB N_HS; (try clear hzw); have hzw : World.cell? _ ⟨gw, 0, none⟩ = some (.slice AHW r.length cHW) := (blk_cell BW.out 0).trans rfl; (try clear hzg); have hzg : World.cell? _ ⟨gg, 0, none⟩ = some (.slice AHG r.length cHG) := (blk_cell BG.out 0).trans rfl; clear HS; have HS := A_ o3_; have Q1 := A_ hr_; clear hb ho hr_ o1_ o2_ o3_) | (go_at_call 26; (with_reducible refine (laws_eqStringS.calls k AX1 cX1 p1 AQ1 cQ1 p1 true _ ?side1 ?side2 ?side3 ?side4 E5b.out).mono ?_); (case side1 => refine cd_ ?_; exact (Kd.R_reads' X1.out).2.2); (case side2 => exact (Kd.R_reads' X1.out).2.1); (case side3 => refine cd_ ?_; exact (Kd.R_reads' Q1.out).2.2); (case side4 => exact (Kd.R_reads' Q1.out).2.1); rintro e w' ⟨rfl, ⟨nd, rfl⟩⟩))
 clear Q1
 go_upto_region 20 with (first | (go_at_call 28; (with_reducible refine (laws_markStringS.calls k (fun k_ => nX0 <= k_ /\ k_ < mX0) (.slice AX0 p0.length cX0) p0 1 n0 y0 w _ ?side1 ?side2 E6.out).mono ?_); (case side1 => exact (be_ HB.out)); (case side2 => exact (rk_ X0.out)); rintro e w12_ ⟨rfl, hy, hb, hk⟩; have N_HW := A_ (Kd.S_kept (sk_ HW.out) hk (fun k_ h1_ h2_ => by have := O_HA.out; have := O_HC.out; have := O_HW.out; have := O_gw.out; have := O_X0.out; have := O_X1.out; have := O_HG.out; have := O_gg.out; have := O_Q0.out; have := O_Q1.out; have h3_ : nHW <= k_ /\ k_ < mHW := h1_; have h4_ : nX0 <= k_ /\ k_ < mX0 := h2_; first | omega | exact h4_.2 h3_.2 | exact h3_.2 h4_.2)); have N_BW := A_ (blk_kept (pk_ BW.out) hk (fun h_ => by have := O_HA.out; have := O_HC.out; have := O_HW.out; have := O_gw.out; have := O_X0.out; have := O_X1.out; have := O_HG.out; have := O_gg.out; have := O_Q0.out; have := O_Q1.out; have h2_ : nX0 <= gw /\ gw < mX0 := h_; omega)); have N_X1 := A_ (Kd.R_kept (rk_ X1.out) hk (fun k_ h1_ h2_ => by have := O_HA.out; have := O_HC.out; have := O_HW.out; have := O_gw.out; have := O_X0.out; have := O_X1.out; have := O_HG.out; have := O_gg.out; have := O_Q0.out; have := O_Q1.out; have h3_ : nX1 <= k_ /\ k_ < mX1 := h1_; have h4_ : nX0 <= k_ /\ k_ < mX0 := h2_; first | omega | exact h4_.2 h3_.2 | exact h3_.2 h4_.2)); have N_HG := A_ (Kd.S_kept (sk_ HG.out) hk (fun k_ h1_ h2_ => by have := O_HA.out; have := O_HC.out; have := O_HW.out; have := O_gw.out; have := O_X0.out; have := O_X1.out; have := O_HG.out; have := O_gg.out; have := O_Q0.out; have := O_Q1.out; have h3_ : nHG <= k_ /\ k_ < mHG := h1_; have h4_ : nX0 <= k_ /\ k_ < mX0 := h2_; first | omega | exact h4_.2 h3_.2 | exact h3_.2 h4_.2)); have N_BG := A_ (blk_kept (pk_ BG.out) hk (fun h_ => by have := O_HA.out; have := O_HC.out; have := O_HW.out; have := O_gw.out; have := O_X0.out; have := O_X1.out; have := O_HG.out; have := O_gg.out; have := O_Q0.out; have := O_Q1.out; have h2_ : nX0 <= gg /\ gg < mX0 := h_; omega)); have N_HS := A_ (show mQ1 <= _ from Nat.le_trans (by exact HS.out) hk.1); have N_X0 := A_ (Kd.R_mono (Kd.R_tight rfl hy) (fun k_ e_ => X0.out.1 k_ e_.symm)); have N_HB := A_ hb; clear HW BW X1 HG BG HS X0 HB; have HW := N_HW; have BW := N_BW; have X1 := N_X1; have HG := N_HG; have BG := N_BG; have HS := N_HS; have X0 := N_X0; have HB := N_HB; clear N_HW N_BW N_X1 N_HG N_BG N_HS N_X0 N_HB; (try clear hzw); have hzw : World.cell? _ ⟨gw, 0, none⟩ = some (.slice AHW r.length cHW) := (blk_cell BW.out 0).trans rfl; (try clear hzg); have hzg : World.cell? _ ⟨gg, 0, none⟩ = some (.slice AHG r.length cHG) := (blk_cell BG.out 0).trans rfl; clear hb hk hy))
 clear X0
 go_upto_region 21 with (first | (go_at_call 28; (with_reducible refine (laws_markStringS.calls k (fun k_ => nX1 <= k_ /\ k_ < mX1) (.slice AX1 p1.length cX1) p1 n0 m0 y1 w _ ?side1 ?side2 E6b.out).mono ?_); (case side1 => exact (be_ HB.out)); (case side2 => exact (rk_ X1.out)); rintro e w13_ ⟨rfl, hy, hb, hk⟩; have N_HW := A_ (Kd.S_kept (sk_ HW.out) hk (fun k_ h1_ h2_ => by have := O_HA.out; have := O_HC.out; have := O_HW.out; have := O_gw.out; have := O_X0.out; have := O_X1.out; have := O_HG.out; have := O_gg.out; have := O_Q0.out; have := O_Q1.out; have h3_ : nHW <= k_ /\ k_ < mHW := h1_; have h4_ : nX1 <= k_ /\ k_ < mX1 := h2_; first | omega | exact h4_.2 h3_.2 | exact h3_.2 h4_.2)); have N_BW := A_ (blk_kept (pk_ BW.out) hk (fun h_ => by have := O_HA.out; have := O_HC.out; have := O_HW.out; have := O_gw.out; have := O_X0.out; have := O_X1.out; have := O_HG.out; have := O_gg.out; have := O_Q0.out; have := O_Q1.out; have h2_ : nX1 <= gw /\ gw < mX1 := h_; omega)); have N_HG := A_ (Kd.S_kept (sk_ HG.out) hk (fun k_ h1_ h2_ => by have := O_HA.out; have := O_HC.out; have := O_HW.out; have := O_gw.out; have := O_X0.out; have := O_X1.out; have := O_HG.out; have := O_gg.out; have := O_Q0.out; have := O_Q1.out; have h3_ : nHG <= k_ /\ k_ < mHG := h1_; have h4_ : nX1 <= k_ /\ k_ < mX1 := h2_; first | omega | exact h4_.2 h3_.2 | exact h3_.2 h4_.2)); have N_BG := A_ (blk_kept (pk_ BG.out) hk (fun h_ => by have := O_HA.out; have := O_HC.out; have := O_HW.out; have := O_gw.out; have := O_X0.out; have := O_X1.out; have := O_HG.out; have := O_gg.out; have := O_Q0.out; have := O_Q1.out; have h2_ : nX1 <= gg /\ gg < mX1 := h_; omega)); have N_HS := A_ (show mQ1 <= _ from Nat.le_trans (by exact HS.out) hk.1); have N_X1 := A_ (Kd.R_mono (Kd.R_tight rfl hy) (fun k_ e_ => X1.out.1 k_ e_.symm)); have N_HB := A_ hb; clear HW BW HG BG HS X1 HB; have HW := N_HW; have BW := N_BW; have HG := N_HG; have BG := N_BG; have HS := N_HS; have X1 := N_X1; have HB := N_HB; clear N_HW N_BW N_HG N_BG N_HS N_X1 N_HB; (try clear hzw); have hzw : World.cell? _ ⟨gw, 0, none⟩ = some (.slice AHW r.length cHW) := (blk_cell BW.out 0).trans rfl; (try clear hzg); have hzg : World.cell? _ ⟨gg, 0, none⟩ = some (.slice AHG r.length cHG) := (blk_cell BG.out 0).trans rfl; clear hb hk hy))
 clear X1
 go_upto_region 24 with (first | (go_at_call 19; (with_reducible refine (laws_eqTree.calls k AHG cHG r AHW cHW r true _ ?side1 ?side2 ?side3 ?side4 E4.out).mono ?_); (case side1 => refine cd_ ?_; exact kp110_C (Kd.S_reads' HG.out).2.2); (case side2 => exact (Kd.S_reads' HG.out).2.1); (case side3 => refine cd_ ?_; exact kp110_C (Kd.S_reads' HW.out).2.2); (case side4 => exact (Kd.S_reads' HW.out).2.1); rintro e w14_ ⟨rfl, hb⟩; have N_HW := A_ (Kd.S_below (sk_ HW.out) hb); have N_BW := A_ (blk_below (g := gw) (o := .cells #[.slice AHW r.length cHW] 29 (0, 0)) (pk_ BW.out) hb); have N_HG := A_ (Kd.S_below (sk_ HG.out) hb); have N_BG := A_ (blk_below (g := gg) (o := .cells #[.slice AHG r.length cHG] 29 (0, 0)) (pk_ BG.out) hb); have N_HB := A_ (bs_ HB.out hb); have N_HS := A_ (show mQ1 <= _ from Nat.le_trans (by exact HS.out) (Below.size hb)); clear HW BW HG BG HB HS; have HW := N_HW; have BW := N_BW; have HG := N_HG; have BG := N_BG; have HB := N_HB; have HS := N_HS; clear N_HW N_BW N_HG N_BG N_HB N_HS; (try clear hzw); have hzw : World.cell? _ ⟨gw, 0, none⟩ = some (.slice AHW r.length cHW) := (blk_cell BW.out 0).trans rfl; (try clear hzg); have hzg : World.cell? _ ⟨gg, 0, none⟩ = some (.slice AHG r.length cHG) := (blk_cell BG.out 0).trans rfl; clear hb))
 go_upto_region 31 with (first | (go_at_call 27; (with_reducible refine (laws_markTree.calls k (fun k_ => nHG <= k_ /\ k_ < mHG) (.slice AHG r.length cHG) r 1 m1 z1 w _ ?side1 ?side2 E7.out).mono ?_); (case side1 => exact (be_ HB.out)); (case side2 => exact (sk_ HG.out)); rintro e w15_ ⟨rfl, hs, hb, hk⟩; have N_HW := A_ (Kd.S_kept (sk_ HW.out) hk (fun k_ h1_ h2_ => by have := O_HA.out; have := O_HC.out; have := O_HW.out; have := O_gw.out; have := O_X0.out; have := O_X1.out; have := O_HG.out; have := O_gg.out; have := O_Q0.out; have := O_Q1.out; have h3_ : nHW <= k_ /\ k_ < mHW := h1_; have h4_ : nHG <= k_ /\ k_ < mHG := h2_; first | omega | exact h4_.2 h3_.2 | exact h3_.2 h4_.2)); have N_BW := A_ (blk_kept (pk_ BW.out) hk (fun h_ => by have := O_HA.out; have := O_HC.out; have := O_HW.out; have := O_gw.out; have := O_X0.out; have := O_X1.out; have := O_HG.out; have := O_gg.out; have := O_Q0.out; have := O_Q1.out; have h2_ : nHG <= gw /\ gw < mHG := h_; omega)); have N_BG := A_ (blk_kept (pk_ BG.out) hk (fun h_ => by have := O_HA.out; have := O_HC.out; have := O_HW.out; have := O_gw.out; have := O_X0.out; have := O_X1.out; have := O_HG.out; have := O_gg.out; have := O_Q0.out; have := O_Q1.out; have h2_ : nHG <= gg /\ gg < mHG := h_; omega)); have N_HS := A_ (show mQ1 <= _ from Nat.le_trans (by exact HS.out) hk.1); have N_HG := A_ hs; have N_HB := A_ hb; clear HW BW BG HS HG HB; have HW := N_HW; have BW := N_BW; have BG := N_BG; have HS := N_HS; have HG := N_HG; have HB := N_HB; clear N_HW N_BW N_BG N_HS N_HG N_HB; (try clear hzw); have hzw : World.cell? _ ⟨gw, 0, none⟩ = some (.slice AHW r.length cHW) := (blk_cell BW.out 0).trans rfl; (try clear hzg); have hzg : World.cell? _ ⟨gg, 0, none⟩ = some (.slice AHG r.length cHG) := (blk_cell BG.out 0).trans rfl; clear hs hb hk) | (go_at_call 38; (with_reducible refine (heldTree_n k AHG cHG r.length z1 1 m1 _ (Kd.S_reads' HG.out).1 ?side1 ?side2 E8.out).mono ?_); (case side1 => refine cd_ ?_; exact kp110_C (Kd.S_reads' HG.out).2.2); (case side2 => have h_ := Kd.S_reads' HG.out; have h2_ := h_.1; have h3_ := h_.2.1; omega); rintro e w16_ ⟨rfl, hb⟩; have N_HW := A_ (Kd.S_below (sk_ HW.out) hb); have N_BW := A_ (blk_below (g := gw) (o := .cells #[.slice AHW r.length cHW] 29 (0, 0)) (pk_ BW.out) hb); have N_HG := A_ (Kd.S_below (sk_ HG.out) hb); have N_BG := A_ (blk_below (g := gg) (o := .cells #[.slice AHG r.length cHG] 29 (0, 0)) (pk_ BG.out) hb); have N_HB := A_ (bs_ HB.out hb); have N_HS := A_ (show mQ1 <= _ from Nat.le_trans (by exact HS.out) (Below.size hb)); clear HW BW HG BG HB HS; have HW := N_HW; have BW := N_BW; have HG := N_HG; have BG := N_BG; have HB := N_HB; have HS := N_HS; clear N_HW N_BW N_HG N_BG N_HB N_HS; (try clear hzw); have hzw : World.cell? _ ⟨gw, 0, none⟩ = some (.slice AHW r.length cHW) := (blk_cell BW.out 0).trans rfl; (try clear hzg); have hzg : World.cell? _ ⟨gg, 0, none⟩ = some (.slice AHG r.length cHG) := (blk_cell BG.out 0).trans rfl; clear hb))
 go_upto_region 32 with (first | (go_at_call 43; (with_reducible refine (laws_toStringS.calls k A0 c0 l0 p0 _ ?side1 HC0.out E1.out).mono ?_); (case side1 => exact Kd.C_below HR0.out (be_ HB.out)); rintro e w17_ ⟨vT0, rfl, ho, hb⟩; obtain ⟨AT0, cT0, ev_⟩ := Kd.R_slice ho; subst ev_; obtain ⟨nT0, mT0, o1_, o2_, o3_, hr_⟩ := Kd.R_iv (last := mQ1) ho hb (be_ HB.out) (show mQ1 <= _ from HS.out); have O_T0 := A_ (And.intro o1_ o2_); have N_HW := A_ (Kd.S_below (sk_ HW.out) hb); have N_BW := A_ (blk_below (g := gw) (o := .cells #[.slice AHW r.length cHW] 29 (0, 0)) (pk_ BW.out) hb); have N_HG := A_ (Kd.S_below (sk_ HG.out) hb); have N_BG := A_ (blk_below (g := gg) (o := .cells #[.slice AHG r.length cHG] 29 (0, 0)) (pk_ BG.out) hb); have N_HB := A_ (bs_ HB.out hb); have N_HS := A_ (show mQ1 <= _ from Nat.le_trans (by exact HS.out) (Below.size hb)); clear HW BW HG BG HB HS; have HW := N_HW; have BW := N_BW; have HG := N_HG; have BG := N_BG; have HB := N_HB; have HS := N_HS; clear N_HW N_BW N_HG N_BG N_HB N_HS; (try clear hzw); have hzw : World.cell? _ ⟨gw, 0, none⟩ = some (.slice AHW r.length cHW) := (blk_cell BW.out 0).trans rfl; (try clear hzg); have hzg : World.cell? _ ⟨gg, 0, none⟩ = some (.slice AHG r.length cHG) := (blk_cell BG.out 0).trans rfl; clear HS; have HS := A_ o3_; have T0 := A_ hr_; clear hb ho hr_ o1_ o2_ o3_) | (go_at_call 43; (with_reducible refine (laws_toStringS.calls k A1 c1 l1 p1 _ ?side1 HC1.out E1b.out).mono ?_); (case side1 => exact Kd.C_below HR1.out (be_ HB.out)); rintro e w18_ ⟨vT1, rfl, ho, hb⟩; obtain ⟨AT1, cT1, ev_⟩ := Kd.R_slice ho; subst ev_; obtain ⟨nT1, mT1, o1_, o2_, o3_, hr_⟩ := Kd.R_iv (last := mT0) ho hb (be_ HB.out) (show mT0 <= _ from HS.out); have O_T1 := A_ (And.intro o1_ o2_); have N_HW := A_ (Kd.S_below (sk_ HW.out) hb); have N_BW := A_ (blk_below (g := gw) (o := .cells #[.slice AHW r.length cHW] 29 (0, 0)) (pk_ BW.out) hb); have N_HG := A_ (Kd.S_below (sk_ HG.out) hb); have N_BG := A_ (blk_below (g := gg) (o := .cells #[.slice AHG r.length cHG] 29 (0, 0)) (pk_ BG.out) hb); have N_T0 := A_ (Kd.R_below (rk_ T0.out) hb); have N_HB := A_ (bs_ HB.out hb); have N_HS := A_ (show mT0 <= _ from Nat.le_trans (by exact HS.out) (Below.size hb)); clear HW BW HG BG T0 HB HS; have HW := N_HW; have BW := N_BW; have HG := N_HG; have BG := N_BG; have T0 := N_T0; have HB := N_HB; have HS := N_HS; clear N_HW N_BW N_HG N_BG N_T0 N_HB N_HS; (try clear hzw); have hzw : World.cell? _ ⟨gw, 0, none⟩ = some (.slice AHW r.length cHW) := (blk_cell BW.out 0).trans rfl; (try clear hzg); have hzg : World.cell? _ ⟨gg, 0, none⟩ = some (.slice AHG r.length cHG) := (blk_cell BG.out 0).trans rfl; clear HS; have HS := A_ o3_; have T1 := A_ hr_; clear hb ho hr_ o1_ o2_ o3_) | (go_at_call 44; (with_reducible refine (impl_BuildTree.callsS k _ _ p0 _ _ p1 r b _ ?side1 ?side2 ?side3 ?side4 E3.out).mono ?_); (case side1 => refine cd_ ?_; exact (Kd.R_reads' T0.out).2.2); (case side2 => exact (Kd.R_reads' T0.out).2.1); (case side3 => refine cd_ ?_; exact (Kd.R_reads' T1.out).2.2); (case side4 => exact (Kd.R_reads' T1.out).2.1); rintro e w19_ ⟨vHH, rfl, ho, hb⟩; obtain ⟨AHH, cHH, ev_⟩ := Kd.S_slice ho; subst ev_; obtain ⟨nHH, mHH, o1_, o2_, o3_, hr_⟩ := Kd.S_iv (last := mT1) ho hb (be_ HB.out) (show mT1 <= _ from HS.out); have O_HH := A_ (And.intro o1_ o2_); have N_HW := A_ (Kd.S_below (sk_ HW.out) hb); have N_BW := A_ (blk_below (g := gw) (o := .cells #[.slice AHW r.length cHW] 29 (0, 0)) (pk_ BW.out) hb); have N_HG := A_ (Kd.S_below (sk_ HG.out) hb); have N_BG := A_ (blk_below (g := gg) (o := .cells #[.slice AHG r.length cHG] 29 (0, 0)) (pk_ BG.out) hb); have N_T0 := A_ (Kd.R_below (rk_ T0.out) hb); have N_T1 := A_ (Kd.R_below (rk_ T1.out) hb); have N_HB := A_ (bs_ HB.out hb); have N_HS := A_ (show mT1 <= _ from Nat.le_trans (by exact HS.out) (Below.size hb)); clear HW BW HG BG T0 T1 HB HS; have HW := N_HW; have BW := N_BW; have HG := N_HG; have BG := N_BG; have T0 := N_T0; have T1 := N_T1; have HB := N_HB; have HS := N_HS; clear N_HW N_BW N_HG N_BG N_T0 N_T1 N_HB N_HS; (try clear hzw); have hzw : World.cell? _ ⟨gw, 0, none⟩ = some (.slice AHW r.length cHW) := (blk_cell BW.out 0).trans rfl; (try clear hzg); have hzg : World.cell? _ ⟨gg, 0, none⟩ = some (.slice AHG r.length cHG) := (blk_cell BG.out 0).trans rfl; clear HS; have HS := A_ o3_; have HH := A_ hr_; clear hb ho hr_ o1_ o2_ o3_) | ((with_reducible refine gate_dst (N := 15) rfl ?_); refine box_event ?hg (N := 15) ?hd (cs := #[.slice none 0 0]) (t := 29) ?hr ?_; (case hd => rfl); (case hg => rfl); (case hr => first | (go_simp; done) | (go_simp; rfl)); clear T0 T1; intro gh hg w20_ hbox hb; have O_gh := A_ (show mHH <= gh from by rw [hg]; exact (show _ <= _ from HS.out)); have LW_gh := A_ (show w.heap.size <= gh from by rw [hg]; exact bw_ HB.out); have N_HW := A_ (Kd.S_below (sk_ HW.out) hb); have N_BW := A_ (blk_below (g := gw) (o := .cells #[.slice AHW r.length cHW] 29 (0, 0)) (pk_ BW.out) hb); have N_HG := A_ (Kd.S_below (sk_ HG.out) hb); have N_BG := A_ (blk_below (g := gg) (o := .cells #[.slice AHG r.length cHG] 29 (0, 0)) (pk_ BG.out) hb); have N_HH := A_ (Kd.S_below (sk_ HH.out) hb); have N_HB := A_ (bs_ HB.out hb); have N_HS := A_ (show mHH <= _ from Nat.le_trans (by exact HS.out) (Below.size hb)); clear HW BW HG BG HH HB HS; have HW := N_HW; have BW := N_BW; have HG := N_HG; have BG := N_BG; have HH := N_HH; have HB := N_HB; have HS := N_HS; clear N_HW N_BW N_HG N_BG N_HH N_HB N_HS; (try clear hzw); have hzw : World.cell? _ ⟨gw, 0, none⟩ = some (.slice AHW r.length cHW) := (blk_cell BW.out 0).trans rfl; (try clear hzg); have hzg : World.cell? _ ⟨gg, 0, none⟩ = some (.slice AHG r.length cHG) := (blk_cell BG.out 0).trans rfl; clear HS; have HS := A_ (show gh + 1 <= _ from blk_lt hbox); have BX := A_ hbox; have hcz_ := (blk_cell hbox 0).trans rfl; have hfz_ := blk_frozen hbox 0; clear hg hbox hb))
 have N_HB := A_ (below_set (j := 0) (v := .slice AHH r.length cHH) HB.out LW_gh.out)
 have N_HW := A_ (Kd.S_far (p := ⟨gh, 0, none⟩) HW.out (fun k_ h_ => show k_ ≠ gh from by have := O_HA.out; have := O_HC.out; have := O_HW.out; have := O_gw.out; have := O_X0.out; have := O_X1.out; have := O_HG.out; have := O_gg.out; have := O_Q0.out; have := O_Q1.out; have := O_T0.out; have := O_T1.out; have := O_HH.out; have := O_gh.out; have h2_ : nHW <= k_ /\ k_ < mHW := h_; omega) (.slice AHH r.length cHH))
 have N_BW := A_ (blk_away BW.out (p := ⟨gh, 0, none⟩) (show gw ≠ gh from by have := O_HA.out; have := O_HC.out; have := O_HW.out; have := O_gw.out; have := O_X0.out; have := O_X1.out; have := O_HG.out; have := O_gg.out; have := O_Q0.out; have := O_Q1.out; have := O_T0.out; have := O_T1.out; have := O_HH.out; have := O_gh.out; omega) (.slice AHH r.length cHH))
 have N_HG := A_ (Kd.S_far (p := ⟨gh, 0, none⟩) HG.out (fun k_ h_ => show k_ ≠ gh from by have := O_HA.out; have := O_HC.out; have := O_HW.out; have := O_gw.out; have := O_X0.out; have := O_X1.out; have := O_HG.out; have := O_gg.out; have := O_Q0.out; have := O_Q1.out; have := O_T0.out; have := O_T1.out; have := O_HH.out; have := O_gh.out; have h2_ : nHG <= k_ /\ k_ < mHG := h_; omega) (.slice AHH r.length cHH))
 have N_BG := A_ (blk_away BG.out (p := ⟨gh, 0, none⟩) (show gg ≠ gh from by have := O_HA.out; have := O_HC.out; have := O_HW.out; have := O_gw.out; have := O_X0.out; have := O_X1.out; have := O_HG.out; have := O_gg.out; have := O_Q0.out; have := O_Q1.out; have := O_T0.out; have := O_T1.out; have := O_HH.out; have := O_gh.out; omega) (.slice AHH r.length cHH))
 have N_HH := A_ (Kd.S_far (p := ⟨gh, 0, none⟩) HH.out (fun k_ h_ => show k_ ≠ gh from by have := O_HA.out; have := O_HC.out; have := O_HW.out; have := O_gw.out; have := O_X0.out; have := O_X1.out; have := O_HG.out; have := O_gg.out; have := O_Q0.out; have := O_Q1.out; have := O_T0.out; have := O_T1.out; have := O_HH.out; have := O_gh.out; have h2_ : nHH <= k_ /\ k_ < mHH := h_; omega) (.slice AHH r.length cHH))
 have BH := A_ (tree_box (v := .slice AHH r.length cHH) BX.out)
 have N_HS := A_ (show gh + 1 <= _ from blk_lt BH.out)
 generalize hWW : World.setCell _ ⟨gh, 0, none⟩ (.slice AHH r.length cHH) = wSh at N_HB N_HW N_BW N_HG N_BG N_HH BH N_HS ⊢
 clear hWW HB HW BW HG BG HH BX HS hzw hzg hcz_ hfz_
 have HB := N_HB
 have HW := N_HW
 have BW := N_BW
 have HG := N_HG
 have BG := N_BG
 have HH := N_HH
 have HS := N_HS
 clear N_HB N_HS N_HW N_BW N_HG N_BG N_HH
 have hzw : World.cell? _ ⟨gw, 0, none⟩ = some (.slice AHW r.length cHW) := (blk_cell BW.out 0).trans rfl
 have hzg : World.cell? _ ⟨gg, 0, none⟩ = some (.slice AHG r.length cHG) := (blk_cell BG.out 0).trans rfl
 have hzh : World.cell? _ ⟨gh, 0, none⟩ = some (.slice AHH r.length cHH) := (blk_cell BH.out 0).trans rfl
 go_wp2_with (first | (go_at_call 19; (with_reducible refine (laws_eqTree.calls k AHH cHH r AHW cHW r true _ ?side1 ?side2 ?side3 ?side4 E4.out).mono ?_); (case side1 => refine cd_ ?_; exact kp110_C (Kd.S_reads' HH.out).2.2); (case side2 => exact (Kd.S_reads' HH.out).2.1); (case side3 => refine cd_ ?_; exact kp110_C (Kd.S_reads' HW.out).2.2); (case side4 => exact (Kd.S_reads' HW.out).2.1); rintro e w21_ ⟨rfl, hb⟩; have N_HW := A_ (Kd.S_below (sk_ HW.out) hb); have N_BW := A_ (blk_below (g := gw) (o := .cells #[.slice AHW r.length cHW] 29 (0, 0)) (pk_ BW.out) hb); have N_HG := A_ (Kd.S_below (sk_ HG.out) hb); have N_BG := A_ (blk_below (g := gg) (o := .cells #[.slice AHG r.length cHG] 29 (0, 0)) (pk_ BG.out) hb); have N_HH := A_ (Kd.S_below (sk_ HH.out) hb); have N_BH := A_ (blk_below (g := gh) (o := .cells #[.slice AHH r.length cHH] 29 (0, 0)) (pk_ BH.out) hb); have N_HB := A_ (bs_ HB.out hb); have N_HS := A_ (show gh + 1 <= _ from Nat.le_trans (by exact HS.out) (Below.size hb)); clear HW BW HG BG HH BH HB HS; have HW := N_HW; have BW := N_BW; have HG := N_HG; have BG := N_BG; have HH := N_HH; have BH := N_BH; have HB := N_HB; have HS := N_HS; clear N_HW N_BW N_HG N_BG N_HH N_BH N_HB N_HS; (try clear hzw); have hzw : World.cell? _ ⟨gw, 0, none⟩ = some (.slice AHW r.length cHW) := (blk_cell BW.out 0).trans rfl; (try clear hzg); have hzg : World.cell? _ ⟨gg, 0, none⟩ = some (.slice AHG r.length cHG) := (blk_cell BG.out 0).trans rfl; (try clear hzh); have hzh : World.cell? _ ⟨gh, 0, none⟩ = some (.slice AHH r.length cHH) := (blk_cell BH.out 0).trans rfl; clear hb) | (go_at_call 38; (with_reducible refine (heldTree_n k AHG cHG r.length z1 1 m1 _ (Kd.S_reads' HG.out).1 ?side1 ?side2 E8.out).mono ?_); (case side1 => refine cd_ ?_; exact kp110_C (Kd.S_reads' HG.out).2.2); (case side2 => have h_ := Kd.S_reads' HG.out; have h2_ := h_.1; have h3_ := h_.2.1; omega); rintro e w22_ ⟨rfl, hb⟩; have N_HW := A_ (Kd.S_below (sk_ HW.out) hb); have N_BW := A_ (blk_below (g := gw) (o := .cells #[.slice AHW r.length cHW] 29 (0, 0)) (pk_ BW.out) hb); have N_HG := A_ (Kd.S_below (sk_ HG.out) hb); have N_BG := A_ (blk_below (g := gg) (o := .cells #[.slice AHG r.length cHG] 29 (0, 0)) (pk_ BG.out) hb); have N_HH := A_ (Kd.S_below (sk_ HH.out) hb); have N_BH := A_ (blk_below (g := gh) (o := .cells #[.slice AHH r.length cHH] 29 (0, 0)) (pk_ BH.out) hb); have N_HB := A_ (bs_ HB.out hb); have N_HS := A_ (show gh + 1 <= _ from Nat.le_trans (by exact HS.out) (Below.size hb)); clear HW BW HG BG HH BH HB HS; have HW := N_HW; have BW := N_BW; have HG := N_HG; have BG := N_BG; have HH := N_HH; have BH := N_BH; have HB := N_HB; have HS := N_HS; clear N_HW N_BW N_HG N_BG N_HH N_BH N_HB N_HS; (try clear hzw); have hzw : World.cell? _ ⟨gw, 0, none⟩ = some (.slice AHW r.length cHW) := (blk_cell BW.out 0).trans rfl; (try clear hzg); have hzg : World.cell? _ ⟨gg, 0, none⟩ = some (.slice AHG r.length cHG) := (blk_cell BG.out 0).trans rfl; (try clear hzh); have hzh : World.cell? _ ⟨gh, 0, none⟩ = some (.slice AHH r.length cHH) := (blk_cell BH.out 0).trans rfl; clear hb))
 go_ret
 exact ⟨by first | rfl | (simp; done), (be_ HB.out)⟩
open Go.Proofs.Ytoddejmlcnbdmaa.Tree
set_option maxHeartbeats 8000000
set_option maxRecDepth 100000
end Go.Proofs.Ytoddejmlcnbdmaa.Fn
namespace Go.Proofs.Ytoddejmlcnbdmaa.Pure
open Go.Proofs.Ytoddejmlcnbdmaa.Fn
theorem str_append_size (a b : ByteArray) : (a ++ b).size = a.size + b.size := by
 rw [<- nm_length, <- nm_length, <- nm_length, nm_append, List.length_append]
theorem one_size (c : Int) : (strOfNums [c]).size = 1 := rfl
theorem markText_some (n : Int) (hn : n <= 1073741824) : ∃ t, Ev (fun k => laws_markText.f k n) t := by
 have key : ∀ (d : Nat) (x : Int) (s : ByteArray), x <= d -> x <= 1073741824 -> (s.size : Int) + d <= 4611686018427387904 -> ∃ t, Ev (fun k => laws_markText.l0 k x s) t := by
  intro d
  induction d with
  | zero =>
   intro x s h1 h2 h3
   refine ⟨(⟨#[109]⟩ : ByteArray) ++ s, ?_⟩
   (refine Ev.up ?_; simp only [laws_markText.l0, decT])
   (repeat (first | with_reducible refine Ev.bindS ?_ | (with_reducible refine Ev.ifp ?_ ?_; (· exact cnd_)) | (with_reducible refine Ev.ifn ?_ ?_; (· exact cnd_))))
   exact Ev.val rfl
  | succ d ih =>
   intro x s h1 h2 h3
   by_cases hx : x > 0
   ·have e1 : wrap64 (Int.tdiv x 10) = x / 10 := by
     rw [Int.tdiv_eq_ediv_of_nonneg (by omega)]
     exact wrap_ok (by omega) (by omega)
    have hz : ∀ c : Int, (strOfNums [c]).size = 1 := one_size
    obtain ⟨t, ht⟩ := ih (x / 10) (strOfNums [(wrap64 (48 + (Int.tmod x 10))) % 256] ++ s) (by omega) (by omega) (by rw [str_append_size, hz]; omega)
    refine ⟨t, ?_⟩
    (refine Ev.up ?_; simp only [laws_markText.l0, decT])
    rw [e1]
    (repeat (first | with_reducible refine Ev.bindS ?_ | (with_reducible refine Ev.ifp ?_ ?_; (· exact cnd_)) | (with_reducible refine Ev.ifn ?_ ?_; (· exact cnd_))))
    rw [hz]
    (repeat (first | with_reducible refine Ev.bindS ?_ | (with_reducible refine Ev.ifp ?_ ?_; (· exact cnd_)) | (with_reducible refine Ev.ifn ?_ ?_; (· exact cnd_))))
    exact ht
   ·refine ⟨(⟨#[109]⟩ : ByteArray) ++ s, ?_⟩
    (refine Ev.up ?_; simp only [laws_markText.l0, decT])
    (repeat (first | with_reducible refine Ev.bindS ?_ | (with_reducible refine Ev.ifp ?_ ?_; (· exact cnd_)) | (with_reducible refine Ev.ifn ?_ ?_; (· exact cnd_))))
    exact Ev.val rfl
 by_cases h : n <= 0
 ·refine ⟨(⟨#[109, 48]⟩ : ByteArray), ?_⟩
  simp only [laws_markText.f]
  (repeat (first | with_reducible refine Ev.bindS ?_ | (with_reducible refine Ev.ifp ?_ ?_; (· exact cnd_)) | (with_reducible refine Ev.ifn ?_ ?_; (· exact cnd_))))
  exact Ev.val rfl
 ·obtain ⟨t, ht⟩ := key n.toNat n (⟨#[]⟩ : ByteArray) (by omega) hn (by show ((0 : Nat) : Int) + _ <= _; omega)
  refine ⟨t, ?_⟩
  simp only [laws_markText.f]
  (repeat (first | with_reducible refine Ev.bindS ?_ | (with_reducible refine Ev.ifp ?_ ?_; (· exact cnd_)) | (with_reducible refine Ev.ifn ?_ ?_; (· exact cnd_))))
  exact ht
theorem markText_all : ∃ f : Int -> ByteArray, ∀ n, n <= 1073741824 -> Ev (fun k => laws_markText.f k n) (f n) := by
 have h : ∀ n : Int, ∃ t, n <= 1073741824 -> Ev (fun k => laws_markText.f k n) t := by
  intro n
  by_cases hn : n <= 1073741824
  ·obtain ⟨t, ht⟩ := markText_some n hn
   exact ⟨t, fun _ => ht⟩
  ·exact ⟨(⟨#[]⟩ : ByteArray), fun h => absurd h hn⟩
 exact ⟨fun n => Classical.choose (h n), fun n => Classical.choose_spec (h n)⟩
theorem markStrs_ev (l : List ByteArray) (hl : l.length <= 1048576) (c : Int) (h0 : 0 <= c) (h1 : c <= 1000000000) :
  ∃ l' : List ByteArray, l'.length = l.length /\ Ev (fun k => laws_markStringS.f k l c) (c + l.length, l') /\ Ev (fun k => laws_heldStringS.f k l' c) (c + l.length) := by
 obtain ⟨f, hf⟩ := markText_all
 refine ⟨l.mapIdx fun i _ => f (c + i), by simp, ?_, ?_⟩
 ·have h := mark_ev (fun k x a i => laws_markStringS.l0 k x a i) (fun i => c + (i : Int)) (fun i _ => f (c + i)) l ?_ ?_
  ·simp only [laws_markStringS.f]
   rw [show c + ((0 : Nat) : Int) = c by omega] at h
   exact h
  ·intro k x hx
   simp only [laws_markStringS.l0]
   rw [if_neg (by omega)]
  ·intro i y hy
   have hlt := (List.getElem?_eq_some_iff.1 hy).1
   obtain ⟨K, hK⟩ := hf (c + i) (by omega)
   refine ⟨K, fun k x hk hx _ => ?_⟩
   have e1 : wrap64 (c + (i : Int) + 1) = c + ((i + 1 : Nat) : Int) := by rw [wrap_ok (by omega) (by omega)]; omega
   have hk := hK k hk
   dsimp only at hk
   simp only [laws_markStringS.l0]
   rw [if_pos (by omega), hk, Option.bind_some, if_pos (by omega), wrap_succ (by omega), e1, Int.toNat_natCast]
 ·have key : ∀ (t : List ByteArray) (i : Nat), (l.mapIdx fun i _ => f (c + i)).drop i = t -> i <= l.length -> Ev (fun k => laws_heldStringS.l0 k (l.mapIdx fun i _ => f (c + i)) (c + i) i) (c + l.length) := by
   intro t
   induction t with
   | nil =>
    intro i h hi
    have h2 := drop_nil h
    simp only [List.length_mapIdx] at h2
    have e : i = l.length := by omega
    (refine Ev.up ?_; simp only [laws_heldStringS.l0, decT])
    rw [List.length_mapIdx]
    (repeat (first | with_reducible refine Ev.bindS ?_ | (with_reducible refine Ev.ifp ?_ ?_; (· exact cnd_)) | (with_reducible refine Ev.ifn ?_ ?_; (· exact cnd_))))
    exact Ev.val (by rw [e])
   | cons x t ih =>
    intro i h hi
    obtain ⟨p1, p2, p3⟩ := drop_cons h
    rw [List.length_mapIdx] at p1
    have ih := ih (i + 1) p3 (by omega)
    have hx : x = f (c + i) := by
     rw [List.getElem?_mapIdx] at p2
     obtain ⟨y, _, hy⟩ := Option.map_eq_some_iff.1 p2
     exact hy.symm
    have e1 : wrap64 (c + (i : Int) + 1) = c + ((i + 1 : Nat) : Int) := by rw [wrap_ok (by omega) (by omega)]; omega
    (refine Ev.up ?_; simp only [laws_heldStringS.l0, decT])
    rw [List.length_mapIdx, rdOf_at p2, e1, wrap_succ (by omega)]
    (repeat (first | with_reducible refine Ev.bindS ?_ | (with_reducible refine Ev.ifp ?_ ?_; (· exact cnd_)) | (with_reducible refine Ev.ifn ?_ ?_; (· exact cnd_))))
    refine Ev.bind (hf (c + i) (by omega)) ?_
    rw [hx]
    (repeat (first | with_reducible refine Ev.bindS ?_ | (with_reducible refine Ev.ifp ?_ ?_; (· exact cnd_)) | (with_reducible refine Ev.ifn ?_ ?_; (· exact cnd_))))
    exact ih
  have h := key _ 0 rfl (by omega)
  simp only [laws_heldStringS.f]
  rw [show c + ((0 : Nat) : Int) = c by omega] at h
  exact h
theorem szStrs_ev2 (l : List ByteArray) (hl : l.length <= maxLen) (hs : ∀ y ∈ l, y.size <= maxLen) (a : Int) (h0 : 0 <= a) (h1 : a <= 1048576) :
  ∃ r : Int, Ev (fun k => laws_szStringS.f k l a) r /\ r <= a /\ (0 <= r -> r + (l.length : Int) <= a /\ ∀ y ∈ l, (y.size : Int) <= a) := by
 simp only [maxLen] at hl hs
 have key : ∀ (t : List ByteArray) (i : Nat) (m : Int), l.drop i = t -> i <= l.length -> 0 <= m -> m <= a ->
   ∃ r : Int, Ev (fun k => laws_szStringS.l0 k l m i) r /\ r <= m /\ (0 <= r -> ∀ y ∈ t, (y.size : Int) <= a) := by
  intro t
  induction t with
  | nil =>
   intro i m h _ _ hm
   have := drop_nil h
   exact ⟨m, by (refine Ev.up ?_; simp only [laws_szStringS.l0, decT]); (repeat (first | with_reducible refine Ev.bindS ?_ | (with_reducible refine Ev.ifp ?_ ?_; (· exact cnd_)) | (with_reducible refine Ev.ifn ?_ ?_; (· exact cnd_)))); exact Ev.val rfl, Int.le_refl _, by simp⟩
  | cons x t ih =>
   intro i m h hi hm0 hm
   obtain ⟨p1, p2, p3⟩ := drop_cons h
   have hx := hs x (List.mem_of_getElem? p2)
   have e : wrap64 (m - (x.size : Int)) = m - (x.size : Int) := wrap_ok (by omega) (by omega)
   by_cases hlt : m - (x.size : Int) < 0
   ·refine ⟨-1, ?_, by omega, by omega⟩
    (refine Ev.up ?_; simp only [laws_szStringS.l0, decT])
    rw [rdOf_at p2, e]
    (repeat (first | with_reducible refine Ev.bindS ?_ | (with_reducible refine Ev.ifp ?_ ?_; (· exact cnd_)) | (with_reducible refine Ev.ifn ?_ ?_; (· exact cnd_))))
    exact Ev.val rfl
   ·obtain ⟨r, q1, q2, q3⟩ := ih (i + 1) (m - x.size) p3 (by omega) (by omega) (by omega)
    refine ⟨r, ?_, by omega, fun hr y hy => ?_⟩
    ·(refine Ev.up ?_; simp only [laws_szStringS.l0, decT])
     rw [rdOf_at p2, e, wrap_succ (by omega)]
     (repeat (first | with_reducible refine Ev.bindS ?_ | (with_reducible refine Ev.ifp ?_ ?_; (· exact cnd_)) | (with_reducible refine Ev.ifn ?_ ?_; (· exact cnd_))))
     exact q1
    ·rcases List.mem_cons.1 hy with rfl | hy
     ·omega
     ·exact q3 hr y hy
 have e : wrap64 (a - (l.length : Int)) = a - (l.length : Int) := wrap_ok (by omega) (by omega)
 by_cases hlt : a - (l.length : Int) < 0
 ·refine ⟨-1, ?_, by omega, by omega⟩
  simp only [laws_szStringS.f, e]
  (repeat (first | with_reducible refine Ev.bindS ?_ | (with_reducible refine Ev.ifp ?_ ?_; (· exact cnd_)) | (with_reducible refine Ev.ifn ?_ ?_; (· exact cnd_))))
  exact Ev.val rfl
 ·obtain ⟨r, q1, q2, q3⟩ := key l 0 (a - l.length) rfl (by omega) (by omega) (by omega)
  refine ⟨r, ?_, by omega, fun hr => ⟨by omega, q3 hr⟩⟩
  simp only [laws_szStringS.f, e]
  (repeat (first | with_reducible refine Ev.bindS ?_ | (with_reducible refine Ev.ifp ?_ ?_; (· exact cnd_)) | (with_reducible refine Ev.ifn ?_ ?_; (· exact cnd_))))
  exact q1
def wgt (p : S110) : Nat := p.f0.length + p.f1.length + p.f2.length
def tot (P : List S110) : Nat := (P.map wgt).sum
theorem tot_take_succ {P : List S110} {i : Nat} {y : S110} (h : P[i]? = some y) : tot (P.take (i + 1)) = tot (P.take i) + wgt y := by
 obtain ⟨h1, h2⟩ := List.getElem?_eq_some_iff.1 h
 unfold tot
 rw [List.take_add_one, h, Option.toList_some, List.map_append, List.sum_append]
 simp
theorem tot_take_le : ∀ (P : List S110) (i : Nat), tot (P.take i) <= tot P
 | [], i => by simp
 | p :: P, 0 => by simp [tot]
 | p :: P, i + 1 => by
  have := tot_take_le P i
  unfold tot at *
  simp only [List.take_succ_cons, List.map_cons, List.sum_cons]
  omega
theorem markInts2_ev (l : List Int) (hl : l.length <= 1048576) (c : Int) (h0 : 0 <= c) (h1 : c <= 1000000000) :
  ∃ l' : List Int, l'.length = l.length /\ Ev (fun k => laws_markIntS.f k l c) (c + l.length, l') /\ Ev (fun k => laws_heldIntS.f k l' c) (c + l.length) := by
 refine ⟨l.mapIdx fun i _ => c + (i : Int), by simp, ?_, ?_⟩
 ·have h := mark_ev (fun k x a i => laws_markIntS.l0 k x a i) (fun i => c + (i : Int)) (fun i _ => c + (i : Int)) l ?_ ?_
  ·simp only [laws_markIntS.f]
   rw [show c + ((0 : Nat) : Int) = c by omega] at h
   exact h
  ·intro k x hx
   simp only [laws_markIntS.l0]
   rw [if_neg (by omega)]
  ·intro i y hy
   have hlt := (List.getElem?_eq_some_iff.1 hy).1
   refine ⟨0, fun k x hk hx _ => ?_⟩
   have e1 : wrap64 (c + (i : Int) + 1) = c + ((i + 1 : Nat) : Int) := by rw [wrap_ok (by omega) (by omega)]; omega
   simp only [laws_markIntS.l0]
   rw [if_pos (by omega), if_pos (by omega), wrap_succ (by omega), e1, Int.toNat_natCast]
 ·have key : ∀ (t : List Int) (i : Nat), (l.mapIdx fun i _ => c + (i : Int)).drop i = t -> i <= l.length -> Ev (fun k => laws_heldIntS.l0 k (l.mapIdx fun i _ => c + (i : Int)) (c + i) i) (c + l.length) := by
   intro t
   induction t with
   | nil =>
    intro i h hi
    have h2 := drop_nil h
    simp only [List.length_mapIdx] at h2
    have e : i = l.length := by omega
    (refine Ev.up ?_; simp only [laws_heldIntS.l0, decT])
    rw [List.length_mapIdx]
    (repeat (first | with_reducible refine Ev.bindS ?_ | (with_reducible refine Ev.ifp ?_ ?_; (· exact cnd_)) | (with_reducible refine Ev.ifn ?_ ?_; (· exact cnd_))))
    exact Ev.val (by rw [e])
   | cons x t ih =>
    intro i h hi
    obtain ⟨p1, p2, p3⟩ := drop_cons h
    rw [List.length_mapIdx] at p1
    have ih := ih (i + 1) p3 (by omega)
    have hx : x = c + (i : Int) := by
     rw [List.getElem?_mapIdx] at p2
     obtain ⟨y, _, hy⟩ := Option.map_eq_some_iff.1 p2
     exact hy.symm
    have e1 : wrap64 (c + (i : Int) + 1) = c + ((i + 1 : Nat) : Int) := by rw [wrap_ok (by omega) (by omega)]; omega
    (refine Ev.up ?_; simp only [laws_heldIntS.l0, decT])
    rw [List.length_mapIdx, rd_at p2, e1, wrap_succ (by omega)]
    (repeat (first | with_reducible refine Ev.bindS ?_ | (with_reducible refine Ev.ifp ?_ ?_; (· exact cnd_)) | (with_reducible refine Ev.ifn ?_ ?_; (· exact cnd_))))
    exact ih
  have h := key _ 0 rfl (by omega)
  simp only [laws_heldIntS.f]
  rw [show c + ((0 : Nat) : Int) = c by omega] at h
  exact h
structure MarkedP (p q : S110) (c : Int) : Prop where
 m0 : Ev (fun k => laws_markStringS.f k p.f0 c) (c + p.f0.length, q.f0)
 m1 : Ev (fun k => laws_markStringS.f k p.f1 (c + p.f0.length)) (c + p.f0.length + p.f1.length, q.f1)
 m2 : Ev (fun k => laws_markIntS.f k p.f2 (c + p.f0.length + p.f1.length)) (c + ((wgt p : Nat) : Int), q.f2)
 h0 : Ev (fun k => laws_heldStringS.f k q.f0 c) (c + p.f0.length)
 h1 : Ev (fun k => laws_heldStringS.f k q.f1 (c + p.f0.length)) (c + p.f0.length + p.f1.length)
 h2 : Ev (fun k => laws_heldIntS.f k q.f2 (c + p.f0.length + p.f1.length)) (c + ((wgt p : Nat) : Int))
theorem markPage2_ev (p : S110) (hp : wgt p <= 1048576) (c : Int) (h0 : 0 <= c) (h1 : c <= 900000000) : ∃ q : S110, MarkedP p q c := by
 have hw : wgt p = p.f0.length + p.f1.length + p.f2.length := rfl
 obtain ⟨l0, _, a0, b0⟩ := markStrs_ev p.f0 (by omega) c h0 (by omega)
 obtain ⟨l1, _, a1, b1⟩ := markStrs_ev p.f1 (by omega) (c + p.f0.length) (by omega) (by omega)
 obtain ⟨l2, _, a2, b2⟩ := markInts2_ev p.f2 (by omega) (c + p.f0.length + p.f1.length) (by omega) (by omega)
 have e : c + p.f0.length + p.f1.length + (p.f2.length : Int) = c + ((wgt p : Nat) : Int) := by rw [hw]; omega
 rw [e] at a2 b2
 exact ⟨⟨l0, l1, l2⟩, a0, a1, a2, b0, b1, b2⟩
theorem markPages2_ev (P : List S110) (hl : P.length <= 1048576) (ht : tot P <= 1048576) :
  ∃ u : List S110, Ev (fun k => laws_markPageS.f k P 1) (1 + ((tot P : Nat) : Int), u) /\ Ev (fun k => laws_heldTree.f k u 1) (1 + ((tot P : Nat) : Int)) := by
 have hw : ∀ {i : Nat} {y : S110}, P[i]? = some y -> tot (P.take i) + wgt y <= 1048576 := fun {i y} h => by
  have := tot_take_succ h
  have := tot_take_le P (i + 1)
  omega
 have ex : ∀ (i : Nat) (y : S110), ∃ q : S110, P[i]? = some y -> MarkedP y q (1 + ((tot (P.take i) : Nat) : Int)) := by
  intro i y
  by_cases h : P[i]? = some y
  ·have := hw h
   obtain ⟨q, hq⟩ := markPage2_ev y (by omega) (1 + ((tot (P.take i) : Nat) : Int)) (by omega) (by omega)
   exact ⟨q, fun _ => hq⟩
  ·exact ⟨y, fun h2 => absurd h2 h⟩
 obtain ⟨g, hg⟩ : ∃ g : Nat -> S110 -> S110, ∀ (i : Nat) (y : S110), P[i]? = some y -> MarkedP y (g i y) (1 + ((tot (P.take i) : Nat) : Int)) := ⟨fun i y => Classical.choose (ex i y), fun i y => Classical.choose_spec (ex i y)⟩
 refine ⟨P.mapIdx g, ?_, ?_⟩
 ·have h := mark_ev (fun k x a i => laws_markPageS.l0 k x a i) (fun i => 1 + (((tot (P.take i) : Nat) : Int) : Int)) g P ?_ ?_
  ·simp only [laws_markPageS.f]
   rw [show (1 : Int) + ((tot (P.take 0) : Nat) : Int) = 1 by simp [tot], List.take_length] at h
   exact h
  ·intro k x hx
   simp only [laws_markPageS.l0]
   rw [if_neg (by omega)]
  ·intro i y hy
   have hlt := (List.getElem?_eq_some_iff.1 hy).1
   obtain ⟨⟨K0, m0⟩, ⟨K1, m1⟩, ⟨K2, m2⟩, _, _, _⟩ := hg i y hy
   refine ⟨max K0 (max K1 K2), fun k x hk hx hxy => ?_⟩
   have a := m0 k (by omega)
   have b := m1 k (by omega)
   have c := m2 k (by omega)
   dsimp only at a b c
   have hrd : rd_T110 x (i : Int) = y := rdOf_at (z := z110) hxy
   have hs := tot_take_succ hy
   simp only [laws_markPageS.l0]
   rw [if_pos (by omega), if_pos (by omega), hrd, a, Option.bind_some]
   dsimp only
   rw [b, Option.bind_some]
   dsimp only
   rw [c, Option.bind_some, wrap_succ (by omega), Int.toNat_natCast, hs]
   dsimp only
   rw [show (1 : Int) + ((tot (P.take i) : Nat) : Int) + ((wgt y : Nat) : Int) = 1 + ((tot (P.take i) + wgt y : Nat) : Int) by omega]
 ·have key : ∀ (t : List S110) (i : Nat), (P.mapIdx g).drop i = t -> i <= P.length -> Ev (fun k => laws_heldPageS.l0 k (P.mapIdx g) (1 + ((tot (P.take i) : Nat) : Int)) i) (1 + ((tot P : Nat) : Int)) := by
   intro t
   induction t with
   | nil =>
    intro i h hi
    have h2 := drop_nil h
    simp only [List.length_mapIdx] at h2
    have e : i = P.length := by omega
    (refine Ev.up ?_; simp only [laws_heldPageS.l0, decT])
    rw [List.length_mapIdx]
    (repeat (first | with_reducible refine Ev.bindS ?_ | (with_reducible refine Ev.ifp ?_ ?_; (· exact cnd_)) | (with_reducible refine Ev.ifn ?_ ?_; (· exact cnd_))))
    exact Ev.val (by rw [e, List.take_length])
   | cons x t ih =>
    intro i h hi
    obtain ⟨p1, p2, p3⟩ := drop_cons h
    rw [List.length_mapIdx] at p1
    have ih := ih (i + 1) p3 (by omega)
    obtain ⟨y, hy, hx⟩ : ∃ y, P[i]? = some y /\ x = g i y := by
     rw [List.getElem?_mapIdx] at p2
     obtain ⟨y, h1, h2⟩ := Option.map_eq_some_iff.1 p2
     exact ⟨y, h1, h2.symm⟩
    obtain ⟨_, _, _, q0, q1, q2⟩ := hg i y hy
    have hrd : rd_T110 (P.mapIdx g) (i : Int) = g i y := (rdOf_at (z := z110) p2).trans hx
    have hs := tot_take_succ hy
    have hwy : wgt y = y.f0.length + y.f1.length + y.f2.length := rfl
    rw [show (1 : Int) + ((tot (P.take (i + 1)) : Nat) : Int) = 1 + ((tot (P.take i) : Nat) : Int) + ((wgt y : Nat) : Int) by omega] at ih
    (refine Ev.up ?_; simp only [laws_heldPageS.l0, decT])
    rw [List.length_mapIdx, hrd, wrap_succ (by omega)]
    (repeat (first | with_reducible refine Ev.bindS ?_ | (with_reducible refine Ev.ifp ?_ ?_; (· exact cnd_)) | (with_reducible refine Ev.ifn ?_ ?_; (· exact cnd_))))
    refine Ev.bind q0 ?_
    (repeat (first | with_reducible refine Ev.bindS ?_ | (with_reducible refine Ev.ifp ?_ ?_; (· exact cnd_)) | (with_reducible refine Ev.ifn ?_ ?_; (· exact cnd_))))
    refine Ev.bind q1 ?_
    (repeat (first | with_reducible refine Ev.bindS ?_ | (with_reducible refine Ev.ifp ?_ ?_; (· exact cnd_)) | (with_reducible refine Ev.ifn ?_ ?_; (· exact cnd_))))
    refine Ev.bind q2 ?_
    (repeat (first | with_reducible refine Ev.bindS ?_ | (with_reducible refine Ev.ifp ?_ ?_; (· exact cnd_)) | (with_reducible refine Ev.ifn ?_ ?_; (· exact cnd_))))
    exact ih
  have h := key _ 0 rfl (by omega)
  rw [show (1 : Int) + ((tot (P.take 0) : Nat) : Int) = 1 by simp [tot]] at h
  simp only [laws_heldTree.f]
  refine Ev.bind (a := 1 + ((tot P : Nat) : Int)) (by simp only [laws_heldPageS.f]; exact h) ?_
  (repeat (first | with_reducible refine Ev.bindS ?_ | (with_reducible refine Ev.ifp ?_ ?_; (· exact cnd_)) | (with_reducible refine Ev.ifn ?_ ?_; (· exact cnd_))))
  exact Ev.val rfl
mutual
theorem flat_small : ∀ (t : PT) (a : Nat), Bnd t -> ∀ p ∈ flatP t a, p.f0.length <= 4 /\ p.f1.length <= 4 /\ p.f2.length <= 5
 | .mk ks vs cs, a, hb, p, hp => by
  obtain ⟨⟨h1, h2, h3⟩, h4⟩ := Bnd_iff.1 hb
  rw [flatP] at hp
  rcases List.mem_cons.1 hp with rfl | hp
  ·have h1 : vs.length = ks.length := h1
   have h2 : ks.length <= 4 := h2
   have h3 : cs.length = 0 ∨ cs.length = ks.length + 1 := h3
   exact ⟨h2, by show vs.length <= 4; omega, by show (starts cs (a + 1)).length <= 5; rw [starts_len]; omega⟩
  ·exact flatL_small cs (a + 1) h4 p hp
theorem flatL_small : ∀ (l : List PT) (a : Nat), (∀ s ∈ l, Bnd s) -> ∀ p ∈ flatL l a, p.f0.length <= 4 /\ p.f1.length <= 4 /\ p.f2.length <= 5
 | [], _, _, p, hp => by cases hp
 | c :: cs, a, hb, p, hp => by
  rw [flatL] at hp
  rcases List.mem_append.1 hp with hp | hp
  ·exact flat_small c a (hb c List.mem_cons_self) p hp
  ·exact flatL_small cs (a + c.big) (fun s hs => hb s (List.mem_cons_of_mem _ hs)) p hp
end
theorem tot_small : ∀ P : List S110, (∀ p ∈ P, p.f0.length <= 4 /\ p.f1.length <= 4 /\ p.f2.length <= 5) -> tot P <= 13 * P.length
 | [], _ => by simp [tot]
 | p :: P, h => by
  have h1 := tot_small P fun q hq => h q (List.mem_cons_of_mem _ hq)
  have h2 := h p List.mem_cons_self
  unfold tot wgt at *
  rw [List.map_cons, List.sum_cons, List.length_cons]
  omega
theorem made_ok (r : List S110) (hl : r.length <= 1000) (hs : ∀ p ∈ r, p.f0.length <= 4 /\ p.f1.length <= 4 /\ p.f2.length <= 5) :
  Ev (fun k => laws_eqTree.f k r r) true /\ ∃ (m : Int) (u : List S110), 0 <= m /\ Ev (fun k => laws_markPageS.f k r 1) (m, u) /\ Ev (fun k => laws_heldTree.f k u 1) m := by
 have ht := tot_small r hs
 refine ⟨eqTree_ev r (by omega) (fun p hp => by have := hs p hp; unfold lenP; omega), ?_⟩
 obtain ⟨u, h1, h2⟩ := markPages2_ev r (by omega) (by omega)
 exact ⟨_, u, by omega, h1, h2⟩
theorem flat_ok {t : PT} (h : OkT t) (hl : (allP t).length <= 41) : (flatP t 0).length <= 1000 /\ ∀ p ∈ flatP t 0, p.f0.length <= 4 /\ p.f1.length <= 4 /\ p.f2.length <= 5 := by
 refine ⟨?_, flat_small t 0 h.bnd⟩
 rw [flat_len]
 have := h.small
 omega
theorem fold_ok : ∀ (K V : List ByteArray) (t : PT) (n : Nat), OkT t -> (allP t).length <= n -> OkT (foldW K V t) /\ (allP (foldW K V t)).length <= n + K.length
 | [], V, t, n, h, hn => by
  rw [show foldW [] V t = t by cases V <;> rfl]
  exact ⟨h, by omega⟩
 | k :: K, [], t, n, h, hn => ⟨h, by show (allP t).length <= _; omega⟩
 | k :: K, v :: V, t, n, h, hn => by
  obtain ⟨q1, q2⟩ := with_ok h k v
  have := insKV_len (k := k) (v := v) (allP t)
  obtain ⟨a, b⟩ := fold_ok K V (withP t k v) (n + 1) q1 (by rw [q2]; omega)
  refine ⟨a, ?_⟩
  rw [List.length_cons]
  have b : (allP (foldW (k :: K) (v :: V) t)).length <= _ := b
  omega
theorem build_small (K V : List ByteArray) : (buildR K V).1.length <= 1000 /\ ∀ p ∈ (buildR K V).1, p.f0.length <= 4 /\ p.f1.length <= 4 /\ p.f2.length <= 5 := by
 unfold buildR
 split
 ·rename_i h
  obtain ⟨a, b⟩ := fold_ok K V emptyP 0 empty_ok (Nat.le_refl _)
  exact flat_ok a (by omega)
 ·exact ⟨by simp, fun p hp => by cases hp⟩
theorem buildI_ev (K V : List ByteArray) (hK : K.length <= 2000000) (hV : V.length <= 2000000) : Ev (fun k => impl_BuildTree.f k K V) ((buildR K V).1, (buildR K V).2) := by
 simp only [impl_BuildTree.f, if_pos (And.intro hK hV)]
 refine Ev.bind (arePairs_ev K V (by omega) (by omega)) (Ev.val ?_)
 unfold buildR
 by_cases hl : K.length = V.length
 ·rw [pairs_chk K V hl.symm]
  by_cases h40 : K.length <= 40
  ·cases hc : chkS K V none with
   | true => rw [if_pos (by simp [h40]), if_pos ⟨hl, h40, rfl⟩]
   | false => rw [if_neg (by simp), if_neg (by rintro ⟨_, _, c⟩; cases c)]
  ·rw [if_neg (by simp [h40]), if_neg (fun c => h40 c.2.1)]
 ·rw [if_neg (by unfold pairsOk; simp; intro _ e; exact absurd e.symm hl), if_neg (fun c => hl c.1)]
theorem FnExactBuildTree : ∀ (l0 l1 : List ByteArray), (l0.length <= maxLen /\ ∀ y ∈ l0, y.size <= maxLen) -> (l1.length <= maxLen /\ ∀ y ∈ l1, y.size <= maxLen) -> ∃ k, laws_FnExactBuildTree.Runs k l0 l1 := by
 intro l0 l1 h0 h1
 obtain ⟨r, ⟨Kr, hr⟩, hle, hb⟩ := szStrs_ev2 l0 h0.1 h0.2 1048576 (by omega) (by omega)
 by_cases c : r < 0
 ·exact ⟨Kr, r, hr Kr (Nat.le_refl _), .inl c⟩
 obtain ⟨g1, g2⟩ := hb (by omega)
 obtain ⟨s, ⟨Ks, hs⟩, hle2, hb2⟩ := szStrs_ev2 l1 h1.1 h1.2 r (by omega) (by omega)
 by_cases c2 : s < 0
 ·exact ⟨Kr + Ks, r, hr _ (by omega), .inr ⟨by omega, s, hs _ (by omega), .inl c2⟩⟩
 obtain ⟨g3, g4⟩ := hb2 (by omega)
 obtain ⟨K1, t0⟩ := toStrs_ev l0 (by omega)
 obtain ⟨K2, t1⟩ := toStrs_ev l1 (by omega)
 obtain ⟨K3, e0⟩ := eqStrs_ev l0 (by omega)
 obtain ⟨K4, e1⟩ := eqStrs_ev l1 (by omega)
 obtain ⟨y0, _, ⟨K5, m0⟩, _⟩ := markStrs_ev l0 (by omega) 1 (by omega) (by omega)
 obtain ⟨y1, _, ⟨K6, m1⟩, _⟩ := markStrs_ev l1 (by omega) (1 + l0.length) (by omega) (by omega)
 obtain ⟨K7, hi⟩ := buildI_ev l0 l1 (by omega) (by omega)
 have hsp : spec_BuildTree.f l0 l1 = some ((buildR l0 l1).1, (buildR l0 l1).2) := by
  unfold spec_BuildTree.f
  rw [if_pos ⟨by omega, by omega⟩]
 obtain ⟨q1, q2⟩ := build_small l0 l1
 obtain ⟨⟨K8, h4⟩, m, z, hm0, ⟨K9, h7⟩, ⟨K10, h8⟩⟩ := made_ok _ q1 q2
 exact ⟨Kr + Ks + K1 + K2 + K3 + K4 + K5 + K6 + K7 + K8 + K9 + K10, r, hr _ (by omega), .inr ⟨by omega, s, hs _ (by omega), .inr ⟨by omega, l0, l1, _, _, _, y0, _, y1, m, z, t0 _ (by omega), t1 _ (by omega), hsp, hi _ (by omega), h4 _ (by omega), e0 _ (by omega), e1 _ (by omega), m0 _ (by omega), m1 _ (by omega), h7 _ (by omega), h8 _ (by omega), by omega, hm0⟩⟩⟩
end Go.Proofs.Ytoddejmlcnbdmaa.Pure
namespace Go.Proofs.Ytoddejmlcnbdmaa.OpenA
open Go.Deep Go.ChangeShapes Go.Joins Go.Proofs.YtoddejmlcnbdmaaW
def Op (P : Program) (t : TypeId) {α : Type} (d : Kd α) (Wf : α -> Prop) : Prop :=
 ∀ {H : Type} {enc : TypeId × Value -> H} {w : World} {base : Nat} {spare : Nat -> Bool} {held : Bool} {fuel : Nat} {cs : List Value} {x : DataW H × List MemPlace},
  DataW.trod enc P w base spare held fuel t cs = some x -> ∃ a : α, d.K w a cs /\ Wf a
variable {P : Program} {t e : TypeId}
theorem op_string (hu : P.underlying t = some .string) : Op P t Kd.string (fun s => s.size <= maxLen) := by
 intro H enc w base spare held fuel cs x h
 obtain ⟨s, rfl, _, hs⟩ := DataW.trod_string hu h
 exact ⟨s, rfl, hs⟩
theorem cells_of {w : World} {base : Nat} {a : Addr} {n : Nat} {cs : List Value} (h : w.cells? base a n = some cs) : cs.length = n /\ ∀ j u, cs[j]? = some u -> w.cell? (a.add j) = some u := by
 unfold World.cells? at h
 split at h
 ·have hl := mapM_some_length h
  refine ⟨by simpa using hl, fun j u hj => ?_⟩
  have hlt : j < n := by
   have := (List.getElem?_eq_some_iff.1 hj).1
   have : cs.length = n := by simpa using hl
   omega
  have := mapM_some_get h j j (by simp [hlt])
  rw [hj] at this
  exact this
 ·simp at h
theorem op_slice {α : Type} {d : Kd α} {Wf : α -> Prop} (hu : P.underlying t = some (.slice e)) (hc : P.cellsOf e = d.sz) (h : Op P e d Wf) :
  Op P t (Kd.slice e d) (fun xs => xs.length <= maxLen /\ ∀ x ∈ xs, Wf x) := by
 intro H enc w base spare held fuel cs x hf
 rcases open_slice hu hf with ⟨rfl, _⟩ | ⟨a, len, cap, m, n, D, Pl, rfl, _, hl, hm, hmm, hxe, hall⟩
 ·exact ⟨[], ⟨none, 0, rfl, Nat.le_refl _, rfl, by simp, fun h => absurd h (by simp)⟩, by simp, by simp⟩
 ·have hlm : len <= m := by rw [hmm]; split <;> omega
  have hx : ∀ i, i < len -> ∃ y : α × List Value, w.cells? base (a.add (i * P.cellsOf e)) (P.cellsOf e) = some y.2 /\ d.K w y.1 y.2 /\ Wf y.1 := by
   intro i hi
   obtain ⟨cs', h1, h2⟩ := hall i (by omega)
   obtain ⟨y, h3, h4⟩ := h h2
   exact ⟨⟨y, cs'⟩, h1, h3, h4⟩
  have hx' : ∃ ys : List (α × List Value), ys.length = len /\ ∀ i y, ys[i]? = some y -> w.cells? base (a.add (i * P.cellsOf e)) (P.cellsOf e) = some y.2 /\ d.K w y.1 y.2 /\ Wf y.1 := by
   clear hall hf hmm hlm hl hm hxe
   induction len with
   | zero => exact ⟨[], rfl, by simp⟩
   | succ len ih =>
    obtain ⟨ys, h1, h2⟩ := ih (fun i hi => hx i (by omega))
    obtain ⟨y, hy⟩ := hx len (by omega)
    refine ⟨ys ++ [y], by simp [h1], fun i z hz => ?_⟩
    rcases Nat.lt_or_ge i ys.length with hi | hi
    ·rw [List.getElem?_append_left hi] at hz
     exact h2 i z hz
    ·rw [List.getElem?_append_right hi] at hz
     have h0 : i - ys.length = 0 := by
      rcases Nat.eq_zero_or_pos (i - ys.length) with h0 | h0
      ·exact h0
      ·rw [List.getElem?_eq_none (by simp; omega)] at hz
       cases hz
     rw [h0] at hz
     have hz' : y = z := by simpa using hz
     have : i = len := by omega
     subst this
     subst hz'
     exact hy
  obtain ⟨ys, hl2, hys⟩ := hx'
  have hlen : (ys.map (·.1)).length = len := by simp [hl2]
  refine ⟨ys.map (·.1), ⟨some a, cap, by rw [hlen], by omega, ?_⟩, by simp only [maxLen] at *; omega, ?_⟩
  ·refine ⟨rfl, by rw [hlen]; simp only [maxLen] at hm; omega, fun _ => ⟨a, rfl, fun j p hj => ?_⟩⟩
   rw [List.getElem?_map] at hj
   obtain ⟨y, hy, rfl⟩ := Option.map_eq_some_iff.1 hj
   obtain ⟨h1, h2, _⟩ := hys j y hy
   obtain ⟨h3, h4⟩ := cells_of h1
   refine ⟨y.2, by rw [h3, hc], h2, fun i u hu => ?_⟩
   have := h4 i u hu
   rw [PrintWords.add_add, hc] at this
   exact this
  ·intro x hx
   obtain ⟨y, hy, rfl⟩ := List.mem_map.1 hx
   obtain ⟨i, hi⟩ := List.mem_iff_getElem?.1 hy
   exact (hys i y hi).2.2
theorem len1 {l : List Value} (h : l.length = 1) : ∃ a, l = [a] := by
 match l, h with
 | [a], _ => exact ⟨a, rfl⟩
end Go.Proofs.Ytoddejmlcnbdmaa.OpenA
namespace Go.Proofs.Ytoddejmlcnbdmaa.fnExactBuildTree
open Go.ChangeShapes Go.WideShapes Go.ChangeAt Go.Proofs.Ytoddejmlcnbdmaa.Fn Go.Proofs.Ytoddejmlcnbdmaa.OpenA
open Go.ChangeMaps (open_string shut_string)
theorem own : ownKnob Try.prog.godebug = none := by kernel_rfl
theorem laidOut : laidOutB Try.prog = true := by kernel_rfl
theorem lifted (os : Os) (started : os.Started) (H : Type) (enc : TypeId × Value -> H) :
    ReturnsInHanded {} Try.checked os 12 .any (Rows.fnExactBuildTreeSpec.pre6 enc Try.prog Try.f12 Rows.fnExactBuildTreeRow.domain false) (Rows.fnExactBuildTreeSpec.post enc Try.prog Try.f12 false true false false) := by
  refine returnsInHanded_of_change_sized (C := Try.checked) own started (by kernel_rfl) Try.func12
    (ChangeSpec.witness6 (enc := enc) (C := Try.checked) false ⟨#[], #[.slice none 0 0, .slice none 0 0], []⟩ 8 (by kernel_rfl) (by kernel_rfl) (by kernel_rfl) (by kernel_rfl)) ?_
  intro W base args ds gs before hval0 hW hcnd hsz0 _
  have hsz : (DataW.weightsEach Try.prog (Try.f12.params.toList ++ Rows.fnExactBuildTreeSpec.plain.varTypes Try.prog) (ds ++ gs)).all (· <= reachBytes) = true := hsz0
  have hval : ∀ (j : Nat) t v, Try.f12.params[j]? = some t -> args[j]? = some v -> Value.okWide Try.prog W .any base t v := hval0
  have hW' := hW
  obtain ⟨p, q, hA0, hV, rfl, hfz, hnd⟩ := hW
  have hA : DataW.TrodAll enc Try.prog W 0 (fun _ => true) true Try.f12.params.toList args.toList ds p := hA0
  rw [Try.params12] at hA hval hsz
  obtain ⟨v0, vs0, d0, ds0, p0, q0, hargs, rfl, rfl, h0, r0⟩ := trodAll_cons hA
  obtain ⟨v1, vs1, d1, ds1, p1, q1, rfl, rfl, rfl, h1, r1⟩ := trodAll_cons r0
  obtain ⟨rfl, rfl, rfl⟩ := trodAll_nil r1
  obtain rfl : args = #[v0, v1] := by cases args; simp_all
  obtain ⟨rfl, rfl⟩ := trodVars_none hV
  obtain ⟨a0, len0, cap0, rfl⟩ := okWide_slice Try.underlying38 (hval 0 38 v0 rfl rfl)
  have k0 := h0
  have lt0 : ∀ x ∈ p0, x.block < W.heap.size := by obtain ⟨m, hm⟩ := k0; exact DataW.trod_lt m _ _ _ hm
  obtain ⟨fuel0, hf0⟩ := h0
  obtain ⟨l0, hK0, hw0⟩ := (op_slice Try.underlying38 (by kernel_rfl) (op_string Try.underlying9)) hf0
  obtain ⟨A0, c0, e0, hc0, hr0⟩ := hK0
  simp [Value.cells] at e0
  obtain ⟨rfl, rfl, rfl⟩ := e0
  obtain ⟨a1, len1, cap1, rfl⟩ := okWide_slice Try.underlying38 (hval 1 38 v1 rfl rfl)
  have k1 := h1
  have lt1 : ∀ x ∈ p1, x.block < W.heap.size := by obtain ⟨m, hm⟩ := k1; exact DataW.trod_lt m _ _ _ hm
  obtain ⟨fuel1, hf1⟩ := h1
  obtain ⟨l1, hK1, hw1⟩ := (op_slice Try.underlying38 (by kernel_rfl) (op_string Try.underlying9)) hf1
  obtain ⟨A1, c1, e1, hc1, hr1⟩ := hK1
  simp [Value.cells] at e1
  obtain ⟨rfl, rfl, rfl⟩ := e1
  clear hA0 hval0 hsz0 hsz
  obtain ⟨k, h⟩ := Pure.FnExactBuildTree l0 l1 hw0 hw1
  refine (laws_FnExactBuildTree.calls k _ _ l0 _ _ l1 true W hr0 hc0 hr1 hc1 h rfl).mono fun e W' ⟨he, bel0⟩ => ?_
  have bel : Below W.heap.size W W' := bel0
  subst he
  exact ⟨_, rfl, _, _, _, [], _, [], hW', trodAll_mk1 (shut_bool Try.underlying4 _), (trodAll_cons_mk (Below.trod laidOut (by kernel_rfl) (of_decide_eq_true (by kernel_rfl)) k0 bel lt0) (trodAll_cons_mk (Below.trod laidOut (by kernel_rfl) (of_decide_eq_true (by kernel_rfl)) k1 bel lt1) trodAll_mk0)), rfl, bel.frame _, fun h => by cases h⟩
theorem over : Rows.fnExactBuildTreeRow.holds Try.pinned (OpenSpec.ofChange Rows.fnExactBuildTreeSpec) :=
  OpenClaim.holds_of_wide 12 Try.f12 rfl rfl rfl rfl rfl rfl rfl ⟨rfl, rfl, rfl, rfl, rfl⟩ rfl rfl rfl rfl rfl (by kernel_rfl) Try.func12 (by kernel_rfl)
    (of_decide_eq_true (by kernel_rfl)) (by unfold Func.isWrapper; first | (rw [if_pos (by decide +kernel)]; kernel_rfl) | (rw [if_neg (by decide +kernel)]; exact ⟨rfl, rfl⟩))
    (fun os started H enc _ => lifted os started H enc)
theorem proved : Rows.FnExactBuildTreeSaid := over
#print axioms proved
end Go.Proofs.Ytoddejmlcnbdmaa.fnExactBuildTree
namespace Go.Proofs.Ytoddejmlcnbdmaa
/-- The row, under a short name, for the claim. -/
theorem fnExactBuildTree_holds : Rows.FnExactBuildTreeSaid := fnExactBuildTree.proved
end Go.Proofs.Ytoddejmlcnbdmaa

