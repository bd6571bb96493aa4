/- The law FnExactPutKey holds of the given program: at every input it answers true and leaves its arguments as they were; no condition. -/
import Derived.Test.YtoddejmlcnbdmaaQWWords
import Derived.ChangeArms
import Derived.ChangeSame
import Derived.Deep.Slices
import Derived.Deep.Strs
import Derived.Deep.Fields
import Derived.Lib.SmallJoins
import Derived.WideShapes
import Derived.Test.YtoddejmlcnbdmaaRows
import Derived.WalkKit
import Derived.ProofKit
import Derived.OpenShut
import Derived.ShutString
import Derived.ChangeOld
import Derived.Below
import Derived.SizedLaws
import Derived.Carry
import Derived.Test.YtoddejmlcnbdmaaCXPutKeyA
import Derived.Test.YtoddejmlcnbdmaaCXPutKeyB
import Derived.Test.YtoddejmlcnbdmaaCXPutKeyC
import Derived.Test.YtoddejmlcnbdmaaCXPutKeyD
set_option maxHeartbeats 8000000
set_option maxRecDepth 100000
set_option linter.unusedSimpArgs false
set_option linter.unusedVariables false
open Go.Proofs.Ytoddejmlcnbdmaa.Fn Go.Proofs.Ytoddejmlcnbdmaa.Tree
open Go.RowKit Go.Proofs.YtoddejmlcnbdmaaW.PrintWords Go.Proofs.YtoddejmlcnbdmaaW.PrintLast Go.Proofs.YtoddejmlcnbdmaaW.PrintMore Go.Proofs.Ytoddejmlcnbdmaa.Gen
namespace Go.Proofs.Ytoddejmlcnbdmaa.Fn
def laws_FnExactPutKey.Runs (k : Nat) (l : List S115) (a1 : ByteArray) (a2 : ByteArray) : Prop := (1048576 < (a1.size : Int)) ∨ ((a1.size : Int) <= 1048576 /\ ((1048576 < (a2.size : Int)) ∨ ((a2.size : Int) <= 1048576 /\ (∃ left : Int, laws_szTree.f k l 1048576 = some left /\ (left < 0 ∨ (0 <= left /\ ∃ (p r : List S110) (b : Bool) (m0 : Int) (z0 : List S110) (m1 : Int) (z1 : List S110),
 laws_toTree.f k l = some p /\ spec_PutKey.f p a1 a2 = some (r, b) /\ impl_PutKey.f k p a1 a2 = some (r, b) /\ laws_eqTree.f k r r = some true /\ laws_eqTree.f k p p = some true /\ laws_markPageS.f k p 1 = some (m0, z0) /\ laws_markPageS.f k r 1 = some (m1, z1) /\ laws_heldTree.f k z1 1 = some m1 /\ 0 <= m0 /\ 0 <= m1))))))
theorem laws_FnExactPutKey.calls (k : Nat) (A0 : Option Addr) (c0 : Nat) (l : List S115) (a1 : ByteArray) (a2 : ByteArray) (r0 : Bool) (w : World) (hr0 : Kd.C k115 w A0 l.length l) (hc0 : l.length <= c0) (h : laws_FnExactPutKey.Runs k l a1 a2) (ht : r0 = true) :
  Calls Try.prog 10 #[.agg #[.slice A0 l.length c0], .string a1, .string a2] w fun e w' => e = .returned (.bool r0) /\ Below w.heap.size w w' := by
 have hu24 := Try.underlying24
 have hu29 := Try.underlying29
 subst ht
 have HR0 := A_ hr0
 have HC0 := A_ hc0
 have HB := A_ (Below.refl w.heap.size w)
 clear hr0 hc0
 unfold laws_FnExactPutKey.Runs at h
 rcases h with h | ⟨hg1, h⟩
 ·have cg1 : decide (1048576 < (a1.size : Int)) = true := decide_eq_true h
  clear h
  go_enter Try.func10, Try.ntmps10
  go_wp2_with (first | ((with_reducible refine gate_dst (N := 3) rfl ?_); refine box_event ?hg (N := 3) ?hd (cs := #[.slice A0 l.length c0]) (t := 24) ?hr ?_; (case hd => rfl); (case hg => rfl); (case hr => first | (go_simp; done) | (go_simp; rfl)); intro ga hg w1_ hbox hb; have O_ga := A_ (show w.heap.size <= ga from by rw [hg]; exact bw_ HB.out); have LW_ga := A_ (show w.heap.size <= ga from by rw [hg]; exact bw_ HB.out); have N_HB := A_ (bs_ HB.out hb); clear HB; have HB := N_HB; clear N_HB; have HS := A_ (show ga + 1 <= _ from blk_lt hbox); have BA := A_ hbox; have hzA : World.cell? _ ⟨ga, 0, none⟩ = some (.slice A0 l.length c0) := (blk_cell BA.out 0).trans rfl; clear hg hbox hb))
  go_ret
  exact ⟨by first | rfl | (simp; done), (be_ HB.out)⟩
 have cg1 : decide (1048576 < (a1.size : Int)) = false := decide_eq_false (by omega)
 clear hg1
 rcases h with h | ⟨hg2, h⟩
 ·have cg2 : decide (1048576 < (a2.size : Int)) = true := decide_eq_true h
  clear h
  go_enter Try.func10, Try.ntmps10
  go_wp2_with (first | ((with_reducible refine gate_dst (N := 3) rfl ?_); refine box_event ?hg (N := 3) ?hd (cs := #[.slice A0 l.length c0]) (t := 24) ?hr ?_; (case hd => rfl); (case hg => rfl); (case hr => first | (go_simp; done) | (go_simp; rfl)); intro ga hg w1_ hbox hb; have O_ga := A_ (show w.heap.size <= ga from by rw [hg]; exact bw_ HB.out); have LW_ga := A_ (show w.heap.size <= ga from by rw [hg]; exact bw_ HB.out); have N_HB := A_ (bs_ HB.out hb); clear HB; have HB := N_HB; clear N_HB; have HS := A_ (show ga + 1 <= _ from blk_lt hbox); have BA := A_ hbox; have hzA : World.cell? _ ⟨ga, 0, none⟩ = some (.slice A0 l.length c0) := (blk_cell BA.out 0).trans rfl; clear hg hbox hb))
  go_ret
  exact ⟨by first | rfl | (simp; done), (be_ HB.out)⟩
 have cg2 : decide (1048576 < (a2.size : Int)) = false := decide_eq_false (by omega)
 clear hg2
 obtain ⟨left, h0, h⟩ := h
 have E0 := A_ h0
 clear h0
 rcases h with h | ⟨hl0, h⟩
 ·have cl : decide (left < 0) = true := decide_eq_true h
  clear h
  go_enter Try.func10, Try.ntmps10
  go_wp2_with (first | ((with_reducible refine gate_dst (N := 3) rfl ?_); refine box_event ?hg (N := 3) ?hd (cs := #[.slice A0 l.length c0]) (t := 24) ?hr ?_; (case hd => rfl); (case hg => rfl); (case hr => first | (go_simp; done) | (go_simp; rfl)); intro ga hg w1_ hbox hb; have O_ga := A_ (show w.heap.size <= ga from by rw [hg]; exact bw_ HB.out); have LW_ga := A_ (show w.heap.size <= ga from by rw [hg]; exact bw_ HB.out); have N_HB := A_ (bs_ HB.out hb); clear HB; have HB := N_HB; clear N_HB; have HS := A_ (show ga + 1 <= _ from blk_lt hbox); have BA := A_ hbox; have hzA : World.cell? _ ⟨ga, 0, none⟩ = some (.slice A0 l.length c0) := (blk_cell BA.out 0).trans rfl; clear hg hbox hb) | (go_at_call 15; (with_reducible refine (laws_szTree.calls k _ _ l 1048576 left _ ?side1 HC0.out E0.out).mono ?_); (case side1 => exact Kd.C_below HR0.out (be_ HB.out)); rintro e w2_ ⟨rfl, hb⟩; have N_BA := A_ (blk_below (g := ga) (o := .cells #[.slice A0 l.length c0] 24 (0, 0)) (pk_ BA.out) hb); have N_HB := A_ (bs_ HB.out hb); have N_HS := A_ (show ga + 1 <= _ from Nat.le_trans (by exact HS.out) (Below.size hb)); clear BA HB HS; have BA := N_BA; have HB := N_HB; have HS := N_HS; clear N_BA N_HB N_HS; (try clear hzA); have hzA : World.cell? _ ⟨ga, 0, none⟩ = some (.slice A0 l.length c0) := (blk_cell BA.out 0).trans rfl; clear hb))
  go_ret
  exact ⟨by first | rfl | (simp; done), (be_ HB.out)⟩
 have cl : decide (left < 0) = false := decide_eq_false (by omega)
 clear hl0
 obtain ⟨p, r, b, m0, z0, m1, z1, h1, h2, h3, h4, h5, h6, h7, h8, h9, h10⟩ := h
 have E1 := A_ h1
 have E2 := A_ h2
 have E3 := A_ h3
 have E4 := A_ h4
 have E5 := A_ h5
 have E6 := A_ h6
 have E7 := A_ h7
 have E8 := A_ h8
 have cm0 : decide (m0 < 0) = false := decide_eq_false (by omega)
 have cm1 : decide (m1 < 0) = false := decide_eq_false (by omega)
 have cmm : (m1 != m1) = false := by simp
 have cbb : (b != b) = false := by simp
 clear h1 h2 h3 h4 h5 h6 h7 h8 h9 h10
 go_enter Try.func10, Try.ntmps10
 go_upto_region 10 with (first | ((with_reducible refine gate_dst (N := 3) rfl ?_); refine box_event ?hg (N := 3) ?hd (cs := #[.slice A0 l.length c0]) (t := 24) ?hr ?_; (case hd => rfl); (case hg => rfl); (case hr => first | (go_simp; done) | (go_simp; rfl)); intro ga hg w1_ hbox hb; have O_ga := A_ (show w.heap.size <= ga from by rw [hg]; exact bw_ HB.out); have LW_ga := A_ (show w.heap.size <= ga from by rw [hg]; exact bw_ HB.out); have N_HB := A_ (bs_ HB.out hb); clear HB; have HB := N_HB; clear N_HB; have HS := A_ (show ga + 1 <= _ from blk_lt hbox); have BA := A_ hbox; have hzA : World.cell? _ ⟨ga, 0, none⟩ = some (.slice A0 l.length c0) := (blk_cell BA.out 0).trans rfl; clear hg hbox hb) | (go_at_call 15; (with_reducible refine (laws_szTree.calls k _ _ l 1048576 left _ ?side1 HC0.out E0.out).mono ?_); (case side1 => exact Kd.C_below HR0.out (be_ HB.out)); rintro e w2_ ⟨rfl, hb⟩; have N_BA := A_ (blk_below (g := ga) (o := .cells #[.slice A0 l.length c0] 24 (0, 0)) (pk_ BA.out) hb); have N_HB := A_ (bs_ HB.out hb); have N_HS := A_ (show ga + 1 <= _ from Nat.le_trans (by exact HS.out) (Below.size hb)); clear BA HB HS; have BA := N_BA; have HB := N_HB; have HS := N_HS; clear N_BA N_HB N_HS; (try clear hzA); have hzA : World.cell? _ ⟨ga, 0, none⟩ = some (.slice A0 l.length c0) := (blk_cell BA.out 0).trans rfl; clear hb) | (go_at_call 17; (with_reducible refine (laws_toTree.callsP k _ _ l p _ ?side1 HC0.out E1.out).mono ?_); (case side1 => exact Kd.C_below HR0.out (be_ HB.out)); rintro e w3_ ⟨vHP1, rfl, ho, hb⟩; obtain ⟨AHP1, cHP1, ev_⟩ := Kd.S_slice ho; subst ev_; obtain ⟨nHP1, mHP1, o1_, o2_, o3_, hr_⟩ := Kd.S_iv (last := ga + 1) ho hb (be_ HB.out) (show ga + 1 <= _ from HS.out); have O_HP1 := A_ (And.intro o1_ o2_); have N_BA := A_ (blk_below (g := ga) (o := .cells #[.slice A0 l.length c0] 24 (0, 0)) (pk_ BA.out) hb); have N_HB := A_ (bs_ HB.out hb); have N_HS := A_ (show ga + 1 <= _ from Nat.le_trans (by exact HS.out) (Below.size hb)); clear BA HB HS; have BA := N_BA; have HB := N_HB; have HS := N_HS; clear N_BA N_HB N_HS; (try clear hzA); have hzA : World.cell? _ ⟨ga, 0, none⟩ = some (.slice A0 l.length c0) := (blk_cell BA.out 0).trans rfl; clear HS; have HS := A_ o3_; have HP1 := A_ hr_; clear hb ho hr_ o1_ o2_ o3_) | (go_at_call 36; (with_reducible refine (spec_PutKey.callsS _ _ p a1 a2 r b _ ?side1 ?side2 E2.out).mono ?_); (case side1 => refine cd_ ?_; exact kp110_C (Kd.S_reads' HP1.out).2.2); (case side2 => exact (Kd.S_reads' HP1.out).2.1); rintro e w4_ ⟨vHW, rfl, ho, hb⟩; obtain ⟨AHW, cHW, ev_⟩ := Kd.S_slice ho; subst ev_; obtain ⟨nHW, mHW, o1_, o2_, o3_, hr_⟩ := Kd.S_iv (last := mHP1) ho hb (be_ HB.out) (show mHP1 <= _ from HS.out); have O_HW := A_ (And.intro o1_ o2_); have N_BA := A_ (blk_below (g := ga) (o := .cells #[.slice A0 l.length c0] 24 (0, 0)) (pk_ BA.out) hb); have N_HP1 := A_ (Kd.S_below (sk_ HP1.out) hb); have N_HB := A_ (bs_ HB.out hb); have N_HS := A_ (show mHP1 <= _ from Nat.le_trans (by exact HS.out) (Below.size hb)); clear BA HP1 HB HS; have BA := N_BA; have HP1 := N_HP1; have HB := N_HB; have HS := N_HS; clear N_BA N_HP1 N_HB N_HS; (try clear hzA); have hzA : World.cell? _ ⟨ga, 0, none⟩ = some (.slice A0 l.length c0) := (blk_cell BA.out 0).trans rfl; clear HS; have HS := A_ o3_; have HW := A_ hr_; clear hb ho hr_ o1_ o2_ o3_) | ((with_reducible refine gate_dst (N := 8) rfl ?_); refine box_event ?hg (N := 8) ?hd (cs := #[.slice none 0 0]) (t := 29) ?hr ?_; (case hd => rfl); (case hg => rfl); (case hr => first | (go_simp; done) | (go_simp; rfl)); clear HP1; intro gw hg w5_ hbox hb; have O_gw := A_ (show mHW <= gw from by rw [hg]; exact (show _ <= _ from HS.out)); have LW_gw := A_ (show w.heap.size <= gw from by rw [hg]; exact bw_ HB.out); have N_BA := A_ (blk_below (g := ga) (o := .cells #[.slice A0 l.length c0] 24 (0, 0)) (pk_ BA.out) hb); have N_HW := A_ (Kd.S_below (sk_ HW.out) hb); have N_HB := A_ (bs_ HB.out hb); have N_HS := A_ (show mHW <= _ from Nat.le_trans (by exact HS.out) (Below.size hb)); clear BA HW HB HS; have BA := N_BA; have HW := N_HW; have HB := N_HB; have HS := N_HS; clear N_BA N_HW N_HB N_HS; (try clear hzA); have hzA : World.cell? _ ⟨ga, 0, none⟩ = some (.slice A0 l.length c0) := (blk_cell BA.out 0).trans rfl; clear HS; have HS := A_ (show gw + 1 <= _ from blk_lt hbox); have BX := A_ hbox; have hcz_ := (blk_cell hbox 0).trans rfl; have hfz_ := blk_frozen hbox 0; clear hg hbox hb))
 have N_HB := A_ (below_set (j := 0) (v := .slice AHW r.length cHW) HB.out LW_gw.out)
 have N_BA := A_ (blk_away BA.out (p := ⟨gw, 0, none⟩) (show ga ≠ gw from by have := O_ga.out; have := O_HP1.out; have := O_HW.out; have := O_gw.out; omega) (.slice AHW r.length cHW))
 have N_HW := A_ (Kd.S_far (p := ⟨gw, 0, none⟩) HW.out (fun k_ h_ => show k_ ≠ gw from by have := O_ga.out; have := O_HP1.out; have := O_HW.out; have := O_gw.out; have h2_ : nHW <= k_ /\ k_ < mHW := h_; omega) (.slice AHW r.length cHW))
 have BW := A_ (tree_box (v := .slice AHW r.length cHW) BX.out)
 have N_HS := A_ (show gw + 1 <= _ from blk_lt BW.out)
 generalize hWW : World.setCell _ ⟨gw, 0, none⟩ (.slice AHW r.length cHW) = wSw at N_HB N_BA N_HW BW N_HS ⊢
 clear hWW HB BA HW BX HS hzA hcz_ hfz_
 have HB := N_HB
 have BA := N_BA
 have HW := N_HW
 have HS := N_HS
 clear N_HB N_HS N_BA N_HW
 have hzA : World.cell? _ ⟨ga, 0, none⟩ = some (.slice A0 l.length c0) := (blk_cell BA.out 0).trans rfl
 have hzw : World.cell? _ ⟨gw, 0, none⟩ = some (.slice AHW r.length cHW) := (blk_cell BW.out 0).trans rfl
 go_upto_region 11 with (first | (go_at_call 17; (with_reducible refine (laws_toTree.callsP k _ _ l p _ ?side1 HC0.out E1.out).mono ?_); (case side1 => exact Kd.C_below HR0.out (be_ HB.out)); rintro e w6_ ⟨vHP, rfl, ho, hb⟩; obtain ⟨AHP, cHP, ev_⟩ := Kd.S_slice ho; subst ev_; obtain ⟨nHP, mHP, o1_, o2_, o3_, hr_⟩ := Kd.S_iv (last := gw + 1) ho hb (be_ HB.out) (show gw + 1 <= _ from HS.out); have O_HP := A_ (And.intro o1_ o2_); have N_BA := A_ (blk_below (g := ga) (o := .cells #[.slice A0 l.length c0] 24 (0, 0)) (pk_ BA.out) hb); have N_HW := A_ (Kd.S_below (sk_ HW.out) hb); have N_BW := A_ (blk_below (g := gw) (o := .cells #[.slice AHW r.length cHW] 29 (0, 0)) (pk_ BW.out) hb); have N_HB := A_ (bs_ HB.out hb); have N_HS := A_ (show gw + 1 <= _ from Nat.le_trans (by exact HS.out) (Below.size hb)); clear BA HW BW HB HS; have BA := N_BA; have HW := N_HW; have BW := N_BW; have HB := N_HB; have HS := N_HS; clear N_BA N_HW N_BW N_HB N_HS; (try clear hzA); have hzA : World.cell? _ ⟨ga, 0, none⟩ = some (.slice A0 l.length c0) := (blk_cell BA.out 0).trans rfl; (try clear hzw); have hzw : World.cell? _ ⟨gw, 0, none⟩ = some (.slice AHW r.length cHW) := (blk_cell BW.out 0).trans rfl; clear HS; have HS := A_ o3_; have HP := A_ hr_; clear hb ho hr_ o1_ o2_ o3_) | ((with_reducible refine gate_dst (N := 10) rfl ?_); refine box_event ?hg (N := 10) ?hd (cs := #[.slice none 0 0]) (t := 29) ?hr ?_; (case hd => rfl); (case hg => rfl); (case hr => first | (go_simp; done) | (go_simp; rfl)); intro gx hg w7_ hbox hb; have O_gx := A_ (show mHP <= gx from by rw [hg]; exact (show _ <= _ from HS.out)); have LW_gx := A_ (show w.heap.size <= gx from by rw [hg]; exact bw_ HB.out); have N_BA := A_ (blk_below (g := ga) (o := .cells #[.slice A0 l.length c0] 24 (0, 0)) (pk_ BA.out) hb); have N_HW := A_ (Kd.S_below (sk_ HW.out) hb); have N_BW := A_ (blk_below (g := gw) (o := .cells #[.slice AHW r.length cHW] 29 (0, 0)) (pk_ BW.out) hb); have N_HP := A_ (Kd.S_below (sk_ HP.out) hb); have N_HB := A_ (bs_ HB.out hb); have N_HS := A_ (show mHP <= _ from Nat.le_trans (by exact HS.out) (Below.size hb)); clear BA HW BW HP HB HS; have BA := N_BA; have HW := N_HW; have BW := N_BW; have HP := N_HP; have HB := N_HB; have HS := N_HS; clear N_BA N_HW N_BW N_HP N_HB N_HS; (try clear hzA); have hzA : World.cell? _ ⟨ga, 0, none⟩ = some (.slice A0 l.length c0) := (blk_cell BA.out 0).trans rfl; (try clear hzw); have hzw : World.cell? _ ⟨gw, 0, none⟩ = some (.slice AHW r.length cHW) := (blk_cell BW.out 0).trans rfl; clear HS; have HS := A_ (show gx + 1 <= _ from blk_lt hbox); have BX := A_ hbox; have hcz_ := (blk_cell hbox 0).trans rfl; have hfz_ := blk_frozen hbox 0; clear hg hbox hb))
 have N_HB := A_ (below_set (j := 0) (v := .slice AHP p.length cHP) HB.out LW_gx.out)
 have N_BA := A_ (blk_away BA.out (p := ⟨gx, 0, none⟩) (show ga ≠ gx from by have := O_ga.out; have := O_HP1.out; have := O_HW.out; have := O_gw.out; have := O_HP.out; have := O_gx.out; omega) (.slice AHP p.length cHP))
 have N_HW := A_ (Kd.S_far (p := ⟨gx, 0, none⟩) HW.out (fun k_ h_ => show k_ ≠ gx from by have := O_ga.out; have := O_HP1.out; have := O_HW.out; have := O_gw.out; have := O_HP.out; have := O_gx.out; have h2_ : nHW <= k_ /\ k_ < mHW := h_; omega) (.slice AHP p.length cHP))
 have N_BW := A_ (blk_away BW.out (p := ⟨gx, 0, none⟩) (show gw ≠ gx from by have := O_ga.out; have := O_HP1.out; have := O_HW.out; have := O_gw.out; have := O_HP.out; have := O_gx.out; omega) (.slice AHP p.length cHP))
 have N_HP := A_ (Kd.S_far (p := ⟨gx, 0, none⟩) HP.out (fun k_ h_ => show k_ ≠ gx from by have := O_ga.out; have := O_HP1.out; have := O_HW.out; have := O_gw.out; have := O_HP.out; have := O_gx.out; have h2_ : nHP <= k_ /\ k_ < mHP := h_; omega) (.slice AHP p.length cHP))
 have BC_ := A_ (tree_box (v := .slice AHP p.length cHP) BX.out)
 have N_HS := A_ (show gx + 1 <= _ from blk_lt BC_.out)
 generalize hWW : World.setCell _ ⟨gx, 0, none⟩ (.slice AHP p.length cHP) = wSx at N_HB N_BA N_HW N_BW N_HP BC_ N_HS ⊢
 clear hWW HB BA HW BW HP BX HS hzA hzw hcz_ hfz_
 have HB := N_HB
 have BA := N_BA
 have HW := N_HW
 have BW := N_BW
 have HP := N_HP
 have HS := N_HS
 clear N_HB N_HS N_BA N_HW N_BW N_HP
 have hzA : World.cell? _ ⟨ga, 0, none⟩ = some (.slice A0 l.length c0) := (blk_cell BA.out 0).trans rfl
 have hzw : World.cell? _ ⟨gw, 0, none⟩ = some (.slice AHW r.length cHW) := (blk_cell BW.out 0).trans rfl
 have hzx : World.cell? _ ⟨gx, 0, none⟩ = some (.slice AHP p.length cHP) := (blk_cell BC_.out 0).trans rfl
 have BC := BC_
 clear BC_
 go_upto_region 12 with (first | (go_at_call 37; (with_reducible refine (impl_PutKey.callsS k _ _ p a1 a2 r b _ ?side1 ?side2 E3.out).mono ?_); (case side1 => refine cd_ ?_; exact kp110_C (Kd.S_reads' HP.out).2.2); (case side2 => exact (Kd.S_reads' HP.out).2.1); rintro e w8_ ⟨vHG, rfl, ho, hb⟩; obtain ⟨AHG, cHG, ev_⟩ := Kd.S_slice ho; subst ev_; obtain ⟨nHG, mHG, o1_, o2_, o3_, hr_⟩ := Kd.S_iv (last := gx + 1) ho hb (be_ HB.out) (show gx + 1 <= _ from HS.out); have O_HG := A_ (And.intro o1_ o2_); have N_BA := A_ (blk_below (g := ga) (o := .cells #[.slice A0 l.length c0] 24 (0, 0)) (pk_ BA.out) hb); have N_HW := A_ (Kd.S_below (sk_ HW.out) hb); have N_BW := A_ (blk_below (g := gw) (o := .cells #[.slice AHW r.length cHW] 29 (0, 0)) (pk_ BW.out) hb); have N_HP := A_ (Kd.S_below (sk_ HP.out) hb); have N_BC := A_ (blk_below (g := gx) (o := .cells #[.slice AHP p.length cHP] 29 (0, 0)) (pk_ BC.out) hb); have N_HB := A_ (bs_ HB.out hb); have N_HS := A_ (show gx + 1 <= _ from Nat.le_trans (by exact HS.out) (Below.size hb)); clear BA HW BW HP BC HB HS; have BA := N_BA; have HW := N_HW; have BW := N_BW; have HP := N_HP; have BC := N_BC; have HB := N_HB; have HS := N_HS; clear N_BA N_HW N_BW N_HP N_BC N_HB N_HS; (try clear hzA); have hzA : World.cell? _ ⟨ga, 0, none⟩ = some (.slice A0 l.length c0) := (blk_cell BA.out 0).trans rfl; (try clear hzw); have hzw : World.cell? _ ⟨gw, 0, none⟩ = some (.slice AHW r.length cHW) := (blk_cell BW.out 0).trans rfl; (try clear hzx); have hzx : World.cell? _ ⟨gx, 0, none⟩ = some (.slice AHP p.length cHP) := (blk_cell BC.out 0).trans rfl; clear HS; have HS := A_ o3_; have HG := A_ hr_; clear hb ho hr_ o1_ o2_ o3_) | ((with_reducible refine gate_dst (N := 11) rfl ?_); refine box_event ?hg (N := 11) ?hd (cs := #[.slice none 0 0]) (t := 29) ?hr ?_; (case hd => rfl); (case hg => rfl); (case hr => first | (go_simp; done) | (go_simp; rfl)); intro gg hg w9_ hbox hb; have O_gg := A_ (show mHG <= gg from by rw [hg]; exact (show _ <= _ from HS.out)); have LW_gg := A_ (show w.heap.size <= gg from by rw [hg]; exact bw_ HB.out); have N_BA := A_ (blk_below (g := ga) (o := .cells #[.slice A0 l.length c0] 24 (0, 0)) (pk_ BA.out) hb); have N_HW := A_ (Kd.S_below (sk_ HW.out) hb); have N_BW := A_ (blk_below (g := gw) (o := .cells #[.slice AHW r.length cHW] 29 (0, 0)) (pk_ BW.out) hb); have N_HP := A_ (Kd.S_below (sk_ HP.out) hb); have N_BC := A_ (blk_below (g := gx) (o := .cells #[.slice AHP p.length cHP] 29 (0, 0)) (pk_ BC.out) hb); have N_HG := A_ (Kd.S_below (sk_ HG.out) hb); have N_HB := A_ (bs_ HB.out hb); have N_HS := A_ (show mHG <= _ from Nat.le_trans (by exact HS.out) (Below.size hb)); clear BA HW BW HP BC HG HB HS; have BA := N_BA; have HW := N_HW; have BW := N_BW; have HP := N_HP; have BC := N_BC; have HG := N_HG; have HB := N_HB; have HS := N_HS; clear N_BA N_HW N_BW N_HP N_BC N_HG N_HB N_HS; (try clear hzA); have hzA : World.cell? _ ⟨ga, 0, none⟩ = some (.slice A0 l.length c0) := (blk_cell BA.out 0).trans rfl; (try clear hzw); have hzw : World.cell? _ ⟨gw, 0, none⟩ = some (.slice AHW r.length cHW) := (blk_cell BW.out 0).trans rfl; (try clear hzx); have hzx : World.cell? _ ⟨gx, 0, none⟩ = some (.slice AHP p.length cHP) := (blk_cell BC.out 0).trans rfl; clear HS; have HS := A_ (show gg + 1 <= _ from blk_lt hbox); have BX := A_ hbox; have hcz_ := (blk_cell hbox 0).trans rfl; have hfz_ := blk_frozen hbox 0; clear hg hbox hb))
 have N_HB := A_ (below_set (j := 0) (v := .slice AHG r.length cHG) HB.out LW_gg.out)
 have N_BA := A_ (blk_away BA.out (p := ⟨gg, 0, none⟩) (show ga ≠ gg from by have := O_ga.out; have := O_HP1.out; have := O_HW.out; have := O_gw.out; have := O_HP.out; have := O_gx.out; have := O_HG.out; have := O_gg.out; omega) (.slice AHG r.length cHG))
 have N_HW := A_ (Kd.S_far (p := ⟨gg, 0, none⟩) HW.out (fun k_ h_ => show k_ ≠ gg from by have := O_ga.out; have := O_HP1.out; have := O_HW.out; have := O_gw.out; have := O_HP.out; have := O_gx.out; have := O_HG.out; have := O_gg.out; have h2_ : nHW <= k_ /\ k_ < mHW := h_; omega) (.slice AHG r.length cHG))
 have N_BW := A_ (blk_away BW.out (p := ⟨gg, 0, none⟩) (show gw ≠ gg from by have := O_ga.out; have := O_HP1.out; have := O_HW.out; have := O_gw.out; have := O_HP.out; have := O_gx.out; have := O_HG.out; have := O_gg.out; omega) (.slice AHG r.length cHG))
 have N_HP := A_ (Kd.S_far (p := ⟨gg, 0, none⟩) HP.out (fun k_ h_ => show k_ ≠ gg from by have := O_ga.out; have := O_HP1.out; have := O_HW.out; have := O_gw.out; have := O_HP.out; have := O_gx.out; have := O_HG.out; have := O_gg.out; have h2_ : nHP <= k_ /\ k_ < mHP := h_; omega) (.slice AHG r.length cHG))
 have N_BC := A_ (blk_away BC.out (p := ⟨gg, 0, none⟩) (show gx ≠ gg from by have := O_ga.out; have := O_HP1.out; have := O_HW.out; have := O_gw.out; have := O_HP.out; have := O_gx.out; have := O_HG.out; have := O_gg.out; omega) (.slice AHG r.length cHG))
 have N_HG := A_ (Kd.S_far (p := ⟨gg, 0, none⟩) HG.out (fun k_ h_ => show k_ ≠ gg from by have := O_ga.out; have := O_HP1.out; have := O_HW.out; have := O_gw.out; have := O_HP.out; have := O_gx.out; have := O_HG.out; have := O_gg.out; have h2_ : nHG <= k_ /\ k_ < mHG := h_; omega) (.slice AHG r.length cHG))
 have BG := A_ (tree_box (v := .slice AHG r.length cHG) BX.out)
 have N_HS := A_ (show gg + 1 <= _ from blk_lt BG.out)
 generalize hWW : World.setCell _ ⟨gg, 0, none⟩ (.slice AHG r.length cHG) = wSg at N_HB N_BA N_HW N_BW N_HP N_BC N_HG BG N_HS ⊢
 clear hWW HB BA HW BW HP BC HG BX HS hzA hzw hzx hcz_ hfz_
 have HB := N_HB
 have BA := N_BA
 have HW := N_HW
 have BW := N_BW
 have HP := N_HP
 have BC := N_BC
 have HG := N_HG
 have HS := N_HS
 clear N_HB N_HS N_BA N_HW N_BW N_HP N_BC N_HG
 have hzA : World.cell? _ ⟨ga, 0, none⟩ = some (.slice A0 l.length c0) := (blk_cell BA.out 0).trans rfl
 have hzw : World.cell? _ ⟨gw, 0, none⟩ = some (.slice AHW r.length cHW) := (blk_cell BW.out 0).trans rfl
 have hzx : World.cell? _ ⟨gx, 0, none⟩ = some (.slice AHP p.length cHP) := (blk_cell BC.out 0).trans rfl
 have hzg : World.cell? _ ⟨gg, 0, none⟩ = some (.slice AHG r.length cHG) := (blk_cell BG.out 0).trans rfl
 go_upto_region 14 with (first | (go_at_call 19; (with_reducible refine (laws_eqTree.calls k AHG cHG r AHW cHW r true _ ?side1 ?side2 ?side3 ?side4 E4.out).mono ?_); (case side1 => refine cd_ ?_; exact kp110_C (Kd.S_reads' HG.out).2.2); (case side2 => exact (Kd.S_reads' HG.out).2.1); (case side3 => refine cd_ ?_; exact kp110_C (Kd.S_reads' HW.out).2.2); (case side4 => exact (Kd.S_reads' HW.out).2.1); rintro e w10_ ⟨rfl, hb⟩; have N_BA := A_ (blk_below (g := ga) (o := .cells #[.slice A0 l.length c0] 24 (0, 0)) (pk_ BA.out) hb); have N_HW := A_ (Kd.S_below (sk_ HW.out) hb); have N_BW := A_ (blk_below (g := gw) (o := .cells #[.slice AHW r.length cHW] 29 (0, 0)) (pk_ BW.out) hb); have N_HP := A_ (Kd.S_below (sk_ HP.out) hb); have N_BC := A_ (blk_below (g := gx) (o := .cells #[.slice AHP p.length cHP] 29 (0, 0)) (pk_ BC.out) hb); have N_HG := A_ (Kd.S_below (sk_ HG.out) hb); have N_BG := A_ (blk_below (g := gg) (o := .cells #[.slice AHG r.length cHG] 29 (0, 0)) (pk_ BG.out) hb); have N_HB := A_ (bs_ HB.out hb); have N_HS := A_ (show gg + 1 <= _ from Nat.le_trans (by exact HS.out) (Below.size hb)); clear BA HW BW HP BC HG BG HB HS; have BA := N_BA; have HW := N_HW; have BW := N_BW; have HP := N_HP; have BC := N_BC; have HG := N_HG; have BG := N_BG; have HB := N_HB; have HS := N_HS; clear N_BA N_HW N_BW N_HP N_BC N_HG N_BG N_HB N_HS; (try clear hzA); have hzA : World.cell? _ ⟨ga, 0, none⟩ = some (.slice A0 l.length c0) := (blk_cell BA.out 0).trans rfl; (try clear hzw); have hzw : World.cell? _ ⟨gw, 0, none⟩ = some (.slice AHW r.length cHW) := (blk_cell BW.out 0).trans rfl; (try clear hzx); have hzx : World.cell? _ ⟨gx, 0, none⟩ = some (.slice AHP p.length cHP) := (blk_cell BC.out 0).trans rfl; (try clear hzg); have hzg : World.cell? _ ⟨gg, 0, none⟩ = some (.slice AHG r.length cHG) := (blk_cell BG.out 0).trans rfl; clear hb))
 refine start_ (n := 5) (S := fun w' => w'.cell? ⟨gx, 0, none⟩ = some (.slice AHP p.length cHP) /\ w'.cell? ⟨ga, 0, none⟩ = some (.slice A0 l.length c0)) (ds := []) (bt 5 0) (by kernel_rfl) rfl rfl ⟨(blk_cell BC.out 0).trans rfl, (blk_cell BA.out 0).trans rfl⟩ (fun hHeld => ?_)
 refine ta_ 0 55 1 hHeld ?_
 refine ta_ 1 56 3 hHeld ?_
 refine on_ 2 (some 57) 7 (fun K hK => ?_)
 refine go_ Try.func17 #[.agg #[.slice A0 l.length c0]] ?_
 with_reducible refine (laws_toTree.callsP k _ _ l p _ (Kd.C_below HR0.out (be_ HB.out)) HC0.out E1.out).mono ?_
 rintro e w11_ ⟨vHQ, rfl, ho, hb⟩
 refine ⟨_, rfl, ?_⟩
 obtain ⟨AHQ, cHQ, ev_⟩ := Kd.S_slice ho; subst ev_; obtain ⟨nHQ, mHQ, o1_, o2_, o3_, hr_⟩ := Kd.S_iv (last := gg + 1) ho hb (be_ HB.out) (show gg + 1 <= _ from HS.out); have O_HQ := A_ (And.intro o1_ o2_); have N_BA := A_ (blk_below (g := ga) (o := .cells #[.slice A0 l.length c0] 24 (0, 0)) (pk_ BA.out) hb); have N_HW := A_ (Kd.S_below (sk_ HW.out) hb); have N_BW := A_ (blk_below (g := gw) (o := .cells #[.slice AHW r.length cHW] 29 (0, 0)) (pk_ BW.out) hb); have N_HP := A_ (Kd.S_below (sk_ HP.out) hb); have N_BC := A_ (blk_below (g := gx) (o := .cells #[.slice AHP p.length cHP] 29 (0, 0)) (pk_ BC.out) hb); have N_HG := A_ (Kd.S_below (sk_ HG.out) hb); have N_BG := A_ (blk_below (g := gg) (o := .cells #[.slice AHG r.length cHG] 29 (0, 0)) (pk_ BG.out) hb); have N_HB := A_ (bs_ HB.out hb); have N_HS := A_ (show gg + 1 <= _ from Nat.le_trans (by exact HS.out) (Below.size hb)); clear BA HW BW HP BC HG BG HB HS; have BA := N_BA; have HW := N_HW; have BW := N_BW; have HP := N_HP; have BC := N_BC; have HG := N_HG; have BG := N_BG; have HB := N_HB; have HS := N_HS; clear N_BA N_HW N_BW N_HP N_BC N_HG N_BG N_HB N_HS; (try clear hzA); have hzA : World.cell? _ ⟨ga, 0, none⟩ = some (.slice A0 l.length c0) := (blk_cell BA.out 0).trans rfl; (try clear hzw); have hzw : World.cell? _ ⟨gw, 0, none⟩ = some (.slice AHW r.length cHW) := (blk_cell BW.out 0).trans rfl; (try clear hzx); have hzx : World.cell? _ ⟨gx, 0, none⟩ = some (.slice AHP p.length cHP) := (blk_cell BC.out 0).trans rfl; (try clear hzg); have hzg : World.cell? _ ⟨gg, 0, none⟩ = some (.slice AHG r.length cHG) := (blk_cell BG.out 0).trans rfl; clear HS; have HS := A_ o3_; have HQ := A_ hr_; clear hb ho hr_ o1_ o2_ o3_
 refine hK.out _ _ ⟨(blk_cell BC.out 0).trans rfl, (blk_cell BA.out 0).trans rfl⟩ (fun hHeld => ?_)
 clear hK K
 refine no_ 57 ?_
 refine on_ 3 (some 58) 15 (fun K hK => ?_)
 refine go_ Try.func19 #[.agg #[.slice AHP p.length cHP], .agg #[.slice AHQ p.length cHQ]] ?_
 with_reducible refine (laws_eqTree.calls k _ _ p _ _ p true _ (kp110_C (Kd.S_reads' HP.out).2.2) (Kd.S_reads' HP.out).2.1 (kp110_C (Kd.S_reads' HQ.out).2.2) (Kd.S_reads' HQ.out).2.1 E5.out).mono ?_
 rintro e w12_ ⟨rfl, hb⟩
 refine ⟨_, rfl, ?_⟩
 clear HQ
 have N_BA := A_ (blk_below (g := ga) (o := .cells #[.slice A0 l.length c0] 24 (0, 0)) (pk_ BA.out) hb); have N_HW := A_ (Kd.S_below (sk_ HW.out) hb); have N_BW := A_ (blk_below (g := gw) (o := .cells #[.slice AHW r.length cHW] 29 (0, 0)) (pk_ BW.out) hb); have N_HP := A_ (Kd.S_below (sk_ HP.out) hb); have N_BC := A_ (blk_below (g := gx) (o := .cells #[.slice AHP p.length cHP] 29 (0, 0)) (pk_ BC.out) hb); have N_HG := A_ (Kd.S_below (sk_ HG.out) hb); have N_BG := A_ (blk_below (g := gg) (o := .cells #[.slice AHG r.length cHG] 29 (0, 0)) (pk_ BG.out) hb); have N_HB := A_ (bs_ HB.out hb); have N_HS := A_ (show mHQ <= _ from Nat.le_trans (by exact HS.out) (Below.size hb)); clear BA HW BW HP BC HG BG HB HS; have BA := N_BA; have HW := N_HW; have BW := N_BW; have HP := N_HP; have BC := N_BC; have HG := N_HG; have BG := N_BG; have HB := N_HB; have HS := N_HS; clear N_BA N_HW N_BW N_HP N_BC N_HG N_BG N_HB N_HS; (try clear hzA); have hzA : World.cell? _ ⟨ga, 0, none⟩ = some (.slice A0 l.length c0) := (blk_cell BA.out 0).trans rfl; (try clear hzw); have hzw : World.cell? _ ⟨gw, 0, none⟩ = some (.slice AHW r.length cHW) := (blk_cell BW.out 0).trans rfl; (try clear hzx); have hzx : World.cell? _ ⟨gx, 0, none⟩ = some (.slice AHP p.length cHP) := (blk_cell BC.out 0).trans rfl; (try clear hzg); have hzg : World.cell? _ ⟨gg, 0, none⟩ = some (.slice AHG r.length cHG) := (blk_cell BG.out 0).trans rfl
 clear hb
 refine hK.out _ _ ⟨(blk_cell BC.out 0).trans rfl, (blk_cell BA.out 0).trans rfl⟩ (fun hHeld => ?_)
 clear hK K
 refine no_ 58 ?_
 refine pu_ 4 59 31 ?_
 refine done_ (by kernel_rfl) ?_
 go_upto_region 28 with (first | (go_at_call 27; (with_reducible refine (laws_markTree.calls k (fun k_ => nHP <= k_ /\ k_ < mHP) (.slice AHP p.length cHP) p 1 m0 z0 w _ ?side1 ?side2 E6.out).mono ?_); (case side1 => exact (be_ HB.out)); (case side2 => exact (sk_ HP.out)); rintro e w13_ ⟨rfl, hs, hb, hk⟩; have N_BA := A_ (blk_kept (pk_ BA.out) hk (fun h_ => by have := O_ga.out; have := O_HP1.out; have := O_HW.out; have := O_gw.out; have := O_HP.out; have := O_gx.out; have := O_HG.out; have := O_gg.out; have := O_HQ.out; have h2_ : nHP <= ga /\ ga < mHP := h_; omega)); have N_HW := A_ (Kd.S_kept (sk_ HW.out) hk (fun k_ h1_ h2_ => by have := O_ga.out; have := O_HP1.out; have := O_HW.out; have := O_gw.out; have := O_HP.out; have := O_gx.out; have := O_HG.out; have := O_gg.out; have := O_HQ.out; have h3_ : nHW <= k_ /\ k_ < mHW := h1_; have h4_ : nHP <= k_ /\ k_ < mHP := h2_; first | omega | exact h4_.2 h3_.2 | exact h3_.2 h4_.2)); have N_BW := A_ (blk_kept (pk_ BW.out) hk (fun h_ => by have := O_ga.out; have := O_HP1.out; have := O_HW.out; have := O_gw.out; have := O_HP.out; have := O_gx.out; have := O_HG.out; have := O_gg.out; have := O_HQ.out; have h2_ : nHP <= gw /\ gw < mHP := h_; omega)); have N_HG := A_ (Kd.S_kept (sk_ HG.out) hk (fun k_ h1_ h2_ => by have := O_ga.out; have := O_HP1.out; have := O_HW.out; have := O_gw.out; have := O_HP.out; have := O_gx.out; have := O_HG.out; have := O_gg.out; have := O_HQ.out; have h3_ : nHG <= k_ /\ k_ < mHG := h1_; have h4_ : nHP <= k_ /\ k_ < mHP := h2_; first | omega | exact h4_.2 h3_.2 | exact h3_.2 h4_.2)); have N_BG := A_ (blk_kept (pk_ BG.out) hk (fun h_ => by have := O_ga.out; have := O_HP1.out; have := O_HW.out; have := O_gw.out; have := O_HP.out; have := O_gx.out; have := O_HG.out; have := O_gg.out; have := O_HQ.out; have h2_ : nHP <= gg /\ gg < mHP := h_; omega)); have N_HS := A_ (show mHQ <= _ from Nat.le_trans (by exact HS.out) hk.1); have N_HB := A_ hb; clear BA HW BW HG BG HS HB; have BA := N_BA; have HW := N_HW; have BW := N_BW; have HG := N_HG; have BG := N_BG; have HS := N_HS; have HB := N_HB; clear N_BA N_HW N_BW N_HG N_BG N_HS N_HB; clear HP BC hzx; (try clear hzA); have hzA : World.cell? _ ⟨ga, 0, none⟩ = some (.slice A0 l.length c0) := (blk_cell BA.out 0).trans rfl; (try clear hzw); have hzw : World.cell? _ ⟨gw, 0, none⟩ = some (.slice AHW r.length cHW) := (blk_cell BW.out 0).trans rfl; (try clear hzg); have hzg : World.cell? _ ⟨gg, 0, none⟩ = some (.slice AHG r.length cHG) := (blk_cell BG.out 0).trans rfl; clear hs hb hk) | (go_at_call 19; (with_reducible refine (laws_eqTree.calls k AHG cHG r AHW cHW r true _ ?side1 ?side2 ?side3 ?side4 E4.out).mono ?_); (case side1 => refine cd_ ?_; exact kp110_C (Kd.S_reads' HG.out).2.2); (case side2 => exact (Kd.S_reads' HG.out).2.1); (case side3 => refine cd_ ?_; exact kp110_C (Kd.S_reads' HW.out).2.2); (case side4 => exact (Kd.S_reads' HW.out).2.1); rintro e w14_ ⟨rfl, hb⟩; have N_BA := A_ (blk_below (g := ga) (o := .cells #[.slice A0 l.length c0] 24 (0, 0)) (pk_ BA.out) hb); have N_HW := A_ (Kd.S_below (sk_ HW.out) hb); have N_BW := A_ (blk_below (g := gw) (o := .cells #[.slice AHW r.length cHW] 29 (0, 0)) (pk_ BW.out) hb); have N_HG := A_ (Kd.S_below (sk_ HG.out) hb); have N_BG := A_ (blk_below (g := gg) (o := .cells #[.slice AHG r.length cHG] 29 (0, 0)) (pk_ BG.out) hb); have N_HB := A_ (bs_ HB.out hb); have N_HS := A_ (show mHQ <= _ from Nat.le_trans (by exact HS.out) (Below.size hb)); clear BA HW BW HG BG HB HS; have BA := N_BA; have HW := N_HW; have BW := N_BW; have HG := N_HG; have BG := N_BG; have HB := N_HB; have HS := N_HS; clear N_BA N_HW N_BW N_HG N_BG N_HB N_HS; (try clear hzA); have hzA : World.cell? _ ⟨ga, 0, none⟩ = some (.slice A0 l.length c0) := (blk_cell BA.out 0).trans rfl; (try clear hzw); have hzw : World.cell? _ ⟨gw, 0, none⟩ = some (.slice AHW r.length cHW) := (blk_cell BW.out 0).trans rfl; (try clear hzg); have hzg : World.cell? _ ⟨gg, 0, none⟩ = some (.slice AHG r.length cHG) := (blk_cell BG.out 0).trans rfl; clear hb) | (go_at_call 27; (with_reducible refine (laws_markTree.calls k (fun k_ => nHG <= k_ /\ k_ < mHG) (.slice AHG r.length cHG) r 1 m1 z1 w _ ?side1 ?side2 E7.out).mono ?_); (case side1 => exact (be_ HB.out)); (case side2 => exact (sk_ HG.out)); rintro e w15_ ⟨rfl, hs, hb, hk⟩; have N_BA := A_ (blk_kept (pk_ BA.out) hk (fun h_ => by have := O_ga.out; have := O_HP1.out; have := O_HW.out; have := O_gw.out; have := O_HP.out; have := O_gx.out; have := O_HG.out; have := O_gg.out; have := O_HQ.out; have h2_ : nHG <= ga /\ ga < mHG := h_; omega)); have N_HW := A_ (Kd.S_kept (sk_ HW.out) hk (fun k_ h1_ h2_ => by have := O_ga.out; have := O_HP1.out; have := O_HW.out; have := O_gw.out; have := O_HP.out; have := O_gx.out; have := O_HG.out; have := O_gg.out; have := O_HQ.out; have h3_ : nHW <= k_ /\ k_ < mHW := h1_; have h4_ : nHG <= k_ /\ k_ < mHG := h2_; first | omega | exact h4_.2 h3_.2 | exact h3_.2 h4_.2)); have N_BW := A_ (blk_kept (pk_ BW.out) hk (fun h_ => by have := O_ga.out; have := O_HP1.out; have := O_HW.out; have := O_gw.out; have := O_HP.out; have := O_gx.out; have := O_HG.out; have := O_gg.out; have := O_HQ.out; have h2_ : nHG <= gw /\ gw < mHG := h_; omega)); have N_BG := A_ (blk_kept (pk_ BG.out) hk (fun h_ => by have := O_ga.out; have := O_HP1.out; have := O_HW.out; have := O_gw.out; have := O_HP.out; have := O_gx.out; have := O_HG.out; have := O_gg.out; have := O_HQ.out; have h2_ : nHG <= gg /\ gg < mHG := h_; omega)); have N_HS := A_ (show mHQ <= _ from Nat.le_trans (by exact HS.out) hk.1); have N_HG := A_ hs; have N_HB := A_ hb; clear BA HW BW BG HS HG HB; have BA := N_BA; have HW := N_HW; have BW := N_BW; have BG := N_BG; have HS := N_HS; have HG := N_HG; have HB := N_HB; clear N_BA N_HW N_BW N_BG N_HS N_HG N_HB; (try clear hzA); have hzA : World.cell? _ ⟨ga, 0, none⟩ = some (.slice A0 l.length c0) := (blk_cell BA.out 0).trans rfl; (try clear hzw); have hzw : World.cell? _ ⟨gw, 0, none⟩ = some (.slice AHW r.length cHW) := (blk_cell BW.out 0).trans rfl; (try clear hzg); have hzg : World.cell? _ ⟨gg, 0, none⟩ = some (.slice AHG r.length cHG) := (blk_cell BG.out 0).trans rfl; clear hs hb hk) | (go_at_call 38; (with_reducible refine (heldTree_n k AHG cHG r.length z1 1 m1 _ (Kd.S_reads' HG.out).1 ?side1 ?side2 E8.out).mono ?_); (case side1 => refine cd_ ?_; exact kp110_C (Kd.S_reads' HG.out).2.2); (case side2 => have h_ := Kd.S_reads' HG.out; have h2_ := h_.1; have h3_ := h_.2.1; omega); rintro e w16_ ⟨rfl, hb⟩; have N_BA := A_ (blk_below (g := ga) (o := .cells #[.slice A0 l.length c0] 24 (0, 0)) (pk_ BA.out) hb); have N_HW := A_ (Kd.S_below (sk_ HW.out) hb); have N_BW := A_ (blk_below (g := gw) (o := .cells #[.slice AHW r.length cHW] 29 (0, 0)) (pk_ BW.out) hb); have N_HG := A_ (Kd.S_below (sk_ HG.out) hb); have N_BG := A_ (blk_below (g := gg) (o := .cells #[.slice AHG r.length cHG] 29 (0, 0)) (pk_ BG.out) hb); have N_HB := A_ (bs_ HB.out hb); have N_HS := A_ (show mHQ <= _ from Nat.le_trans (by exact HS.out) (Below.size hb)); clear BA HW BW HG BG HB HS; have BA := N_BA; have HW := N_HW; have BW := N_BW; have HG := N_HG; have BG := N_BG; have HB := N_HB; have HS := N_HS; clear N_BA N_HW N_BW N_HG N_BG N_HB N_HS; (try clear hzA); have hzA : World.cell? _ ⟨ga, 0, none⟩ = some (.slice A0 l.length c0) := (blk_cell BA.out 0).trans rfl; (try clear hzw); have hzw : World.cell? _ ⟨gw, 0, none⟩ = some (.slice AHW r.length cHW) := (blk_cell BW.out 0).trans rfl; (try clear hzg); have hzg : World.cell? _ ⟨gg, 0, none⟩ = some (.slice AHG r.length cHG) := (blk_cell BG.out 0).trans rfl; clear hb))
 go_upto_region 29 with (first | (go_at_call 17; (with_reducible refine (laws_toTree.callsP k _ _ l p _ ?side1 HC0.out E1.out).mono ?_); (case side1 => exact Kd.C_below HR0.out (be_ HB.out)); rintro e w17_ ⟨vHT, rfl, ho, hb⟩; obtain ⟨AHT, cHT, ev_⟩ := Kd.S_slice ho; subst ev_; obtain ⟨nHT, mHT, o1_, o2_, o3_, hr_⟩ := Kd.S_iv (last := mHQ) ho hb (be_ HB.out) (show mHQ <= _ from HS.out); have O_HT := A_ (And.intro o1_ o2_); have N_BA := A_ (blk_below (g := ga) (o := .cells #[.slice A0 l.length c0] 24 (0, 0)) (pk_ BA.out) hb); have N_HW := A_ (Kd.S_below (sk_ HW.out) hb); have N_BW := A_ (blk_below (g := gw) (o := .cells #[.slice AHW r.length cHW] 29 (0, 0)) (pk_ BW.out) hb); have N_HG := A_ (Kd.S_below (sk_ HG.out) hb); have N_BG := A_ (blk_below (g := gg) (o := .cells #[.slice AHG r.length cHG] 29 (0, 0)) (pk_ BG.out) hb); have N_HB := A_ (bs_ HB.out hb); have N_HS := A_ (show mHQ <= _ from Nat.le_trans (by exact HS.out) (Below.size hb)); clear BA HW BW HG BG HB HS; have BA := N_BA; have HW := N_HW; have BW := N_BW; have HG := N_HG; have BG := N_BG; have HB := N_HB; have HS := N_HS; clear N_BA N_HW N_BW N_HG N_BG N_HB N_HS; (try clear hzA); have hzA : World.cell? _ ⟨ga, 0, none⟩ = some (.slice A0 l.length c0) := (blk_cell BA.out 0).trans rfl; (try clear hzw); have hzw : World.cell? _ ⟨gw, 0, none⟩ = some (.slice AHW r.length cHW) := (blk_cell BW.out 0).trans rfl; (try clear hzg); have hzg : World.cell? _ ⟨gg, 0, none⟩ = some (.slice AHG r.length cHG) := (blk_cell BG.out 0).trans rfl; clear HS; have HS := A_ o3_; have HT := A_ hr_; clear hb ho hr_ o1_ o2_ o3_) | (go_at_call 37; (with_reducible refine (impl_PutKey.callsS k _ _ p a1 a2 r b _ ?side1 ?side2 E3.out).mono ?_); (case side1 => refine cd_ ?_; exact kp110_C (Kd.S_reads' HT.out).2.2); (case side2 => exact (Kd.S_reads' HT.out).2.1); rintro e w18_ ⟨vHH, rfl, ho, hb⟩; obtain ⟨AHH, cHH, ev_⟩ := Kd.S_slice ho; subst ev_; obtain ⟨nHH, mHH, o1_, o2_, o3_, hr_⟩ := Kd.S_iv (last := mHT) ho hb (be_ HB.out) (show mHT <= _ from HS.out); have O_HH := A_ (And.intro o1_ o2_); have N_BA := A_ (blk_below (g := ga) (o := .cells #[.slice A0 l.length c0] 24 (0, 0)) (pk_ BA.out) hb); have N_HW := A_ (Kd.S_below (sk_ HW.out) hb); have N_BW := A_ (blk_below (g := gw) (o := .cells #[.slice AHW r.length cHW] 29 (0, 0)) (pk_ BW.out) hb); have N_HG := A_ (Kd.S_below (sk_ HG.out) hb); have N_BG := A_ (blk_below (g := gg) (o := .cells #[.slice AHG r.length cHG] 29 (0, 0)) (pk_ BG.out) hb); have N_HT := A_ (Kd.S_below (sk_ HT.out) hb); have N_HB := A_ (bs_ HB.out hb); have N_HS := A_ (show mHT <= _ from Nat.le_trans (by exact HS.out) (Below.size hb)); clear BA HW BW HG BG HT HB HS; have BA := N_BA; have HW := N_HW; have BW := N_BW; have HG := N_HG; have BG := N_BG; have HT := N_HT; have HB := N_HB; have HS := N_HS; clear N_BA N_HW N_BW N_HG N_BG N_HT N_HB N_HS; (try clear hzA); have hzA : World.cell? _ ⟨ga, 0, none⟩ = some (.slice A0 l.length c0) := (blk_cell BA.out 0).trans rfl; (try clear hzw); have hzw : World.cell? _ ⟨gw, 0, none⟩ = some (.slice AHW r.length cHW) := (blk_cell BW.out 0).trans rfl; (try clear hzg); have hzg : World.cell? _ ⟨gg, 0, none⟩ = some (.slice AHG r.length cHG) := (blk_cell BG.out 0).trans rfl; clear HS; have HS := A_ o3_; have HH := A_ hr_; clear hb ho hr_ o1_ o2_ o3_) | ((with_reducible refine gate_dst (N := 16) rfl ?_); refine box_event ?hg (N := 16) ?hd (cs := #[.slice none 0 0]) (t := 29) ?hr ?_; (case hd => rfl); (case hg => rfl); (case hr => first | (go_simp; done) | (go_simp; rfl)); clear HT; intro gh hg w19_ hbox hb; have O_gh := A_ (show mHH <= gh from by rw [hg]; exact (show _ <= _ from HS.out)); have LW_gh := A_ (show w.heap.size <= gh from by rw [hg]; exact bw_ HB.out); have N_BA := A_ (blk_below (g := ga) (o := .cells #[.slice A0 l.length c0] 24 (0, 0)) (pk_ BA.out) hb); have N_HW := A_ (Kd.S_below (sk_ HW.out) hb); have N_BW := A_ (blk_below (g := gw) (o := .cells #[.slice AHW r.length cHW] 29 (0, 0)) (pk_ BW.out) hb); have N_HG := A_ (Kd.S_below (sk_ HG.out) hb); have N_BG := A_ (blk_below (g := gg) (o := .cells #[.slice AHG r.length cHG] 29 (0, 0)) (pk_ BG.out) hb); have N_HH := A_ (Kd.S_below (sk_ HH.out) hb); have N_HB := A_ (bs_ HB.out hb); have N_HS := A_ (show mHH <= _ from Nat.le_trans (by exact HS.out) (Below.size hb)); clear BA HW BW HG BG HH HB HS; have BA := N_BA; have HW := N_HW; have BW := N_BW; have HG := N_HG; have BG := N_BG; have HH := N_HH; have HB := N_HB; have HS := N_HS; clear N_BA N_HW N_BW N_HG N_BG N_HH N_HB N_HS; (try clear hzA); have hzA : World.cell? _ ⟨ga, 0, none⟩ = some (.slice A0 l.length c0) := (blk_cell BA.out 0).trans rfl; (try clear hzw); have hzw : World.cell? _ ⟨gw, 0, none⟩ = some (.slice AHW r.length cHW) := (blk_cell BW.out 0).trans rfl; (try clear hzg); have hzg : World.cell? _ ⟨gg, 0, none⟩ = some (.slice AHG r.length cHG) := (blk_cell BG.out 0).trans rfl; clear HS; have HS := A_ (show gh + 1 <= _ from blk_lt hbox); have BX := A_ hbox; have hcz_ := (blk_cell hbox 0).trans rfl; have hfz_ := blk_frozen hbox 0; clear hg hbox hb))
 have N_HB := A_ (below_set (j := 0) (v := .slice AHH r.length cHH) HB.out LW_gh.out)
 have N_BA := A_ (blk_away BA.out (p := ⟨gh, 0, none⟩) (show ga ≠ gh from by have := O_ga.out; have := O_HP1.out; have := O_HW.out; have := O_gw.out; have := O_HP.out; have := O_gx.out; have := O_HG.out; have := O_gg.out; have := O_HQ.out; have := O_HT.out; have := O_HH.out; have := O_gh.out; omega) (.slice AHH r.length cHH))
 have N_HW := A_ (Kd.S_far (p := ⟨gh, 0, none⟩) HW.out (fun k_ h_ => show k_ ≠ gh from by have := O_ga.out; have := O_HP1.out; have := O_HW.out; have := O_gw.out; have := O_HP.out; have := O_gx.out; have := O_HG.out; have := O_gg.out; have := O_HQ.out; have := O_HT.out; have := O_HH.out; have := O_gh.out; have h2_ : nHW <= k_ /\ k_ < mHW := h_; omega) (.slice AHH r.length cHH))
 have N_BW := A_ (blk_away BW.out (p := ⟨gh, 0, none⟩) (show gw ≠ gh from by have := O_ga.out; have := O_HP1.out; have := O_HW.out; have := O_gw.out; have := O_HP.out; have := O_gx.out; have := O_HG.out; have := O_gg.out; have := O_HQ.out; have := O_HT.out; have := O_HH.out; have := O_gh.out; omega) (.slice AHH r.length cHH))
 have N_HG := A_ (Kd.S_far (p := ⟨gh, 0, none⟩) HG.out (fun k_ h_ => show k_ ≠ gh from by have := O_ga.out; have := O_HP1.out; have := O_HW.out; have := O_gw.out; have := O_HP.out; have := O_gx.out; have := O_HG.out; have := O_gg.out; have := O_HQ.out; have := O_HT.out; have := O_HH.out; have := O_gh.out; have h2_ : nHG <= k_ /\ k_ < mHG := h_; omega) (.slice AHH r.length cHH))
 have N_BG := A_ (blk_away BG.out (p := ⟨gh, 0, none⟩) (show gg ≠ gh from by have := O_ga.out; have := O_HP1.out; have := O_HW.out; have := O_gw.out; have := O_HP.out; have := O_gx.out; have := O_HG.out; have := O_gg.out; have := O_HQ.out; have := O_HT.out; have := O_HH.out; have := O_gh.out; omega) (.slice AHH r.length cHH))
 have N_HH := A_ (Kd.S_far (p := ⟨gh, 0, none⟩) HH.out (fun k_ h_ => show k_ ≠ gh from by have := O_ga.out; have := O_HP1.out; have := O_HW.out; have := O_gw.out; have := O_HP.out; have := O_gx.out; have := O_HG.out; have := O_gg.out; have := O_HQ.out; have := O_HT.out; have := O_HH.out; have := O_gh.out; have h2_ : nHH <= k_ /\ k_ < mHH := h_; omega) (.slice AHH r.length cHH))
 have BH := A_ (tree_box (v := .slice AHH r.length cHH) BX.out)
 have N_HS := A_ (show gh + 1 <= _ from blk_lt BH.out)
 generalize hWW : World.setCell _ ⟨gh, 0, none⟩ (.slice AHH r.length cHH) = wSh at N_HB N_BA N_HW N_BW N_HG N_BG N_HH BH N_HS ⊢
 clear hWW HB BA HW BW HG BG HH BX HS hzA hzw hzg hcz_ hfz_
 have HB := N_HB
 have BA := N_BA
 have HW := N_HW
 have BW := N_BW
 have HG := N_HG
 have BG := N_BG
 have HH := N_HH
 have HS := N_HS
 clear N_HB N_HS N_BA N_HW N_BW N_HG N_BG N_HH
 have hzA : World.cell? _ ⟨ga, 0, none⟩ = some (.slice A0 l.length c0) := (blk_cell BA.out 0).trans rfl
 have hzw : World.cell? _ ⟨gw, 0, none⟩ = some (.slice AHW r.length cHW) := (blk_cell BW.out 0).trans rfl
 have hzg : World.cell? _ ⟨gg, 0, none⟩ = some (.slice AHG r.length cHG) := (blk_cell BG.out 0).trans rfl
 have hzh : World.cell? _ ⟨gh, 0, none⟩ = some (.slice AHH r.length cHH) := (blk_cell BH.out 0).trans rfl
 go_wp2_with (first | (go_at_call 19; (with_reducible refine (laws_eqTree.calls k AHH cHH r AHW cHW r true _ ?side1 ?side2 ?side3 ?side4 E4.out).mono ?_); (case side1 => refine cd_ ?_; exact kp110_C (Kd.S_reads' HH.out).2.2); (case side2 => exact (Kd.S_reads' HH.out).2.1); (case side3 => refine cd_ ?_; exact kp110_C (Kd.S_reads' HW.out).2.2); (case side4 => exact (Kd.S_reads' HW.out).2.1); rintro e w20_ ⟨rfl, hb⟩; have N_BA := A_ (blk_below (g := ga) (o := .cells #[.slice A0 l.length c0] 24 (0, 0)) (pk_ BA.out) hb); have N_HW := A_ (Kd.S_below (sk_ HW.out) hb); have N_BW := A_ (blk_below (g := gw) (o := .cells #[.slice AHW r.length cHW] 29 (0, 0)) (pk_ BW.out) hb); have N_HG := A_ (Kd.S_below (sk_ HG.out) hb); have N_BG := A_ (blk_below (g := gg) (o := .cells #[.slice AHG r.length cHG] 29 (0, 0)) (pk_ BG.out) hb); have N_HH := A_ (Kd.S_below (sk_ HH.out) hb); have N_BH := A_ (blk_below (g := gh) (o := .cells #[.slice AHH r.length cHH] 29 (0, 0)) (pk_ BH.out) hb); have N_HB := A_ (bs_ HB.out hb); have N_HS := A_ (show gh + 1 <= _ from Nat.le_trans (by exact HS.out) (Below.size hb)); clear BA HW BW HG BG HH BH HB HS; have BA := N_BA; have HW := N_HW; have BW := N_BW; have HG := N_HG; have BG := N_BG; have HH := N_HH; have BH := N_BH; have HB := N_HB; have HS := N_HS; clear N_BA N_HW N_BW N_HG N_BG N_HH N_BH N_HB N_HS; (try clear hzA); have hzA : World.cell? _ ⟨ga, 0, none⟩ = some (.slice A0 l.length c0) := (blk_cell BA.out 0).trans rfl; (try clear hzw); have hzw : World.cell? _ ⟨gw, 0, none⟩ = some (.slice AHW r.length cHW) := (blk_cell BW.out 0).trans rfl; (try clear hzg); have hzg : World.cell? _ ⟨gg, 0, none⟩ = some (.slice AHG r.length cHG) := (blk_cell BG.out 0).trans rfl; (try clear hzh); have hzh : World.cell? _ ⟨gh, 0, none⟩ = some (.slice AHH r.length cHH) := (blk_cell BH.out 0).trans rfl; clear hb) | (go_at_call 38; (with_reducible refine (heldTree_n k AHG cHG r.length z1 1 m1 _ (Kd.S_reads' HG.out).1 ?side1 ?side2 E8.out).mono ?_); (case side1 => refine cd_ ?_; exact kp110_C (Kd.S_reads' HG.out).2.2); (case side2 => have h_ := Kd.S_reads' HG.out; have h2_ := h_.1; have h3_ := h_.2.1; omega); rintro e w21_ ⟨rfl, hb⟩; have N_BA := A_ (blk_below (g := ga) (o := .cells #[.slice A0 l.length c0] 24 (0, 0)) (pk_ BA.out) hb); have N_HW := A_ (Kd.S_below (sk_ HW.out) hb); have N_BW := A_ (blk_below (g := gw) (o := .cells #[.slice AHW r.length cHW] 29 (0, 0)) (pk_ BW.out) hb); have N_HG := A_ (Kd.S_below (sk_ HG.out) hb); have N_BG := A_ (blk_below (g := gg) (o := .cells #[.slice AHG r.length cHG] 29 (0, 0)) (pk_ BG.out) hb); have N_HH := A_ (Kd.S_below (sk_ HH.out) hb); have N_BH := A_ (blk_below (g := gh) (o := .cells #[.slice AHH r.length cHH] 29 (0, 0)) (pk_ BH.out) hb); have N_HB := A_ (bs_ HB.out hb); have N_HS := A_ (show gh + 1 <= _ from Nat.le_trans (by exact HS.out) (Below.size hb)); clear BA HW BW HG BG HH BH HB HS; have BA := N_BA; have HW := N_HW; have BW := N_BW; have HG := N_HG; have BG := N_BG; have HH := N_HH; have BH := N_BH; have HB := N_HB; have HS := N_HS; clear N_BA N_HW N_BW N_HG N_BG N_HH N_BH N_HB N_HS; (try clear hzA); have hzA : World.cell? _ ⟨ga, 0, none⟩ = some (.slice A0 l.length c0) := (blk_cell BA.out 0).trans rfl; (try clear hzw); have hzw : World.cell? _ ⟨gw, 0, none⟩ = some (.slice AHW r.length cHW) := (blk_cell BW.out 0).trans rfl; (try clear hzg); have hzg : World.cell? _ ⟨gg, 0, none⟩ = some (.slice AHG r.length cHG) := (blk_cell BG.out 0).trans rfl; (try clear hzh); have hzh : World.cell? _ ⟨gh, 0, none⟩ = some (.slice AHH r.length cHH) := (blk_cell BH.out 0).trans rfl; clear hb))
 go_ret
 exact ⟨by first | rfl | (simp; done), (be_ HB.out)⟩
open Go.Proofs.Ytoddejmlcnbdmaa.Tree
set_option maxHeartbeats 8000000
set_option maxRecDepth 100000
theorem clone_some {l : List ByteArray} (h : l.length < 8796093022208) : slices_Clone_string_string.f l = some l := by
 unfold slices_Clone_string_string.f
 simp only [Option.bind_some, List.length_nil, Nat.zero_add]
 rw [if_pos h]
 rfl
end Go.Proofs.Ytoddejmlcnbdmaa.Fn
namespace Go.Proofs.Ytoddejmlcnbdmaa.Pure
open Go.Proofs.Ytoddejmlcnbdmaa.Fn
theorem str_append_size (a b : ByteArray) : (a ++ b).size = a.size + b.size := by
 rw [<- nm_length, <- nm_length, <- nm_length, nm_append, List.length_append]
theorem one_size (c : Int) : (strOfNums [c]).size = 1 := rfl
theorem markText_some (n : Int) (hn : n <= 1073741824) : ∃ t, Ev (fun k => laws_markText.f k n) t := by
 have key : ∀ (d : Nat) (x : Int) (s : ByteArray), x <= d -> x <= 1073741824 -> (s.size : Int) + d <= 4611686018427387904 -> ∃ t, Ev (fun k => laws_markText.l0 k x s) t := by
  intro d
  induction d with
  | zero =>
   intro x s h1 h2 h3
   refine ⟨(⟨#[109]⟩ : ByteArray) ++ s, ?_⟩
   (refine Ev.up ?_; simp only [laws_markText.l0, decT])
   (repeat (first | with_reducible refine Ev.bindS ?_ | (with_reducible refine Ev.ifp ?_ ?_; (· exact cnd_)) | (with_reducible refine Ev.ifn ?_ ?_; (· exact cnd_))))
   exact Ev.val rfl
  | succ d ih =>
   intro x s h1 h2 h3
   by_cases hx : x > 0
   ·have e1 : wrap64 (Int.tdiv x 10) = x / 10 := by
     rw [Int.tdiv_eq_ediv_of_nonneg (by omega)]
     exact wrap_ok (by omega) (by omega)
    have hz : ∀ c : Int, (strOfNums [c]).size = 1 := one_size
    obtain ⟨t, ht⟩ := ih (x / 10) (strOfNums [(wrap64 (48 + (Int.tmod x 10))) % 256] ++ s) (by omega) (by omega) (by rw [str_append_size, hz]; omega)
    refine ⟨t, ?_⟩
    (refine Ev.up ?_; simp only [laws_markText.l0, decT])
    rw [e1]
    (repeat (first | with_reducible refine Ev.bindS ?_ | (with_reducible refine Ev.ifp ?_ ?_; (· exact cnd_)) | (with_reducible refine Ev.ifn ?_ ?_; (· exact cnd_))))
    rw [hz]
    (repeat (first | with_reducible refine Ev.bindS ?_ | (with_reducible refine Ev.ifp ?_ ?_; (· exact cnd_)) | (with_reducible refine Ev.ifn ?_ ?_; (· exact cnd_))))
    exact ht
   ·refine ⟨(⟨#[109]⟩ : ByteArray) ++ s, ?_⟩
    (refine Ev.up ?_; simp only [laws_markText.l0, decT])
    (repeat (first | with_reducible refine Ev.bindS ?_ | (with_reducible refine Ev.ifp ?_ ?_; (· exact cnd_)) | (with_reducible refine Ev.ifn ?_ ?_; (· exact cnd_))))
    exact Ev.val rfl
 by_cases h : n <= 0
 ·refine ⟨(⟨#[109, 48]⟩ : ByteArray), ?_⟩
  simp only [laws_markText.f]
  (repeat (first | with_reducible refine Ev.bindS ?_ | (with_reducible refine Ev.ifp ?_ ?_; (· exact cnd_)) | (with_reducible refine Ev.ifn ?_ ?_; (· exact cnd_))))
  exact Ev.val rfl
 ·obtain ⟨t, ht⟩ := key n.toNat n (⟨#[]⟩ : ByteArray) (by omega) hn (by show ((0 : Nat) : Int) + _ <= _; omega)
  refine ⟨t, ?_⟩
  simp only [laws_markText.f]
  (repeat (first | with_reducible refine Ev.bindS ?_ | (with_reducible refine Ev.ifp ?_ ?_; (· exact cnd_)) | (with_reducible refine Ev.ifn ?_ ?_; (· exact cnd_))))
  exact ht
theorem markText_all : ∃ f : Int -> ByteArray, ∀ n, n <= 1073741824 -> Ev (fun k => laws_markText.f k n) (f n) := by
 have h : ∀ n : Int, ∃ t, n <= 1073741824 -> Ev (fun k => laws_markText.f k n) t := by
  intro n
  by_cases hn : n <= 1073741824
  ·obtain ⟨t, ht⟩ := markText_some n hn
   exact ⟨t, fun _ => ht⟩
  ·exact ⟨(⟨#[]⟩ : ByteArray), fun h => absurd h hn⟩
 exact ⟨fun n => Classical.choose (h n), fun n => Classical.choose_spec (h n)⟩
theorem markStrs_ev (l : List ByteArray) (hl : l.length <= 1048576) (c : Int) (h0 : 0 <= c) (h1 : c <= 1000000000) :
  ∃ l' : List ByteArray, l'.length = l.length /\ Ev (fun k => laws_markStringS.f k l c) (c + l.length, l') /\ Ev (fun k => laws_heldStringS.f k l' c) (c + l.length) := by
 obtain ⟨f, hf⟩ := markText_all
 refine ⟨l.mapIdx fun i _ => f (c + i), by simp, ?_, ?_⟩
 ·have h := mark_ev (fun k x a i => laws_markStringS.l0 k x a i) (fun i => c + (i : Int)) (fun i _ => f (c + i)) l ?_ ?_
  ·simp only [laws_markStringS.f]
   rw [show c + ((0 : Nat) : Int) = c by omega] at h
   exact h
  ·intro k x hx
   simp only [laws_markStringS.l0]
   rw [if_neg (by omega)]
  ·intro i y hy
   have hlt := (List.getElem?_eq_some_iff.1 hy).1
   obtain ⟨K, hK⟩ := hf (c + i) (by omega)
   refine ⟨K, fun k x hk hx _ => ?_⟩
   have e1 : wrap64 (c + (i : Int) + 1) = c + ((i + 1 : Nat) : Int) := by rw [wrap_ok (by omega) (by omega)]; omega
   have hk := hK k hk
   dsimp only at hk
   simp only [laws_markStringS.l0]
   rw [if_pos (by omega), hk, Option.bind_some, if_pos (by omega), wrap_succ (by omega), e1, Int.toNat_natCast]
 ·have key : ∀ (t : List ByteArray) (i : Nat), (l.mapIdx fun i _ => f (c + i)).drop i = t -> i <= l.length -> Ev (fun k => laws_heldStringS.l0 k (l.mapIdx fun i _ => f (c + i)) (c + i) i) (c + l.length) := by
   intro t
   induction t with
   | nil =>
    intro i h hi
    have h2 := drop_nil h
    simp only [List.length_mapIdx] at h2
    have e : i = l.length := by omega
    (refine Ev.up ?_; simp only [laws_heldStringS.l0, decT])
    rw [List.length_mapIdx]
    (repeat (first | with_reducible refine Ev.bindS ?_ | (with_reducible refine Ev.ifp ?_ ?_; (· exact cnd_)) | (with_reducible refine Ev.ifn ?_ ?_; (· exact cnd_))))
    exact Ev.val (by rw [e])
   | cons x t ih =>
    intro i h hi
    obtain ⟨p1, p2, p3⟩ := drop_cons h
    rw [List.length_mapIdx] at p1
    have ih := ih (i + 1) p3 (by omega)
    have hx : x = f (c + i) := by
     rw [List.getElem?_mapIdx] at p2
     obtain ⟨y, _, hy⟩ := Option.map_eq_some_iff.1 p2
     exact hy.symm
    have e1 : wrap64 (c + (i : Int) + 1) = c + ((i + 1 : Nat) : Int) := by rw [wrap_ok (by omega) (by omega)]; omega
    (refine Ev.up ?_; simp only [laws_heldStringS.l0, decT])
    rw [List.length_mapIdx, rdOf_at p2, e1, wrap_succ (by omega)]
    (repeat (first | with_reducible refine Ev.bindS ?_ | (with_reducible refine Ev.ifp ?_ ?_; (· exact cnd_)) | (with_reducible refine Ev.ifn ?_ ?_; (· exact cnd_))))
    refine Ev.bind (hf (c + i) (by omega)) ?_
    rw [hx]
    (repeat (first | with_reducible refine Ev.bindS ?_ | (with_reducible refine Ev.ifp ?_ ?_; (· exact cnd_)) | (with_reducible refine Ev.ifn ?_ ?_; (· exact cnd_))))
    exact ih
  have h := key _ 0 rfl (by omega)
  simp only [laws_heldStringS.f]
  rw [show c + ((0 : Nat) : Int) = c by omega] at h
  exact h
theorem szStrs_ev2 (l : List ByteArray) (hl : l.length <= maxLen) (hs : ∀ y ∈ l, y.size <= maxLen) (a : Int) (h0 : 0 <= a) (h1 : a <= 1048576) :
  ∃ r : Int, Ev (fun k => laws_szStringS.f k l a) r /\ r <= a /\ (0 <= r -> r + (l.length : Int) <= a /\ ∀ y ∈ l, (y.size : Int) <= a) := by
 simp only [maxLen] at hl hs
 have key : ∀ (t : List ByteArray) (i : Nat) (m : Int), l.drop i = t -> i <= l.length -> 0 <= m -> m <= a ->
   ∃ r : Int, Ev (fun k => laws_szStringS.l0 k l m i) r /\ r <= m /\ (0 <= r -> ∀ y ∈ t, (y.size : Int) <= a) := by
  intro t
  induction t with
  | nil =>
   intro i m h _ _ hm
   have := drop_nil h
   exact ⟨m, by (refine Ev.up ?_; simp only [laws_szStringS.l0, decT]); (repeat (first | with_reducible refine Ev.bindS ?_ | (with_reducible refine Ev.ifp ?_ ?_; (· exact cnd_)) | (with_reducible refine Ev.ifn ?_ ?_; (· exact cnd_)))); exact Ev.val rfl, Int.le_refl _, by simp⟩
  | cons x t ih =>
   intro i m h hi hm0 hm
   obtain ⟨p1, p2, p3⟩ := drop_cons h
   have hx := hs x (List.mem_of_getElem? p2)
   have e : wrap64 (m - (x.size : Int)) = m - (x.size : Int) := wrap_ok (by omega) (by omega)
   by_cases hlt : m - (x.size : Int) < 0
   ·refine ⟨-1, ?_, by omega, by omega⟩
    (refine Ev.up ?_; simp only [laws_szStringS.l0, decT])
    rw [rdOf_at p2, e]
    (repeat (first | with_reducible refine Ev.bindS ?_ | (with_reducible refine Ev.ifp ?_ ?_; (· exact cnd_)) | (with_reducible refine Ev.ifn ?_ ?_; (· exact cnd_))))
    exact Ev.val rfl
   ·obtain ⟨r, q1, q2, q3⟩ := ih (i + 1) (m - x.size) p3 (by omega) (by omega) (by omega)
    refine ⟨r, ?_, by omega, fun hr y hy => ?_⟩
    ·(refine Ev.up ?_; simp only [laws_szStringS.l0, decT])
     rw [rdOf_at p2, e, wrap_succ (by omega)]
     (repeat (first | with_reducible refine Ev.bindS ?_ | (with_reducible refine Ev.ifp ?_ ?_; (· exact cnd_)) | (with_reducible refine Ev.ifn ?_ ?_; (· exact cnd_))))
     exact q1
    ·rcases List.mem_cons.1 hy with rfl | hy
     ·omega
     ·exact q3 hr y hy
 have e : wrap64 (a - (l.length : Int)) = a - (l.length : Int) := wrap_ok (by omega) (by omega)
 by_cases hlt : a - (l.length : Int) < 0
 ·refine ⟨-1, ?_, by omega, by omega⟩
  simp only [laws_szStringS.f, e]
  (repeat (first | with_reducible refine Ev.bindS ?_ | (with_reducible refine Ev.ifp ?_ ?_; (· exact cnd_)) | (with_reducible refine Ev.ifn ?_ ?_; (· exact cnd_))))
  exact Ev.val rfl
 ·obtain ⟨r, q1, q2, q3⟩ := key l 0 (a - l.length) rfl (by omega) (by omega) (by omega)
  refine ⟨r, ?_, by omega, fun hr => ⟨by omega, q3 hr⟩⟩
  simp only [laws_szStringS.f, e]
  (repeat (first | with_reducible refine Ev.bindS ?_ | (with_reducible refine Ev.ifp ?_ ?_; (· exact cnd_)) | (with_reducible refine Ev.ifn ?_ ?_; (· exact cnd_))))
  exact q1
def wgt (p : S110) : Nat := p.f0.length + p.f1.length + p.f2.length
def tot (P : List S110) : Nat := (P.map wgt).sum
theorem tot_take_succ {P : List S110} {i : Nat} {y : S110} (h : P[i]? = some y) : tot (P.take (i + 1)) = tot (P.take i) + wgt y := by
 obtain ⟨h1, h2⟩ := List.getElem?_eq_some_iff.1 h
 unfold tot
 rw [List.take_add_one, h, Option.toList_some, List.map_append, List.sum_append]
 simp
theorem tot_take_le : ∀ (P : List S110) (i : Nat), tot (P.take i) <= tot P
 | [], i => by simp
 | p :: P, 0 => by simp [tot]
 | p :: P, i + 1 => by
  have := tot_take_le P i
  unfold tot at *
  simp only [List.take_succ_cons, List.map_cons, List.sum_cons]
  omega
theorem szPage_ev2 (p : S115) (h : wfP p) (a : Int) (h0 : 0 <= a) (h1 : a <= 1048576) :
  ∃ r : Int, Ev (fun k => laws_szPage.f k p.f0 p.f1 p.f2 a) r /\ r <= a /\ (0 <= r -> r + (wgt (cvP p) : Int) <= a /\ shortP a p) := by
 obtain ⟨r1, e1, l1, s1⟩ := szStrs_ev2 p.f0 h.1.1 h.1.2 a h0 h1
 simp only [laws_szPage.f]
 by_cases c1 : r1 < 0
 ·exact ⟨-1, Ev.bind e1 (by (repeat (first | with_reducible refine Ev.bindS ?_ | (with_reducible refine Ev.ifp ?_ ?_; (· exact cnd_)) | (with_reducible refine Ev.ifn ?_ ?_; (· exact cnd_)))); exact Ev.val rfl), by omega, by omega⟩
 obtain ⟨r2, e2, l2, s2⟩ := szStrs_ev2 p.f1 h.2.1.1 h.2.1.2 r1 (by omega) (by omega)
 by_cases c2 : r2 < 0
 ·exact ⟨-1, Ev.bind e1 (by (repeat (first | with_reducible refine Ev.bindS ?_ | (with_reducible refine Ev.ifp ?_ ?_; (· exact cnd_)) | (with_reducible refine Ev.ifn ?_ ?_; (· exact cnd_)))); exact Ev.bind e2 (by (repeat (first | with_reducible refine Ev.bindS ?_ | (with_reducible refine Ev.ifp ?_ ?_; (· exact cnd_)) | (with_reducible refine Ev.ifn ?_ ?_; (· exact cnd_)))); exact Ev.val rfl)), by omega, by omega⟩
 have hw : wrap64 (r2 - (p.f2.length : Int)) = r2 - (p.f2.length : Int) := wrap_ok (by have := h.2.2; simp only [maxLen] at this; omega) (by omega)
 have s1' := s1 (by omega)
 have s2' := s2 (by omega)
 by_cases c3 : r2 - (p.f2.length : Int) < 0
 ·refine ⟨-1, Ev.bind e1 (by (repeat (first | with_reducible refine Ev.bindS ?_ | (with_reducible refine Ev.ifp ?_ ?_; (· exact cnd_)) | (with_reducible refine Ev.ifn ?_ ?_; (· exact cnd_)))); exact Ev.bind e2 (by (repeat (first | with_reducible refine Ev.bindS ?_ | (with_reducible refine Ev.ifp ?_ ?_; (· exact cnd_)) | (with_reducible refine Ev.ifn ?_ ?_; (· exact cnd_)))); simp only [laws_szIntS.f, hw, if_pos c3, Option.bind_some]; exact Ev.val (by simp))), by omega, by omega⟩
 ·refine ⟨r2 - (p.f2.length : Int), Ev.bind e1 (by (repeat (first | with_reducible refine Ev.bindS ?_ | (with_reducible refine Ev.ifp ?_ ?_; (· exact cnd_)) | (with_reducible refine Ev.ifn ?_ ?_; (· exact cnd_)))); exact Ev.bind e2 (by (repeat (first | with_reducible refine Ev.bindS ?_ | (with_reducible refine Ev.ifp ?_ ?_; (· exact cnd_)) | (with_reducible refine Ev.ifn ?_ ?_; (· exact cnd_)))); simp only [laws_szIntS.f, hw, if_neg c3, Option.bind_some]; exact Ev.val rfl)), by omega, fun _ => ⟨?_, ⟨by omega, by omega, by omega, s1'.2, fun y hy => by have := s2'.2 y hy; omega⟩⟩⟩
  have := s1'.1
  have := s2'.1
  show r2 - (p.f2.length : Int) + ((p.f0.length + p.f1.length + p.f2.length : Nat) : Int) <= a
  omega
theorem shortP_mono {a b : Int} {p : S115} (h : shortP a p) (hab : a <= b) : shortP b p :=
 ⟨by have := h.1; omega, by have := h.2.1; omega, by have := h.2.2.1; omega, fun y hy => by have := h.2.2.2.1 y hy; omega, fun y hy => by have := h.2.2.2.2 y hy; omega⟩
theorem szTree_ev2 (P : List S115) (hl : P.length <= maxLen) (hw : ∀ p ∈ P, wfP p) :
  ∃ r : Int, Ev (fun k => laws_szTree.f k P 1048576) r /\ (0 <= r -> P.length <= 1048576 /\ tot (P.map cvP) <= 1048576 /\ ∀ p ∈ P, shortP 1048576 p) := by
 have key : ∀ (t : List S115) (i : Nat) (m : Int), P.drop i = t -> i <= P.length -> 0 <= m -> m <= 1048576 ->
   ∃ r : Int, Ev (fun k => laws_szPageS.l0 k P m i) r /\ (0 <= r -> r + (tot (t.map cvP) : Int) <= m /\ ∀ p ∈ t, shortP 1048576 p) := by
  intro t
  induction t with
  | nil =>
   intro i m h _ _ hm
   have := drop_nil h
   exact ⟨m, by (refine Ev.up ?_; simp only [laws_szPageS.l0, decT]); (repeat (first | with_reducible refine Ev.bindS ?_ | (with_reducible refine Ev.ifp ?_ ?_; (· exact cnd_)) | (with_reducible refine Ev.ifn ?_ ?_; (· exact cnd_)))); exact Ev.val rfl, fun _ => ⟨by simp [tot], by simp⟩⟩
  | cons x t ih =>
   intro i m h hi hm0 hm
   obtain ⟨p1, p2, p3⟩ := drop_cons h
   obtain ⟨r1, e1, l1, s1⟩ := szPage_ev2 x (hw x (List.mem_of_getElem? p2)) m hm0 hm
   have hrd : rd_T115 P (i : Int) = x := rdOf_at (z := z115) p2
   simp only [maxLen] at hl
   by_cases c : r1 < 0
   ·refine ⟨-1, ?_, by omega⟩
    (refine Ev.up ?_; simp only [laws_szPageS.l0, decT])
    rw [hrd]
    (repeat (first | with_reducible refine Ev.bindS ?_ | (with_reducible refine Ev.ifp ?_ ?_; (· exact cnd_)) | (with_reducible refine Ev.ifn ?_ ?_; (· exact cnd_))))
    exact Ev.bind e1 (by (repeat (first | with_reducible refine Ev.bindS ?_ | (with_reducible refine Ev.ifp ?_ ?_; (· exact cnd_)) | (with_reducible refine Ev.ifn ?_ ?_; (· exact cnd_)))); exact Ev.val rfl)
   ·obtain ⟨r, q1, q2⟩ := ih (i + 1) r1 p3 (by omega) (by omega) (by omega)
    have s1' := s1 (by omega)
    refine ⟨r, ?_, fun hr => ⟨?_, fun p hp => ?_⟩⟩
    ·(refine Ev.up ?_; simp only [laws_szPageS.l0, decT])
     rw [hrd, wrap_succ (by omega)]
     (repeat (first | with_reducible refine Ev.bindS ?_ | (with_reducible refine Ev.ifp ?_ ?_; (· exact cnd_)) | (with_reducible refine Ev.ifn ?_ ?_; (· exact cnd_))))
     exact Ev.bind e1 (by (repeat (first | with_reducible refine Ev.bindS ?_ | (with_reducible refine Ev.ifp ?_ ?_; (· exact cnd_)) | (with_reducible refine Ev.ifn ?_ ?_; (· exact cnd_)))); exact q1)
    ·have := (q2 hr).1
     have e : tot ((x :: t).map cvP) = wgt (cvP x) + tot (t.map cvP) := by simp [tot]
     omega
    ·rcases List.mem_cons.1 hp with rfl | hp
     ·exact shortP_mono s1'.2 hm
     ·exact (q2 hr).2 p hp
 have hl' := hl
 simp only [maxLen] at hl'
 have e : wrap64 (1048576 - (P.length : Int)) = 1048576 - (P.length : Int) := wrap_ok (by omega) (by omega)
 simp only [laws_szTree.f, laws_szPageS.f]
 by_cases hlt : 1048576 - (P.length : Int) < 0
 ·refine ⟨-1, ?_, by omega⟩
  rw [e]
  refine Ev.bind (a := -1) ?_ ?_
  ·(repeat (first | with_reducible refine Ev.bindS ?_ | (with_reducible refine Ev.ifp ?_ ?_; (· exact cnd_)) | (with_reducible refine Ev.ifn ?_ ?_; (· exact cnd_))))
   exact Ev.val rfl
  ·(repeat (first | with_reducible refine Ev.bindS ?_ | (with_reducible refine Ev.ifp ?_ ?_; (· exact cnd_)) | (with_reducible refine Ev.ifn ?_ ?_; (· exact cnd_))))
   exact Ev.val rfl
 ·obtain ⟨r, q1, q2⟩ := key P 0 (1048576 - P.length) rfl (by omega) (by omega) (by omega)
  by_cases c : r < 0
  ·refine ⟨-1, ?_, by omega⟩
   rw [e]
   refine Ev.bind (a := r) ?_ ?_
   ·(repeat (first | with_reducible refine Ev.bindS ?_ | (with_reducible refine Ev.ifp ?_ ?_; (· exact cnd_)) | (with_reducible refine Ev.ifn ?_ ?_; (· exact cnd_))))
    exact q1
   ·(repeat (first | with_reducible refine Ev.bindS ?_ | (with_reducible refine Ev.ifp ?_ ?_; (· exact cnd_)) | (with_reducible refine Ev.ifn ?_ ?_; (· exact cnd_))))
    exact Ev.val rfl
  ·refine ⟨r, ?_, fun hr => ⟨by omega, by have := (q2 hr).1; omega, (q2 hr).2⟩⟩
   rw [e]
   refine Ev.bind (a := r) ?_ ?_
   ·(repeat (first | with_reducible refine Ev.bindS ?_ | (with_reducible refine Ev.ifp ?_ ?_; (· exact cnd_)) | (with_reducible refine Ev.ifn ?_ ?_; (· exact cnd_))))
    exact q1
   ·(repeat (first | with_reducible refine Ev.bindS ?_ | (with_reducible refine Ev.ifp ?_ ?_; (· exact cnd_)) | (with_reducible refine Ev.ifn ?_ ?_; (· exact cnd_))))
    exact Ev.val rfl
theorem markInts_ev (l : List Int) (hl : l.length <= 1048576) (c : Int) (h0 : 0 <= c) (h1 : c <= 1000000000) :
  ∃ l' : List Int, Ev (fun k => laws_markIntS.f k l c) (c + l.length, l') := by
 refine ⟨l.mapIdx fun i _ => c + i, ?_⟩
 have h := mark_ev (fun k x a i => laws_markIntS.l0 k x a i) (fun i => c + (i : Int)) (fun i _ => c + i) l ?_ ?_
 ·simp only [laws_markIntS.f]
  rw [show c + ((0 : Nat) : Int) = c by omega] at h
  exact h
 ·intro k x hx
  simp only [laws_markIntS.l0]
  rw [if_neg (by omega)]
 ·intro i y hy
  have hlt := (List.getElem?_eq_some_iff.1 hy).1
  refine ⟨0, fun k x hk hx _ => ?_⟩
  have e1 : wrap64 (c + (i : Int) + 1) = c + ((i + 1 : Nat) : Int) := by rw [wrap_ok (by omega) (by omega)]; omega
  simp only [laws_markIntS.l0]
  rw [if_pos (by omega), if_pos (by omega), wrap_succ (by omega), e1, Int.toNat_natCast]
theorem markPage_ev (p : S110) (hp : wgt p <= 1048576) (c : Int) (h0 : 0 <= c) (h1 : c <= 900000000) :
  ∃ q : S110, ∃ K, ∀ k, K <= k -> laws_markStringS.f k p.f0 c = some (c + p.f0.length, q.f0) /\ laws_markStringS.f k p.f1 (c + p.f0.length) = some (c + p.f0.length + p.f1.length, q.f1) /\ laws_markIntS.f k p.f2 (c + p.f0.length + p.f1.length) = some (c + ((wgt p : Nat) : Int), q.f2) := by
 have hw : wgt p = p.f0.length + p.f1.length + p.f2.length := rfl
 obtain ⟨l0, _, ⟨K0, m0⟩, _⟩ := markStrs_ev p.f0 (by omega) c h0 (by omega)
 obtain ⟨l1, _, ⟨K1, m1⟩, _⟩ := markStrs_ev p.f1 (by omega) (c + p.f0.length) (by omega) (by omega)
 obtain ⟨l2, ⟨K2, m2⟩⟩ := markInts_ev p.f2 (by omega) (c + p.f0.length + p.f1.length) (by omega) (by omega)
 refine ⟨⟨l0, l1, l2⟩, max K0 (max K1 K2), fun k hk => ⟨m0 k (by omega), m1 k (by omega), ?_⟩⟩
 have := m2 k (by omega)
 dsimp only at this
 rw [this, hw]
 congr 2
 omega
theorem markPages_ev (P : List S110) (hl : P.length <= 1048576) (ht : tot P <= 1048576) :
  ∃ u : List S110, Ev (fun k => laws_markPageS.f k P 1) (1 + ((tot P : Nat) : Int), u) := by
 have hw : ∀ {i : Nat} {y : S110}, P[i]? = some y -> tot (P.take i) + wgt y <= 1048576 := fun {i y} h => by
  have := tot_take_succ h
  have := tot_take_le P (i + 1)
  omega
 have ex : ∀ (i : Nat) (y : S110), ∃ q : S110, P[i]? = some y -> ∃ K, ∀ k, K <= k -> laws_markStringS.f k y.f0 (1 + ((tot (P.take i) : Nat) : Int)) = some (1 + ((tot (P.take i) : Nat) : Int) + y.f0.length, q.f0) /\ laws_markStringS.f k y.f1 (1 + ((tot (P.take i) : Nat) : Int) + y.f0.length) = some (1 + ((tot (P.take i) : Nat) : Int) + y.f0.length + y.f1.length, q.f1) /\ laws_markIntS.f k y.f2 (1 + ((tot (P.take i) : Nat) : Int) + y.f0.length + y.f1.length) = some (1 + ((tot (P.take i) : Nat) : Int) + ((wgt y : Nat) : Int), q.f2) := by
  intro i y
  by_cases h : P[i]? = some y
  ·have := hw h
   obtain ⟨q, hq⟩ := markPage_ev y (by omega) (1 + ((tot (P.take i) : Nat) : Int)) (by omega) (by omega)
   exact ⟨q, fun _ => hq⟩
  ·exact ⟨y, fun h2 => absurd h2 h⟩
 obtain ⟨g, hg⟩ : ∃ g : Nat -> S110 -> S110, ∀ (i : Nat) (y : S110), P[i]? = some y -> ∃ K, ∀ k, K <= k -> laws_markStringS.f k y.f0 (1 + ((tot (P.take i) : Nat) : Int)) = some (1 + ((tot (P.take i) : Nat) : Int) + y.f0.length, (g i y).f0) /\ laws_markStringS.f k y.f1 (1 + ((tot (P.take i) : Nat) : Int) + y.f0.length) = some (1 + ((tot (P.take i) : Nat) : Int) + y.f0.length + y.f1.length, (g i y).f1) /\ laws_markIntS.f k y.f2 (1 + ((tot (P.take i) : Nat) : Int) + y.f0.length + y.f1.length) = some (1 + ((tot (P.take i) : Nat) : Int) + ((wgt y : Nat) : Int), (g i y).f2) := ⟨fun i y => Classical.choose (ex i y), fun i y => Classical.choose_spec (ex i y)⟩
 refine ⟨P.mapIdx g, ?_⟩
 have h := mark_ev (fun k x a i => laws_markPageS.l0 k x a i) (fun i => 1 + (((tot (P.take i) : Nat) : Int) : Int)) g P ?_ ?_
 ·simp only [laws_markPageS.f]
  rw [show (1 : Int) + ((tot (P.take 0) : Nat) : Int) = 1 by simp [tot], List.take_length] at h
  exact h
 ·intro k x hx
  simp only [laws_markPageS.l0]
  rw [if_neg (by omega)]
 ·intro i y hy
  have hlt := (List.getElem?_eq_some_iff.1 hy).1
  obtain ⟨K, hK⟩ := hg i y hy
  refine ⟨K, fun k x hk hx hxy => ?_⟩
  obtain ⟨a, b, c⟩ := hK k hk
  have hrd : rd_T110 x (i : Int) = y := rdOf_at (z := z110) hxy
  have hs := tot_take_succ hy
  simp only [laws_markPageS.l0]
  rw [if_pos (by omega), if_pos (by omega), hrd, a, Option.bind_some]
  dsimp only
  rw [b, Option.bind_some]
  dsimp only
  rw [c, Option.bind_some, wrap_succ (by omega), Int.toNat_natCast, hs]
  dsimp only
  rw [show (1 : Int) + ((tot (P.take i) : Nat) : Int) + ((wgt y : Nat) : Int) = 1 + ((tot (P.take i) + wgt y : Nat) : Int) by omega]
theorem markInts2_ev (l : List Int) (hl : l.length <= 1048576) (c : Int) (h0 : 0 <= c) (h1 : c <= 1000000000) :
  ∃ l' : List Int, l'.length = l.length /\ Ev (fun k => laws_markIntS.f k l c) (c + l.length, l') /\ Ev (fun k => laws_heldIntS.f k l' c) (c + l.length) := by
 refine ⟨l.mapIdx fun i _ => c + (i : Int), by simp, ?_, ?_⟩
 ·have h := mark_ev (fun k x a i => laws_markIntS.l0 k x a i) (fun i => c + (i : Int)) (fun i _ => c + (i : Int)) l ?_ ?_
  ·simp only [laws_markIntS.f]
   rw [show c + ((0 : Nat) : Int) = c by omega] at h
   exact h
  ·intro k x hx
   simp only [laws_markIntS.l0]
   rw [if_neg (by omega)]
  ·intro i y hy
   have hlt := (List.getElem?_eq_some_iff.1 hy).1
   refine ⟨0, fun k x hk hx _ => ?_⟩
   have e1 : wrap64 (c + (i : Int) + 1) = c + ((i + 1 : Nat) : Int) := by rw [wrap_ok (by omega) (by omega)]; omega
   simp only [laws_markIntS.l0]
   rw [if_pos (by omega), if_pos (by omega), wrap_succ (by omega), e1, Int.toNat_natCast]
 ·have key : ∀ (t : List Int) (i : Nat), (l.mapIdx fun i _ => c + (i : Int)).drop i = t -> i <= l.length -> Ev (fun k => laws_heldIntS.l0 k (l.mapIdx fun i _ => c + (i : Int)) (c + i) i) (c + l.length) := by
   intro t
   induction t with
   | nil =>
    intro i h hi
    have h2 := drop_nil h
    simp only [List.length_mapIdx] at h2
    have e : i = l.length := by omega
    (refine Ev.up ?_; simp only [laws_heldIntS.l0, decT])
    rw [List.length_mapIdx]
    (repeat (first | with_reducible refine Ev.bindS ?_ | (with_reducible refine Ev.ifp ?_ ?_; (· exact cnd_)) | (with_reducible refine Ev.ifn ?_ ?_; (· exact cnd_))))
    exact Ev.val (by rw [e])
   | cons x t ih =>
    intro i h hi
    obtain ⟨p1, p2, p3⟩ := drop_cons h
    rw [List.length_mapIdx] at p1
    have ih := ih (i + 1) p3 (by omega)
    have hx : x = c + (i : Int) := by
     rw [List.getElem?_mapIdx] at p2
     obtain ⟨y, _, hy⟩ := Option.map_eq_some_iff.1 p2
     exact hy.symm
    have e1 : wrap64 (c + (i : Int) + 1) = c + ((i + 1 : Nat) : Int) := by rw [wrap_ok (by omega) (by omega)]; omega
    (refine Ev.up ?_; simp only [laws_heldIntS.l0, decT])
    rw [List.length_mapIdx, rd_at p2, e1, wrap_succ (by omega)]
    (repeat (first | with_reducible refine Ev.bindS ?_ | (with_reducible refine Ev.ifp ?_ ?_; (· exact cnd_)) | (with_reducible refine Ev.ifn ?_ ?_; (· exact cnd_))))
    exact ih
  have h := key _ 0 rfl (by omega)
  simp only [laws_heldIntS.f]
  rw [show c + ((0 : Nat) : Int) = c by omega] at h
  exact h
structure MarkedP (p q : S110) (c : Int) : Prop where
 m0 : Ev (fun k => laws_markStringS.f k p.f0 c) (c + p.f0.length, q.f0)
 m1 : Ev (fun k => laws_markStringS.f k p.f1 (c + p.f0.length)) (c + p.f0.length + p.f1.length, q.f1)
 m2 : Ev (fun k => laws_markIntS.f k p.f2 (c + p.f0.length + p.f1.length)) (c + ((wgt p : Nat) : Int), q.f2)
 h0 : Ev (fun k => laws_heldStringS.f k q.f0 c) (c + p.f0.length)
 h1 : Ev (fun k => laws_heldStringS.f k q.f1 (c + p.f0.length)) (c + p.f0.length + p.f1.length)
 h2 : Ev (fun k => laws_heldIntS.f k q.f2 (c + p.f0.length + p.f1.length)) (c + ((wgt p : Nat) : Int))
theorem markPage2_ev (p : S110) (hp : wgt p <= 1048576) (c : Int) (h0 : 0 <= c) (h1 : c <= 900000000) : ∃ q : S110, MarkedP p q c := by
 have hw : wgt p = p.f0.length + p.f1.length + p.f2.length := rfl
 obtain ⟨l0, _, a0, b0⟩ := markStrs_ev p.f0 (by omega) c h0 (by omega)
 obtain ⟨l1, _, a1, b1⟩ := markStrs_ev p.f1 (by omega) (c + p.f0.length) (by omega) (by omega)
 obtain ⟨l2, _, a2, b2⟩ := markInts2_ev p.f2 (by omega) (c + p.f0.length + p.f1.length) (by omega) (by omega)
 have e : c + p.f0.length + p.f1.length + (p.f2.length : Int) = c + ((wgt p : Nat) : Int) := by rw [hw]; omega
 rw [e] at a2 b2
 exact ⟨⟨l0, l1, l2⟩, a0, a1, a2, b0, b1, b2⟩
theorem markPages2_ev (P : List S110) (hl : P.length <= 1048576) (ht : tot P <= 1048576) :
  ∃ u : List S110, Ev (fun k => laws_markPageS.f k P 1) (1 + ((tot P : Nat) : Int), u) /\ Ev (fun k => laws_heldTree.f k u 1) (1 + ((tot P : Nat) : Int)) := by
 have hw : ∀ {i : Nat} {y : S110}, P[i]? = some y -> tot (P.take i) + wgt y <= 1048576 := fun {i y} h => by
  have := tot_take_succ h
  have := tot_take_le P (i + 1)
  omega
 have ex : ∀ (i : Nat) (y : S110), ∃ q : S110, P[i]? = some y -> MarkedP y q (1 + ((tot (P.take i) : Nat) : Int)) := by
  intro i y
  by_cases h : P[i]? = some y
  ·have := hw h
   obtain ⟨q, hq⟩ := markPage2_ev y (by omega) (1 + ((tot (P.take i) : Nat) : Int)) (by omega) (by omega)
   exact ⟨q, fun _ => hq⟩
  ·exact ⟨y, fun h2 => absurd h2 h⟩
 obtain ⟨g, hg⟩ : ∃ g : Nat -> S110 -> S110, ∀ (i : Nat) (y : S110), P[i]? = some y -> MarkedP y (g i y) (1 + ((tot (P.take i) : Nat) : Int)) := ⟨fun i y => Classical.choose (ex i y), fun i y => Classical.choose_spec (ex i y)⟩
 refine ⟨P.mapIdx g, ?_, ?_⟩
 ·have h := mark_ev (fun k x a i => laws_markPageS.l0 k x a i) (fun i => 1 + (((tot (P.take i) : Nat) : Int) : Int)) g P ?_ ?_
  ·simp only [laws_markPageS.f]
   rw [show (1 : Int) + ((tot (P.take 0) : Nat) : Int) = 1 by simp [tot], List.take_length] at h
   exact h
  ·intro k x hx
   simp only [laws_markPageS.l0]
   rw [if_neg (by omega)]
  ·intro i y hy
   have hlt := (List.getElem?_eq_some_iff.1 hy).1
   obtain ⟨⟨K0, m0⟩, ⟨K1, m1⟩, ⟨K2, m2⟩, _, _, _⟩ := hg i y hy
   refine ⟨max K0 (max K1 K2), fun k x hk hx hxy => ?_⟩
   have a := m0 k (by omega)
   have b := m1 k (by omega)
   have c := m2 k (by omega)
   dsimp only at a b c
   have hrd : rd_T110 x (i : Int) = y := rdOf_at (z := z110) hxy
   have hs := tot_take_succ hy
   simp only [laws_markPageS.l0]
   rw [if_pos (by omega), if_pos (by omega), hrd, a, Option.bind_some]
   dsimp only
   rw [b, Option.bind_some]
   dsimp only
   rw [c, Option.bind_some, wrap_succ (by omega), Int.toNat_natCast, hs]
   dsimp only
   rw [show (1 : Int) + ((tot (P.take i) : Nat) : Int) + ((wgt y : Nat) : Int) = 1 + ((tot (P.take i) + wgt y : Nat) : Int) by omega]
 ·have key : ∀ (t : List S110) (i : Nat), (P.mapIdx g).drop i = t -> i <= P.length -> Ev (fun k => laws_heldPageS.l0 k (P.mapIdx g) (1 + ((tot (P.take i) : Nat) : Int)) i) (1 + ((tot P : Nat) : Int)) := by
   intro t
   induction t with
   | nil =>
    intro i h hi
    have h2 := drop_nil h
    simp only [List.length_mapIdx] at h2
    have e : i = P.length := by omega
    (refine Ev.up ?_; simp only [laws_heldPageS.l0, decT])
    rw [List.length_mapIdx]
    (repeat (first | with_reducible refine Ev.bindS ?_ | (with_reducible refine Ev.ifp ?_ ?_; (· exact cnd_)) | (with_reducible refine Ev.ifn ?_ ?_; (· exact cnd_))))
    exact Ev.val (by rw [e, List.take_length])
   | cons x t ih =>
    intro i h hi
    obtain ⟨p1, p2, p3⟩ := drop_cons h
    rw [List.length_mapIdx] at p1
    have ih := ih (i + 1) p3 (by omega)
    obtain ⟨y, hy, hx⟩ : ∃ y, P[i]? = some y /\ x = g i y := by
     rw [List.getElem?_mapIdx] at p2
     obtain ⟨y, h1, h2⟩ := Option.map_eq_some_iff.1 p2
     exact ⟨y, h1, h2.symm⟩
    obtain ⟨_, _, _, q0, q1, q2⟩ := hg i y hy
    have hrd : rd_T110 (P.mapIdx g) (i : Int) = g i y := (rdOf_at (z := z110) p2).trans hx
    have hs := tot_take_succ hy
    have hwy : wgt y = y.f0.length + y.f1.length + y.f2.length := rfl
    rw [show (1 : Int) + ((tot (P.take (i + 1)) : Nat) : Int) = 1 + ((tot (P.take i) : Nat) : Int) + ((wgt y : Nat) : Int) by omega] at ih
    (refine Ev.up ?_; simp only [laws_heldPageS.l0, decT])
    rw [List.length_mapIdx, hrd, wrap_succ (by omega)]
    (repeat (first | with_reducible refine Ev.bindS ?_ | (with_reducible refine Ev.ifp ?_ ?_; (· exact cnd_)) | (with_reducible refine Ev.ifn ?_ ?_; (· exact cnd_))))
    refine Ev.bind q0 ?_
    (repeat (first | with_reducible refine Ev.bindS ?_ | (with_reducible refine Ev.ifp ?_ ?_; (· exact cnd_)) | (with_reducible refine Ev.ifn ?_ ?_; (· exact cnd_))))
    refine Ev.bind q1 ?_
    (repeat (first | with_reducible refine Ev.bindS ?_ | (with_reducible refine Ev.ifp ?_ ?_; (· exact cnd_)) | (with_reducible refine Ev.ifn ?_ ?_; (· exact cnd_))))
    refine Ev.bind q2 ?_
    (repeat (first | with_reducible refine Ev.bindS ?_ | (with_reducible refine Ev.ifp ?_ ?_; (· exact cnd_)) | (with_reducible refine Ev.ifn ?_ ?_; (· exact cnd_))))
    exact ih
  have h := key _ 0 rfl (by omega)
  rw [show (1 : Int) + ((tot (P.take 0) : Nat) : Int) = 1 by simp [tot]] at h
  simp only [laws_heldTree.f]
  refine Ev.bind (a := 1 + ((tot P : Nat) : Int)) (by simp only [laws_heldPageS.f]; exact h) ?_
  (repeat (first | with_reducible refine Ev.bindS ?_ | (with_reducible refine Ev.ifp ?_ ?_; (· exact cnd_)) | (with_reducible refine Ev.ifn ?_ ?_; (· exact cnd_))))
  exact Ev.val rfl
mutual
theorem flat_small : ∀ (t : PT) (a : Nat), Bnd t -> ∀ p ∈ flatP t a, p.f0.length <= 4 /\ p.f1.length <= 4 /\ p.f2.length <= 5
 | .mk ks vs cs, a, hb, p, hp => by
  obtain ⟨⟨h1, h2, h3⟩, h4⟩ := Bnd_iff.1 hb
  rw [flatP] at hp
  rcases List.mem_cons.1 hp with rfl | hp
  ·have h1 : vs.length = ks.length := h1
   have h2 : ks.length <= 4 := h2
   have h3 : cs.length = 0 ∨ cs.length = ks.length + 1 := h3
   exact ⟨h2, by show vs.length <= 4; omega, by show (starts cs (a + 1)).length <= 5; rw [starts_len]; omega⟩
  ·exact flatL_small cs (a + 1) h4 p hp
theorem flatL_small : ∀ (l : List PT) (a : Nat), (∀ s ∈ l, Bnd s) -> ∀ p ∈ flatL l a, p.f0.length <= 4 /\ p.f1.length <= 4 /\ p.f2.length <= 5
 | [], _, _, p, hp => by cases hp
 | c :: cs, a, hb, p, hp => by
  rw [flatL] at hp
  rcases List.mem_append.1 hp with hp | hp
  ·exact flat_small c a (hb c List.mem_cons_self) p hp
  ·exact flatL_small cs (a + c.big) (fun s hs => hb s (List.mem_cons_of_mem _ hs)) p hp
end
theorem tot_small : ∀ P : List S110, (∀ p ∈ P, p.f0.length <= 4 /\ p.f1.length <= 4 /\ p.f2.length <= 5) -> tot P <= 13 * P.length
 | [], _ => by simp [tot]
 | p :: P, h => by
  have h1 := tot_small P fun q hq => h q (List.mem_cons_of_mem _ hq)
  have h2 := h p List.mem_cons_self
  unfold tot wgt at *
  rw [List.map_cons, List.sum_cons, List.length_cons]
  omega
theorem made_ok (r : List S110) (hl : r.length <= 1000) (hs : ∀ p ∈ r, p.f0.length <= 4 /\ p.f1.length <= 4 /\ p.f2.length <= 5) :
  Ev (fun k => laws_eqTree.f k r r) true /\ ∃ (m : Int) (u : List S110), 0 <= m /\ Ev (fun k => laws_markPageS.f k r 1) (m, u) /\ Ev (fun k => laws_heldTree.f k u 1) m := by
 have ht := tot_small r hs
 refine ⟨eqTree_ev r (by omega) (fun p hp => by have := hs p hp; unfold lenP; omega), ?_⟩
 obtain ⟨u, h1, h2⟩ := markPages2_ev r (by omega) (by omega)
 exact ⟨_, u, by omega, h1, h2⟩
theorem flat_ok {t : PT} (h : OkT t) (hl : (allP t).length <= 41) : (flatP t 0).length <= 1000 /\ ∀ p ∈ flatP t 0, p.f0.length <= 4 /\ p.f1.length <= 4 /\ p.f2.length <= 5 := by
 refine ⟨?_, flat_small t 0 h.bnd⟩
 rw [flat_len]
 have := h.small
 omega
theorem spec_eq (P : List S110) (a b : ByteArray) (h : treeOk P = true) : spec_PutKey.f P a b = some ((putR (ofS P) a b).1, (putR (ofS P) a b).2) := by
 unfold spec_PutKey.f
 rw [if_pos h]
theorem impl_ev (P : List S110) (a b : ByteArray) (h : treeOk P = true) (hP : P.length <= 1048576) : Ev (fun k => impl_PutKey.f k P a b) ((putR (ofS P) a b).1, (putR (ofS P) a b).2) := by
 simp only [impl_PutKey.f, if_pos h]
 exact Ev.bind (root_ev P hP) (Ev.val rfl)
theorem small_ok (P : List S110) (a b : ByteArray) (hP : P.length <= 1048576) : (putR (ofS P) a b).1.length <= 1000 /\ ∀ p ∈ (putR (ofS P) a b).1, p.f0.length <= 4 /\ p.f1.length <= 4 /\ p.f2.length <= 5 := by
 have hn : ([] : List S110).length <= 1000 /\ ∀ p ∈ ([] : List S110), p.f0.length <= 4 /\ p.f1.length <= 4 /\ p.f2.length <= 5 := ⟨by simp, fun p hp => by cases hp⟩
 cases ho : ofS P with
 | none => exact hn
 | some t =>
  obtain ⟨h1, h2⟩ := ofS_okT hP ho
  obtain ⟨q1, q2⟩ := with_ok h1 a b
  unfold putR
  simp only
  split
  ·split
   ·exact hn
   ·refine flat_ok q1 ?_
    rw [q2]
    have := insKV_len (k := a) (v := b) (allP t)
    omega
  ·exact hn
theorem FnExactPutKey : ∀ (l : List (S115)) (a : ByteArray) (b : ByteArray), (l.length <= maxLen /\ ∀ y4 ∈ l, ((y4.f0.length <= maxLen /\ ∀ y5 ∈ y4.f0, y5.size <= maxLen) /\ (y4.f1.length <= maxLen /\ ∀ y6 ∈ y4.f1, y6.size <= maxLen) /\ (y4.f2.length <= maxLen /\ ∀ y7 ∈ y4.f2, (Lit.int .i64 y7).wf = true))) -> a.size <= 140737488351232 -> b.size <= 140737488351232 -> ∃ k, laws_FnExactPutKey.Runs k l a b := by
 intro l a b h _ _
 by_cases ha : 1048576 < (a.size : Int)
 ·exact ⟨0, .inl ha⟩
 by_cases hb : 1048576 < (b.size : Int)
 ·exact ⟨0, .inr ⟨by omega, .inl hb⟩⟩
 obtain ⟨r, ⟨Kr, hr⟩, hb⟩ := szTree_ev2 l h.1 fun p hp => ⟨(h.2 p hp).1, (h.2 p hp).2.1, (h.2 p hp).2.2.1⟩
 by_cases c : r < 0
 ·exact ⟨Kr, .inr ⟨by omega, .inr ⟨by omega, r, hr Kr (Nat.le_refl _), .inl c⟩⟩⟩
 obtain ⟨hl, ht, hs⟩ := hb (by omega)
 obtain ⟨hok, hlen, ⟨K1, hto⟩, ⟨K5, heq⟩⟩ := pages_ok l hl hs
 obtain ⟨u, ⟨K6, h6⟩⟩ := markPages_ev (l.map cvP) hlen ht
 have htr : treeOk (l.map cvP) = true := by unfold treeOk; rw [hok]; simpa using hlen
 obtain ⟨K3, h3⟩ := impl_ev (l.map cvP) a b htr hlen
 have e2 := spec_eq (l.map cvP) a b htr
 obtain ⟨q1, q2⟩ := small_ok (l.map cvP) a b hlen
 obtain ⟨⟨K4, h4⟩, m, z, hm0, ⟨K7, h7⟩, ⟨K8, h8⟩⟩ := made_ok _ q1 q2
 refine ⟨Kr + K1 + K3 + K4 + K5 + K6 + K7 + K8, .inr ⟨by omega, .inr ⟨by omega, r, hr _ (by omega), .inr ⟨by omega, l.map cvP, _, _, _, u, m, z, hto _ (by omega), e2, h3 _ (by omega), h4 _ (by omega), heq _ (by omega), h6 _ (by omega), h7 _ (by omega), h8 _ (by omega), by omega, hm0⟩⟩⟩⟩
end Go.Proofs.Ytoddejmlcnbdmaa.Pure
namespace Go.Proofs.Ytoddejmlcnbdmaa.OpenA
open Go.Deep Go.ChangeShapes Go.Joins Go.Proofs.YtoddejmlcnbdmaaW
def Op (P : Program) (t : TypeId) {α : Type} (d : Kd α) (Wf : α -> Prop) : Prop :=
 ∀ {H : Type} {enc : TypeId × Value -> H} {w : World} {base : Nat} {spare : Nat -> Bool} {held : Bool} {fuel : Nat} {cs : List Value} {x : DataW H × List MemPlace},
  DataW.trod enc P w base spare held fuel t cs = some x -> ∃ a : α, d.K w a cs /\ Wf a
variable {P : Program} {t e : TypeId}
theorem op_int {k : IntKind} (hu : P.underlying t = some (.int k)) : Op P t (Kd.int k) (fun n => (Lit.int k n).wf = true) := by
 intro H enc w base spare held fuel cs x h
 obtain ⟨n, rfl, _, hw⟩ := DataW.trod_int hu h
 exact ⟨n, rfl, hw⟩
theorem op_string (hu : P.underlying t = some .string) : Op P t Kd.string (fun s => s.size <= maxLen) := by
 intro H enc w base spare held fuel cs x h
 obtain ⟨s, rfl, _, hs⟩ := DataW.trod_string hu h
 exact ⟨s, rfl, hs⟩
theorem cells_of {w : World} {base : Nat} {a : Addr} {n : Nat} {cs : List Value} (h : w.cells? base a n = some cs) : cs.length = n /\ ∀ j u, cs[j]? = some u -> w.cell? (a.add j) = some u := by
 unfold World.cells? at h
 split at h
 ·have hl := mapM_some_length h
  refine ⟨by simpa using hl, fun j u hj => ?_⟩
  have hlt : j < n := by
   have := (List.getElem?_eq_some_iff.1 hj).1
   have : cs.length = n := by simpa using hl
   omega
  have := mapM_some_get h j j (by simp [hlt])
  rw [hj] at this
  exact this
 ·simp at h
theorem op_slice {α : Type} {d : Kd α} {Wf : α -> Prop} (hu : P.underlying t = some (.slice e)) (hc : P.cellsOf e = d.sz) (h : Op P e d Wf) :
  Op P t (Kd.slice e d) (fun xs => xs.length <= maxLen /\ ∀ x ∈ xs, Wf x) := by
 intro H enc w base spare held fuel cs x hf
 rcases open_slice hu hf with ⟨rfl, _⟩ | ⟨a, len, cap, m, n, D, Pl, rfl, _, hl, hm, hmm, hxe, hall⟩
 ·exact ⟨[], ⟨none, 0, rfl, Nat.le_refl _, rfl, by simp, fun h => absurd h (by simp)⟩, by simp, by simp⟩
 ·have hlm : len <= m := by rw [hmm]; split <;> omega
  have hx : ∀ i, i < len -> ∃ y : α × List Value, w.cells? base (a.add (i * P.cellsOf e)) (P.cellsOf e) = some y.2 /\ d.K w y.1 y.2 /\ Wf y.1 := by
   intro i hi
   obtain ⟨cs', h1, h2⟩ := hall i (by omega)
   obtain ⟨y, h3, h4⟩ := h h2
   exact ⟨⟨y, cs'⟩, h1, h3, h4⟩
  have hx' : ∃ ys : List (α × List Value), ys.length = len /\ ∀ i y, ys[i]? = some y -> w.cells? base (a.add (i * P.cellsOf e)) (P.cellsOf e) = some y.2 /\ d.K w y.1 y.2 /\ Wf y.1 := by
   clear hall hf hmm hlm hl hm hxe
   induction len with
   | zero => exact ⟨[], rfl, by simp⟩
   | succ len ih =>
    obtain ⟨ys, h1, h2⟩ := ih (fun i hi => hx i (by omega))
    obtain ⟨y, hy⟩ := hx len (by omega)
    refine ⟨ys ++ [y], by simp [h1], fun i z hz => ?_⟩
    rcases Nat.lt_or_ge i ys.length with hi | hi
    ·rw [List.getElem?_append_left hi] at hz
     exact h2 i z hz
    ·rw [List.getElem?_append_right hi] at hz
     have h0 : i - ys.length = 0 := by
      rcases Nat.eq_zero_or_pos (i - ys.length) with h0 | h0
      ·exact h0
      ·rw [List.getElem?_eq_none (by simp; omega)] at hz
       cases hz
     rw [h0] at hz
     have hz' : y = z := by simpa using hz
     have : i = len := by omega
     subst this
     subst hz'
     exact hy
  obtain ⟨ys, hl2, hys⟩ := hx'
  have hlen : (ys.map (·.1)).length = len := by simp [hl2]
  refine ⟨ys.map (·.1), ⟨some a, cap, by rw [hlen], by omega, ?_⟩, by simp only [maxLen] at *; omega, ?_⟩
  ·refine ⟨rfl, by rw [hlen]; simp only [maxLen] at hm; omega, fun _ => ⟨a, rfl, fun j p hj => ?_⟩⟩
   rw [List.getElem?_map] at hj
   obtain ⟨y, hy, rfl⟩ := Option.map_eq_some_iff.1 hj
   obtain ⟨h1, h2, _⟩ := hys j y hy
   obtain ⟨h3, h4⟩ := cells_of h1
   refine ⟨y.2, by rw [h3, hc], h2, fun i u hu => ?_⟩
   have := h4 i u hu
   rw [PrintWords.add_add, hc] at this
   exact this
  ·intro x hx
   obtain ⟨y, hy, rfl⟩ := List.mem_map.1 hx
   obtain ⟨i, hi⟩ := List.mem_iff_getElem?.1 hy
   exact (hys i y hi).2.2
theorem len1 {l : List Value} (h : l.length = 1) : ∃ a, l = [a] := by
 match l, h with
 | [a], _ => exact ⟨a, rfl⟩
theorem len3 {l : List Value} (h : l.length = 3) : ∃ a b c, l = [a, b, c] := by
 match l, h with
 | [a, b, c], _ => exact ⟨a, b, c, rfl⟩
theorem fields_of {H : Type} {enc : TypeId × Value -> H} {w : World} {base : Nat} {spare : Nat -> Bool} {held : Bool} {fuel : Nat} {cs : List Value} {x : DataW H × List MemPlace} {fs : Array Field}
  (hs : P.underlying t = some (.struct fs)) (hone : oneCellFields P fs = true) (hC : P.cellsOf t = fs.size) (h : DataW.trod enc P w base spare held fuel t cs = some x) :
  cs.length = fs.size /\ ∃ n, ∀ (i : Nat) (f : Field) (v : Value), fs[i]? = some f -> cs[i]? = some v -> ∃ y, DataW.trod enc P w base spare held n f.type [v] = some y := by
 obtain ⟨xs, n, _, _, hl, hx, hf⟩ := DataW.trod_struct hs h
 refine ⟨hl.trans hC, n, fun i f v hi hv => ?_⟩
 have h1 := hf i f hi
 obtain ⟨h2, h3⟩ := hone_of hone i f hi
 have hlt : i < fs.size := (Array.getElem?_eq_some_iff.1 hi).1
 have h4 : xs[i]? = some (xs[i]'(by omega)) := List.getElem?_eq_getElem (by omega)
 have h5 : (cs.drop f.offset).take (P.cellsOf f.type) = [v] := by
  rw [h2, h3]
  have hlt2 : i < cs.length := by omega
  rw [List.getElem?_eq_getElem hlt2] at hv
  injection hv with hv
  rw [List.drop_eq_getElem_cons hlt2, hv]
  simp
 rw [h5, h4] at h1
 exact ⟨_, h1⟩
theorem op_struct3 {α β γ S : Type} {d0 : Kd α} {d1 : Kd β} {d2 : Kd γ} {W0 : α -> Prop} {W1 : β -> Prop} {W2 : γ -> Prop} {f0 f1 f2 : Field} {f : S -> α × β × γ} (mk : α -> β -> γ -> S) (hf : ∀ a b c, f (mk a b c) = (a, b, c))
  (hs : P.underlying t = some (.struct #[f0, f1, f2])) (hone : oneCellFields P #[f0, f1, f2] = true) (hC : P.cellsOf t = 3) (h0 : Op P f0.type d0 W0) (h1 : Op P f1.type d1 W1) (h2 : Op P f2.type d2 W2) :
  Op P t (Kd.iso (Kd.pair d0 (Kd.pair d1 d2)) f) (fun x => W0 (f x).1 /\ W1 (f x).2.1 /\ W2 (f x).2.2) := by
 intro H enc w base spare held fuel cs x h
 obtain ⟨hl, n, hF⟩ := fields_of hs hone hC h
 obtain ⟨c0, c1, c2, rfl⟩ := len3 hl
 obtain ⟨y0, k0⟩ := hF 0 f0 c0 rfl rfl
 obtain ⟨y1, k1⟩ := hF 1 f1 c1 rfl rfl
 obtain ⟨y2, k2⟩ := hF 2 f2 c2 rfl rfl
 obtain ⟨a0, q0, w0⟩ := h0 k0
 obtain ⟨a1, q1, w1⟩ := h1 k1
 obtain ⟨a2, q2, w2⟩ := h2 k2
 exact ⟨mk a0 a1 a2, ⟨[c0], [c1, c2], rfl, by rw [hf]; exact q0, [c1], [c2], rfl, by rw [hf]; exact q1, by rw [hf]; exact q2⟩, by dsimp only; rw [hf]; exact ⟨w0, w1, w2⟩⟩
theorem agg_of {cs : Array Value} {l : List Value} (h : cs.toList = l) : cs = l.toArray := by
 cases cs
 simp at h
 simp [h]
end Go.Proofs.Ytoddejmlcnbdmaa.OpenA
namespace Go.Proofs.Ytoddejmlcnbdmaa.fnExactPutKey
open Go.ChangeShapes Go.WideShapes Go.ChangeAt Go.Proofs.Ytoddejmlcnbdmaa.Fn Go.Proofs.Ytoddejmlcnbdmaa.OpenA
open Go.ChangeMaps (open_string shut_string)
theorem own : ownKnob Try.prog.godebug = none := by kernel_rfl
theorem laidOut : laidOutB Try.prog = true := by kernel_rfl
theorem op115 : OpenA.Op Try.prog 115 k115 (fun x => ((x.f0.length <= maxLen /\ ∀ y52 ∈ x.f0, y52.size <= maxLen) /\ (x.f1.length <= maxLen /\ ∀ y53 ∈ x.f1, y53.size <= maxLen) /\ (x.f2.length <= maxLen /\ ∀ y54 ∈ x.f2, (Lit.int .i64 y54).wf = true))) := op_struct3 (f := fun x : S115 => (x.f0, x.f1, x.f2)) S115.mk (fun _ _ _ => rfl) Try.underlying115 (by kernel_rfl) (by kernel_rfl) (op_slice Try.underlying38 (by kernel_rfl) (op_string Try.underlying9)) (op_slice Try.underlying38 (by kernel_rfl) (op_string Try.underlying9)) (op_slice Try.underlying108 (by kernel_rfl) (op_int Try.underlying3))
theorem lifted (os : Os) (started : os.Started) (H : Type) (enc : TypeId × Value -> H) :
    ReturnsInHanded {} Try.checked os 10 .any (Rows.fnExactPutKeySpec.pre6 enc Try.prog Try.f10 Rows.fnExactPutKeyRow.domain false) (Rows.fnExactPutKeySpec.post enc Try.prog Try.f10 false true false false) := by
  refine returnsInHanded_of_change_sized (C := Try.checked) own started (by kernel_rfl) Try.func10
    (ChangeSpec.witness6 (enc := enc) (C := Try.checked) false ⟨#[], #[.agg #[.slice none 0 0], .string ByteArray.empty, .string ByteArray.empty], []⟩ 8 (by kernel_rfl) (by kernel_rfl) (by kernel_rfl) (by kernel_rfl)) ?_
  intro W base args ds gs before hval0 hW hcnd hsz0 _
  have hsz : (DataW.weightsEach Try.prog (Try.f10.params.toList ++ Rows.fnExactPutKeySpec.plain.varTypes Try.prog) (ds ++ gs)).all (· <= reachBytes) = true := hsz0
  have hval : ∀ (j : Nat) t v, Try.f10.params[j]? = some t -> args[j]? = some v -> Value.okWide Try.prog W .any base t v := hval0
  have hW' := hW
  obtain ⟨p, q, hA0, hV, rfl, hfz, hnd⟩ := hW
  have hA : DataW.TrodAll enc Try.prog W 0 (fun _ => true) true Try.f10.params.toList args.toList ds p := hA0
  rw [Try.params10] at hA hval hsz
  obtain ⟨v0, vs0, d0, ds0, p0, q0, hargs, rfl, rfl, h0, r0⟩ := trodAll_cons hA
  obtain ⟨v1, vs1, d1, ds1, p1, q1, rfl, rfl, rfl, h1, r1⟩ := trodAll_cons r0
  obtain ⟨v2, vs2, d2, ds2, p2, q2, rfl, rfl, rfl, h2, r2⟩ := trodAll_cons r1
  obtain ⟨rfl, rfl, rfl⟩ := trodAll_nil r2
  obtain rfl : args = #[v0, v1, v2] := by cases args; simp_all
  obtain ⟨rfl, rfl⟩ := trodVars_none hV
  obtain ⟨cs0, rfl, hz0⟩ := okWide_struct Try.underlying24 (hval 0 24 v0 rfl rfl)
  have k0 := h0
  have lt0 : ∀ x ∈ p0, x.block < W.heap.size := by obtain ⟨m, hm⟩ := k0; exact DataW.trod_lt m _ _ _ hm
  obtain ⟨fuel0, hf0⟩ := h0
  obtain ⟨hl0, n0, hF0⟩ := fields_of Try.underlying24 (by kernel_rfl) (by kernel_rfl) hf0
  obtain ⟨c0_0, e0⟩ := len1 hl0
  have e0' := agg_of (cs := cs0) (by simpa [Value.cells] using e0)
  obtain ⟨y0_0, k0_0⟩ := hF0 0 _ c0_0 rfl (by rw [e0]; rfl)
  obtain ⟨a0_0, q0_0, w0_0⟩ := (op_slice Try.underlying22 (by kernel_rfl) op115) k0_0
  obtain ⟨A0_0, b0_0, g0_0, hc0_0, hr0_0⟩ := q0_0
  obtain rfl := (List.cons.inj g0_0).1
  clear hF0
  subst e0'
  obtain ⟨a1, rfl, rfl, rfl, y1⟩ := open_string Try.underlying9 (hval 1 9 v1 rfl rfl) h1
  have w1 : a1.size <= 140737488351232 := by
    have z := sized_string hsz (j := 1) (t := 9) rfl rfl
    rw [Array.length_toList] at z
    exact z
  obtain ⟨a2, rfl, rfl, rfl, y2⟩ := open_string Try.underlying9 (hval 2 9 v2 rfl rfl) h2
  have w2 : a2.size <= 140737488351232 := by
    have z := sized_string hsz (j := 2) (t := 9) rfl rfl
    rw [Array.length_toList] at z
    exact z
  clear hA0 hval0 hsz0 hsz
  obtain ⟨k, h⟩ := Pure.FnExactPutKey a0_0 a1 a2 w0_0 w1 w2
  refine (laws_FnExactPutKey.calls k _ _ a0_0 a1 a2 true W hr0_0 hc0_0 h rfl).mono fun e W' ⟨he, bel0⟩ => ?_
  have bel : Below W.heap.size W W' := bel0
  subst he
  exact ⟨_, rfl, _, _, _, [], _, [], hW', trodAll_mk1 (shut_bool Try.underlying4 _), (trodAll_cons_mk (Below.trod laidOut (by kernel_rfl) (of_decide_eq_true (by kernel_rfl)) k0 bel lt0) (trodAll_cons_mk (shut_string Try.underlying9 y1) (trodAll_cons_mk (shut_string Try.underlying9 y2) trodAll_mk0))), rfl, bel.frame _, fun h => by cases h⟩
theorem over : Rows.fnExactPutKeyRow.holds Try.pinned (OpenSpec.ofChange Rows.fnExactPutKeySpec) :=
  OpenClaim.holds_of_wide 10 Try.f10 rfl rfl rfl rfl rfl rfl rfl ⟨rfl, rfl, rfl, rfl, rfl⟩ rfl rfl rfl rfl rfl (by kernel_rfl) Try.func10 (by kernel_rfl)
    (of_decide_eq_true (by kernel_rfl)) (by unfold Func.isWrapper; first | (rw [if_pos (by decide +kernel)]; kernel_rfl) | (rw [if_neg (by decide +kernel)]; exact ⟨rfl, rfl⟩))
    (fun os started H enc _ => lifted os started H enc)
theorem proved : Rows.FnExactPutKeySaid := over
#print axioms proved
end Go.Proofs.Ytoddejmlcnbdmaa.fnExactPutKey
namespace Go.Proofs.Ytoddejmlcnbdmaa
/-- The row, under a short name, for the claim. -/
theorem fnExactPutKey_holds : Rows.FnExactPutKeySaid := fnExactPutKey.proved
end Go.Proofs.Ytoddejmlcnbdmaa

