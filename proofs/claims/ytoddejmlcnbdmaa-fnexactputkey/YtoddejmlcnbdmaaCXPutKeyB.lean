/- The law FnExactPutKey holds of the given program: at every input it answers true and leaves its arguments as they were; no condition. This text: part 2 of what its proof reaches. -/
import Derived.Deep.QuietTactic
import Derived.BigQuiet
import Derived.Laws.BitsLemmas
import Derived.Laws.BytesArg
import Derived.Test.YtoddejmlcnbdmaaCXPutKeyA
set_option maxHeartbeats 8000000
set_option maxRecDepth 100000
set_option linter.unusedVariables false
set_option linter.unusedSimpArgs false
open Go.Proofs.Ytoddejmlcnbdmaa.Fn
open Go.RowKit Go.Proofs.YtoddejmlcnbdmaaW.PrintWords Go.Proofs.YtoddejmlcnbdmaaW.PrintLast Go.Proofs.YtoddejmlcnbdmaaW.PrintMore Go.Proofs.Ytoddejmlcnbdmaa.Gen
namespace Go.Proofs.Ytoddejmlcnbdmaa.Tree
set_option maxHeartbeats 8000000
set_option maxRecDepth 100000
theorem clone_some {l : List ByteArray} (h : l.length < 8796093022208) : slices_Clone_string_string.f l = some l := by
 unfold slices_Clone_string_string.f
 simp only [Option.bind_some, List.length_nil, Nat.zero_add]
 rw [if_pos h]
 rfl
theorem Sat.newTxt {W w1 : World} {base : Nat} {L : List Ck} {v : Value} {l : List ByteArray} (h : Sat W base L) (ho : Kd.string.R 9 w1 W.heap.size (fun _ => True) v l) (hb : Below W.heap.size W w1) (hbase : base <= W.heap.size) : Sat w1 base (L ++ [txt v l]) :=
 h.behind hb hbase (Sat.one (sr_ok ho))
theorem blk_far {w : World} {g : Nat} {o : Obj} (h : w.heap[g]? = some o) {p : Addr} (hp : g ≠ p.block) (u : Value) : (w.setCell p u).heap[g]? = some o := (Below.heap_setCell w p u g hp).trans h
theorem impl_node.calls (P : List S110) (hN : P.length <= 1000000000000) (w0 : World) (A : Option Addr) (c : Nat) (hp : Kd.C k110 w0 A P.length P) (hm : ∀ p ∈ P, p.f0.length <= 1000000000000 /\ p.f1.length <= 1000000000000 /\ p.f2.length <= 1000000000000) : ∀ (f next : Nat), P.length < next + f -> next <= P.length -> ∀ (gb : Nat) (w : World), Below w0.heap.size w0 w -> w0.heap.size <= gb -> w.heap[gb]? = some (.cells #[.slice A P.length c, .int .i64 (next : Int)] 121 (0, 0)) ->
  Calls Try.prog 97 #[ptrv gb] w (NodeR w0 w gb (.slice A P.length c) (readS P f next)) := by
 intro f
 induction f with
 | zero =>
  intro next hf hn
  omega
 | succ f ih =>
  intro next hf hn gb w hb hgb hg
  have HB := A_ hb
  have HG := A_ hg
  have HGB := A_ hgb
  have HGL := A_ (blk_lt hg)
  have hz0 := (blk_cell hg 0).trans rfl
  have hz1 := (blk_cell hg 1).trans rfl
  by_cases h1 : next = P.length
  ·subst h1
   have HR := A_ (readS_none1 (P := P) (f := f + 1) (Nat.le_refl _))
   clear hf hn hb hgb hg
   go_enter Try.func97, Try.ntmps97
   go_wp2
   go_quiet (fail)
   go_wp2
   go_ret2
   exact ⟨pw_below_drewN HB.out _, .inl ⟨HR.out, rfl⟩⟩
  ·have hal : next < P.length := by omega
   have c1b : ((next : Int) == (P.length : Int)) = false := by rw [beq_eq_false_iff_ne]; omega
   have c1c : (next == P.length) = false := by rw [beq_eq_false_iff_ne]; omega
   have c1d : (next = P.length) = False := eq_false h1
   have c1e : (next < P.length) = True := eq_true hal
   have c1f : ((next : Int) < (P.length : Int)) = True := eq_true (by omega)
   have c1g : (0 <= (next : Int)) = True := eq_true (by omega)
   have hNl : P.length <= 1000000000000 := hN
   have hnx : next < 1000000000000 := by omega
   have HA := A_ hal
   have HF := A_ hf
   have HSM0 := hm _ (List.getElem_mem (l := P) hal)
   have hpg : P[next] = rd_T110 P (next : Int) := by unfold rd_T110; rw [Int.toNat_natCast, List.getD_eq_getElem?_getD, List.getElem?_eq_getElem hal]; rfl
   have hpg2 : P.getD next z110 = rd_T110 P (next : Int) := by unfold rd_T110; rw [Int.toNat_natCast]
   rw [hpg] at HSM0
   obtain ⟨ad, A0, c0, A1, c1, A2, c2, hAA, hx0, hx1, hx2, hl0, hf0, hl1, hf1, hl2, hf2⟩ := at_T110 hp (next : Int) (by omega) (by omega)
   subst hAA
   obtain ⟨R, hR⟩ : ∃ R, R = readS P (f + 1) next := ⟨_, rfl⟩
   have hgo : badP (P.getD next z110) = false -> R = fin (P.getD next z110) (readK (readS P f) ((P.getD next z110).f2.drop 0) (next + 1) []) := fun hb => hR.trans (readS_go (P := P) (f := f) (by omega) hb)
   have hbad : badP (P.getD next z110) = true -> R = none := fun hb => hR.trans (readS_bad (P := P) (f := f) (at_ := next) hb)
   rw [hpg2] at hgo hbad
   rw [<- hR]
   rw [Int.toNat_natCast] at hx0 hx1 hx2
   generalize rd_T110 P (next : Int) = pg at *
   have HX0 := A_ hx0
   have HX1 := A_ hx1
   have HX2 := A_ hx2
   have HF0 := A_ hf0
   have HF1 := A_ hf1
   have HF2 := A_ hf2
   have HC0 := A_ hl0
   have HC1 := A_ hl1
   have HSM := A_ HSM0
   have HGO := A_ hgo
   have HBAD := A_ hbad
   clear h1 hn hf hl0 hf0 hl1 hf1 hl2 hf2 hx0 hx1 hx2 HSM0 hgo hbad hpg hpg2 hal hR hb hgb hg
   go_enter Try.func97, Try.ntmps97
   go_wp2
   go_quiet (fail)
   go_wp2
   generalize hW : World.drewN w _ = w1
   have n1_ := A_ (show Below w0.heap.size w0 w1 by rw [<- hW]; exact pw_below_drewN HB.out _)
   have n2_ := A_ (show w1.heap[gb]? = some (.cells #[.slice (some ad) P.length c, .int .i64 (next : Int)] 121 (0, 0)) by rw [<- hW]; exact HG.out)
   have HKP := A_ (show Kept w w1 (fun k => k = gb) by rw [<- hW]; exact (Kept.refl w _).drewN _)
   have HS := A_ (Sat.nil w1 w.heap.size)
   clear HB; clear HG; clear hW hz0 hz1
   have HB := n1_
   have HG := n2_
   clear n1_ n2_
   refine start_ (n := 12) (S := fun w' => w'.cell? ⟨gb, 0, none⟩ = some (.slice (some ad) P.length c) /\ w'.cell? ⟨gb, 1, none⟩ = some (.int .i64 (next : Int)) /\ w'.cell? (ad.add (next * 3)) = some (.slice A0 pg.f0.length c0) /\ w'.cell? ⟨(ad.add (next * 3)).block, (ad.add (next * 3)).off + 1, none⟩ = some (.slice A1 pg.f1.length c1) /\ w'.cell? ⟨(ad.add (next * 3)).block, (ad.add (next * 3)).off + 2, none⟩ = some (.slice A2 pg.f2.length c2)) (ds := [11]) (bt 12 0) (by kernel_rfl) rfl rfl ⟨(blk_cell HG.out 0).trans rfl, (blk_cell HG.out 1).trans rfl, (Below.cell (below_drew HB.out) (World.block_lt_of_cell? w0 _ HX0.out)).trans HX0.out, (Below.cell (below_drew HB.out) (World.block_lt_of_cell? w0 _ HX1.out)).trans HX1.out, (Below.cell (below_drew HB.out) (World.block_lt_of_cell? w0 _ HX2.out)).trans HX2.out⟩ (fun hHeld => ?_)
   refine pu_ 0 20 1 ?_
   refine pu_ 1 21 3 ?_
   refine pu_ 2 22 7 ?_
   refine pu_ 4 24 23 ?_
   refine pu_ 5 25 55 ?_
   refine pu_ 6 26 119 ?_
   refine ta_ 3 23 127 hHeld ?_
   refine ta_ 7 27 255 hHeld ?_
   refine pu_ 8 28 511 ?_
   refine ta_ 9 29 1023 hHeld ?_
   refine on_ 10 (some 4) 2047 (fun K hK => ?_)
   refine box_step (by rfl) (N := 4) rfl (cs := #[.slice none 0 0, .slice none 0 0, .slice none 0 0]) (t := 110) ?hr ?_
   (case hr => first | (go_simp; done) | (go_simp; rfl))
   intro b8 hg w2 hbox hb
   have HS2 := A_ (Sat.newBox (Sat.drew HS.out) hg hbox hb HKP.out.1)
   have HB2 := A_ (below_step (below_drew HB.out) hb)
   have HKP2 := A_ ((HKP.out.drew).below hb)
   have HG2 := A_ (blk_below (w := World.drew w1) HG.out hb)
   have hz80 := HS2.out.z 0 rfl 0
   have hz81 := HS2.out.z 0 rfl 1
   have hz82 := HS2.out.z 0 rfl 2
   have hf80 := HS2.out.f 0 rfl 0
   have hf81 := HS2.out.f 0 rfl 1
   have hf82 := HS2.out.f 0 rfl 2
   clear hg hbox hb
   refine hK.out _ _ ⟨(blk_cell HG2.out 0).trans rfl, (blk_cell HG2.out 1).trans rfl, (Below.cell HB2.out (World.block_lt_of_cell? w0 _ HX0.out)).trans HX0.out, (Below.cell HB2.out (World.block_lt_of_cell? w0 _ HX1.out)).trans HX1.out, (Below.cell HB2.out (World.block_lt_of_cell? w0 _ HX2.out)).trans HX2.out⟩ (fun hHeld => ?_)
   clear hK K
   refine no_ 4 ?_
   refine la_ 11 none 4095 (fun K hK => ?_)
   refine skip_ (w1 := ?_) (by rfl) rfl ?_ ?_
   rotate_left
   ·go_simp
    rfl
   refine hK.out _ _ ?_
   clear hK K
   refine done_ (by kernel_rfl) ?_
   have n1_ := A_ (Sat.put3 HS2.out (.slice A0 pg.f0.length c0) (.slice A1 pg.f1.length c1) (.slice A2 pg.f2.length c2))
   have hge : w.heap.size <= b8 := HS2.out.ge ⟨_, List.mem_cons_self, rfl⟩
   have hne : gb ≠ b8 := by have := HGL.out; omega
   have hw0 : w0.heap.size <= b8 := by have := HGL.out; have := HGB.out; omega
   have n2_ : Aside0 (Below w0.heap.size w0 (((w2.setCell ⟨b8, 0, none⟩ (.slice A0 pg.f0.length c0)).setCell ⟨b8, 1, none⟩ (.slice A1 pg.f1.length c1)).setCell ⟨b8, 2, none⟩ (.slice A2 pg.f2.length c2))) := ⟨((HB2.out.setCell (p := ⟨b8, 0, none⟩) hw0 _).setCell (p := ⟨b8, 1, none⟩) hw0 _).setCell (p := ⟨b8, 2, none⟩) hw0 _⟩
   have n3_ : Aside0 (Kept w (((w2.setCell ⟨b8, 0, none⟩ (.slice A0 pg.f0.length c0)).setCell ⟨b8, 1, none⟩ (.slice A1 pg.f1.length c1)).setCell ⟨b8, 2, none⟩ (.slice A2 pg.f2.length c2)) (fun k => k = gb)) := ⟨((HKP2.out.setCell (p := ⟨b8, 0, none⟩) (.inr hge) _).setCell (p := ⟨b8, 1, none⟩) (.inr hge) _).setCell (p := ⟨b8, 2, none⟩) (.inr hge) _⟩
   have n4_ : Aside0 ((((w2.setCell ⟨b8, 0, none⟩ (.slice A0 pg.f0.length c0)).setCell ⟨b8, 1, none⟩ (.slice A1 pg.f1.length c1)).setCell ⟨b8, 2, none⟩ (.slice A2 pg.f2.length c2)).heap[gb]? = some (.cells #[.slice (some ad) P.length c, .int .i64 (next : Int)] 121 (0, 0))) := ⟨blk_far (p := ⟨b8, 2, none⟩) (blk_far (p := ⟨b8, 1, none⟩) (blk_far (p := ⟨b8, 0, none⟩) HG2.out hne _) hne _) hne _⟩
   clear HS2; clear HB2; clear HKP2; clear HG2; clear HS; clear HB; clear HKP; clear HG; clear hz80 hz81 hz82 hf80 hf81 hf82 hge hne hw0
   generalize ((w2.setCell ⟨b8, 0, none⟩ (.slice A0 pg.f0.length c0)).setCell ⟨b8, 1, none⟩ (.slice A1 pg.f1.length c1)).setCell ⟨b8, 2, none⟩ (.slice A2 pg.f2.length c2) = w3 at *
   have HS := n1_
   have HB := n2_
   have HKP := n3_
   have HG := n4_
   clear n1_ n2_ n3_ n4_
   have hz1 : w3.cell? ⟨gb, 1, none⟩ = some (.int .i64 (next : Int)) := (blk_cell HG.out 1).trans rfl
   have hf1 := blk_frozen HG.out 1
   go_upto_region 5 with fail
   have n1_ := A_ (Sat.far HS.out (p := ⟨gb, 1, none⟩) HGL.out (.int .i64 ((next : Int) + 1)))
   have n2_ := A_ (HB.out.setCell (p := ⟨gb, 1, none⟩) HGB.out (.int .i64 ((next : Int) + 1)))
   have n3_ := A_ (HKP.out.setCell (p := ⟨gb, 1, none⟩) (.inl rfl) (.int .i64 ((next : Int) + 1)))
   have n4_ : Aside0 ((w3.setCell ⟨gb, 1, none⟩ (.int .i64 ((next : Int) + 1))).heap[gb]? = some (.cells #[.slice (some ad) P.length c, .int .i64 ((next + 1 : Nat) : Int)] 121 (0, 0))) := ⟨blk_put HG.out 1 _ rfl⟩
   clear HS; clear HB; clear HKP; clear HG; clear hz1 hf1
   generalize w3.setCell ⟨gb, 1, none⟩ (.int .i64 ((next : Int) + 1)) = w4 at *
   have HS := n1_
   have HB := n2_
   have HKP := n3_
   have HG := n4_
   clear n1_ n2_ n3_ n4_
   have hz80 := HS.out.z 0 rfl 0
   have hz81 := HS.out.z 0 rfl 1
   have hz82 := HS.out.z 0 rfl 2
   cases hbd : badP pg with
   | true =>
    have HR := A_ (HBAD.out hbd)
    have hb1 : 4 < pg.f0.length ∨ pg.f1.length ≠ pg.f0.length ∨ (pg.f2.length ≠ 0 /\ pg.f2.length ≠ pg.f0.length + 1) := by
     unfold badP at hbd
     simp only [Bool.or_eq_true, Bool.and_eq_true, decide_eq_true_eq, bne_iff_ne] at hbd
     omega
    by_cases q1 : 4 < pg.f0.length
    ·have t1 : decide (4 < (pg.f0.length : Int)) = true := decide_eq_true (by omega)
     have t1b : (4 < pg.f0.length) = True := eq_true q1
     clear q1 hb1 hbd
     go_wp2
     go_ret2
     exact ⟨HB.out, .inl ⟨HR.out, rfl⟩⟩
    ·have t1 : decide (4 < (pg.f0.length : Int)) = false := decide_eq_false (by omega)
     have t1b : (4 < pg.f0.length) = False := eq_false q1
     by_cases q2 : pg.f1.length = pg.f0.length
     ·have q3 : pg.f2.length ≠ 0 /\ pg.f2.length ≠ pg.f0.length + 1 := by omega
      have t2 : ((pg.f1.length : Int) != (pg.f0.length : Int)) = false := ne_f (by omega)
      have t3 : decide (0 < (pg.f2.length : Int)) = true := decide_eq_true (by omega)
      have t4 : ((pg.f2.length : Int) != (pg.f0.length : Int) + 1) = true := ne1_t (by omega)
      have t2b : (pg.f1.length != pg.f0.length) = false := nen_f (by omega)
      have t3b : (0 < pg.f2.length) = True := eq_true (by omega)
      have t4b : (pg.f2.length != pg.f0.length + 1) = true := nen_t (by omega)
      have m0 : pg.f0.length <= 4 := by omega
      clear q1 q2 q3 hb1 hbd
      go_wp2
      go_ret2
      exact ⟨HB.out, .inl ⟨HR.out, rfl⟩⟩
     ·have t2 : ((pg.f1.length : Int) != (pg.f0.length : Int)) = true := ne_t (by omega)
      have t2b : (pg.f1.length != pg.f0.length) = true := nen_t (by omega)
      clear q1 q2 hb1 hbd
      go_wp2
      go_ret2
      exact ⟨HB.out, .inl ⟨HR.out, rfl⟩⟩
   | false =>
    obtain ⟨q1, q2, q3⟩ := bad_parts hbd
    have HR := A_ (HGO.out hbd)
    have t1 : decide (4 < (pg.f0.length : Int)) = false := decide_eq_false (by omega)
    have t1b : (4 < pg.f0.length) = False := eq_false (by omega)
    have t2 : ((pg.f1.length : Int) != (pg.f0.length : Int)) = false := ne_f (by omega)
    have t2b : (pg.f1.length != pg.f0.length) = false := nen_f (by omega)
    have m0 : pg.f0.length <= 4 := by omega
    have HM2 := A_ (show pg.f2.length <= 5 by omega)
    by_cases q4 : pg.f2.length = 0
    ·have t3 : decide (0 < (pg.f2.length : Int)) = false := decide_eq_false (by omega)
     have t3b : (0 < pg.f2.length) = False := eq_false (by omega)
     clear q1 q2 q3 q4 hbd
     go_upto_region 7 with fail
     refine start_ (n := 9) (S := fun w' => w'.cell? ⟨b8, 0, none⟩ = some (.slice A0 pg.f0.length c0) /\ w'.cell? ⟨b8, 1, none⟩ = some (.slice A1 pg.f1.length c1)) (ds := []) (bt 9 0) (by kernel_rfl) rfl rfl ⟨(HS.out.z 0 rfl 0), (HS.out.z 0 rfl 1)⟩ (fun hHeld => ?_)
     refine pu_ 0 66 1 ?_
     refine pu_ 3 69 9 ?_
     refine ta_ 1 67 11 hHeld ?_
     refine ta_ 4 70 27 hHeld ?_
     refine on_ 2 (some 68) 31 (fun K hK => ?_)
     refine go_ Try.func74 #[.slice A0 pg.f0.length c0] ?_
     with_reducible refine (slices_Clone_string_string.calls A0 c0 pg.f0 pg.f0 _ (Kd.C_below HF0.out (below_drew HB.out)) HC0.out (clone_some (by have := HSM.out; omega))).mono ?_
     rintro e w5 ⟨v0, rfl, ho, hb⟩
     refine ⟨_, rfl, ?_⟩
     obtain ⟨Av0, cv0, rfl⟩ := Kd.R_slice ho
     have n1_ := A_ (Sat.newTxt (Sat.drew HS.out) ho hb HKP.out.1)
     have n2_ := A_ (below_step (below_drew HB.out) hb)
     have n3_ := A_ (Kept.below (HKP.out.drew) hb)
     have n4_ := A_ (blk_below (w := World.drew w4) HG.out hb)
     clear ho hb
     clear HS HB HKP HG
     have HS := n1_
     have HB := n2_
     have HKP := n3_
     have HG := n4_
     clear n1_ n2_ n3_ n4_
     refine hK.out _ _ ⟨(HS.out.z 0 rfl 0), (HS.out.z 0 rfl 1)⟩ (fun hHeld => ?_)
     clear hK K
     refine no_ 68 ?_
     refine on_ 5 (some 71) 63 (fun K hK => ?_)
     refine go_ Try.func74 #[.slice A1 pg.f1.length c1] ?_
     with_reducible refine (slices_Clone_string_string.calls A1 c1 pg.f1 pg.f1 _ (Kd.C_below HF1.out HB.out) HC1.out (clone_some (by have := HSM.out; omega))).mono ?_
     rintro e w6 ⟨v1, rfl, ho, hb⟩
     refine ⟨_, rfl, ?_⟩
     obtain ⟨Av1, cv1, rfl⟩ := Kd.R_slice ho
     have n1_ := A_ (Sat.newTxt HS.out ho hb HKP.out.1)
     have n2_ := A_ (below_step HB.out hb)
     have n3_ := A_ (Kept.below HKP.out hb)
     have n4_ := A_ (blk_below HG.out hb)
     clear ho hb
     clear HS HB HKP HG
     have HS := n1_
     have HB := n2_
     have HKP := n3_
     have HG := n4_
     clear n1_ n2_ n3_ n4_
     refine hK.out _ _ ⟨(HS.out.z 0 rfl 0), (HS.out.z 0 rfl 1)⟩ (fun hHeld => ?_)
     clear hK K
     refine no_ 71 ?_
     refine pu_ 6 72 127 ?_
     refine on_ 7 (some 73) 255 (fun K hK => ?_)
     refine box_step (by rfl) (N := 73) rfl (cs := #[.slice Av0 pg.f0.length cv0, .slice Av1 pg.f1.length cv1, .slice none 0 0]) (t := 101) ?hr ?_
     (case hr => first | (go_simp; done) | (go_simp; rfl))
     intro g hg w7 hbox hb
     have n1_ := A_ (Sat.newBox HS.out hg hbox hb HKP.out.1)
     have n2_ := A_ (below_step HB.out hb)
     have n3_ := A_ (HKP.out.below hb)
     have n4_ := A_ (blk_below HG.out hb)
     clear hg hbox hb
     clear HS HB HKP HG
     have HS := n1_
     have HB := n2_
     have HKP := n3_
     have HG := n4_
     clear n1_ n2_ n3_ n4_
     refine hK.out _ _ ⟨(HS.out.z 1 rfl 0), (HS.out.z 1 rfl 1)⟩ (fun hHeld => ?_)
     clear hK K
     refine no_ 73 ?_
     refine pu_ 8 5 511 ?_
     refine done_ (by kernel_rfl) ?_
     have n1_ := A_ (ll_begin (E := 74) (X := [.box 110 b8 #[.slice A0 pg.f0.length c0, .slice A1 pg.f1.length c1, .slice A2 pg.f2.length c2]]) HS.out)
     clear HS
     have HS := n1_
     clear n1_ hHeld hz80 hz81 hz82
     have hz82 := HS.out.z 4 rfl 2
     go_upto_region 9 with fail
     go_loopg [77] pg.f2.length (fun kq u77 w' => ∃ (i next1 : Nat) (acc : List NT) (cv : Value), u77 = .int .i64 (i : Int) /\ Aside0 (kq + i = pg.f2.length) /\ Aside0 (acc.length = i) /\ Aside0 (R = fin pg (readK (readS P f) (pg.f2.drop i) next1 (acc.map NT.erase))) /\ Aside0 (next < next1 /\ next1 <= P.length) /\ Aside0 (Sat w' w.heap.size (LL 101 74 g (.slice Av0 pg.f0.length cv0) (.slice Av1 pg.f1.length cv1) cv pg.f0 pg.f1 [.box 110 b8 #[.slice A0 pg.f0.length c0, .slice A1 pg.f1.length c1, .slice A2 pg.f2.length c2]] acc)) /\ Aside0 (Below w0.heap.size w0 w') /\ Aside0 (Kept w w' (fun k => k = gb)) /\ Aside0 (w'.heap[gb]? = some (.cells #[.slice (some ad) P.length c, .int .i64 (next1 : Int)] 121 (0, 0))))
     case atStart => exact ⟨0, next + 1, [], .slice none 0 0, by first | rfl | (simp; done), ⟨Nat.add_zero _⟩, ⟨rfl⟩, HR, ⟨by have := HA.out; omega⟩, HS, HB, HKP, HG⟩
     case round =>
      clear HR HS HB hz82 HKP HG
      obtain ⟨i, next1, acc, cv, rfl, HK, HAC, HR, HNX, HS, HB, HKP, HG⟩ := hrel
      have ci : (0 <= (i : Int)) = True := eq_true (by omega)
      by_cases hi : i < pg.f2.length
      ·have ce : decide ((i : Int) < (pg.f2.length : Int)) = true := decide_eq_true (by omega)
       have ceb : (i < pg.f2.length) = True := eq_true hi
       have hi5 : i <= 5 := by have := HM2.out; omega
       have HI5 := A_ hi5
       have HI := A_ hi
       have hnx : next1 <= 1000000000000 := Nat.le_trans HNX.out.2 hNl
       have hzg : wr.cell? ⟨gb, 1, none⟩ = some (.int .i64 (next1 : Int)) := (blk_cell HG.out 1).trans rfl
       obtain ⟨ad2, hA2, hk0⟩ := Kd.at_int HF2.out (i : Int) (by omega) (by omega)
       subst hA2
       rw [Int.toNat_natCast] at hk0
       have hks : pg.f2[i]? = some (rd pg.f2 (i : Int)) := by unfold rd; rw [Int.toNat_natCast, List.getD_eq_getElem?_getD, List.getElem?_eq_getElem hi]; rfl
       generalize rd pg.f2 (i : Int) = k at hk0 hks
       have hkz := (Below.cell HB.out (World.block_lt_of_cell? w0 _ hk0)).trans hk0
       have HKS := A_ hks
       clear hk0 hks hi
       by_cases hkn : k = (next1 : Int)
       ·subst hkn
        cases hrs : readS P f next1 with
        | none =>
         have HRS := A_ hrs
         have HE := A_ (readK_off2 HR.out HKS.out rfl hrs)
         clear hrs
         go_wp2_with (go_at_call 97; (with_reducible refine (ih next1 (by have := HF.out; have := HNX.out; omega) HNX.out.2 gb _ HB.out HGB.out HG.out).mono ?_); rintro e w8 ⟨hb, hr⟩; rw [HRS.out] at hr; obtain ⟨-, rfl⟩ := hr.resolve_right (by rintro ⟨_, _, h, _⟩; cases h); clear HB; have HB := A_ hb; clear hb hr)
         go_ret2
         exact ⟨HB.out, .inl ⟨HE.out, rfl⟩⟩
        | some tn =>
         obtain ⟨t, n⟩ := tn
         have HRS := A_ hrs
         have HLE := A_ (readS_le f next1 t n hrs)
         have HE := A_ (readK_on HR.out HKS.out rfl hrs)
         clear hrs
         go_wp2_with (first | (go_at_call 97; (with_reducible refine (ih next1 (by have := HF.out; have := HNX.out; omega) HNX.out.2 gb _ HB.out HGB.out HG.out).mono ?_); rintro e w8 ⟨hb, hr⟩; rw [HRS.out] at hr; obtain ⟨nt, n9, h9, rfl, hs, hk, hg⟩ := hr.resolve_left (by rintro ⟨h, _⟩; cases h); injection h9 with h9; injection h9 with h9 h8; subst h9; subst h8; have n1_ := A_ (ll_kidK HS.out hk (fun k hk => by have := HGL.out; omega) HKP.out.1 hs); have n3_ := A_ (HKP.out.then_ hk (fun k hk => .inl hk)); have HG8 := A_ hg; clear HS; clear HB; clear HKP; clear HG; have HS := n1_; have HB := A_ hb; have HKP := n3_; have HG := HG8; clear n1_ n3_ HG8; have hz9 := HS.out.z 0 rfl 2; clear hb hr hs hk hg) | ((with_reducible refine gate_builtin (b := .append) (xs := #[.tmp 98, .tmp 100]) rfl ?_); at_builtin; refine Kd.Q_append kptr (w0 := w8) w.heap.size rfl (.tmp 98) (.tmp 100) 99 74 (.pointer none) 8 rfl under99 info74 rfl (by decide) (by omega) cv (acc.map NT.p) nt.p [ptrv nt.p] (fun _ => True) (fun _ => False) rfl rfl ?aP (fun _ h => h.elim) ?aF ?aO ?aB ?aS ?aL ?_; (case aP => exact rfl); (case aB => exact Below.refl _ _); (case aF => exact fun _ _ => trivial); (case aO => exact ok_pq (HS.out.ok _ (List.mem_of_getElem? (i := 3) rfl))); (case aS => exact HKP.out.1); (case aL => rw [List.length_map]; have := HAC.out; have := HI5.out; omega); intro cv' w9 ho hb hg hat; obtain ⟨Aq, nq, cq, rfl⟩ := q_form ho; have n5_ : ∀ k, cv.ownBlock = some k -> w.heap.size <= k := fun k hk => HS.out.ge ⟨_, List.mem_of_getElem? (i := 3) rfl, hk⟩; have n1_ := A_ (ll_app (x := 0) HS.out ho hg hat); have n2_ := A_ (HB.out.grown hg (by have := HB.out.size; omega) (fun k hk => by have := n5_ k hk; have := HGL.out; have := HGB.out; omega)); have n3_ := A_ (Kept.of_grown hg HKP.out (fun k hk => .inr (n5_ k hk))); have n4_ := A_ ((hg.block gb (blk_lt HG.out) (fun he => by have := n5_ gb he.symm; have := HGL.out; omega)).trans HG.out); clear HS; clear HB; clear HKP; clear HG; have HS := n1_; have HB := n2_; have HKP := n3_; have HG := n4_; clear n1_ n2_ n3_ n4_ n5_; have hz9b := HS.out.z 0 rfl 2; have hf9b := HS.out.f 0 rfl 2; clear ho hb hg hat))
         go_roundg (pg.f2.length - (i + 1))
         case measure => have := HK.out; have := HI.out; omega
         case rel => exact ⟨i + 1, n, acc ++ [nt], .slice Aq nq cq, by first | rfl | go_num | (simp; done), ⟨by have := HK.out; have := HI.out; omega⟩, ⟨by rw [List.length_append, HAC.out]; rfl⟩, ⟨by rw [List.map_append]; exact HE.out⟩, ⟨by have := HLE.out; have := HNX.out; omega⟩, ⟨ll_put HS.out⟩, ⟨HB.out.setCell (p := ⟨g, 2, none⟩) (by have h_ : w.heap.size <= g := HS.out.ge ⟨_, List.mem_cons_self, rfl⟩; have := HGL.out; have := HGB.out; show w0.heap.size <= g; omega) _⟩, ⟨HKP.out.setCell (p := ⟨g, 2, none⟩) (.inr (HS.out.ge ⟨_, List.mem_cons_self, rfl⟩)) _⟩, ⟨blk_far (p := ⟨g, 2, none⟩) HG.out (by have h_ : w.heap.size <= g := HS.out.ge ⟨_, List.mem_cons_self, rfl⟩; have := HGL.out; show gb ≠ g; omega) _⟩⟩
       ·have HE := A_ (readK_off1 HR.out HKS.out hkn)
        have tk : (k != (next1 : Int)) = true := bne_iff_ne.2 hkn
        clear hkn
        go_wp2
        go_ret2
        exact ⟨HB.out, .inl ⟨HE.out, rfl⟩⟩
      ·have ce : decide ((i : Int) < (pg.f2.length : Int)) = false := decide_eq_false (by omega)
       have ceb : (i < pg.f2.length) = False := eq_false hi
       have HE := A_ (readK_end HR.out (by omega))
       clear hi
       go_wp2
       go_ret2
       exact ⟨HB.out, .inr ⟨.mk g (.slice Av0 pg.f0.length cv0) (.slice Av1 pg.f1.length cv1) cv pg.f0 pg.f1 acc, next1, by rw [HE.out, NT.erase, eraseL_map], rfl, ll_end HS.out, HKP.out, HG.out⟩⟩
    ·have t3 : decide (0 < (pg.f2.length : Int)) = true := decide_eq_true (by omega)
     have t3b : (0 < pg.f2.length) = True := eq_true (by omega)
     have t4 : ((pg.f2.length : Int) != (pg.f0.length : Int) + 1) = false := ne1_f (by omega)
     have t4b : (pg.f2.length != pg.f0.length + 1) = false := nen_f (by omega)
     clear q1 q2 q3 q4 hbd
     go_upto_region 7 with fail
     refine start_ (n := 9) (S := fun w' => w'.cell? ⟨b8, 0, none⟩ = some (.slice A0 pg.f0.length c0) /\ w'.cell? ⟨b8, 1, none⟩ = some (.slice A1 pg.f1.length c1)) (ds := []) (bt 9 0) (by kernel_rfl) rfl rfl ⟨(HS.out.z 0 rfl 0), (HS.out.z 0 rfl 1)⟩ (fun hHeld => ?_)
     refine pu_ 0 66 1 ?_
     refine pu_ 3 69 9 ?_
     refine ta_ 1 67 11 hHeld ?_
     refine ta_ 4 70 27 hHeld ?_
     refine on_ 2 (some 68) 31 (fun K hK => ?_)
     refine go_ Try.func74 #[.slice A0 pg.f0.length c0] ?_
     with_reducible refine (slices_Clone_string_string.calls A0 c0 pg.f0 pg.f0 _ (Kd.C_below HF0.out (below_drew HB.out)) HC0.out (clone_some (by have := HSM.out; omega))).mono ?_
     rintro e w5 ⟨v0, rfl, ho, hb⟩
     refine ⟨_, rfl, ?_⟩
     obtain ⟨Av0, cv0, rfl⟩ := Kd.R_slice ho
     have n1_ := A_ (Sat.newTxt (Sat.drew HS.out) ho hb HKP.out.1)
     have n2_ := A_ (below_step (below_drew HB.out) hb)
     have n3_ := A_ (Kept.below (HKP.out.drew) hb)
     have n4_ := A_ (blk_below (w := World.drew w4) HG.out hb)
     clear ho hb
     clear HS HB HKP HG
     have HS := n1_
     have HB := n2_
     have HKP := n3_
     have HG := n4_
     clear n1_ n2_ n3_ n4_
     refine hK.out _ _ ⟨(HS.out.z 0 rfl 0), (HS.out.z 0 rfl 1)⟩ (fun hHeld => ?_)
     clear hK K
     refine no_ 68 ?_
     refine on_ 5 (some 71) 63 (fun K hK => ?_)
     refine go_ Try.func74 #[.slice A1 pg.f1.length c1] ?_
     with_reducible refine (slices_Clone_string_string.calls A1 c1 pg.f1 pg.f1 _ (Kd.C_below HF1.out HB.out) HC1.out (clone_some (by have := HSM.out; omega))).mono ?_
     rintro e w6 ⟨v1, rfl, ho, hb⟩
     refine ⟨_, rfl, ?_⟩
     obtain ⟨Av1, cv1, rfl⟩ := Kd.R_slice ho
     have n1_ := A_ (Sat.newTxt HS.out ho hb HKP.out.1)
     have n2_ := A_ (below_step HB.out hb)
     have n3_ := A_ (Kept.below HKP.out hb)
     have n4_ := A_ (blk_below HG.out hb)
     clear ho hb
     clear HS HB HKP HG
     have HS := n1_
     have HB := n2_
     have HKP := n3_
     have HG := n4_
     clear n1_ n2_ n3_ n4_
     refine hK.out _ _ ⟨(HS.out.z 0 rfl 0), (HS.out.z 0 rfl 1)⟩ (fun hHeld => ?_)
     clear hK K
     refine no_ 71 ?_
     refine pu_ 6 72 127 ?_
     refine on_ 7 (some 73) 255 (fun K hK => ?_)
     refine box_step (by rfl) (N := 73) rfl (cs := #[.slice Av0 pg.f0.length cv0, .slice Av1 pg.f1.length cv1, .slice none 0 0]) (t := 101) ?hr ?_
     (case hr => first | (go_simp; done) | (go_simp; rfl))
     intro g hg w7 hbox hb
     have n1_ := A_ (Sat.newBox HS.out hg hbox hb HKP.out.1)
     have n2_ := A_ (below_step HB.out hb)
     have n3_ := A_ (HKP.out.below hb)
     have n4_ := A_ (blk_below HG.out hb)
     clear hg hbox hb
     clear HS HB HKP HG
     have HS := n1_
     have HB := n2_
     have HKP := n3_
     have HG := n4_
     clear n1_ n2_ n3_ n4_
     refine hK.out _ _ ⟨(HS.out.z 1 rfl 0), (HS.out.z 1 rfl 1)⟩ (fun hHeld => ?_)
     clear hK K
     refine no_ 73 ?_
     refine pu_ 8 5 511 ?_
     refine done_ (by kernel_rfl) ?_
     have n1_ := A_ (ll_begin (E := 74) (X := [.box 110 b8 #[.slice A0 pg.f0.length c0, .slice A1 pg.f1.length c1, .slice A2 pg.f2.length c2]]) HS.out)
     clear HS
     have HS := n1_
     clear n1_ hHeld hz80 hz81 hz82
     have hz82 := HS.out.z 4 rfl 2
     go_upto_region 9 with fail
     go_loopg [77] pg.f2.length (fun kq u77 w' => ∃ (i next1 : Nat) (acc : List NT) (cv : Value), u77 = .int .i64 (i : Int) /\ Aside0 (kq + i = pg.f2.length) /\ Aside0 (acc.length = i) /\ Aside0 (R = fin pg (readK (readS P f) (pg.f2.drop i) next1 (acc.map NT.erase))) /\ Aside0 (next < next1 /\ next1 <= P.length) /\ Aside0 (Sat w' w.heap.size (LL 101 74 g (.slice Av0 pg.f0.length cv0) (.slice Av1 pg.f1.length cv1) cv pg.f0 pg.f1 [.box 110 b8 #[.slice A0 pg.f0.length c0, .slice A1 pg.f1.length c1, .slice A2 pg.f2.length c2]] acc)) /\ Aside0 (Below w0.heap.size w0 w') /\ Aside0 (Kept w w' (fun k => k = gb)) /\ Aside0 (w'.heap[gb]? = some (.cells #[.slice (some ad) P.length c, .int .i64 (next1 : Int)] 121 (0, 0))))
     case atStart => exact ⟨0, next + 1, [], .slice none 0 0, by first | rfl | (simp; done), ⟨Nat.add_zero _⟩, ⟨rfl⟩, HR, ⟨by have := HA.out; omega⟩, HS, HB, HKP, HG⟩
     case round =>
      clear HR HS HB hz82 HKP HG
      obtain ⟨i, next1, acc, cv, rfl, HK, HAC, HR, HNX, HS, HB, HKP, HG⟩ := hrel
      have ci : (0 <= (i : Int)) = True := eq_true (by omega)
      by_cases hi : i < pg.f2.length
      ·have ce : decide ((i : Int) < (pg.f2.length : Int)) = true := decide_eq_true (by omega)
       have ceb : (i < pg.f2.length) = True := eq_true hi
       have hi5 : i <= 5 := by have := HM2.out; omega
       have HI5 := A_ hi5
       have HI := A_ hi
       have hnx : next1 <= 1000000000000 := Nat.le_trans HNX.out.2 hNl
       have hzg : wr.cell? ⟨gb, 1, none⟩ = some (.int .i64 (next1 : Int)) := (blk_cell HG.out 1).trans rfl
       obtain ⟨ad2, hA2, hk0⟩ := Kd.at_int HF2.out (i : Int) (by omega) (by omega)
       subst hA2
       rw [Int.toNat_natCast] at hk0
       have hks : pg.f2[i]? = some (rd pg.f2 (i : Int)) := by unfold rd; rw [Int.toNat_natCast, List.getD_eq_getElem?_getD, List.getElem?_eq_getElem hi]; rfl
       generalize rd pg.f2 (i : Int) = k at hk0 hks
       have hkz := (Below.cell HB.out (World.block_lt_of_cell? w0 _ hk0)).trans hk0
       have HKS := A_ hks
       clear hk0 hks hi
       by_cases hkn : k = (next1 : Int)
       ·subst hkn
        cases hrs : readS P f next1 with
        | none =>
         have HRS := A_ hrs
         have HE := A_ (readK_off2 HR.out HKS.out rfl hrs)
         clear hrs
         go_wp2_with (go_at_call 97; (with_reducible refine (ih next1 (by have := HF.out; have := HNX.out; omega) HNX.out.2 gb _ HB.out HGB.out HG.out).mono ?_); rintro e w8 ⟨hb, hr⟩; rw [HRS.out] at hr; obtain ⟨-, rfl⟩ := hr.resolve_right (by rintro ⟨_, _, h, _⟩; cases h); clear HB; have HB := A_ hb; clear hb hr)
         go_ret2
         exact ⟨HB.out, .inl ⟨HE.out, rfl⟩⟩
        | some tn =>
         obtain ⟨t, n⟩ := tn
         have HRS := A_ hrs
         have HLE := A_ (readS_le f next1 t n hrs)
         have HE := A_ (readK_on HR.out HKS.out rfl hrs)
         clear hrs
         go_wp2_with (first | (go_at_call 97; (with_reducible refine (ih next1 (by have := HF.out; have := HNX.out; omega) HNX.out.2 gb _ HB.out HGB.out HG.out).mono ?_); rintro e w8 ⟨hb, hr⟩; rw [HRS.out] at hr; obtain ⟨nt, n9, h9, rfl, hs, hk, hg⟩ := hr.resolve_left (by rintro ⟨h, _⟩; cases h); injection h9 with h9; injection h9 with h9 h8; subst h9; subst h8; have n1_ := A_ (ll_kidK HS.out hk (fun k hk => by have := HGL.out; omega) HKP.out.1 hs); have n3_ := A_ (HKP.out.then_ hk (fun k hk => .inl hk)); have HG8 := A_ hg; clear HS; clear HB; clear HKP; clear HG; have HS := n1_; have HB := A_ hb; have HKP := n3_; have HG := HG8; clear n1_ n3_ HG8; have hz9 := HS.out.z 0 rfl 2; clear hb hr hs hk hg) | ((with_reducible refine gate_builtin (b := .append) (xs := #[.tmp 98, .tmp 100]) rfl ?_); at_builtin; refine Kd.Q_append kptr (w0 := w8) w.heap.size rfl (.tmp 98) (.tmp 100) 99 74 (.pointer none) 8 rfl under99 info74 rfl (by decide) (by omega) cv (acc.map NT.p) nt.p [ptrv nt.p] (fun _ => True) (fun _ => False) rfl rfl ?aP (fun _ h => h.elim) ?aF ?aO ?aB ?aS ?aL ?_; (case aP => exact rfl); (case aB => exact Below.refl _ _); (case aF => exact fun _ _ => trivial); (case aO => exact ok_pq (HS.out.ok _ (List.mem_of_getElem? (i := 3) rfl))); (case aS => exact HKP.out.1); (case aL => rw [List.length_map]; have := HAC.out; have := HI5.out; omega); intro cv' w9 ho hb hg hat; obtain ⟨Aq, nq, cq, rfl⟩ := q_form ho; have n5_ : ∀ k, cv.ownBlock = some k -> w.heap.size <= k := fun k hk => HS.out.ge ⟨_, List.mem_of_getElem? (i := 3) rfl, hk⟩; have n1_ := A_ (ll_app (x := 0) HS.out ho hg hat); have n2_ := A_ (HB.out.grown hg (by have := HB.out.size; omega) (fun k hk => by have := n5_ k hk; have := HGL.out; have := HGB.out; omega)); have n3_ := A_ (Kept.of_grown hg HKP.out (fun k hk => .inr (n5_ k hk))); have n4_ := A_ ((hg.block gb (blk_lt HG.out) (fun he => by have := n5_ gb he.symm; have := HGL.out; omega)).trans HG.out); clear HS; clear HB; clear HKP; clear HG; have HS := n1_; have HB := n2_; have HKP := n3_; have HG := n4_; clear n1_ n2_ n3_ n4_ n5_; have hz9b := HS.out.z 0 rfl 2; have hf9b := HS.out.f 0 rfl 2; clear ho hb hg hat))
         go_roundg (pg.f2.length - (i + 1))
         case measure => have := HK.out; have := HI.out; omega
         case rel => exact ⟨i + 1, n, acc ++ [nt], .slice Aq nq cq, by first | rfl | go_num | (simp; done), ⟨by have := HK.out; have := HI.out; omega⟩, ⟨by rw [List.length_append, HAC.out]; rfl⟩, ⟨by rw [List.map_append]; exact HE.out⟩, ⟨by have := HLE.out; have := HNX.out; omega⟩, ⟨ll_put HS.out⟩, ⟨HB.out.setCell (p := ⟨g, 2, none⟩) (by have h_ : w.heap.size <= g := HS.out.ge ⟨_, List.mem_cons_self, rfl⟩; have := HGL.out; have := HGB.out; show w0.heap.size <= g; omega) _⟩, ⟨HKP.out.setCell (p := ⟨g, 2, none⟩) (.inr (HS.out.ge ⟨_, List.mem_cons_self, rfl⟩)) _⟩, ⟨blk_far (p := ⟨g, 2, none⟩) HG.out (by have h_ : w.heap.size <= g := HS.out.ge ⟨_, List.mem_cons_self, rfl⟩; have := HGL.out; show gb ≠ g; omega) _⟩⟩
       ·have HE := A_ (readK_off1 HR.out HKS.out hkn)
        have tk : (k != (next1 : Int)) = true := bne_iff_ne.2 hkn
        clear hkn
        go_wp2
        go_ret2
        exact ⟨HB.out, .inl ⟨HE.out, rfl⟩⟩
      ·have ce : decide ((i : Int) < (pg.f2.length : Int)) = false := decide_eq_false (by omega)
       have ceb : (i < pg.f2.length) = False := eq_false hi
       have HE := A_ (readK_end HR.out (by omega))
       clear hi
       go_wp2
       go_ret2
       exact ⟨HB.out, .inr ⟨.mk g (.slice Av0 pg.f0.length cv0) (.slice Av1 pg.f1.length cv1) cv pg.f0 pg.f1 acc, next1, by rw [HE.out, NT.erase, eraseL_map], rfl, ll_end HS.out, HKP.out, HG.out⟩⟩
set_option maxHeartbeats 8000000
set_option maxRecDepth 100000
theorem spec_leaf.callsB {p : Nat} {t : PT} (b : Bool) (hb : decide ((t.kids.length : Int) = 0) = b) (w : World) (h : Rd 96 w p t) :
  Calls Try.prog 84 #[ptrv p] w fun e w' => e = .returned (.bool b) /\ Drawn0 w w' := by
 subst hb
 obtain ⟨Ak, ck, Av, cv, Ac, cc, ps, HN⟩ := h.open
 have hz := HN.z2
 clear HN h
 go_enter Try.func84, Try.ntmps84
 go_wp2
 go_ret
 exact ⟨by first | rfl | (simp; done), by repeat (first | exact Drawn0.refl _ | apply Drawn0.step)⟩
theorem q9032_0 {p0 q : Prop} (h0 : p0) (h : p0 -> q := by intro q0_; repeat (first | exact q0_ | (with_reducible refine Rd.drewN ?_ _) | (with_reducible refine Rd.drew ?_))) : q := h h0
set_option maxHeartbeats 8000000
set_option maxRecDepth 100000
def AllR (w0 : World) (k v : List ByteArray) (e : Ending) (w' : World) : Prop :=
 ∃ v1 v2, e = .returned (.tuple #[v1, v2]) /\ SR w' w0.heap.size v1 k /\ SR w' w0.heap.size v2 v /\ NeRow v1 v2 /\ Below w0.heap.size w0 w'
theorem app_rest {α : Type} {l x r r' L : List α} (h : l ++ r = L) (hr : r = x ++ r') : (l ++ x) ++ r' = L := by rw [<- h, hr, List.append_assoc]
theorem app_len {α : Type} {l x r r' L : List α} {N : Nat} (h : l ++ r = L) (hr : r = x ++ r') (hL : L.length <= N) : l.length + x.length <= N := by
 have := congrArg List.length (app_rest h hr)
 simp only [List.length_append] at this
 omega
theorem spec_all.calls : ∀ (n : Nat) (t : PT), SizeOf.sizeOf t <= n -> Shp t -> ∀ {p : Nat} (w0 w : World) (v1 v2 : Value) (l1 l2 : List ByteArray), Rd 96 w0 p t -> Below w0.heap.size w0 w -> SR w w0.heap.size v1 l1 -> SR w w0.heap.size v2 l2 -> NeRow v1 v2 ->
  (l1 ++ allK t).length <= 8796093022208 -> (l2 ++ allV t).length <= 8796093022208 -> Calls Try.prog 65 #[ptrv p, v1, v2] w (AllR w0 (l1 ++ allK t) (l2 ++ allV t)) := by
 intro n
 induction n with
 | zero =>
  intro t hs
  cases t with | mk keys vals kids => simp at hs
 | succ n ih =>
  intro t hs hf p w0 w v1 v2 l1 l2 hrd hB ho1 ho2 hne hb1 hb2
  obtain ⟨Ak, ck, Av, cv, Ac, cc, ps, HN0⟩ := hrd.open
  have HN := A_ HN0
  have HB := A_ hB
  have HO1 := A_ ho1
  have HO2 := A_ ho2
  have HNE := A_ hne
  obtain ⟨L1, hL1⟩ : ∃ L, L = l1 ++ allK t := ⟨_, rfl⟩
  obtain ⟨L2, hL2⟩ : ∃ L, L = l2 ++ allV t := ⟨_, rfl⟩
  rw [<- hL1, <- hL2]
  rw [<- hL1] at hb1
  rw [<- hL2] at hb2
  have HL1 := A_ hb1
  have HL2 := A_ hb2
  have HR1 := A_ (show l1 ++ restK t 0 = L1 by rw [restK_zero, hL1])
  have HR2 := A_ (show l2 ++ restV t 0 = L2 by rw [restV_zero, hL2])
  have h1 := hf.one
  unfold Shp1 at h1
  have HS1 := A_ h1
  have HF := A_ hf
  have HSZ := A_ hs
  have hm : t.keys.length <= 1000 := h1.2.1
  clear hrd hB ho1 ho2 hne hb1 hb2 hL1 hL2 HN0 h1 hf hs
  go_enter Try.func65, Try.ntmps65
  go_wp2
  go_loopg [1, 2, 8] (t.keys.length + 1) (fun kq u1 u2 u8 w' => ∃ (i : Nat) (x1 x2 : List ByteArray), u8 = .int .i64 (i : Int) /\ Aside0 (kq + i = t.keys.length + 1) /\ Aside0 (x1 ++ restK t i = L1) /\ Aside0 (x2 ++ restV t i = L2) /\ Aside0 (SR w' w0.heap.size u1 x1) /\ Aside0 (SR w' w0.heap.size u2 x2) /\ Aside0 (NeRow u1 u2) /\ Aside0 (Below w0.heap.size w0 w'))
  case atStart => exact ⟨0, l1, l2, by first | rfl | (simp; done), ⟨Nat.add_zero _⟩, HR1, HR2, HO1, HO2, HNE, HB⟩
  case round =>
   clear HR1 HR2 HO1 HO2 HNE HB
   obtain ⟨i, x1, x2, rfl, HK, HR1, HR2, HO1, HO2, HNE, HB⟩ := hrel
   have HNr := A_ (HN.out.below HB.out)
   have HRr := A_ HNr.out.rd
   have hz0 := HNr.out.z0
   have hz2 := HNr.out.z2
   by_cases hi : i <= t.keys.length
   ·have ce : decide ((i : Int) <= (t.keys.length : Int)) = true := decide_eq_true (by omega)
    have ceb : (i <= t.keys.length) = True := eq_true hi
    have ci : (0 <= (i : Int)) = True := eq_true (by omega)
    have hJ : i <= 1000 := (by omega)
    have HI := A_ hi
    by_cases h0 : t.kids.length = 0
    ·have hbl := A_ (show decide ((t.kids.length : Int) = 0) = true from decide_eq_true (by omega))
     by_cases hlt : i < t.keys.length
     ·obtain ⟨r1, hr1⟩ : ∃ r, restK t (i + 1) = r := ⟨_, rfl⟩
      obtain ⟨adk, rfl, hk0⟩ := HN.out.key i (by omega) (by omega)
      obtain ⟨adv, rfl, hv0⟩ := HN.out.val i (by omega) (by have := HS1.out; omega)
      rw [Int.toNat_natCast] at hk0 hv0
      obtain ⟨kx, hkx⟩ : ∃ x, x = rdOf ByteArray.empty t.keys (i : Int) := ⟨_, rfl⟩
      obtain ⟨vx, hvx⟩ : ∃ x, x = rdOf ByteArray.empty t.vals (i : Int) := ⟨_, rfl⟩
      rw [<- hkx] at hk0
      rw [<- hvx] at hv0
      have e1 := restK_leaf h0 hlt
      have e2 := restV_leaf h0 (i := i) (by have := HS1.out; omega)
      rw [show t.keys.getD i ByteArray.empty = kx from hkx.symm] at e1
      rw [show t.vals.getD i ByteArray.empty = vx from hvx.symm] at e2
      have HE1 := A_ (app_rest (x := [kx]) HR1.out e1)
      have HE2 := A_ (app_rest (x := [vx]) HR2.out e2)
      have HZ1 := A_ (show x1.length + 1 <= 8796093022208 from app_len (x := [kx]) HR1.out e1 HL1.out)
      have HZ2 := A_ (show x2.length + 1 <= 8796093022208 from app_len (x := [vx]) HR2.out e2 HL2.out)
      have HK0 := A_ hk0
      have HV0 := A_ hv0
      have hlc : decide ((i : Int) < (t.keys.length : Int)) = true := decide_eq_true (by omega)
      have hlb : (i < t.keys.length) = True := eq_true hlt
      have hva : ((i : Int) < (t.vals.length : Int)) = True := eq_true (by have := HS1.out; omega)
      have hvb : (i < t.vals.length) = True := eq_true (by have := HS1.out; omega)
      have hzk := (HB.out.cell (World.block_lt_of_cell? w0 _ hk0)).trans hk0
      have hz1 := HNr.out.z1
      clear hk0 hv0 hkx hvx e1 e2 hi hlt h0 hr1 HR1 HR2
      go_wp2_with (first | (go_at_call 84; (with_reducible refine (spec_leaf.callsB true hbl.out _ ?side1).mono ?_); (case side1 => exact q9032_0 HRr.out); rintro e w' ⟨rfl, ⟨nd, rfl⟩⟩) | ((with_reducible refine gate_builtin (b := .append) (xs := #[.tmp 41, .tmp 49]) rfl ?_); at_builtin; refine Kd.R_append Kd.string (w0 := w0) w0.heap.size rfl (.tmp 41) (.tmp 49) 38 9 (.string ⟨#[]⟩) 16 rfl Try.underlying38 info9 rfl (by decide) (by omega) u1 x1 kx [.string kx] (fun _ => True) (fun _ => False) rfl rfl ?aP (fun _ hk => hk.elim) ?aF ?aO ?aB ?aS ?aL ?_; (case aP => exact rfl); (case aB => exact be_ HB.out); (case aF => exact fun _ _ => trivial); (case aO => exact rk_ HO1.out); (case aS => exact bw_ HB.out); (case aL => have := HZ1.out; omega); intro u1' w7 ho hb hg hat; have n1_ := A_ ho; have n2_ := A_ (SR.far (SR.ofR (rk_ HO2.out)) hg (neSymm HNE.out)); have n3_ := A_ (SR.ne (SR.ofR (rk_ HO2.out)) hat HNE.out); have n4_ := A_ hb; have hz1' := (HN.out.below hb).z1; have hz0' := (HN.out.below hb).z0; have hzv' := (hb.cell (World.block_lt_of_cell? w0 _ HV0.out)).trans HV0.out; clear HO1 HO2 HNE HB; have HO1 := n1_; have HO2 := n2_; have HNE := n3_; have HB := n4_; clear n1_ n2_ n3_ n4_ ho hb hg hat) | ((with_reducible refine gate_builtin (b := .append) (xs := #[.tmp 51, .tmp 59]) rfl ?_); at_builtin; refine Kd.R_append Kd.string (w0 := w0) w0.heap.size rfl (.tmp 51) (.tmp 59) 38 9 (.string ⟨#[]⟩) 16 rfl Try.underlying38 info9 rfl (by decide) (by omega) u2 x2 vx [.string vx] (fun _ => True) (fun _ => False) rfl rfl ?aP (fun _ hk => hk.elim) ?aF ?aO ?aB ?aS ?aL ?_; (case aP => exact rfl); (case aB => exact be_ HB.out); (case aF => exact fun _ _ => trivial); (case aO => exact rk_ HO2.out); (case aS => exact bw_ HB.out); (case aL => have := HZ2.out; omega); intro u2' w8 ho hb hg hat; have n1_ := A_ ho; have n2_ := A_ (SR.far (SR.ofR (rk_ HO1.out)) hg HNE.out); have n3_ := A_ (neSymm (SR.ne (SR.ofR (rk_ HO1.out)) hat (neSymm HNE.out))); have n4_ := A_ hb; clear HO1 HO2 HNE HB; have HO2 := n1_; have HO1 := n2_; have HNE := n3_; have HB := n4_; clear n1_ n2_ n3_ n4_ ho hb hg hat))
      go_roundg (t.keys.length - i)
      case measure => have := HK.out; have := HI.out; omega
      case rel => exact ⟨i + 1, _, _, by first | rfl | go_num | (simp; done), ⟨by have := HK.out; have := HI.out; omega⟩, HE1, HE2, ⟨SR.ofR (rk_ HO1.out)⟩, ⟨SR.ofR (rk_ HO2.out)⟩, HNE, ⟨be_ HB.out⟩⟩
     ·obtain rfl : i = t.keys.length := by omega
      have HE1 := A_ (show x1 ++ restK t (t.keys.length + 1) = L1 by rw [<- HR1.out, restK_end (by omega) (by omega), restK_end (by omega) (by omega)])
      have HE2 := A_ (show x2 ++ restV t (t.keys.length + 1) = L2 by have := HS1.out; rw [<- HR2.out, restV_end (by omega) (by omega), restV_end (by omega) (by omega)])
      have hlc : decide ((t.keys.length : Int) < (t.keys.length : Int)) = false := decide_eq_false (by omega)
      clear hi hlt h0 HR1 HR2
      go_wp2_with (first | (go_at_call 84; (with_reducible refine (spec_leaf.callsB true hbl.out _ ?side1).mono ?_); (case side1 => exact q9032_0 HRr.out); rintro e w' ⟨rfl, ⟨nd, rfl⟩⟩))
      go_roundg (t.keys.length - t.keys.length)
      case measure => have := HK.out; have := HI.out; omega
      case rel => exact ⟨t.keys.length + 1, _, _, by first | rfl | go_num | (simp; done), ⟨by have := HK.out; have := HI.out; omega⟩, HE1, HE2, ⟨SR.ofR (rk_ HO1.out)⟩, ⟨SR.ofR (rk_ HO2.out)⟩, HNE, ⟨be_ HB.out⟩⟩
    ·have hbl := A_ (show decide ((t.kids.length : Int) = 0) = false from decide_eq_false (by omega))
     have hkl : t.kids.length = t.keys.length + 1 := HS1.out.2.2.resolve_left h0
     obtain ⟨adc, q, s, rfl, hc0, hs, hrs⟩ := HN.out.kid i (by omega) (by omega)
     rw [Int.toNat_natCast] at hc0 hs
     have HS := A_ hs
     have HRs := A_ hrs
     have hzc := (HB.out.cell (World.block_lt_of_cell? w0 _ hc0)).trans hc0
     have hca : ((i : Int) < (t.kids.length : Int)) = True := eq_true (by omega)
     have hcb : (i < t.kids.length) = True := eq_true (by omega)
     by_cases hlt : i < t.keys.length
     ·obtain ⟨r1, hr1⟩ : ∃ r, restK t (i + 1) = r := ⟨_, rfl⟩
      obtain ⟨adk, rfl, hk0⟩ := HN.out.key i (by omega) (by omega)
      obtain ⟨adv, rfl, hv0⟩ := HN.out.val i (by omega) (by have := HS1.out; omega)
      rw [Int.toNat_natCast] at hk0 hv0
      obtain ⟨kx, hkx⟩ : ∃ x, x = rdOf ByteArray.empty t.keys (i : Int) := ⟨_, rfl⟩
      obtain ⟨vx, hvx⟩ : ∃ x, x = rdOf ByteArray.empty t.vals (i : Int) := ⟨_, rfl⟩
      rw [<- hkx] at hk0
      rw [<- hvx] at hv0
      have e1 := restK_node hs hlt
      have e2 := restV_node hs (i := i) (by have := HS1.out; omega)
      rw [show t.keys.getD i ByteArray.empty = kx from hkx.symm] at e1
      rw [show t.vals.getD i ByteArray.empty = vx from hvx.symm] at e2
      have HE01 := app_rest HR1.out e1
      have HE02 := app_rest HR2.out e2
      have HE1 := A_ (app_rest (x := [kx]) HE01 rfl)
      have HE2 := A_ (app_rest (x := [vx]) HE02 rfl)
      have HZ1 := A_ (show (x1 ++ allK s).length <= 8796093022208 by rw [List.length_append]; exact app_len HR1.out e1 HL1.out)
      have HZ2 := A_ (show (x2 ++ allV s).length <= 8796093022208 by rw [List.length_append]; exact app_len HR2.out e2 HL2.out)
      have HZ3 := A_ (show (x1 ++ allK s).length + 1 <= 8796093022208 from app_len (x := [kx]) HE01 rfl HL1.out)
      have HZ4 := A_ (show (x2 ++ allV s).length + 1 <= 8796093022208 from app_len (x := [vx]) HE02 rfl HL2.out)
      have HK0 := A_ hk0
      have HV0 := A_ hv0
      have hlc : decide ((i : Int) < (t.keys.length : Int)) = true := decide_eq_true (by omega)
      have hlb : (i < t.keys.length) = True := eq_true hlt
      have hva : ((i : Int) < (t.vals.length : Int)) = True := eq_true (by have := HS1.out; omega)
      have hvb : (i < t.vals.length) = True := eq_true (by have := HS1.out; omega)
      clear hk0 hv0 hkx hvx e1 e2 hi hlt h0 hr1 HR1 HR2 HE01 HE02 hkl hs hrs hc0
      go_wp2_with (first | (go_at_call 84; (with_reducible refine (spec_leaf.callsB false hbl.out _ ?side1).mono ?_); (case side1 => exact q9032_0 HRr.out); rintro e w' ⟨rfl, ⟨nd, rfl⟩⟩) | (go_at_call 65; (with_reducible refine (ih s (by have := PT.size_kid HS.out; have := HSZ.out; omega) (HF.out.kid HS.out) w0 _ u1 u2 x1 x2 HRs.out ?side2 ?side3 ?side4 HNE.out HZ1.out HZ2.out).mono ?_); (case side2 => exact be_ HB.out); (case side3 => exact SR.ofR (rk_ HO1.out)); (case side4 => exact SR.ofR (rk_ HO2.out)); rintro e w5 ⟨u3, u4, rfl, ho1, ho2, hne, hb⟩; have n1_ := A_ ho1; have n2_ := A_ ho2; have n3_ := A_ hne; have n4_ := A_ hb; have hz0' := (HN.out.below hb).z0; have hzk' := (hb.cell (World.block_lt_of_cell? w0 _ HK0.out)).trans HK0.out; clear HO1 HO2 HNE HB; have HO1 := n1_; have HO2 := n2_; have HNE := n3_; have HB := n4_; clear n1_ n2_ n3_ n4_ ho1 ho2 hne hb) | ((with_reducible refine gate_builtin (b := .append) (xs := #[.tmp 41, .tmp 49]) rfl ?_); at_builtin; refine Kd.R_append Kd.string (w0 := w0) w0.heap.size rfl (.tmp 41) (.tmp 49) 38 9 (.string ⟨#[]⟩) 16 rfl Try.underlying38 info9 rfl (by decide) (by omega) u3 (x1 ++ allK s) kx [.string kx] (fun _ => True) (fun _ => False) rfl rfl ?aP (fun _ hk => hk.elim) ?aF ?aO ?aB ?aS ?aL ?_; (case aP => exact rfl); (case aB => exact be_ HB.out); (case aF => exact fun _ _ => trivial); (case aO => exact rk_ HO1.out); (case aS => exact bw_ HB.out); (case aL => have := HZ3.out; omega); intro u1' w7 ho hb hg hat; have n1_ := A_ ho; have n2_ := A_ (SR.far (SR.ofR (rk_ HO2.out)) hg (neSymm HNE.out)); have n3_ := A_ (SR.ne (SR.ofR (rk_ HO2.out)) hat HNE.out); have n4_ := A_ hb; have hz1' := (HN.out.below hb).z1; have hz0b := (HN.out.below hb).z0; have hzv' := (hb.cell (World.block_lt_of_cell? w0 _ HV0.out)).trans HV0.out; clear HO1 HO2 HNE HB; have HO1 := n1_; have HO2 := n2_; have HNE := n3_; have HB := n4_; clear n1_ n2_ n3_ n4_ ho hb hg hat) | ((with_reducible refine gate_builtin (b := .append) (xs := #[.tmp 51, .tmp 59]) rfl ?_); at_builtin; refine Kd.R_append Kd.string (w0 := w0) w0.heap.size rfl (.tmp 51) (.tmp 59) 38 9 (.string ⟨#[]⟩) 16 rfl Try.underlying38 info9 rfl (by decide) (by omega) u4 (x2 ++ allV s) vx [.string vx] (fun _ => True) (fun _ => False) rfl rfl ?aP (fun _ hk => hk.elim) ?aF ?aO ?aB ?aS ?aL ?_; (case aP => exact rfl); (case aB => exact be_ HB.out); (case aF => exact fun _ _ => trivial); (case aO => exact rk_ HO2.out); (case aS => exact bw_ HB.out); (case aL => have := HZ4.out; omega); intro u2' w8 ho hb hg hat; have n1_ := A_ ho; have n2_ := A_ (SR.far (SR.ofR (rk_ HO1.out)) hg HNE.out); have n3_ := A_ (neSymm (SR.ne (SR.ofR (rk_ HO1.out)) hat (neSymm HNE.out))); have n4_ := A_ hb; clear HO1 HO2 HNE HB; have HO2 := n1_; have HO1 := n2_; have HNE := n3_; have HB := n4_; clear n1_ n2_ n3_ n4_ ho hb hg hat))
      go_roundg (t.keys.length - i)
      case measure => have := HK.out; have := HI.out; omega
      case rel => exact ⟨i + 1, _, _, by first | rfl | go_num | (simp; done), ⟨by have := HK.out; have := HI.out; omega⟩, HE1, HE2, ⟨SR.ofR (rk_ HO1.out)⟩, ⟨SR.ofR (rk_ HO2.out)⟩, HNE, ⟨be_ HB.out⟩⟩
     ·obtain rfl : i = t.keys.length := by omega
      have e1 := restK_last hs (Nat.le_refl _) hkl
      have e2 := restV_last hs (by have := HS1.out; omega) hkl
      have HE1 := A_ (app_rest HR1.out e1)
      have HE2 := A_ (app_rest HR2.out e2)
      have HZ1 := A_ (show (x1 ++ allK s).length <= 8796093022208 by rw [List.length_append]; exact app_len HR1.out e1 HL1.out)
      have HZ2 := A_ (show (x2 ++ allV s).length <= 8796093022208 by rw [List.length_append]; exact app_len HR2.out e2 HL2.out)
      have hlc : decide ((t.keys.length : Int) < (t.keys.length : Int)) = false := decide_eq_false (by omega)
      clear hi hlt h0 HR1 HR2 e1 e2 hkl hs hrs hc0
      go_wp2_with (first | (go_at_call 84; (with_reducible refine (spec_leaf.callsB false hbl.out _ ?side1).mono ?_); (case side1 => exact q9032_0 HRr.out); rintro e w' ⟨rfl, ⟨nd, rfl⟩⟩) | (go_at_call 65; (with_reducible refine (ih s (by have := PT.size_kid HS.out; have := HSZ.out; omega) (HF.out.kid HS.out) w0 _ u1 u2 x1 x2 HRs.out ?side2 ?side3 ?side4 HNE.out HZ1.out HZ2.out).mono ?_); (case side2 => exact be_ HB.out); (case side3 => exact SR.ofR (rk_ HO1.out)); (case side4 => exact SR.ofR (rk_ HO2.out)); rintro e w5 ⟨u3, u4, rfl, ho1, ho2, hne, hb⟩; have n1_ := A_ ho1; have n2_ := A_ ho2; have n3_ := A_ hne; have n4_ := A_ hb; have hz0' := (HN.out.below hb).z0;  clear HO1 HO2 HNE HB; have HO1 := n1_; have HO2 := n2_; have HNE := n3_; have HB := n4_; clear n1_ n2_ n3_ n4_ ho1 ho2 hne hb))
      go_roundg (t.keys.length - t.keys.length)
      case measure => have := HK.out; have := HI.out; omega
      case rel => exact ⟨t.keys.length + 1, _, _, by first | rfl | go_num | (simp; done), ⟨by have := HK.out; have := HI.out; omega⟩, HE1, HE2, ⟨SR.ofR (rk_ HO1.out)⟩, ⟨SR.ofR (rk_ HO2.out)⟩, HNE, ⟨be_ HB.out⟩⟩
   ·have ce : decide ((i : Int) <= (t.keys.length : Int)) = false := decide_eq_false (by omega)
    have ceb : (i <= t.keys.length) = False := eq_false hi
    have HE1 := show x1 = L1 by have := HS1.out; rw [<- HR1.out, restK_end (by omega) (by omega), List.append_nil]
    have HE2 := show x2 = L2 by have := HS1.out; rw [<- HR2.out, restV_end (by omega) (by omega), List.append_nil]
    subst HE1
    subst HE2
    clear hi
    go_wp2
    go_ret2
    exact ⟨_, _, rfl, SR.ofR (rk_ HO1.out), SR.ofR (rk_ HO2.out), HNE.out, be_ HB.out⟩
theorem q9033_0 {p0 q : Prop} (h0 : p0) (h : p0 -> q := by intro q0_; repeat (first | exact q0_ | (with_reducible refine Rd.drewN ?_ _) | (with_reducible refine Rd.drew ?_))) : q := h h0
set_option maxHeartbeats 8000000
set_option maxRecDepth 100000
theorem impl_isLeaf.callsB {p : Nat} {t : PT} (b : Bool) (hb : decide ((t.kids.length : Int) = 0) = b) (w : World) (h : Rd 101 w p t) :
  Calls Try.prog 99 #[ptrv p] w fun e w' => e = .returned (.bool b) /\ Drawn0 w w' := by
 subst hb
 obtain ⟨Ak, ck, Av, cv, Ac, cc, ps, HN⟩ := h.open
 have hz := HN.z2
 clear HN h
 go_enter Try.func99, Try.ntmps99
 go_wp2
 go_ret
 exact ⟨by first | rfl | (simp; done), by repeat (first | exact Drawn0.refl _ | apply Drawn0.step)⟩
theorem impl_depth.calls : ∀ (n : Nat) (t : PT), SizeOf.sizeOf t <= n -> Few t -> ∀ (d : Int) (b : Bool), depthP t = (d, b) -> ∀ {p : Nat} (w : World), Rd 101 w p t ->
  Calls Try.prog 62 #[ptrv p] w fun e w' => e = .returned (.tuple #[.int .i64 d, .bool b]) /\ Drawn0 w w' := by
 intro n
 induction n with
 | zero =>
  intro t hs
  cases t with | mk keys vals kids => simp at hs
 | succ n ih =>
  intro t hs hf d b hr p w h
  by_cases h0 : t.kids.length = 0
  ·have HO := A_ h
   have he := depthP_leaf h0
   rw [hr] at he
   injection he with e1 e2
   subst e1; subst e2
   have hb0 := A_ (show decide ((t.kids.length : Int) = 0) = true from decide_eq_true (by omega))
   clear h h0 hr
   go_enter Try.func62, Try.ntmps62
   go_wp2_with (go_at_call 99; (with_reducible refine (impl_isLeaf.callsB true hb0.out _ ?side1).mono ?_); (case side1 => exact q9033_0 HO.out); rintro e w' ⟨rfl, ⟨nd, rfl⟩⟩)
   go_ret2
   exact ⟨by first | done | rfl, by repeat (first | exact Drawn0.refl _ | apply Drawn0.step)⟩
  ·have HO := A_ h
   have hb0 := A_ (show decide ((t.kids.length : Int) = 0) = false from decide_eq_false (by omega))
   obtain ⟨Ak, ck, Av, cv, Ac, cc, ps, HN⟩ := h.open
   have hz0 := HN.z0
   have hz2 := HN.z2
   have HN' := A_ HN
   have HF := A_ hf
   have HSZ := A_ hs
   have HL := A_ (show 0 < t.kids.length by omega)
   have HE := A_ (hr.symm.trans (depthP_node h0))
   clear h h0 HN hf hs hr
   go_enter Try.func62, Try.ntmps62
   go_upto_region 5 with (go_at_call 99; (with_reducible refine (impl_isLeaf.callsB false hb0.out _ ?side1).mono ?_); (case side1 => exact q9033_0 HO.out); rintro e w' ⟨rfl, ⟨nd, rfl⟩⟩)
   go_loopg [4, 16] t.kids.length (fun kq v4 v16 w' => ∃ (i m : Nat) (f : Int), v16 = .int .i64 (i : Int) /\ v4 = .int .i64 f /\ Aside0 (kq + i = t.kids.length) /\ Aside0 ((d, b) = depthR t.keys.length (depthL i f (t.kids.drop i))) /\ w' = w.drewN m)
   case atStart => exact ⟨0, _, 0, by first | rfl | (simp; done), rfl, ⟨Nat.add_zero _⟩, HE, rfl⟩
   case round =>
    clear HE
    obtain ⟨i, m, f, rfl, rfl, HK, HE, rfl⟩ := hrel
    by_cases hi : i < t.kids.length
    ·obtain ⟨ad, q, s, rfl, hz, hs, ho⟩ := HN'.out.kid i (by omega) (by omega)
     rw [Int.toNat_natCast] at hz hs
     obtain ⟨Ak1, ck1, Av1, cv1, Ac1, cc1, ps1, HN1⟩ := ho.open
     have hzk := HN1.z0
     have HS := A_ hs
     have H1 := A_ ho
     have HI := A_ hi
     have ce : decide ((i : Int) < (t.kids.length : Int)) = true := decide_eq_true (by omega)
     have cea : ((i : Int) < (t.kids.length : Int)) = True := eq_true (by omega)
     have ceb : (i < t.kids.length) = True := eq_true hi
     have cec : (0 <= (i : Int)) = True := eq_true (by omega)
     obtain ⟨d1, b1, hdb⟩ : ∃ d1 b1, depthP s = (d1, b1) := ⟨_, _, rfl⟩
     have HD := A_ hdb
     clear HN1 ho hs hi hdb
     cases b1 with
     | false =>
      have HE1 := A_ (depthL_off HS.out HE.out (.inl (by rw [HD.out])))
      go_wp2_with (go_at_call 62; (with_reducible refine (ih s (by have := PT.size_kid HS.out; have := HSZ.out; omega) (HF.out.kid HS.out) d1 false HD.out _ ?side1).mono ?_); (case side1 => exact q9033_0 H1.out); rintro e w' ⟨rfl, ⟨nd, rfl⟩⟩)
      go_ret2
      have := HE1.out
      injection this with e1 e2
      exact ⟨by rw [e1, e2]; first | done | rfl, by repeat (first | exact Drawn0.refl _ | apply Drawn0.step | exact ⟨_, rfl⟩)⟩
     | true =>
      by_cases hk : s.keys.length < 2
      ·have HE1 := A_ (depthL_off HS.out HE.out (.inr (.inl hk)))
       have hkb : decide ((s.keys.length : Int) < 2) = true := decide_eq_true (by omega)
       clear hk
       go_wp2_with (go_at_call 62; (with_reducible refine (ih s (by have := PT.size_kid HS.out; have := HSZ.out; omega) (HF.out.kid HS.out) d1 true HD.out _ ?side1).mono ?_); (case side1 => exact q9033_0 H1.out); rintro e w' ⟨rfl, ⟨nd, rfl⟩⟩)
       go_ret2
       have := HE1.out
       injection this with e1 e2
       exact ⟨by rw [e1, e2]; first | done | rfl, by repeat (first | exact Drawn0.refl _ | apply Drawn0.step | exact ⟨_, rfl⟩)⟩
      ·have hkb : decide ((s.keys.length : Int) < 2) = false := decide_eq_false (by omega)
       by_cases h3 : i = 0 ∨ d1 = f
       ·have HE1 := A_ (depthL_on HS.out HE.out (by rw [HD.out]) hk (by rw [HD.out]; exact h3))
        have hm : t.kids.length <= 1048576 := HF.out.len
        have hj : i < t.kids.length := HI.out
        rw [HD.out] at HE1
        clear hk
        by_cases hi0 : 0 < i
        ·obtain rfl : d1 = f := h3.resolve_left (by omega)
         have hi0b : decide (0 < (i : Int)) = true := decide_eq_true (by omega)
         have hi0c : (0 < i) = True := eq_true hi0
         clear hi0 h3
         go_wp2_with (go_at_call 62; (with_reducible refine (ih s (by have := PT.size_kid HS.out; have := HSZ.out; omega) (HF.out.kid HS.out) d1 true HD.out _ ?side1).mono ?_); (case side1 => exact q9033_0 H1.out); rintro e w' ⟨rfl, ⟨nd, rfl⟩⟩)
         go_roundg (t.kids.length - (i + 1))
         case measure => have := HK.out; omega
         case rel => exact ⟨i + 1, _, d1, by first | rfl | go_num | (simp; done), rfl, ⟨by omega⟩, HE1, rfl⟩
        ·have hi0b : decide (0 < (i : Int)) = false := decide_eq_false (by omega)
         have hi0c : (0 < i) = False := eq_false hi0
         clear hi0 h3
         go_wp2_with (go_at_call 62; (with_reducible refine (ih s (by have := PT.size_kid HS.out; have := HSZ.out; omega) (HF.out.kid HS.out) d1 true HD.out _ ?side1).mono ?_); (case side1 => exact q9033_0 H1.out); rintro e w' ⟨rfl, ⟨nd, rfl⟩⟩)
         go_roundg (t.kids.length - (i + 1))
         case measure => have := HK.out; omega
         case rel => exact ⟨i + 1, _, d1, by first | rfl | go_num | (simp; done), rfl, ⟨by omega⟩, HE1, rfl⟩
       ·have h4 : 0 < i /\ d1 ≠ f := ⟨by omega, fun e => h3 (.inr e)⟩
        have HE1 := A_ (depthL_off HS.out HE.out (.inr (.inr ⟨h4.1, by rw [HD.out]; exact h4.2⟩)))
        have hi0b : decide (0 < (i : Int)) = true := decide_eq_true (by omega)
        have hi0c : (0 < i) = True := eq_true h4.1
        have hne : (d1 != f) = true := by simpa using h4.2
        clear hk h3 h4
        go_wp2_with (go_at_call 62; (with_reducible refine (ih s (by have := PT.size_kid HS.out; have := HSZ.out; omega) (HF.out.kid HS.out) d1 true HD.out _ ?side1).mono ?_); (case side1 => exact q9033_0 H1.out); rintro e w' ⟨rfl, ⟨nd, rfl⟩⟩)
        go_ret2
        have := HE1.out
        injection this with e1 e2
        exact ⟨by rw [e1, e2]; first | done | rfl, by repeat (first | exact Drawn0.refl _ | apply Drawn0.step | exact ⟨_, rfl⟩)⟩
    ·have ce : decide ((i : Int) < (t.kids.length : Int)) = false := decide_eq_false (by omega)
     have ceb : (i < t.kids.length) = False := eq_false (by omega)
     have HE1 := depthL_end (by omega) HE.out
     injection HE1 with e1 e2
     subst e1; subst e2
     clear hi HE
     go_wp2
     go_quiet (fail)
     go_wp2
     go_ret2
     exact ⟨by first | done | rfl | simp [i64_w] | simp [IntKind.wrap_i64, wrap64], by repeat (first | exact Drawn0.refl _ | apply Drawn0.step | exact ⟨_, rfl⟩)⟩
set_option maxHeartbeats 8000000
set_option maxRecDepth 100000
theorem below_of_drawn0 {w w' : World} (h : Drawn0 w w') : Below w.heap.size w w' := by
 obtain ⟨n, rfl⟩ := h.out
 exact pw_below_drewN (Below.refl _ _) n
theorem below_of_drawn {N : Nat} {w w' : World} (h : Drawn0 w w') : Below N w w' := by
 obtain ⟨n, rfl⟩ := h.out
 exact pw_below_drewN (Below.refl _ _) n
theorem impl_all.calls : ∀ (n : Nat) (t : PT), SizeOf.sizeOf t <= n -> Shp t -> ∀ {p : Nat} (w0 w : World) (v1 v2 : Value) (l1 l2 : List ByteArray), Rd 101 w0 p t -> Below w0.heap.size w0 w -> SR w w0.heap.size v1 l1 -> SR w w0.heap.size v2 l2 -> NeRow v1 v2 ->
  (l1 ++ allK t).length <= 8796093022208 -> (l2 ++ allV t).length <= 8796093022208 -> Calls Try.prog 66 #[ptrv p, v1, v2] w (AllR w0 (l1 ++ allK t) (l2 ++ allV t)) := by
 intro n
 induction n with
 | zero =>
  intro t hs
  cases t with | mk keys vals kids => simp at hs
 | succ n ih =>
  intro t hs hf p w0 w v1 v2 l1 l2 hrd hB ho1 ho2 hne hb1 hb2
  obtain ⟨Ak, ck, Av, cv, Ac, cc, ps, HN0⟩ := hrd.open
  have HN := A_ HN0
  have HB := A_ hB
  have HO1 := A_ ho1
  have HO2 := A_ ho2
  have HNE := A_ hne
  obtain ⟨L1, hL1⟩ : ∃ L, L = l1 ++ allK t := ⟨_, rfl⟩
  obtain ⟨L2, hL2⟩ : ∃ L, L = l2 ++ allV t := ⟨_, rfl⟩
  rw [<- hL1, <- hL2]
  rw [<- hL1] at hb1
  rw [<- hL2] at hb2
  have HL1 := A_ hb1
  have HL2 := A_ hb2
  have HR1 := A_ (show l1 ++ restK t 0 = L1 by rw [restK_zero, hL1])
  have HR2 := A_ (show l2 ++ restV t 0 = L2 by rw [restV_zero, hL2])
  have h1 := hf.one
  unfold Shp1 at h1
  have HS1 := A_ h1
  have HF := A_ hf
  have HSZ := A_ hs
  have hm : t.keys.length <= 1000 := h1.2.1
  have hz0 := (HN0.below hB).z0
  clear hrd hB ho1 ho2 hne hb1 hb2 hL1 hL2 HN0 h1 hf hs
  go_enter Try.func66, Try.ntmps66
  go_wp2
  go_loopg [1, 2, 15] t.keys.length (fun kq u1 u2 u15 w' => ∃ (i : Nat) (x1 x2 : List ByteArray), u15 = .int .i64 (i : Int) /\ Aside0 (kq + i = t.keys.length) /\ Aside0 (x1 ++ restK t i = L1) /\ Aside0 (x2 ++ restV t i = L2) /\ Aside0 (SR w' w0.heap.size u1 x1) /\ Aside0 (SR w' w0.heap.size u2 x2) /\ Aside0 (NeRow u1 u2) /\ Aside0 (Below w0.heap.size w0 w'))
  case atStart => exact ⟨0, l1, l2, by first | rfl | (simp; done), ⟨Nat.add_zero _⟩, HR1, HR2, HO1, HO2, HNE, HB⟩
  case round =>
   clear HR1 HR2 HO1 HO2 HNE HB hz0
   obtain ⟨i, x1, x2, rfl, HK, HR1, HR2, HO1, HO2, HNE, HB⟩ := hrel
   have HNr := A_ (HN.out.below HB.out)
   have HRr := A_ HNr.out.rd
   have hz0 := HNr.out.z0
   have hz2 := HNr.out.z2
   have ci : (0 <= (i : Int)) = True := eq_true (by omega)
   by_cases hi : i < t.keys.length
   ·have ce : decide ((i : Int) < (t.keys.length : Int)) = true := decide_eq_true (by omega)
    have ceb : (i < t.keys.length) = True := eq_true hi
    have hJ : i <= 1000 := (by omega)
    have HI := A_ hi
    obtain ⟨adk, rfl, hk0⟩ := HN.out.key i (by omega) (by omega)
    obtain ⟨adv, rfl, hv0⟩ := HN.out.val i (by omega) (by have := HS1.out; omega)
    rw [Int.toNat_natCast] at hk0 hv0
    obtain ⟨kx, hkx⟩ : ∃ x, x = rdOf ByteArray.empty t.keys (i : Int) := ⟨_, rfl⟩
    obtain ⟨vx, hvx⟩ : ∃ x, x = rdOf ByteArray.empty t.vals (i : Int) := ⟨_, rfl⟩
    rw [<- hkx] at hk0
    rw [<- hvx] at hv0
    by_cases h0 : t.kids.length = 0
    ·have hbl := A_ (show decide ((t.kids.length : Int) = 0) = true from decide_eq_true (by omega))
     have e1 := restK_leaf h0 hi
     have e2 := restV_leaf h0 (i := i) (by have := HS1.out; omega)
     rw [show t.keys.getD i ByteArray.empty = kx from hkx.symm] at e1
     rw [show t.vals.getD i ByteArray.empty = vx from hvx.symm] at e2
     have HE1 := A_ (app_rest (x := [kx]) HR1.out e1)
     have HE2 := A_ (app_rest (x := [vx]) HR2.out e2)
     have HZ1 := A_ (show x1.length + 1 <= 8796093022208 from app_len (x := [kx]) HR1.out e1 HL1.out)
     have HZ2 := A_ (show x2.length + 1 <= 8796093022208 from app_len (x := [vx]) HR2.out e2 HL2.out)
     have HV0 := A_ hv0
     have hzk := (Below.cell HB.out (World.block_lt_of_cell? w0 _ hk0)).trans hk0
     have hva : ((i : Int) < (t.vals.length : Int)) = True := eq_true (by have := HS1.out; omega)
     have hvb : (i < t.vals.length) = True := eq_true (by have := HS1.out; omega)
     clear hk0 hv0 hkx hvx e1 e2 hi h0 HR1 HR2
     go_wp2_with ((go_at_call 99; (with_reducible refine (impl_isLeaf.callsB true hbl.out _ ?side1).mono ?_); (case side1 => exact HRr.out); rintro e w6 ⟨rfl, hd⟩; have n1_ := A_ (HB.out.trans (below_of_drawn hd)); have hz0' := (HN.out.below n1_.out).z0; have hz2' := (HN.out.below n1_.out).z2; have n2_ := A_ (SR.under HO1.out (below_of_drawn0 hd)); have n3_ := A_ (SR.under HO2.out (below_of_drawn0 hd)); clear hd; clear HB; clear HO1; clear HO2; have HB := n1_; have HO1 := n2_; have HO2 := n3_; clear n1_ n2_ n3_))
     have HS2 := A_ (Sat.two HO1.out HO2.out HNE.out)
     refine start_ (n := 16) (S := fun w' => w'.cell? ⟨p, 1, none⟩ = some (.slice (some adv) t.vals.length cv) /\ w'.cell? (adv.add i) = some (.string vx)) (ds := []) (bt 16 0) (by kernel_rfl) rfl rfl ⟨(HN.out.below (below_drew HB.out)).z1, (Below.cell (below_drew HB.out) (World.block_lt_of_cell? w0 _ HV0.out)).trans HV0.out⟩ (fun hHeld => ?_)
     refine pu_ 0 36 1 ?_
     refine pu_ 1 37 3 ?_
     refine pu_ 4 40 19 ?_
     refine pu_ 5 41 51 ?_
     refine pu_ 6 42 115 ?_
     refine pu_ 7 43 243 ?_
     refine pu_ 9 45 755 ?_
     refine ta_ 8 44 1011 hHeld ?_
     refine pu_ 10 46 2035 ?_
     refine ta_ 11 47 4083 hHeld ?_
     refine join_ (σ := Value × Value × Value) 3 (bt 16 8191) (fun z => [(38, z.1), (39, z.2.1), (48, z.2.2)]) (fun z w' => Below w0.heap.size w0 w' /\ Sat w' w0.heap.size [txt z.2.1 (x1 ++ [kx]), txt u2 x2, txt z.2.2 [vx]]) ?_ ?_
     rotate_left
     ·intro hCont
      refine tw_ 2 12 (some 38) (some 48) 4087 8179 (fun K hK => ?_) (fun K hK => ?_)
      ·skip
       refine Kd.R_lit_step Kd.string (w0 := w0) w0.heap.size 9 (by rfl) (N := 38) rfl (xs := [kx]) (inner := [.string kx]) (ok := fun _ => True) (okp := fun _ => False) ?hr (Kd.reps_scalar (enc := Value.string) [kx]) (fun _ h => h.elim) trivial (below_drew HB.out) ((below_drew HB.out)).size (by simp) ?_
       (case hr => first | (go_simp; done) | (go_simp; rfl))
       intro vb1 w_2 hob hbb hgb hnb
       have HB_2 := A_ hbb
       have HS_2 := A_ (Sat.lit (Sat.drew HS2.out) hob hgb hnb)
       obtain ⟨vb1A, vb1c, rfl⟩ : ∃ A c, vb1 = .slice A 1 c := Kd.R_slice hob
       clear hob hbb hgb hnb
       refine hK.out _ _ ⟨(HN.out.below HB_2.out).z1, (Below.cell HB_2.out (World.block_lt_of_cell? w0 _ HV0.out)).trans HV0.out⟩ (fun hHeld => ?_)
       clear hK K
       refine no_ 38 ?_
       refine tw_ 3 12 (some 39) (some 48) 4095 8183 (fun K hK => ?_) (fun K hK => ?_)
       ·skip
        refine Kd.R_append_rows_step Kd.string (w0 := w0) w0.heap.size (by rfl) (.tmp 36) (.tmp 38) 38 9 (.string ⟨#[]⟩) 16 rfl Try.underlying38 info9 rfl (by decide) (by omega) u1 x1 [kx] vb1A 1 vb1c (fun _ => True) (fun _ => False) rfl rfl (Sat.sr HS_2.out 0 rfl) (Kd.R_reads' (Sat.sr HS_2.out 2 rfl)).2.2 (fun _ _ h => h) (fun _ h => h.elim) (fun _ _ => trivial) HB_2.out (HB_2.out).size (by have := HZ1.out; (try simp only [List.length_singleton]); omega) ?_
        intro u1n w_2_3 ho hb hg hat
        have HB_2_3 := A_ hb
        have HS_2_3 := A_ (Sat.app 0 HS_2.out rfl ho hg hat)
        clear ho hb hg hat
        refine hK.out _ _ ⟨(HN.out.below HB_2_3.out).z1, (Below.cell HB_2_3.out (World.block_lt_of_cell? w0 _ HV0.out)).trans HV0.out⟩ (fun hHeld => ?_)
        clear hK K
        refine no_ 39 ?_
        refine on_ 12 (some 48) 8191 (fun K hK => ?_)
        refine Kd.R_lit_step Kd.string (w0 := w0) w0.heap.size 9 (by rfl) (N := 48) rfl (xs := [vx]) (inner := [.string vx]) (ok := fun _ => True) (okp := fun _ => False) ?hr (Kd.reps_scalar (enc := Value.string) [vx]) (fun _ h => h.elim) trivial HB_2_3.out (HB_2_3.out).size (by simp) ?_
        (case hr => first | (go_simp; done) | (go_simp; rfl))
        intro vb2 w_2_3_12 hob hbb hgb hnb
        have HB_2_3_12 := A_ hbb
        have HS_2_3_12 := A_ (Sat.lit HS_2_3.out hob hgb hnb)
        obtain ⟨vb2A, vb2c, rfl⟩ : ∃ A c, vb2 = .slice A 1 c := Kd.R_slice hob
        clear hob hbb hgb hnb
        refine hK.out _ _ ⟨(HN.out.below HB_2_3_12.out).z1, (Below.cell HB_2_3_12.out (World.block_lt_of_cell? w0 _ HV0.out)).trans HV0.out⟩ (fun hHeld => ?_)
        clear hK K
        refine no_ 48 ?_
        exact norm_ (by simp only [putAll, Act.put, List.setIfInBounds_toArray, List.set_cons_zero, List.set_cons_succ]) (hCont ⟨.slice vb1A 1 vb1c, u1n, .slice vb2A 1 vb2c⟩ _ ⟨HB_2_3_12.out, Sat.sub HS_2_3_12.out (by simp)⟩)
       ·skip
        refine Kd.R_lit_step Kd.string (w0 := w0) w0.heap.size 9 (by rfl) (N := 48) rfl (xs := [vx]) (inner := [.string vx]) (ok := fun _ => True) (okp := fun _ => False) ?hr (Kd.reps_scalar (enc := Value.string) [vx]) (fun _ h => h.elim) trivial HB_2.out (HB_2.out).size (by simp) ?_
        (case hr => first | (go_simp; done) | (go_simp; rfl))
        intro vb2 w_2_12 hob hbb hgb hnb
        have HB_2_12 := A_ hbb
        have HS_2_12 := A_ (Sat.lit HS_2.out hob hgb hnb)
        obtain ⟨vb2A, vb2c, rfl⟩ : ∃ A c, vb2 = .slice A 1 c := Kd.R_slice hob
        clear hob hbb hgb hnb
        refine hK.out _ _ ⟨(HN.out.below HB_2_12.out).z1, (Below.cell HB_2_12.out (World.block_lt_of_cell? w0 _ HV0.out)).trans HV0.out⟩ (fun hHeld => ?_)
        clear hK K
        refine no_ 48 ?_
        refine on_ 3 (some 39) 8191 (fun K hK => ?_)
        refine Kd.R_append_rows_step Kd.string (w0 := w0) w0.heap.size (by rfl) (.tmp 36) (.tmp 38) 38 9 (.string ⟨#[]⟩) 16 rfl Try.underlying38 info9 rfl (by decide) (by omega) u1 x1 [kx] vb1A 1 vb1c (fun _ => True) (fun _ => False) rfl rfl (Sat.sr HS_2_12.out 0 rfl) (Kd.R_reads' (Sat.sr HS_2_12.out 2 rfl)).2.2 (fun _ _ h => h) (fun _ h => h.elim) (fun _ _ => trivial) HB_2_12.out (HB_2_12.out).size (by have := HZ1.out; (try simp only [List.length_singleton]); omega) ?_
        intro u1n w_2_12_3 ho hb hg hat
        have HB_2_12_3 := A_ hb
        have HS_2_12_3 := A_ (Sat.app 0 HS_2_12.out rfl ho hg hat)
        clear ho hb hg hat
        refine hK.out _ _ ⟨(HN.out.below HB_2_12_3.out).z1, (Below.cell HB_2_12_3.out (World.block_lt_of_cell? w0 _ HV0.out)).trans HV0.out⟩ (fun hHeld => ?_)
        clear hK K
        refine no_ 39 ?_
        exact norm_ (by simp only [putAll, Act.put, List.setIfInBounds_toArray, List.set_cons_zero, List.set_cons_succ]) (hCont ⟨.slice vb1A 1 vb1c, u1n, .slice vb2A 1 vb2c⟩ _ ⟨HB_2_12_3.out, Sat.sub HS_2_12_3.out (by simp)⟩)
      ·skip
       refine Kd.R_lit_step Kd.string (w0 := w0) w0.heap.size 9 (by rfl) (N := 48) rfl (xs := [vx]) (inner := [.string vx]) (ok := fun _ => True) (okp := fun _ => False) ?hr (Kd.reps_scalar (enc := Value.string) [vx]) (fun _ h => h.elim) trivial (below_drew HB.out) ((below_drew HB.out)).size (by simp) ?_
       (case hr => first | (go_simp; done) | (go_simp; rfl))
       intro vb2 w_12 hob hbb hgb hnb
       have HB_12 := A_ hbb
       have HS_12 := A_ (Sat.lit (Sat.drew HS2.out) hob hgb hnb)
       obtain ⟨vb2A, vb2c, rfl⟩ : ∃ A c, vb2 = .slice A 1 c := Kd.R_slice hob
       clear hob hbb hgb hnb
       refine hK.out _ _ ⟨(HN.out.below HB_12.out).z1, (Below.cell HB_12.out (World.block_lt_of_cell? w0 _ HV0.out)).trans HV0.out⟩ (fun hHeld => ?_)
       clear hK K
       refine no_ 48 ?_
       refine on_ 2 (some 38) 8183 (fun K hK => ?_)
       refine Kd.R_lit_step Kd.string (w0 := w0) w0.heap.size 9 (by rfl) (N := 38) rfl (xs := [kx]) (inner := [.string kx]) (ok := fun _ => True) (okp := fun _ => False) ?hr (Kd.reps_scalar (enc := Value.string) [kx]) (fun _ h => h.elim) trivial HB_12.out (HB_12.out).size (by simp) ?_
       (case hr => first | (go_simp; done) | (go_simp; rfl))
       intro vb1 w_12_2 hob hbb hgb hnb
       have HB_12_2 := A_ hbb
       have HS_12_2 := A_ (Sat.lit HS_12.out hob hgb hnb)
       obtain ⟨vb1A, vb1c, rfl⟩ : ∃ A c, vb1 = .slice A 1 c := Kd.R_slice hob
       clear hob hbb hgb hnb
       refine hK.out _ _ ⟨(HN.out.below HB_12_2.out).z1, (Below.cell HB_12_2.out (World.block_lt_of_cell? w0 _ HV0.out)).trans HV0.out⟩ (fun hHeld => ?_)
       clear hK K
       refine no_ 38 ?_
       refine on_ 3 (some 39) 8191 (fun K hK => ?_)
       refine Kd.R_append_rows_step Kd.string (w0 := w0) w0.heap.size (by rfl) (.tmp 36) (.tmp 38) 38 9 (.string ⟨#[]⟩) 16 rfl Try.underlying38 info9 rfl (by decide) (by omega) u1 x1 [kx] vb1A 1 vb1c (fun _ => True) (fun _ => False) rfl rfl (Sat.sr HS_12_2.out 0 rfl) (Kd.R_reads' (Sat.sr HS_12_2.out 3 rfl)).2.2 (fun _ _ h => h) (fun _ h => h.elim) (fun _ _ => trivial) HB_12_2.out (HB_12_2.out).size (by have := HZ1.out; (try simp only [List.length_singleton]); omega) ?_
       intro u1n w_12_2_3 ho hb hg hat
       have HB_12_2_3 := A_ hb
       have HS_12_2_3 := A_ (Sat.app 0 HS_12_2.out rfl ho hg hat)
       clear ho hb hg hat
       refine hK.out _ _ ⟨(HN.out.below HB_12_2_3.out).z1, (Below.cell HB_12_2_3.out (World.block_lt_of_cell? w0 _ HV0.out)).trans HV0.out⟩ (fun hHeld => ?_)
       clear hK K
       refine no_ 39 ?_
       exact norm_ (by simp only [putAll, Act.put, List.setIfInBounds_toArray, List.set_cons_zero, List.set_cons_succ]) (hCont ⟨.slice vb1A 1 vb1c, u1n, .slice vb2A 1 vb2c⟩ _ ⟨HB_12_2_3.out, Sat.sub HS_12_2_3.out (by simp)⟩)
     rintro ⟨vb1, u1n, vb2⟩ w8 ⟨hb, hs⟩
     obtain ⟨vb2A, vb2c, rfl⟩ : ∃ A c, vb2 = .slice A 1 c := Kd.R_slice (Sat.sr hs 2 rfl)
     have hHeld : (w8.cell? ⟨p, 1, none⟩ = some (.slice (some adv) t.vals.length cv)) /\ (w8.cell? (adv.add i) = some (.string vx)) := ⟨(HN.out.below hb).z1, (Below.cell hb (World.block_lt_of_cell? w0 _ HV0.out)).trans HV0.out⟩
     have HB8 := A_ hb
     have HS8 := A_ hs
     clear hb hs
     refine norm_ (a' := ?_) ?_ ?_
     rotate_left
     ·simp only [putAll, Act.put, List.setIfInBounds_toArray, List.set_cons_zero, List.set_cons_succ]
      rfl
     refine on_ 13 (some 49) 16383 (fun K hK => ?_)
     refine Kd.R_append_rows_step Kd.string (w0 := w0) w0.heap.size (by rfl) (.tmp 40) (.tmp 48) 38 9 (.string ⟨#[]⟩) 16 rfl Try.underlying38 info9 rfl (by decide) (by omega) u2 x2 [vx] vb2A 1 vb2c (fun _ => True) (fun _ => False) rfl rfl (Sat.sr HS8.out 1 rfl) (Kd.R_reads' (Sat.sr HS8.out 2 rfl)).2.2 (fun _ _ h => h) (fun _ h => h.elim) (fun _ _ => trivial) HB8.out HB8.out.size (by have := HZ2.out; (try simp only [List.length_singleton]); omega) ?_
     intro u2n w9 ho hb hg hat
     have n1_ := A_ hb
     have n2_ := A_ (Sat.app 1 HS8.out rfl ho hg hat)
     clear ho hb hg hat HB8 HS8
     have HB8 := n1_
     have HS8 := n2_
     clear n1_ n2_
     refine hK.out _ _ ⟨(HN.out.below HB8.out).z1, (Below.cell HB8.out (World.block_lt_of_cell? w0 _ HV0.out)).trans HV0.out⟩ (fun hHeld => ?_)
     clear hK K
     refine no_ 49 ?_
     refine pu_ 14 1 32767 ?_
     refine pu_ 15 2 65535 ?_
     refine done_ (by kernel_rfl) ?_
     go_wp2
     go_roundg (t.keys.length - (i + 1))
     case measure => have := HK.out; have := HI.out; omega
     case rel => exact ⟨i + 1, _, _, by first | rfl | go_num | (simp; done), ⟨by have := HK.out; have := HI.out; omega⟩, HE1, HE2, ⟨Sat.sr HS8.out 0 rfl⟩, ⟨Sat.sr HS8.out 1 rfl⟩, ⟨Sat.ap2 HS8.out (i := 0) (j := 1) (by omega) rfl rfl⟩, HB8⟩
    ·have hbl := A_ (show decide ((t.kids.length : Int) = 0) = false from decide_eq_false (by omega))
     have hkl : t.kids.length = t.keys.length + 1 := HS1.out.2.2.resolve_left h0
     obtain ⟨adc, q, s, rfl, hc0, hs, hrs⟩ := HN.out.kid i (by omega) (by omega)
     rw [Int.toNat_natCast] at hc0 hs
     have HS := A_ hs
     have HRs := A_ hrs
     have HC0 := A_ hc0
     have hca : ((i : Int) < (t.kids.length : Int)) = True := eq_true (by omega)
     have hcb : (i < t.kids.length) = True := eq_true (by omega)
     have e1 := restK_node hs hi
     have e2 := restV_node hs (i := i) (by have := HS1.out; omega)
     rw [show t.keys.getD i ByteArray.empty = kx from hkx.symm] at e1
     rw [show t.vals.getD i ByteArray.empty = vx from hvx.symm] at e2
     have HE01 := app_rest HR1.out e1
     have HE02 := app_rest HR2.out e2
     have HE1 := A_ (app_rest (x := [kx]) HE01 rfl)
     have HE2 := A_ (app_rest (x := [vx]) HE02 rfl)
     have HZ1 := A_ (show (x1 ++ allK s).length <= 8796093022208 by rw [List.length_append]; exact app_len HR1.out e1 HL1.out)
     have HZ2 := A_ (show (x2 ++ allV s).length <= 8796093022208 by rw [List.length_append]; exact app_len HR2.out e2 HL2.out)
     have HZ3 := A_ (show (x1 ++ allK s).length + 1 <= 8796093022208 from app_len (x := [kx]) HE01 rfl HL1.out)
     have HZ4 := A_ (show (x2 ++ allV s).length + 1 <= 8796093022208 from app_len (x := [vx]) HE02 rfl HL2.out)
     have HV0 := A_ hv0
     have hzk := (Below.cell HB.out (World.block_lt_of_cell? w0 _ hk0)).trans hk0
     have hva : ((i : Int) < (t.vals.length : Int)) = True := eq_true (by have := HS1.out; omega)
     have hvb : (i < t.vals.length) = True := eq_true (by have := HS1.out; omega)
     clear hk0 hv0 hkx hvx e1 e2 hi h0 HR1 HR2 HE01 HE02 hkl hs hrs hc0
     go_wp2_with (first | (go_at_call 99; (with_reducible refine (impl_isLeaf.callsB false hbl.out _ ?side1).mono ?_); (case side1 => exact HRr.out); rintro e w6 ⟨rfl, hd⟩; have n1_ := A_ (HB.out.trans (below_of_drawn hd)); have hz0' := (HN.out.below n1_.out).z0; have hz2' := (HN.out.below n1_.out).z2; have n2_ := A_ (SR.under HO1.out (below_of_drawn0 hd)); have n3_ := A_ (SR.under HO2.out (below_of_drawn0 hd)); have hzc := (Below.cell n1_.out (World.block_lt_of_cell? w0 _ HC0.out)).trans HC0.out; clear hd; clear HB; clear HO1; clear HO2; have HB := n1_; have HO1 := n2_; have HO2 := n3_; clear n1_ n2_ n3_) | (go_at_call 66; (with_reducible refine (ih s (by have := PT.size_kid HS.out; have := HSZ.out; omega) (HF.out.kid HS.out) w0 _ u1 u2 x1 x2 HRs.out HB.out HO1.out HO2.out HNE.out HZ1.out HZ2.out).mono ?_); rintro e w7 ⟨u3, u4, rfl, ho1, ho2, hne, hb⟩; have n1_ := A_ ho1; have n2_ := A_ ho2; have n3_ := A_ hne; have n4_ := A_ hb; clear HO1 HO2 HNE HB; have HO1 := n1_; have HO2 := n2_; have HNE := n3_; have HB := n4_; clear n1_ n2_ n3_ n4_ ho1 ho2 hne hb))
     have HS2 := A_ (Sat.two HO1.out HO2.out HNE.out)
     refine start_ (n := 16) (S := fun w' => w'.cell? ⟨p, 1, none⟩ = some (.slice (some adv) t.vals.length cv) /\ w'.cell? (adv.add i) = some (.string vx)) (ds := []) (bt 16 0) (by kernel_rfl) rfl rfl ⟨(HN.out.below (below_drew HB.out)).z1, (Below.cell (below_drew HB.out) (World.block_lt_of_cell? w0 _ HV0.out)).trans HV0.out⟩ (fun hHeld => ?_)
     refine pu_ 0 36 1 ?_
     refine pu_ 1 37 3 ?_
     refine pu_ 4 40 19 ?_
     refine pu_ 5 41 51 ?_
     refine pu_ 6 42 115 ?_
     refine pu_ 7 43 243 ?_
     refine pu_ 9 45 755 ?_
     refine ta_ 8 44 1011 hHeld ?_
     refine pu_ 10 46 2035 ?_
     refine ta_ 11 47 4083 hHeld ?_
     refine join_ (σ := Value × Value × Value) 3 (bt 16 8191) (fun z => [(38, z.1), (39, z.2.1), (48, z.2.2)]) (fun z w' => Below w0.heap.size w0 w' /\ Sat w' w0.heap.size [txt z.2.1 ((x1 ++ allK s) ++ [kx]), txt u4 (x2 ++ allV s), txt z.2.2 [vx]]) ?_ ?_
     rotate_left
     ·intro hCont
      refine tw_ 2 12 (some 38) (some 48) 4087 8179 (fun K hK => ?_) (fun K hK => ?_)
      ·skip
       refine Kd.R_lit_step Kd.string (w0 := w0) w0.heap.size 9 (by rfl) (N := 38) rfl (xs := [kx]) (inner := [.string kx]) (ok := fun _ => True) (okp := fun _ => False) ?hr (Kd.reps_scalar (enc := Value.string) [kx]) (fun _ h => h.elim) trivial (below_drew HB.out) ((below_drew HB.out)).size (by simp) ?_
       (case hr => first | (go_simp; done) | (go_simp; rfl))
       intro vb1 w_2 hob hbb hgb hnb
       have HB_2 := A_ hbb
       have HS_2 := A_ (Sat.lit (Sat.drew HS2.out) hob hgb hnb)
       obtain ⟨vb1A, vb1c, rfl⟩ : ∃ A c, vb1 = .slice A 1 c := Kd.R_slice hob
       clear hob hbb hgb hnb
       refine hK.out _ _ ⟨(HN.out.below HB_2.out).z1, (Below.cell HB_2.out (World.block_lt_of_cell? w0 _ HV0.out)).trans HV0.out⟩ (fun hHeld => ?_)
       clear hK K
       refine no_ 38 ?_
       refine tw_ 3 12 (some 39) (some 48) 4095 8183 (fun K hK => ?_) (fun K hK => ?_)
       ·skip
        refine Kd.R_append_rows_step Kd.string (w0 := w0) w0.heap.size (by rfl) (.tmp 36) (.tmp 38) 38 9 (.string ⟨#[]⟩) 16 rfl Try.underlying38 info9 rfl (by decide) (by omega) u3 (x1 ++ allK s) [kx] vb1A 1 vb1c (fun _ => True) (fun _ => False) rfl rfl (Sat.sr HS_2.out 0 rfl) (Kd.R_reads' (Sat.sr HS_2.out 2 rfl)).2.2 (fun _ _ h => h) (fun _ h => h.elim) (fun _ _ => trivial) HB_2.out (HB_2.out).size (by have := HZ3.out; (try simp only [List.length_singleton]); omega) ?_
        intro u1n w_2_3 ho hb hg hat
        have HB_2_3 := A_ hb
        have HS_2_3 := A_ (Sat.app 0 HS_2.out rfl ho hg hat)
        clear ho hb hg hat
        refine hK.out _ _ ⟨(HN.out.below HB_2_3.out).z1, (Below.cell HB_2_3.out (World.block_lt_of_cell? w0 _ HV0.out)).trans HV0.out⟩ (fun hHeld => ?_)
        clear hK K
        refine no_ 39 ?_
        refine on_ 12 (some 48) 8191 (fun K hK => ?_)
        refine Kd.R_lit_step Kd.string (w0 := w0) w0.heap.size 9 (by rfl) (N := 48) rfl (xs := [vx]) (inner := [.string vx]) (ok := fun _ => True) (okp := fun _ => False) ?hr (Kd.reps_scalar (enc := Value.string) [vx]) (fun _ h => h.elim) trivial HB_2_3.out (HB_2_3.out).size (by simp) ?_
        (case hr => first | (go_simp; done) | (go_simp; rfl))
        intro vb2 w_2_3_12 hob hbb hgb hnb
        have HB_2_3_12 := A_ hbb
        have HS_2_3_12 := A_ (Sat.lit HS_2_3.out hob hgb hnb)
        obtain ⟨vb2A, vb2c, rfl⟩ : ∃ A c, vb2 = .slice A 1 c := Kd.R_slice hob
        clear hob hbb hgb hnb
        refine hK.out _ _ ⟨(HN.out.below HB_2_3_12.out).z1, (Below.cell HB_2_3_12.out (World.block_lt_of_cell? w0 _ HV0.out)).trans HV0.out⟩ (fun hHeld => ?_)
        clear hK K
        refine no_ 48 ?_
        exact norm_ (by simp only [putAll, Act.put, List.setIfInBounds_toArray, List.set_cons_zero, List.set_cons_succ]) (hCont ⟨.slice vb1A 1 vb1c, u1n, .slice vb2A 1 vb2c⟩ _ ⟨HB_2_3_12.out, Sat.sub HS_2_3_12.out (by simp)⟩)
       ·skip
        refine Kd.R_lit_step Kd.string (w0 := w0) w0.heap.size 9 (by rfl) (N := 48) rfl (xs := [vx]) (inner := [.string vx]) (ok := fun _ => True) (okp := fun _ => False) ?hr (Kd.reps_scalar (enc := Value.string) [vx]) (fun _ h => h.elim) trivial HB_2.out (HB_2.out).size (by simp) ?_
        (case hr => first | (go_simp; done) | (go_simp; rfl))
        intro vb2 w_2_12 hob hbb hgb hnb
        have HB_2_12 := A_ hbb
        have HS_2_12 := A_ (Sat.lit HS_2.out hob hgb hnb)
        obtain ⟨vb2A, vb2c, rfl⟩ : ∃ A c, vb2 = .slice A 1 c := Kd.R_slice hob
        clear hob hbb hgb hnb
        refine hK.out _ _ ⟨(HN.out.below HB_2_12.out).z1, (Below.cell HB_2_12.out (World.block_lt_of_cell? w0 _ HV0.out)).trans HV0.out⟩ (fun hHeld => ?_)
        clear hK K
        refine no_ 48 ?_
        refine on_ 3 (some 39) 8191 (fun K hK => ?_)
        refine Kd.R_append_rows_step Kd.string (w0 := w0) w0.heap.size (by rfl) (.tmp 36) (.tmp 38) 38 9 (.string ⟨#[]⟩) 16 rfl Try.underlying38 info9 rfl (by decide) (by omega) u3 (x1 ++ allK s) [kx] vb1A 1 vb1c (fun _ => True) (fun _ => False) rfl rfl (Sat.sr HS_2_12.out 0 rfl) (Kd.R_reads' (Sat.sr HS_2_12.out 2 rfl)).2.2 (fun _ _ h => h) (fun _ h => h.elim) (fun _ _ => trivial) HB_2_12.out (HB_2_12.out).size (by have := HZ3.out; (try simp only [List.length_singleton]); omega) ?_
        intro u1n w_2_12_3 ho hb hg hat
        have HB_2_12_3 := A_ hb
        have HS_2_12_3 := A_ (Sat.app 0 HS_2_12.out rfl ho hg hat)
        clear ho hb hg hat
        refine hK.out _ _ ⟨(HN.out.below HB_2_12_3.out).z1, (Below.cell HB_2_12_3.out (World.block_lt_of_cell? w0 _ HV0.out)).trans HV0.out⟩ (fun hHeld => ?_)
        clear hK K
        refine no_ 39 ?_
        exact norm_ (by simp only [putAll, Act.put, List.setIfInBounds_toArray, List.set_cons_zero, List.set_cons_succ]) (hCont ⟨.slice vb1A 1 vb1c, u1n, .slice vb2A 1 vb2c⟩ _ ⟨HB_2_12_3.out, Sat.sub HS_2_12_3.out (by simp)⟩)
      ·skip
       refine Kd.R_lit_step Kd.string (w0 := w0) w0.heap.size 9 (by rfl) (N := 48) rfl (xs := [vx]) (inner := [.string vx]) (ok := fun _ => True) (okp := fun _ => False) ?hr (Kd.reps_scalar (enc := Value.string) [vx]) (fun _ h => h.elim) trivial (below_drew HB.out) ((below_drew HB.out)).size (by simp) ?_
       (case hr => first | (go_simp; done) | (go_simp; rfl))
       intro vb2 w_12 hob hbb hgb hnb
       have HB_12 := A_ hbb
       have HS_12 := A_ (Sat.lit (Sat.drew HS2.out) hob hgb hnb)
       obtain ⟨vb2A, vb2c, rfl⟩ : ∃ A c, vb2 = .slice A 1 c := Kd.R_slice hob
       clear hob hbb hgb hnb
       refine hK.out _ _ ⟨(HN.out.below HB_12.out).z1, (Below.cell HB_12.out (World.block_lt_of_cell? w0 _ HV0.out)).trans HV0.out⟩ (fun hHeld => ?_)
       clear hK K
       refine no_ 48 ?_
       refine on_ 2 (some 38) 8183 (fun K hK => ?_)
       refine Kd.R_lit_step Kd.string (w0 := w0) w0.heap.size 9 (by rfl) (N := 38) rfl (xs := [kx]) (inner := [.string kx]) (ok := fun _ => True) (okp := fun _ => False) ?hr (Kd.reps_scalar (enc := Value.string) [kx]) (fun _ h => h.elim) trivial HB_12.out (HB_12.out).size (by simp) ?_
       (case hr => first | (go_simp; done) | (go_simp; rfl))
       intro vb1 w_12_2 hob hbb hgb hnb
       have HB_12_2 := A_ hbb
       have HS_12_2 := A_ (Sat.lit HS_12.out hob hgb hnb)
       obtain ⟨vb1A, vb1c, rfl⟩ : ∃ A c, vb1 = .slice A 1 c := Kd.R_slice hob
       clear hob hbb hgb hnb
       refine hK.out _ _ ⟨(HN.out.below HB_12_2.out).z1, (Below.cell HB_12_2.out (World.block_lt_of_cell? w0 _ HV0.out)).trans HV0.out⟩ (fun hHeld => ?_)
       clear hK K
       refine no_ 38 ?_
       refine on_ 3 (some 39) 8191 (fun K hK => ?_)
       refine Kd.R_append_rows_step Kd.string (w0 := w0) w0.heap.size (by rfl) (.tmp 36) (.tmp 38) 38 9 (.string ⟨#[]⟩) 16 rfl Try.underlying38 info9 rfl (by decide) (by omega) u3 (x1 ++ allK s) [kx] vb1A 1 vb1c (fun _ => True) (fun _ => False) rfl rfl (Sat.sr HS_12_2.out 0 rfl) (Kd.R_reads' (Sat.sr HS_12_2.out 3 rfl)).2.2 (fun _ _ h => h) (fun _ h => h.elim) (fun _ _ => trivial) HB_12_2.out (HB_12_2.out).size (by have := HZ3.out; (try simp only [List.length_singleton]); omega) ?_
       intro u1n w_12_2_3 ho hb hg hat
       have HB_12_2_3 := A_ hb
       have HS_12_2_3 := A_ (Sat.app 0 HS_12_2.out rfl ho hg hat)
       clear ho hb hg hat
       refine hK.out _ _ ⟨(HN.out.below HB_12_2_3.out).z1, (Below.cell HB_12_2_3.out (World.block_lt_of_cell? w0 _ HV0.out)).trans HV0.out⟩ (fun hHeld => ?_)
       clear hK K
       refine no_ 39 ?_
       exact norm_ (by simp only [putAll, Act.put, List.setIfInBounds_toArray, List.set_cons_zero, List.set_cons_succ]) (hCont ⟨.slice vb1A 1 vb1c, u1n, .slice vb2A 1 vb2c⟩ _ ⟨HB_12_2_3.out, Sat.sub HS_12_2_3.out (by simp)⟩)
     rintro ⟨vb1, u1n, vb2⟩ w8 ⟨hb, hs⟩
     obtain ⟨vb2A, vb2c, rfl⟩ : ∃ A c, vb2 = .slice A 1 c := Kd.R_slice (Sat.sr hs 2 rfl)
     have hHeld : (w8.cell? ⟨p, 1, none⟩ = some (.slice (some adv) t.vals.length cv)) /\ (w8.cell? (adv.add i) = some (.string vx)) := ⟨(HN.out.below hb).z1, (Below.cell hb (World.block_lt_of_cell? w0 _ HV0.out)).trans HV0.out⟩
     have HB8 := A_ hb
     have HS8 := A_ hs
     clear hb hs
     refine norm_ (a' := ?_) ?_ ?_
     rotate_left
     ·simp only [putAll, Act.put, List.setIfInBounds_toArray, List.set_cons_zero, List.set_cons_succ]
      rfl
     refine on_ 13 (some 49) 16383 (fun K hK => ?_)
     refine Kd.R_append_rows_step Kd.string (w0 := w0) w0.heap.size (by rfl) (.tmp 40) (.tmp 48) 38 9 (.string ⟨#[]⟩) 16 rfl Try.underlying38 info9 rfl (by decide) (by omega) u4 (x2 ++ allV s) [vx] vb2A 1 vb2c (fun _ => True) (fun _ => False) rfl rfl (Sat.sr HS8.out 1 rfl) (Kd.R_reads' (Sat.sr HS8.out 2 rfl)).2.2 (fun _ _ h => h) (fun _ h => h.elim) (fun _ _ => trivial) HB8.out HB8.out.size (by have := HZ4.out; (try simp only [List.length_singleton]); omega) ?_
     intro u2n w9 ho hb hg hat
     have n1_ := A_ hb
     have n2_ := A_ (Sat.app 1 HS8.out rfl ho hg hat)
     clear ho hb hg hat HB8 HS8
     have HB8 := n1_
     have HS8 := n2_
     clear n1_ n2_
     refine hK.out _ _ ⟨(HN.out.below HB8.out).z1, (Below.cell HB8.out (World.block_lt_of_cell? w0 _ HV0.out)).trans HV0.out⟩ (fun hHeld => ?_)
     clear hK K
     refine no_ 49 ?_
     refine pu_ 14 1 32767 ?_
     refine pu_ 15 2 65535 ?_
     refine done_ (by kernel_rfl) ?_
     go_wp2
     go_roundg (t.keys.length - (i + 1))
     case measure => have := HK.out; have := HI.out; omega
     case rel => exact ⟨i + 1, _, _, by first | rfl | go_num | (simp; done), ⟨by have := HK.out; have := HI.out; omega⟩, HE1, HE2, ⟨Sat.sr HS8.out 0 rfl⟩, ⟨Sat.sr HS8.out 1 rfl⟩, ⟨Sat.ap2 HS8.out (i := 0) (j := 1) (by omega) rfl rfl⟩, HB8⟩
   ·have ce : decide ((i : Int) < (t.keys.length : Int)) = false := decide_eq_false (by omega)
    have ceb : (i < t.keys.length) = False := eq_false hi
    obtain rfl : i = t.keys.length := by have := HK.out; omega
    by_cases h0 : t.kids.length = 0
    ·have hbl := A_ (show decide ((t.kids.length : Int) = 0) = true from decide_eq_true (by omega))
     have HE1 := show x1 = L1 by have := HS1.out; rw [<- HR1.out, restK_end (by omega) (by omega), List.append_nil]
     have HE2 := show x2 = L2 by have := HS1.out; rw [<- HR2.out, restV_end (by omega) (by omega), List.append_nil]
     subst HE1
     subst HE2
     clear hi
     go_wp2_with ((go_at_call 99; (with_reducible refine (impl_isLeaf.callsB true hbl.out _ ?side1).mono ?_); (case side1 => exact HRr.out); rintro e w6 ⟨rfl, hd⟩; have n1_ := A_ (HB.out.trans (below_of_drawn hd)); have hz0' := (HN.out.below n1_.out).z0; have hz2' := (HN.out.below n1_.out).z2; have n2_ := A_ (SR.under HO1.out (below_of_drawn0 hd)); have n3_ := A_ (SR.under HO2.out (below_of_drawn0 hd)); clear hd; clear HB; clear HO1; clear HO2; have HB := n1_; have HO1 := n2_; have HO2 := n3_; clear n1_ n2_ n3_))
     go_ret2
     exact ⟨_, _, rfl, HO1.out, HO2.out, HNE.out, HB.out⟩
    ·have hbl := A_ (show decide ((t.kids.length : Int) = 0) = false from decide_eq_false (by omega))
     have hkl : t.kids.length = t.keys.length + 1 := HS1.out.2.2.resolve_left h0
     obtain ⟨adc, q, s, rfl, hc0, hs, hrs⟩ := HN.out.kid (t.keys.length : Int) (by omega) (by omega)
     rw [Int.toNat_natCast] at hc0 hs
     have HS := A_ hs
     have HRs := A_ hrs
     have HC0 := A_ hc0
     have hca : decide ((t.keys.length : Int) < (t.kids.length : Int)) = true := decide_eq_true (by omega)
     have hcb : (t.keys.length < t.kids.length) = True := eq_true (by omega)
     have e1 := restK_last hs (Nat.le_refl _) hkl
     have e2 := restV_last hs (by have := HS1.out; omega) hkl
     have HE1 := show x1 ++ allK s = L1 by rw [<- HR1.out, e1, restK_end (by omega) (by omega), List.append_nil]
     have HE2 := show x2 ++ allV s = L2 by have := HS1.out; rw [<- HR2.out, e2, restV_end (by omega) (by omega), List.append_nil]
     have HZ1 := A_ (show (x1 ++ allK s).length <= 8796093022208 by rw [HE1]; exact HL1.out)
     have HZ2 := A_ (show (x2 ++ allV s).length <= 8796093022208 by rw [HE2]; exact HL2.out)
     subst HE1
     subst HE2
     clear hi e1 e2 hkl hs hrs hc0 h0 HR1 HR2
     go_wp2_with ((go_at_call 99; (with_reducible refine (impl_isLeaf.callsB false hbl.out _ ?side1).mono ?_); (case side1 => exact HRr.out); rintro e w6 ⟨rfl, hd⟩; have n1_ := A_ (HB.out.trans (below_of_drawn hd)); have hz0 := (HN.out.below n1_.out).z0; have hz2 := (HN.out.below n1_.out).z2; have n2_ := A_ (SR.under HO1.out (below_of_drawn0 hd)); have n3_ := A_ (SR.under HO2.out (below_of_drawn0 hd)); have hzc := (Below.cell n1_.out (World.block_lt_of_cell? w0 _ HC0.out)).trans HC0.out; clear hd; clear HB; clear HO1; clear HO2; have HB := n1_; have HO1 := n2_; have HO2 := n3_; clear n1_ n2_ n3_))
     have HB9 := HB
     refine start_ (n := 19) (S := fun w' => w'.cell? ⟨p, 2, none⟩ = some (.slice (some adc) t.kids.length cc) /\ w'.cell? ⟨p, 0, none⟩ = some (.slice Ak t.keys.length ck) /\ w'.cell? (adc.add t.keys.length) = some (ptrv q)) (ds := [13]) (bt 19 0) (by kernel_rfl) rfl rfl ⟨hz2, hz0, hzc⟩ (fun hHeld => ?_)
     refine pu_ 0 55 1 ?_
     refine pu_ 1 56 3 ?_
     refine pu_ 2 57 7 ?_
     refine pu_ 4 59 23 ?_
     refine pu_ 5 60 55 ?_
     refine pu_ 6 61 119 ?_
     refine pu_ 11 66 2167 ?_
     refine pu_ 12 67 6263 ?_
     refine ta_ 3 58 6271 hHeld ?_
     refine ta_ 7 62 6399 hHeld ?_
     refine pu_ 8 63 6655 ?_
     refine pu_ 9 64 7167 ?_
     refine ta_ 10 65 8191 hHeld ?_
     refine la_ 13 (some 68) 16383 (fun K hK => ?_)
     refine go_ Try.func66 #[ptrv q, u1, u2] ?_
     with_reducible refine (ih s (by have := PT.size_kid HS.out; have := HSZ.out; omega) (HF.out.kid HS.out) w0 _ u1 u2 x1 x2 HRs.out (below_drew HB9.out) (SR.under HO1.out (below_drew (Below.refl _ _))) (SR.under HO2.out (below_drew (Below.refl _ _))) HNE.out HZ1.out HZ2.out).mono ?_
     rintro e w5 ⟨u3, u4, rfl, ho1, ho2, hne, hb⟩
     refine ⟨_, rfl, ?_⟩
     have n1_ := A_ ho1
     have n2_ := A_ ho2
     have n3_ := A_ hne
     have n4_ := A_ hb
     clear ho1 ho2 hne hb
     refine hK.out _ _ ?_
     clear hK K
     refine no_ 68 ?_
     refine pu_ 14 54 32767 ?_
     refine pu_ 15 69 65535 ?_
     refine pu_ 16 70 131071 ?_
     refine pu_ 17 1 262143 ?_
     refine pu_ 18 2 524287 ?_
     refine done_ (by kernel_rfl) ?_
     go_wp2
     go_ret2
     exact ⟨_, _, rfl, n1_.out, n2_.out, n3_.out, n4_.out⟩
theorem q9035_0 {p0 q : Prop} (h0 : p0) (h : p0 -> q := by intro q0_; repeat (first | exact q0_ | (with_reducible refine Rd.drewN ?_ _) | (with_reducible refine Rd.drew ?_))) : q := h h0
set_option maxHeartbeats 8000000
set_option maxRecDepth 100000
theorem spec_even.calls : ∀ (n : Nat) (t : PT), SizeOf.sizeOf t <= n -> Few t -> ∀ {p : Nat} (w : World), Rd 96 w p t ->
  Calls Try.prog 61 #[ptrv p] w fun e w' => e = .returned (.int .i64 (evenS t)) /\ Drawn0 w w' := by
 intro n
 induction n with
 | zero =>
  intro t hs
  cases t with | mk keys vals kids => simp at hs
 | succ n ih =>
  intro t hs hf p w h
  by_cases h0 : t.kids.length = 0
  ·have HO := A_ h
   have HE := A_ (evenS_leaf h0)
   have hb0 := A_ (show decide ((t.kids.length : Int) = 0) = true from decide_eq_true (by omega))
   clear h h0
   go_enter Try.func61, Try.ntmps61
   go_wp2_with (go_at_call 84; (with_reducible refine (spec_leaf.callsB true hb0.out _ ?side1).mono ?_); (case side1 => exact q9035_0 HO.out); rintro e w' ⟨rfl, ⟨nd, rfl⟩⟩)
   go_ret
   exact ⟨by rw [HE.out]; first | done | rfl, by repeat (first | exact Drawn0.refl _ | apply Drawn0.step)⟩
  ·have HO := A_ h
   have hb0 := A_ (show decide ((t.kids.length : Int) = 0) = false from decide_eq_false (by omega))
   obtain ⟨Ak, ck, Av, cv, Ac, cc, ps, HN⟩ := h.open
   have hz2 := HN.z2
   obtain ⟨ad, q0, c, rfl, hz0, hs0, ho0⟩ := HN.kid 0 (by omega) (by omega)
   have H0 := A_ ho0
   have hS := A_ (PT.size_kid hs0)
   have HC := A_ hs0
   have HN' := A_ HN
   have HF := A_ hf
   have HSZ := A_ hs
   have HL := A_ (show 0 < t.kids.length by omega)
   have HE := A_ (evenS_node hs0)
   have hz0' : w.cell? ad = some (ptrv q0) := at0 hz0
   have p0b : (0 < t.kids.length) = True := eq_true HL.out
   clear h h0 hz0 hs0 ho0 HN hf hs
   go_enter Try.func61, Try.ntmps61
   go_upto_region 5 with (first | (go_at_call 84; (with_reducible refine (spec_leaf.callsB false hb0.out _ ?side1).mono ?_); (case side1 => exact q9035_0 HO.out); rintro e w' ⟨rfl, ⟨nd, rfl⟩⟩) | (go_at_call 61; (with_reducible refine (ih c (by have := hS.out; have := HSZ.out; omega) (HF.out.kid HC.out) _ ?side1).mono ?_); (case side1 => exact q9035_0 H0.out); rintro e w' ⟨rfl, ⟨nd, rfl⟩⟩))
   generalize evenS c = d at HE
   go_loopg [20] t.kids.length (fun kq v20 w' => ∃ (i m : Nat), v20 = .int .i64 (i : Int) /\ Aside0 (kq + i = t.kids.length) /\ Aside0 (evenS t = if evenL d (t.kids.drop i) then wrap64 (d + 1) else -1) /\ w' = w.drewN m)
   case atStart => exact ⟨0, _, by first | rfl | (simp; done), ⟨Nat.add_zero _⟩, HE, rfl⟩
   case round =>
    clear HE H0 HC hz0' hS
    obtain ⟨i, m, rfl, HK, HE, rfl⟩ := hrel
    by_cases hi : i < t.kids.length
    ·obtain ⟨ad1, q, s, ha, hz, hs, ho⟩ := HN'.out.kid i (by omega) (by omega)
     obtain rfl : ad = ad1 := Option.some.inj ha
     rw [Int.toNat_natCast] at hz hs
     obtain ⟨Ak1, ck1, Av1, cv1, Ac1, cc1, ps1, HN1⟩ := ho.open
     have hzk := HN1.z0
     have HS := A_ hs
     have H1 := A_ ho
     have HI := A_ hi
     have ce : decide ((i : Int) < (t.kids.length : Int)) = true := decide_eq_true (by omega)
     have cea : ((i : Int) < (t.kids.length : Int)) = True := eq_true (by omega)
     have ceb : (i < t.kids.length) = True := eq_true hi
     have cec : (0 <= (i : Int)) = True := eq_true (by omega)
     clear HN1 ho hs hi ha
     by_cases hd : d < 0
     ·have hdb : decide (d < 0) = true := decide_eq_true hd
      have HE1 := A_ (evenL_off HS.out HE.out (.inl hd))
      clear hd
      go_wp2
      go_ret
      exact ⟨by rw [HE1.out]; first | done | rfl, by repeat (first | exact Drawn0.refl _ | apply Drawn0.step | exact ⟨_, rfl⟩)⟩
     ·have hdb : decide (d < 0) = false := decide_eq_false hd
      have HD := A_ hd
      clear hd
      by_cases he : evenS s = d
      ·subst he
       by_cases hk : s.keys.length < 2
       ·have HE1 := A_ (evenL_off HS.out HE.out (.inr (.inr hk)))
        have hkb : decide ((s.keys.length : Int) < 2) = true := decide_eq_true (by omega)
        clear hk
        go_wp2_with (go_at_call 61; (with_reducible refine (ih s (by have := PT.size_kid HS.out; have := HSZ.out; omega) (HF.out.kid HS.out) _ ?side1).mono ?_); (case side1 => exact q9035_0 H1.out); rintro e w' ⟨rfl, ⟨nd, rfl⟩⟩)
        go_ret
        exact ⟨by rw [HE1.out]; first | done | rfl, by repeat (first | exact Drawn0.refl _ | apply Drawn0.step | exact ⟨_, rfl⟩)⟩
       ·have HE1 := A_ (evenL_on HS.out HE.out HD.out rfl hk)
        have hkb : decide ((s.keys.length : Int) < 2) = false := decide_eq_false (by omega)
        clear hk
        have hm : t.kids.length <= 1048576 := HF.out.len
        have hj : i < t.kids.length := HI.out
        go_wp2_with (go_at_call 61; (with_reducible refine (ih s (by have := PT.size_kid HS.out; have := HSZ.out; omega) (HF.out.kid HS.out) _ ?side1).mono ?_); (case side1 => exact q9035_0 H1.out); rintro e w' ⟨rfl, ⟨nd, rfl⟩⟩)
        go_roundg (t.kids.length - (i + 1))
        case measure => have := HK.out; omega
        case rel => exact ⟨i + 1, _, by first | rfl | go_num | (simp; done), ⟨by omega⟩, HE1, rfl⟩
      ·have HE1 := A_ (evenL_off HS.out HE.out (.inr (.inl he)))
       have heb : (evenS s != d) = true := by simpa using he
       clear he
       go_wp2_with (go_at_call 61; (with_reducible refine (ih s (by have := PT.size_kid HS.out; have := HSZ.out; omega) (HF.out.kid HS.out) _ ?side1).mono ?_); (case side1 => exact q9035_0 H1.out); rintro e w' ⟨rfl, ⟨nd, rfl⟩⟩)
       go_ret
       exact ⟨by rw [HE1.out]; first | done | rfl, by repeat (first | exact Drawn0.refl _ | apply Drawn0.step | exact ⟨_, rfl⟩)⟩
    ·have ce : decide ((i : Int) < (t.kids.length : Int)) = false := decide_eq_false (by omega)
     have ceb : (i < t.kids.length) = False := eq_false (by omega)
     have HE1 := A_ (evenL_end (by omega) HE.out)
     clear hi
     go_wp2
     go_ret
     exact ⟨by rw [HE1.out]; first | rfl | simp [i64_w] | simp [IntKind.wrap_i64, wrap64], by repeat (first | exact Drawn0.refl _ | apply Drawn0.step | exact ⟨_, rfl⟩)⟩
end Go.Proofs.Ytoddejmlcnbdmaa.Tree
namespace Go.Proofs.Ytoddejmlcnbdmaa.Fn
def cmp_isNaN_string.f (a0 : ByteArray) : Option (Bool) := some (a0.toList != a0.toList)
theorem cmp_isNaN_string.calls (a0 : ByteArray) (r : Bool) (w : World) (h : cmp_isNaN_string.f a0 = some r) :
  Calls Try.prog 135 #[.string a0] w fun e w' => e = .returned (.bool r) /\ Drawn0 w w' := by
 have H : (some (a0.toList != a0.toList)) = some r := h
 clear h
 obtain rfl := Option.some.inj H
 go_enter Try.func135, Try.ntmps135
 go_wp2
 go_ret
 exact ⟨by first | rfl | (simp; done) | (simp [*]; done), by repeat (first | exact Drawn0.refl _ | apply Drawn0.step)⟩
def cmp_Less_string.f (a0 : ByteArray) (a1 : ByteArray) : Option (Bool) := (cmp_isNaN_string.f a0).bind fun t237 => (if t237 = true then ((cmp_isNaN_string.f a1).bind fun t238 => (if t238 = true then (some (Op.bytesLess a0.toList a1.toList)) else (some true))) else (some (Op.bytesLess a0.toList a1.toList)))
theorem cmp_Less_string.calls (a0 : ByteArray) (a1 : ByteArray) (r : Bool) (w : World) (h : cmp_Less_string.f a0 a1 = some r) :
  Calls Try.prog 122 #[.string a0, .string a1] w fun e w' => e = .returned (.bool r) /\ Drawn0 w w' := by
 have H : ((cmp_isNaN_string.f a0).bind fun t237 => (if t237 = true then ((cmp_isNaN_string.f a1).bind fun t238 => (if t238 = true then (some (Op.bytesLess a0.toList a1.toList)) else (some true))) else (some (Op.bytesLess a0.toList a1.toList)))) = some r := h
 clear h
 replace H := Option.bind_eq_some_iff.mp H
 obtain ⟨t237, A30, H⟩ := H
 replace H : (if t237 = true then ((cmp_isNaN_string.f a1).bind fun t238 => (if t238 = true then (some (Op.bytesLess a0.toList a1.toList)) else (some true))) else (some (Op.bytesLess a0.toList a1.toList))) = some r := H
 have A3 := A_ A30
 clear A30
 by_cases c4 : t237 = true
 ·subst c4
  have H1 : ((cmp_isNaN_string.f a1).bind fun t238 => (if t238 = true then (some (Op.bytesLess a0.toList a1.toList)) else (some true))) = some r := by rw [if_pos rfl] at H; exact H
  clear H
  have H := H1
  clear H1
  replace H := Option.bind_eq_some_iff.mp H
  obtain ⟨t238, A50, H⟩ := H
  replace H : (if t238 = true then (some (Op.bytesLess a0.toList a1.toList)) else (some true)) = some r := H
  have A5 := A_ A50
  clear A50
  by_cases c6 : t238 = true
  ·subst c6
   have H1 : (some (Op.bytesLess a0.toList a1.toList)) = some r := by rw [if_pos rfl] at H; exact H
   clear H
   have H := H1
   clear H1
   obtain rfl := Option.some.inj H
   go_enter Try.func122, Try.ntmps122
   go_wp2_with (first | ((with_reducible refine gate_callee (f := 135) rfl ?_); refine goesL_ (some 6) rfl rfl Try.func135 (by kernel_rfl) rfl #[.string a0] rfl (ag_) ?_; (with_reducible refine (cmp_isNaN_string.calls a0 true _ A3.out).mono ?_); rintro e w' ⟨rfl, ⟨nd, rfl⟩⟩; refine ⟨_, rfl, ?_⟩) | (go_at_call 135; (with_reducible refine (cmp_isNaN_string.calls a1 true _ A5.out).mono ?_); rintro e w' ⟨rfl, ⟨nd, rfl⟩⟩))
   go_ret
   exact ⟨by first | rfl | (simp only [Go.Proofs.Ytoddejmlcnbdmaa.Gen.nil_str, Go.Proofs.Ytoddejmlcnbdmaa.Gen.gt_str]; first | done | rfl | (simp; done)) | (simp; done) | (simp [*]; done), by repeat (first | exact Drawn0.refl _ | apply Drawn0.step)⟩
  ·replace c6 := Bool.eq_false_iff.mpr c6
   subst c6
   have H1 : (some true) = some r := by rw [if_neg (show ¬ (false = true) by decide)] at H; exact H
   clear H
   have H := H1
   clear H1
   obtain rfl := Option.some.inj H
   go_enter Try.func122, Try.ntmps122
   go_wp2_with (first | ((with_reducible refine gate_callee (f := 135) rfl ?_); refine goesL_ (some 6) rfl rfl Try.func135 (by kernel_rfl) rfl #[.string a0] rfl (ag_) ?_; (with_reducible refine (cmp_isNaN_string.calls a0 true _ A3.out).mono ?_); rintro e w' ⟨rfl, ⟨nd, rfl⟩⟩; refine ⟨_, rfl, ?_⟩) | (go_at_call 135; (with_reducible refine (cmp_isNaN_string.calls a1 false _ A5.out).mono ?_); rintro e w' ⟨rfl, ⟨nd, rfl⟩⟩))
   go_ret
   exact ⟨by first | rfl | (simp only [Go.Proofs.Ytoddejmlcnbdmaa.Gen.nil_str, Go.Proofs.Ytoddejmlcnbdmaa.Gen.gt_str]; first | done | rfl | (simp; done)) | (simp; done) | (simp [*]; done), by repeat (first | exact Drawn0.refl _ | apply Drawn0.step)⟩
 ·replace c4 := Bool.eq_false_iff.mpr c4
  subst c4
  have H1 : (some (Op.bytesLess a0.toList a1.toList)) = some r := by rw [if_neg (show ¬ (false = true) by decide)] at H; exact H
  clear H
  have H := H1
  clear H1
  obtain rfl := Option.some.inj H
  go_enter Try.func122, Try.ntmps122
  go_wp2_with (first | ((with_reducible refine gate_callee (f := 135) rfl ?_); refine goesL_ (some 6) rfl rfl Try.func135 (by kernel_rfl) rfl #[.string a0] rfl (ag_) ?_; (with_reducible refine (cmp_isNaN_string.calls a0 false _ A3.out).mono ?_); rintro e w' ⟨rfl, ⟨nd, rfl⟩⟩; refine ⟨_, rfl, ?_⟩))
  go_ret
  exact ⟨by first | rfl | (simp only [Go.Proofs.Ytoddejmlcnbdmaa.Gen.nil_str, Go.Proofs.Ytoddejmlcnbdmaa.Gen.gt_str]; first | done | rfl | (simp; done)) | (simp; done) | (simp [*]; done), by repeat (first | exact Drawn0.refl _ | apply Drawn0.step)⟩
def slices_isNaN_string.f (a0 : ByteArray) : Option (Bool) := some (a0.toList != a0.toList)
theorem slices_isNaN_string.calls (a0 : ByteArray) (r : Bool) (w : World) (h : slices_isNaN_string.f a0 = some r) :
  Calls Try.prog 123 #[.string a0] w fun e w' => e = .returned (.bool r) /\ Drawn0 w w' := by
 have H : (some (a0.toList != a0.toList)) = some r := h
 clear h
 obtain rfl := Option.some.inj H
 go_enter Try.func123, Try.ntmps123
 go_wp2
 go_ret
 exact ⟨by first | rfl | (simp; done) | (simp [*]; done), by repeat (first | exact Drawn0.refl _ | apply Drawn0.step)⟩
def slices_BinarySearch_string_string.l0 : Nat -> List ByteArray -> ByteArray -> Int -> Int -> Int -> Option (Int × Bool)
 | 0, _, _, _, _, _ => none
 | k + 1, x0, x1, x6, x7, x8 => if x7 < x8 then (if 0 <= (wrap64 ((IntKind.u64.wrap (wrap64 (x7 + x8))) / 2)) then (if (wrap64 ((IntKind.u64.wrap (wrap64 (x7 + x8))) / 2)) < (x0.length : Int) then ((cmp_Less_string.f (rdOf ByteArray.empty x0 (wrap64 ((IntKind.u64.wrap (wrap64 (x7 + x8))) / 2))) x1).bind fun t240 => (if t240 = true then (slices_BinarySearch_string_string.l0 k x0 x1 x6 (wrap64 ((wrap64 ((IntKind.u64.wrap (wrap64 (x7 + x8))) / 2)) + 1)) x8) else (slices_BinarySearch_string_string.l0 k x0 x1 x6 x7 (wrap64 ((IntKind.u64.wrap (wrap64 (x7 + x8))) / 2))))) else (none)) else (none)) else (if x7 < x6 then (if 0 <= x7 then (if x7 < (x0.length : Int) then (if (rdOf ByteArray.empty x0 x7).toList = x1.toList then (some (x7, true)) else ((slices_isNaN_string.f (rdOf ByteArray.empty x0 x7)).bind fun t243 => (if t243 = true then ((slices_isNaN_string.f x1).bind fun t244 => (some (x7, t244))) else (some (x7, false))))) else (none)) else (none)) else (some (x7, false)))
def slices_BinarySearch_string_string.f (k : Nat) (l0 : List ByteArray) (a1 : ByteArray) : Option (Int × Bool) := slices_BinarySearch_string_string.l0 k l0 a1 (l0.length : Int) 0 (l0.length : Int)
theorem slices_BinarySearch_string_string.calls (k : Nat) (A0 : Option Addr) (c0 : Nat) (l0 : List ByteArray) (a1 : ByteArray) (r1 : Int) (r2 : Bool) (w : World) (hr0 : Kd.C Kd.string w A0 l0.length l0) (hc0 : l0.length <= c0) (h : slices_BinarySearch_string_string.f k l0 a1 = some (r1, r2)) :
  Calls Try.prog 103 #[.slice A0 l0.length c0, .string a1] w fun e w' => e = .returned (.tuple #[.int .i64 r1, .bool r2]) /\ Drawn0 w w' := by
 have HR0 := A_ hr0
 have HC0 := A_ hc0
 clear hr0 hc0
 have H : (slices_BinarySearch_string_string.l0 k l0 a1 (l0.length : Int) 0 (l0.length : Int)) = some (r1, r2) := h
 clear h
 have H' := A_ H
 clear H
 go_enter Try.func103, Try.ntmps103
 go_wp2
 go_loopg [7, 8] k (fun kq v7 v8 w' => ∃ (x7_1 : Int) (x8_1 : Int), v7 = .int .i64 x7_1 /\ v8 = .int .i64 x8_1 /\ Aside0 (slices_BinarySearch_string_string.l0 kq l0 a1 (l0.length : Int) x7_1 x8_1 = some (r1, r2)) /\ Aside0 (kq <= k) /\ Drawn0 w w')
 case atStart => exact ⟨(0), ((l0.length : Int)), (by first | rfl | (simp; done) | (simp [*]; done)), (by first | rfl | (simp; done) | (simp [*]; done)), H', ⟨Nat.le_refl _⟩, by repeat (first | exact Drawn0.refl _ | apply Drawn0.step)⟩
 case round =>
  clear H'
  (try clear c1); (try clear p2)
  obtain ⟨x7_1, x8_1, rfl, rfl, HA, HK1, ⟨m1, rfl⟩⟩ := hrel
  cases gk with
  | zero => exact absurd HA.out (by simp [slices_BinarySearch_string_string.l0])
  | succ k1 =>
   have H := HA.out
   clear HA
   simp only [slices_BinarySearch_string_string.l0] at H
   by_cases c3 : x7_1 < x8_1
   ·rw [if_pos c3] at H
    have c3b0 : decide (x7_1 < x8_1) = true := decide_eq_true c3
    clear c3
    obtain ⟨ji4, hji4⟩ : ∃ j_ : Int, (wrap64 ((IntKind.u64.wrap (wrap64 (x7_1 + x8_1))) / 2)) = j_ := ⟨_, rfl⟩
    replace H : (if 0 <= (ji4) then (if (ji4) < (l0.length : Int) then ((cmp_Less_string.f (rdOf ByteArray.empty l0 (ji4)) a1).bind fun t240 => (if t240 = true then (slices_BinarySearch_string_string.l0 k1 l0 a1 (l0.length : Int) (wrap64 ((ji4) + 1)) x8_1) else (slices_BinarySearch_string_string.l0 k1 l0 a1 (l0.length : Int) x7_1 ji4))) else (none)) else (none)) = some (r1, r2) := by first | (rw [hji4] at H; exact H) | (simp only [hji4] at H ⊢; exact H)
    have hji4w : (IntKind.i64.wrap ((IntKind.u64.wrap (wrap64 (x7_1 + x8_1))) / 2)) = ji4 := (i64_w _).trans hji4
    by_cases c5 : 0 <= (ji4)
    ·rw [if_pos c5] at H
     have c5b0 : decide (0 <= (ji4)) = true := decide_eq_true c5
     clear c5
     by_cases c6 : (ji4) < (l0.length : Int)
     ·rw [if_pos c6] at H
      have c6b0 : decide ((ji4) < (l0.length : Int)) = true := decide_eq_true c6
      clear c6
      replace H := Option.bind_eq_some_iff.mp H
      obtain ⟨t240, A70, H⟩ := H
      replace H : (if t240 = true then (slices_BinarySearch_string_string.l0 k1 l0 a1 (l0.length : Int) (wrap64 ((ji4) + 1)) x8_1) else (slices_BinarySearch_string_string.l0 k1 l0 a1 (l0.length : Int) x7_1 ji4)) = some (r1, r2) := H
      have A7 := A_ A70
      clear A70
      by_cases c8 : t240 = true
      ·subst c8
       have H1 : (slices_BinarySearch_string_string.l0 k1 l0 a1 (l0.length : Int) (wrap64 ((ji4) + 1)) x8_1) = some (r1, r2) := by rw [if_pos rfl] at H; exact H
       clear H
       have H := H1
       clear H1
       have H' := A_ H
       clear H
       have p239 : 0 <= ((ji4) : Int) := of_decide_eq_true as_
       have q239 : (ji4) < (l0.length : Int) := of_decide_eq_true as_
       obtain ⟨ad239, e239, hx239_0⟩ := Kd.at_string HR0.out (ji4) p239 q239
       cases e239
       replace p239 := eq_true p239
       replace q239 := eq_true q239
       go_wp2_with (first | ((with_reducible refine gate_callee (f := 122) rfl ?_); refine goesL_ (some 27) rfl rfl Try.func122 (by kernel_rfl) rfl #[.string (rdOf ByteArray.empty l0 (ji4)), .string a1] rfl (by (try simp only [List.map_toArray, List.map_cons, List.map_nil]); first | done | (simp only [hji4]; rfl) | rfl | (simp only [List.length_drop, List.length_take]; rfl)) ?_; (with_reducible refine (cmp_Less_string.calls (rdOf ByteArray.empty l0 (ji4)) a1 true _ A7.out).mono ?_); rintro e w' ⟨rfl, ⟨nd, rfl⟩⟩; refine ⟨_, rfl, ?_⟩))
       go_roundg k1
       case measure => have := HK1.out; omega
       case rel => exact ⟨(wrap64 ((ji4) + 1)), (x8_1), (by first | rfl | (simp; done) | (simp only [<- hji4] <;> (first | rfl | simp)) | (simp [*]; done)), (by first | rfl | (simp; done) | (simp [*]; done)), H', ⟨by have := HK1.out; omega⟩, by repeat (first | exact Drawn0.refl _ | apply Drawn0.step)⟩
      ·replace c8 := Bool.eq_false_iff.mpr c8
       subst c8
       have H1 : (slices_BinarySearch_string_string.l0 k1 l0 a1 (l0.length : Int) x7_1 ji4) = some (r1, r2) := by rw [if_neg (show ¬ (false = true) by decide)] at H; exact H
       clear H
       have H := H1
       clear H1
       have H' := A_ H
       clear H
       have p239 : 0 <= ((ji4) : Int) := of_decide_eq_true as_
       have q239 : (ji4) < (l0.length : Int) := of_decide_eq_true as_
       obtain ⟨ad239, e239, hx239_0⟩ := Kd.at_string HR0.out (ji4) p239 q239
       cases e239
       replace p239 := eq_true p239
       replace q239 := eq_true q239
       go_wp2_with (first | ((with_reducible refine gate_callee (f := 122) rfl ?_); refine goesL_ (some 27) rfl rfl Try.func122 (by kernel_rfl) rfl #[.string (rdOf ByteArray.empty l0 (ji4)), .string a1] rfl (by (try simp only [List.map_toArray, List.map_cons, List.map_nil]); first | done | (simp only [hji4]; rfl) | rfl | (simp only [List.length_drop, List.length_take]; rfl)) ?_; (with_reducible refine (cmp_Less_string.calls (rdOf ByteArray.empty l0 (ji4)) a1 false _ A7.out).mono ?_); rintro e w' ⟨rfl, ⟨nd, rfl⟩⟩; refine ⟨_, rfl, ?_⟩))
       go_roundg k1
       case measure => have := HK1.out; omega
       case rel => exact ⟨(x7_1), (ji4), (by first | rfl | (simp; done) | (simp [*]; done)), (by first | rfl | (simp; done) | (simp only [<- hji4] <;> (first | rfl | simp)) | (simp [*]; done)), H', ⟨by have := HK1.out; omega⟩, by repeat (first | exact Drawn0.refl _ | apply Drawn0.step)⟩
     ·rw [if_neg c6] at H
      exact absurd H (by simp)
    ·rw [if_neg c5] at H
     exact absurd H (by simp)
   ·rw [if_neg c3] at H
    have c3b0 : decide (x7_1 < x8_1) = false := decide_eq_false c3
    clear c3
    by_cases c9 : x7_1 < (l0.length : Int)
    ·rw [if_pos c9] at H
     have c9b0 : decide (x7_1 < (l0.length : Int)) = true := decide_eq_true c9
     clear c9
     by_cases c10 : 0 <= x7_1
     ·rw [if_pos c10] at H
      have c10b0 : decide (0 <= x7_1) = true := decide_eq_true c10
      clear c10
      by_cases c11 : x7_1 < (l0.length : Int)
      ·rw [if_pos c11] at H
       have c11b0 : decide (x7_1 < (l0.length : Int)) = true := decide_eq_true c11
       clear c11
       by_cases c12 : (rdOf ByteArray.empty l0 x7_1).toList = a1.toList
       ·rw [if_pos c12] at H
        have c12b0 : ((rdOf ByteArray.empty l0 x7_1).toList == a1.toList) = true := beq_iff_eq.mpr c12
        have c12b1 : ((rdOf ByteArray.empty l0 x7_1).toList != a1.toList) = false := bne_eq_false_iff_eq.mpr c12
        clear c12
        simp only [Option.some.injEq, Prod.mk.injEq] at H
        obtain ⟨rfl, rfl⟩ := H
        have p241 : 0 <= (x7_1 : Int) := of_decide_eq_true as_
        have q241 : x7_1 < (l0.length : Int) := of_decide_eq_true as_
        obtain ⟨ad241, e241, hx241_0⟩ := Kd.at_string HR0.out x7_1 p241 q241
        cases e241
        replace p241 := eq_true p241
        replace q241 := eq_true q241
        go_wp2
        go_ret2
        exact ⟨by first | rfl | (simp; done) | (simp [*]; done), by repeat (first | exact Drawn0.refl _ | apply Drawn0.step)⟩
       ·rw [if_neg c12] at H
        have c12b0 : ((rdOf ByteArray.empty l0 x7_1).toList == a1.toList) = false := beq_eq_false_iff_ne.mpr c12
        have c12b1 : ((rdOf ByteArray.empty l0 x7_1).toList != a1.toList) = true := bne_iff_ne.mpr c12
        replace H := Option.bind_eq_some_iff.mp H
        obtain ⟨t243, A130, H⟩ := H
        replace H : (if t243 = true then ((slices_isNaN_string.f a1).bind fun t244 => (some (x7_1, t244))) else (some (x7_1, false))) = some (r1, r2) := H
        have A13 := A_ A130
        clear A130
        by_cases c14 : t243 = true
        ·subst c14
         have H1 : ((slices_isNaN_string.f a1).bind fun t244 => (some (x7_1, t244))) = some (r1, r2) := by rw [if_pos rfl] at H; exact H
         clear H
         have H := H1
         clear H1
         replace H := Option.bind_eq_some_iff.mp H
         obtain ⟨t244, A150, H⟩ := H
         replace H : (some (x7_1, t244)) = some (r1, r2) := H
         have A15 := A_ A150
         clear A150
         simp only [Option.some.injEq, Prod.mk.injEq] at H
         obtain ⟨rfl, rfl⟩ := H
         have p241 : 0 <= (x7_1 : Int) := of_decide_eq_true as_
         have q241 : x7_1 < (l0.length : Int) := of_decide_eq_true as_
         obtain ⟨ad241, e241, hx241_0⟩ := Kd.at_string HR0.out x7_1 p241 q241
         cases e241
         replace p241 := eq_true p241
         replace q241 := eq_true q241
         have p242 : 0 <= (x7_1 : Int) := of_decide_eq_true as_
         have q242 : x7_1 < (l0.length : Int) := of_decide_eq_true as_
         obtain ⟨ad242, e242, hx242_0⟩ := Kd.at_string HR0.out x7_1 p242 q242
         obtain rfl : ad241 = ad242 := (by injection e242)
         replace p242 := eq_true p242
         replace q242 := eq_true q242
         go_wp2_with (first | (go_at_call 123; (with_reducible refine (slices_isNaN_string.calls (rdOf ByteArray.empty l0 x7_1) true _ A13.out).mono ?_); rintro e w' ⟨rfl, ⟨nd, rfl⟩⟩) | (go_at_call 123; (with_reducible refine (slices_isNaN_string.calls a1 t244 _ A15.out).mono ?_); rintro e w' ⟨rfl, ⟨nd, rfl⟩⟩))
         go_ret2
         exact ⟨by first | rfl | (simp; done) | (simp [*]; done), by repeat (first | exact Drawn0.refl _ | apply Drawn0.step)⟩
        ·replace c14 := Bool.eq_false_iff.mpr c14
         subst c14
         have H1 : (some (x7_1, false)) = some (r1, r2) := by rw [if_neg (show ¬ (false = true) by decide)] at H; exact H
         clear H
         have H := H1
         clear H1
         simp only [Option.some.injEq, Prod.mk.injEq] at H
         obtain ⟨rfl, rfl⟩ := H
         have p241 : 0 <= (x7_1 : Int) := of_decide_eq_true as_
         have q241 : x7_1 < (l0.length : Int) := of_decide_eq_true as_
         obtain ⟨ad241, e241, hx241_0⟩ := Kd.at_string HR0.out x7_1 p241 q241
         cases e241
         replace p241 := eq_true p241
         replace q241 := eq_true q241
         have p242 : 0 <= (x7_1 : Int) := of_decide_eq_true as_
         have q242 : x7_1 < (l0.length : Int) := of_decide_eq_true as_
         obtain ⟨ad242, e242, hx242_0⟩ := Kd.at_string HR0.out x7_1 p242 q242
         obtain rfl : ad241 = ad242 := (by injection e242)
         replace p242 := eq_true p242
         replace q242 := eq_true q242
         go_wp2_with (first | (go_at_call 123; (with_reducible refine (slices_isNaN_string.calls (rdOf ByteArray.empty l0 x7_1) false _ A13.out).mono ?_); rintro e w' ⟨rfl, ⟨nd, rfl⟩⟩))
         go_ret2
         exact ⟨by first | rfl | (simp; done) | (simp [*]; done), by repeat (first | exact Drawn0.refl _ | apply Drawn0.step)⟩
      ·rw [if_neg c11] at H
       exact absurd H (by simp)
     ·rw [if_neg c10] at H
      exact absurd H (by simp)
    ·rw [if_neg c9] at H
     have c9b0 : decide (x7_1 < (l0.length : Int)) = false := decide_eq_false c9
     clear c9
     simp only [Option.some.injEq, Prod.mk.injEq] at H
     obtain ⟨rfl, rfl⟩ := H
     go_wp2
     go_ret2
     exact ⟨by first | rfl | (simp; done) | (simp [*]; done), by repeat (first | exact Drawn0.refl _ | apply Drawn0.step)⟩
def impl_less.f (k : Nat) (l0 : List ByteArray) (a1 : ByteArray) : Option (Int) := (slices_BinarySearch_string_string.f k l0 a1).bind fun bt245 => (some bt245.1)
theorem impl_less.calls (k : Nat) (A0 : Option Addr) (c0 : Nat) (l0 : List ByteArray) (a1 : ByteArray) (r : Int) (w : World) (hr0 : Kd.C Kd.string w A0 l0.length l0) (hc0 : l0.length <= c0) (h : impl_less.f k l0 a1 = some r) :
  Calls Try.prog 73 #[.slice A0 l0.length c0, .string a1] w fun e w' => e = .returned (.int .i64 r) /\ Drawn0 w w' := by
 have HR0 := A_ hr0
 have HC0 := A_ hc0
 clear hr0 hc0
 have H : ((slices_BinarySearch_string_string.f k l0 a1).bind fun bt245 => (some bt245.1)) = some r := h
 clear h
 replace H := Option.bind_eq_some_iff.mp H
 obtain ⟨⟨t245, t246⟩, A30, H⟩ := H
 replace H : (some t245) = some r := H
 have A3 := A_ A30
 clear A30
 obtain rfl := Option.some.inj H
 go_enter Try.func73, Try.ntmps73
 go_wp2_with (first | ((with_reducible refine gate_callee (f := 103) rfl ?_); refine goesL_ (some 10) rfl rfl Try.func103 (by kernel_rfl) rfl #[.slice A0 l0.length c0, .string a1] rfl (ag_) ?_; (with_reducible refine (slices_BinarySearch_string_string.calls k _ _ l0 a1 t245 t246 _ ?side1 ?side2 A3.out).mono ?_); (case side1 => refine cd_ ?_; exact HR0.out); (case side2 => exact HC0.out); rintro e w' ⟨rfl, ⟨nd, rfl⟩⟩; refine ⟨_, rfl, ?_⟩))
 go_ret
 exact ⟨by first | rfl | (simp; done) | (simp [*]; done), by repeat (first | exact Drawn0.refl _ | apply Drawn0.step)⟩
def impl_hasAt.f (l0 : List ByteArray) (a1 : Int) (a2 : ByteArray) : Option (Bool) := if a1 < (l0.length : Int) then (if 0 <= a1 then (some ((rdOf ByteArray.empty l0 a1).toList == a2.toList)) else (none)) else (some false)
theorem impl_hasAt.calls (A0 : Option Addr) (c0 : Nat) (l0 : List ByteArray) (a1 : Int) (a2 : ByteArray) (r : Bool) (w : World) (hr0 : Kd.C Kd.string w A0 l0.length l0) (hc0 : l0.length <= c0) (h : impl_hasAt.f l0 a1 a2 = some r) :
  Calls Try.prog 101 #[.slice A0 l0.length c0, .int .i64 a1, .string a2] w fun e w' => e = .returned (.bool r) /\ Drawn0 w w' := by
 have HR0 := A_ hr0
 have HC0 := A_ hc0
 clear hr0 hc0
 have H : (if a1 < (l0.length : Int) then (if 0 <= a1 then (some ((rdOf ByteArray.empty l0 a1).toList == a2.toList)) else (none)) else (some false)) = some r := h
 clear h
 by_cases c4 : a1 < (l0.length : Int)
 ·rw [if_pos c4] at H
  have c4b0 : decide (a1 < (l0.length : Int)) = true := decide_eq_true c4
  clear c4
  by_cases c5 : 0 <= a1
  ·rw [if_pos c5] at H
   have c5b0 : decide (0 <= a1) = true := decide_eq_true c5
   clear c5
   obtain rfl := Option.some.inj H
   have p247 : 0 <= (a1 : Int) := of_decide_eq_true as_
   have q247 : a1 < (l0.length : Int) := of_decide_eq_true as_
   obtain ⟨ad247, e247, hx247_0⟩ := Kd.at_string HR0.out a1 p247 q247
   cases e247
   replace p247 := eq_true p247
   replace q247 := eq_true q247
   go_enter Try.func101, Try.ntmps101
   go_wp2
   go_ret
   exact ⟨by first | rfl | (simp; done) | (simp [*]; done), by repeat (first | exact Drawn0.refl _ | apply Drawn0.step)⟩
  ·rw [if_neg c5] at H
   exact absurd H (by simp)
 ·rw [if_neg c4] at H
  have c4b0 : decide (a1 < (l0.length : Int)) = false := decide_eq_false c4
  clear c4
  obtain rfl := Option.some.inj H
  go_enter Try.func101, Try.ntmps101
  go_wp2
  go_ret
  exact ⟨by first | rfl | (simp; done) | (simp [*]; done), by repeat (first | exact Drawn0.refl _ | apply Drawn0.step)⟩
end Go.Proofs.Ytoddejmlcnbdmaa.Fn
namespace Go.Proofs.Ytoddejmlcnbdmaa.Tree
open Go.Proofs.Ytoddejmlcnbdmaa.Fn
def ltB (a b : ByteArray) : Bool := Op.bytesLess a.toList b.toList
def atI (key : ByteArray) : List ByteArray -> Nat
 | [] => 0
 | k :: ks => if ltB k key then atI key ks + 1 else 0
def hasS (keys : List ByteArray) (i : Nat) (key : ByteArray) : Bool := match keys[i]? with
 | some k => k.toList == key.toList
 | none => false
theorem atI_on {key k : ByteArray} {l : List ByteArray} {i x : Nat} (hk : l[i]? = some k) (h : x = i + atI key (l.drop i)) (hlt : ltB k key = true) : x = (i + 1) + atI key (l.drop (i + 1)) := by
 rw [drop_of hk, atI, if_pos hlt] at h
 omega
theorem atI_off {key k : ByteArray} {l : List ByteArray} {i x : Nat} (hk : l[i]? = some k) (h : x = i + atI key (l.drop i)) (hlt : ltB k key = false) : x = i := by
 rw [drop_of hk, atI, if_neg (by rw [hlt]; decide)] at h
 omega
theorem atI_end {key : ByteArray} {l : List ByteArray} {i x : Nat} (hi : l.length <= i) (h : x = i + atI key (l.drop i)) : x = i := by
 rw [List.drop_eq_nil_of_le hi, atI] at h
 omega
theorem atI_le (key : ByteArray) : ∀ l : List ByteArray, atI key l <= l.length
 | [] => Nat.le_refl _
 | k :: ks => by
  rw [atI]
  have := atI_le key ks
  split
  ·simp only [List.length_cons]; omega
  ·exact Nat.zero_le _
theorem hasS_lt {keys : List ByteArray} {i : Nat} {key : ByteArray} (h : hasS keys i key = true) : i < keys.length := by
 unfold hasS at h
 rcases Nat.lt_or_ge i keys.length with hi | hi
 ·exact hi
 ·rw [List.getElem?_eq_none hi] at h
  cases h
end Go.Proofs.Ytoddejmlcnbdmaa.Tree
namespace Go.Proofs.Ytoddejmlcnbdmaa.Fn
def spec_l5Text.f (a0 : ByteArray) : Option (Bool) := some (decide ((a0.size : Int) <= 12))
theorem spec_l5Text.calls (a0 : ByteArray) (r : Bool) (w : World) (h : spec_l5Text.f a0 = some r) :
  Calls Try.prog 104 #[.string a0] w fun e w' => e = .returned (.bool r) /\ Drawn0 w w' := by
 have H : (some (decide ((a0.size : Int) <= 12))) = some r := h
 clear h
 obtain rfl := Option.some.inj H
 go_enter Try.func104, Try.ntmps104
 go_wp2
 go_ret
 exact ⟨by first | rfl | (simp; done) | (simp [*]; done), by repeat (first | exact Drawn0.refl _ | apply Drawn0.step)⟩
def spec_l5Pair.f (a0 : ByteArray) (a1 : ByteArray) : Option (Bool) := (spec_l5Text.f a0).bind fun t167 => (if t167 = true then ((spec_l5Text.f a1).bind fun t168 => (if t168 = true then (some (a0.toList != ([] : List UInt8))) else (some false))) else (some false))
theorem spec_l5Pair.calls (a0 : ByteArray) (a1 : ByteArray) (r : Bool) (w : World) (h : spec_l5Pair.f a0 a1 = some r) :
  Calls Try.prog 75 #[.string a0, .string a1] w fun e w' => e = .returned (.bool r) /\ Drawn0 w w' := by
 have H : ((spec_l5Text.f a0).bind fun t167 => (if t167 = true then ((spec_l5Text.f a1).bind fun t168 => (if t168 = true then (some (a0.toList != ([] : List UInt8))) else (some false))) else (some false))) = some r := h
 clear h
 replace H := Option.bind_eq_some_iff.mp H
 obtain ⟨t167, A30, H⟩ := H
 replace H : (if t167 = true then ((spec_l5Text.f a1).bind fun t168 => (if t168 = true then (some (a0.toList != ([] : List UInt8))) else (some false))) else (some false)) = some r := H
 have A3 := A_ A30
 clear A30
 by_cases c4 : t167 = true
 ·subst c4
  have H1 : ((spec_l5Text.f a1).bind fun t168 => (if t168 = true then (some (a0.toList != ([] : List UInt8))) else (some false))) = some r := by rw [if_pos rfl] at H; exact H
  clear H
  have H := H1
  clear H1
  replace H := Option.bind_eq_some_iff.mp H
  obtain ⟨t168, A50, H⟩ := H
  replace H : (if t168 = true then (some (a0.toList != ([] : List UInt8))) else (some false)) = some r := H
  have A5 := A_ A50
  clear A50
  by_cases c6 : t168 = true
  ·subst c6
   have H1 : (some (a0.toList != ([] : List UInt8))) = some r := by rw [if_pos rfl] at H; exact H
   clear H
   have H := H1
   clear H1
   obtain rfl := Option.some.inj H
   go_enter Try.func75, Try.ntmps75
   go_wp2_with (first | ((with_reducible refine gate_callee (f := 104) rfl ?_); refine goesL_ (some 6) rfl rfl Try.func104 (by kernel_rfl) rfl #[.string a0] rfl (ag_) ?_; (with_reducible refine (spec_l5Text.calls a0 true _ A3.out).mono ?_); rintro e w' ⟨rfl, ⟨nd, rfl⟩⟩; refine ⟨_, rfl, ?_⟩) | (go_at_call 104; (with_reducible refine (spec_l5Text.calls a1 true _ A5.out).mono ?_); rintro e w' ⟨rfl, ⟨nd, rfl⟩⟩))
   go_ret
   exact ⟨by first | rfl | (simp only [Go.Proofs.Ytoddejmlcnbdmaa.Gen.nil_str, Go.Proofs.Ytoddejmlcnbdmaa.Gen.gt_str]; first | done | rfl | (simp; done)) | (simp; done) | (simp [*]; done), by repeat (first | exact Drawn0.refl _ | apply Drawn0.step)⟩
  ·replace c6 := Bool.eq_false_iff.mpr c6
   subst c6
   have H1 : (some false) = some r := by rw [if_neg (show ¬ (false = true) by decide)] at H; exact H
   clear H
   have H := H1
   clear H1
   obtain rfl := Option.some.inj H
   go_enter Try.func75, Try.ntmps75
   go_wp2_with (first | ((with_reducible refine gate_callee (f := 104) rfl ?_); refine goesL_ (some 6) rfl rfl Try.func104 (by kernel_rfl) rfl #[.string a0] rfl (ag_) ?_; (with_reducible refine (spec_l5Text.calls a0 true _ A3.out).mono ?_); rintro e w' ⟨rfl, ⟨nd, rfl⟩⟩; refine ⟨_, rfl, ?_⟩) | (go_at_call 104; (with_reducible refine (spec_l5Text.calls a1 false _ A5.out).mono ?_); rintro e w' ⟨rfl, ⟨nd, rfl⟩⟩))
   go_ret
   exact ⟨by first | rfl | (simp only [Go.Proofs.Ytoddejmlcnbdmaa.Gen.nil_str, Go.Proofs.Ytoddejmlcnbdmaa.Gen.gt_str]; first | done | rfl | (simp; done)) | (simp; done) | (simp [*]; done), by repeat (first | exact Drawn0.refl _ | apply Drawn0.step)⟩
 ·replace c4 := Bool.eq_false_iff.mpr c4
  subst c4
  have H1 : (some false) = some r := by rw [if_neg (show ¬ (false = true) by decide)] at H; exact H
  clear H
  have H := H1
  clear H1
  obtain rfl := Option.some.inj H
  go_enter Try.func75, Try.ntmps75
  go_wp2_with (first | ((with_reducible refine gate_callee (f := 104) rfl ?_); refine goesL_ (some 6) rfl rfl Try.func104 (by kernel_rfl) rfl #[.string a0] rfl (ag_) ?_; (with_reducible refine (spec_l5Text.calls a0 false _ A3.out).mono ?_); rintro e w' ⟨rfl, ⟨nd, rfl⟩⟩; refine ⟨_, rfl, ?_⟩))
  go_ret
  exact ⟨by first | rfl | (simp only [Go.Proofs.Ytoddejmlcnbdmaa.Gen.nil_str, Go.Proofs.Ytoddejmlcnbdmaa.Gen.gt_str]; first | done | rfl | (simp; done)) | (simp; done) | (simp [*]; done), by repeat (first | exact Drawn0.refl _ | apply Drawn0.step)⟩
def impl_within.f (a0 : Int) (a1 : Int) (a2 : Int) : Option (Bool) := if a0 ≥ a1 then (some (decide (a0 <= a2))) else (some false)
theorem impl_within.calls (a0 : Int) (a1 : Int) (a2 : Int) (r : Bool) (w : World) (h : impl_within.f a0 a1 a2 = some r) :
  Calls Try.prog 69 #[.int .i64 a0, .int .i64 a1, .int .i64 a2] w fun e w' => e = .returned (.bool r) /\ Drawn0 w w' := by
 have H : (if a0 ≥ a1 then (some (decide (a0 <= a2))) else (some false)) = some r := h
 clear h
 by_cases c4 : a0 ≥ a1
 ·rw [if_pos c4] at H
  have c4b0 : decide (a1 <= a0) = true := decide_eq_true c4
  clear c4
  obtain rfl := Option.some.inj H
  go_enter Try.func69, Try.ntmps69
  go_wp2
  go_ret
  exact ⟨by first | rfl | (simp; done) | (simp [*]; done), by repeat (first | exact Drawn0.refl _ | apply Drawn0.step)⟩
 ·rw [if_neg c4] at H
  have c4b0 : decide (a1 <= a0) = false := decide_eq_false c4
  clear c4
  obtain rfl := Option.some.inj H
  go_enter Try.func69, Try.ntmps69
  go_wp2
  go_ret
  exact ⟨by first | rfl | (simp; done) | (simp [*]; done), by repeat (first | exact Drawn0.refl _ | apply Drawn0.step)⟩
def impl_isKey.f (a0 : ByteArray) : Option (Bool) := (impl_within.f (a0.size : Int) 1 12).bind fun t169 => (some t169)
theorem impl_isKey.calls (a0 : ByteArray) (r : Bool) (w : World) (h : impl_isKey.f a0 = some r) :
  Calls Try.prog 78 #[.string a0] w fun e w' => e = .returned (.bool r) /\ Drawn0 w w' := by
 have H : ((impl_within.f (a0.size : Int) 1 12).bind fun t169 => (some t169)) = some r := h
 clear h
 replace H := Option.bind_eq_some_iff.mp H
 obtain ⟨t169, A20, H⟩ := H
 replace H : (some t169) = some r := H
 have A2 := A_ A20
 clear A20
 obtain rfl := Option.some.inj H
 go_enter Try.func78, Try.ntmps78
 go_wp2_with (first | ((with_reducible refine gate_callee (f := 69) rfl ?_); refine goesL_ (some 5) rfl rfl Try.func69 (by kernel_rfl) rfl #[.int .i64 (a0.size : Int), .int .i64 1, .int .i64 12] rfl (ag_) ?_; (with_reducible refine (impl_within.calls (a0.size : Int) 1 12 t169 _ A2.out).mono ?_); rintro e w' ⟨rfl, ⟨nd, rfl⟩⟩; refine ⟨_, rfl, ?_⟩))
 go_ret
 exact ⟨by first | rfl | (simp; done) | (simp [*]; done), by repeat (first | exact Drawn0.refl _ | apply Drawn0.step)⟩
def impl_areRising.l0 : Nat -> List ByteArray -> List ByteArray -> Int -> Int -> Option (Bool)
 | 0, _, _, _, _ => none
 | k + 1, x0, x5, x6, x7 => if x7 < x6 then (if 0 <= x7 then (if x7 < (x5.length : Int) then ((impl_isKey.f (rdOf ByteArray.empty x5 x7)).bind fun t171 => (if t171 = true then (if x7 > 0 then (if 0 <= (wrap64 (x7 - 1)) then (if (wrap64 (x7 - 1)) < (x0.length : Int) then (if ((Op.bytesLess ((rdOf ByteArray.empty x0 (wrap64 (x7 - 1))).toList) ((rdOf ByteArray.empty x5 x7).toList)) = true) then (impl_areRising.l0 k x0 x5 x6 (wrap64 (x7 + 1))) else (some false)) else (none)) else (none)) else (impl_areRising.l0 k x0 x5 x6 (wrap64 (x7 + 1)))) else (some false))) else (none)) else (none)) else (some true)
def impl_areRising.f (k : Nat) (l0 : List ByteArray) : Option (Bool) := impl_areRising.l0 k l0 l0 (l0.length : Int) 0
theorem impl_areRising.mono_l : ∀ k, (∀ y0 y1 y2 y3, LeO (impl_areRising.l0 k y0 y1 y2 y3) (impl_areRising.l0 (k + 1) y0 y1 y2 y3))
 | 0 => fun _ _ _ _ r h => by simp [impl_areRising.l0] at h
 | k + 1 => by
  have ih0 := impl_areRising.mono_l k
  ·intro y0 y1 y2 y3
   unfold impl_areRising.l0
   repeat' (with_reducible first | exact ih0 _ _ _ _ | exact LeO.refl _ | exact LeO.none _ | refine LeO.ite ?_ ?_ | refine LeO.bind ?_ (fun _ => ?_))
theorem impl_areRising.mono : ∀ a0 k, LeO (impl_areRising.f k a0) (impl_areRising.f (k + 1) a0) := by
 intro a0 k
 have ih0 := impl_areRising.mono_l k
 unfold impl_areRising.f
 repeat' (with_reducible first | exact ih0 _ _ _ _ | exact LeO.refl _ | exact LeO.none _ | refine LeO.ite ?_ ?_ | refine LeO.bind ?_ (fun _ => ?_))
theorem impl_areRising.calls (k : Nat) (A0 : Option Addr) (c0 : Nat) (l0 : List ByteArray) (r : Bool) (w : World) (hr0 : Kd.C Kd.string w A0 l0.length l0) (hc0 : l0.length <= c0) (h : impl_areRising.f k l0 = some r) :
  Calls Try.prog 115 #[.slice A0 l0.length c0] w fun e w' => e = .returned (.bool r) /\ Drawn0 w w' := by
 have HR0 := A_ hr0
 have HC0 := A_ hc0
 clear hr0 hc0
 have H : (impl_areRising.l0 k l0 l0 (l0.length : Int) 0) = some r := h
 clear h
 have H' := A_ H
 clear H
 go_enter Try.func115, Try.ntmps115
 go_wp2
 go_loopg [7] k (fun kq v7 w' => ∃ (x7_1 : Int), v7 = .int .i64 x7_1 /\ Aside0 (impl_areRising.l0 kq l0 l0 (l0.length : Int) x7_1 = some r) /\ Aside0 (kq <= k) /\ Drawn0 w w')
 case atStart => exact ⟨(0), (by first | rfl | (simp; done) | (simp [*]; done)), H', ⟨Nat.le_refl _⟩, by repeat (first | exact Drawn0.refl _ | apply Drawn0.step)⟩
 case round =>
  clear H'
  (try clear c1)
  obtain ⟨x7_1, rfl, HA, HK1, ⟨m1, rfl⟩⟩ := hrel
  cases gk with
  | zero => exact absurd HA.out (by simp [impl_areRising.l0])
  | succ k1 =>
   have H := HA.out
   clear HA
   simp only [impl_areRising.l0] at H
   by_cases c2 : x7_1 < (l0.length : Int)
   ·rw [if_pos c2] at H
    have c2b0 : decide (x7_1 < (l0.length : Int)) = true := decide_eq_true c2
    clear c2
    by_cases c3 : 0 <= x7_1
    ·rw [if_pos c3] at H
     have c3b0 : decide (0 <= x7_1) = true := decide_eq_true c3
     clear c3
     by_cases c4 : x7_1 < (l0.length : Int)
     ·rw [if_pos c4] at H
      have c4b0 : decide (x7_1 < (l0.length : Int)) = true := decide_eq_true c4
      clear c4
      replace H := Option.bind_eq_some_iff.mp H
      obtain ⟨t171, A50, H⟩ := H
      replace H : (if t171 = true then (if x7_1 > 0 then (if 0 <= (wrap64 (x7_1 - 1)) then (if (wrap64 (x7_1 - 1)) < (l0.length : Int) then (if ((Op.bytesLess ((rdOf ByteArray.empty l0 (wrap64 (x7_1 - 1))).toList) ((rdOf ByteArray.empty l0 x7_1).toList)) = true) then (impl_areRising.l0 k1 l0 l0 (l0.length : Int) (wrap64 (x7_1 + 1))) else (some false)) else (none)) else (none)) else (impl_areRising.l0 k1 l0 l0 (l0.length : Int) (wrap64 (x7_1 + 1)))) else (some false)) = some r := H
      have A5 := A_ A50
      clear A50
      by_cases c6 : t171 = true
      ·subst c6
       have H1 : (if x7_1 > 0 then (if 0 <= (wrap64 (x7_1 - 1)) then (if (wrap64 (x7_1 - 1)) < (l0.length : Int) then (if ((Op.bytesLess ((rdOf ByteArray.empty l0 (wrap64 (x7_1 - 1))).toList) ((rdOf ByteArray.empty l0 x7_1).toList)) = true) then (impl_areRising.l0 k1 l0 l0 (l0.length : Int) (wrap64 (x7_1 + 1))) else (some false)) else (none)) else (none)) else (impl_areRising.l0 k1 l0 l0 (l0.length : Int) (wrap64 (x7_1 + 1)))) = some r := by rw [if_pos rfl] at H; exact H
       clear H
       have H := H1
       clear H1
       by_cases c7 : x7_1 > 0
       ·rw [if_pos c7] at H
        have c7b0 : decide (0 < x7_1) = true := decide_eq_true c7
        clear c7
        obtain ⟨ji8, hji8⟩ : ∃ j_ : Int, (wrap64 (x7_1 - 1)) = j_ := ⟨_, rfl⟩
        replace H : (if 0 <= (ji8) then (if (ji8) < (l0.length : Int) then (if ((Op.bytesLess ((rdOf ByteArray.empty l0 (ji8)).toList) ((rdOf ByteArray.empty l0 x7_1).toList)) = true) then (impl_areRising.l0 k1 l0 l0 (l0.length : Int) (wrap64 (x7_1 + 1))) else (some false)) else (none)) else (none)) = some r := by first | (rw [hji8] at H; exact H) | (simp only [hji8] at H ⊢; exact H)
        (try rw [hji8] at A5)
        have hji8w : (IntKind.i64.wrap (x7_1 - 1)) = ji8 := (i64_w _).trans hji8
        by_cases c9 : 0 <= (ji8)
        ·rw [if_pos c9] at H
         have c9b0 : decide (0 <= (ji8)) = true := decide_eq_true c9
         clear c9
         by_cases c10 : (ji8) < (l0.length : Int)
         ·rw [if_pos c10] at H
          have c10b0 : decide ((ji8) < (l0.length : Int)) = true := decide_eq_true c10
          clear c10
          by_cases c11 : ((Op.bytesLess ((rdOf ByteArray.empty l0 (ji8)).toList) ((rdOf ByteArray.empty l0 x7_1).toList)) = true)
          ·rw [if_pos c11] at H
           have c11b0 : (Op.bytesLess ((rdOf ByteArray.empty l0 (ji8)).toList) ((rdOf ByteArray.empty l0 x7_1).toList)) = true := c11
           clear c11
           have H' := A_ H
           clear H
           have p170 : 0 <= (x7_1 : Int) := of_decide_eq_true as_
           have q170 : x7_1 < (l0.length : Int) := of_decide_eq_true as_
           obtain ⟨ad170, e170, hx170_0⟩ := Kd.at_string HR0.out x7_1 p170 q170
           cases e170
           replace p170 := eq_true p170
           replace q170 := eq_true q170
           go_wp2_with (first | ((with_reducible refine gate_callee (f := 78) rfl ?_); refine goesL_ (some 13) rfl rfl Try.func78 (by kernel_rfl) rfl #[.string (rdOf ByteArray.empty l0 x7_1)] rfl (ag_) ?_; (with_reducible refine (impl_isKey.calls (rdOf ByteArray.empty l0 x7_1) true _ A5.out).mono ?_); rintro e w' ⟨rfl, ⟨nd, rfl⟩⟩; refine ⟨_, rfl, ?_⟩; have p172 : 0 <= ((ji8) : Int) := of_decide_eq_true as_; have q172 : (ji8) < (l0.length : Int) := of_decide_eq_true as_; obtain ⟨ad172, e172, hx172_0⟩ := Kd.at_string HR0.out (ji8) p172 q172; obtain rfl : ad170 = ad172 := (by injection e172); replace p172 := eq_true p172; replace q172 := eq_true q172))
           go_roundg k1
           case measure => have := HK1.out; omega
           case rel => exact ⟨(wrap64 (x7_1 + 1)), (by first | rfl | (simp; done) | (simp [*]; done)), H', ⟨by have := HK1.out; omega⟩, by repeat (first | exact Drawn0.refl _ | apply Drawn0.step)⟩
          ·rw [if_neg c11] at H
           have c11b0 : (Op.bytesLess ((rdOf ByteArray.empty l0 (ji8)).toList) ((rdOf ByteArray.empty l0 x7_1).toList)) = false := by simpa using c11
           clear c11
           obtain rfl := Option.some.inj H
           have p170 : 0 <= (x7_1 : Int) := of_decide_eq_true as_
           have q170 : x7_1 < (l0.length : Int) := of_decide_eq_true as_
           obtain ⟨ad170, e170, hx170_0⟩ := Kd.at_string HR0.out x7_1 p170 q170
           cases e170
           replace p170 := eq_true p170
           replace q170 := eq_true q170
           go_wp2_with (first | ((with_reducible refine gate_callee (f := 78) rfl ?_); refine goesL_ (some 13) rfl rfl Try.func78 (by kernel_rfl) rfl #[.string (rdOf ByteArray.empty l0 x7_1)] rfl (ag_) ?_; (with_reducible refine (impl_isKey.calls (rdOf ByteArray.empty l0 x7_1) true _ A5.out).mono ?_); rintro e w' ⟨rfl, ⟨nd, rfl⟩⟩; refine ⟨_, rfl, ?_⟩; have p172 : 0 <= ((ji8) : Int) := of_decide_eq_true as_; have q172 : (ji8) < (l0.length : Int) := of_decide_eq_true as_; obtain ⟨ad172, e172, hx172_0⟩ := Kd.at_string HR0.out (ji8) p172 q172; obtain rfl : ad170 = ad172 := (by injection e172); replace p172 := eq_true p172; replace q172 := eq_true q172))
           go_ret
           exact ⟨by first | rfl | (simp only [Go.Proofs.Ytoddejmlcnbdmaa.Gen.nil_str, Go.Proofs.Ytoddejmlcnbdmaa.Gen.gt_str]; first | done | rfl | (simp; done)) | (simp; done) | (simp only [<- hji8] <;> (first | rfl | simp)) | (simp [*]; done), by repeat (first | exact Drawn0.refl _ | apply Drawn0.step)⟩
         ·rw [if_neg c10] at H
          exact absurd H (by simp)
        ·rw [if_neg c9] at H
         exact absurd H (by simp)
       ·rw [if_neg c7] at H
        have c7b0 : decide (0 < x7_1) = false := decide_eq_false c7
        clear c7
        have H' := A_ H
        clear H
        have p170 : 0 <= (x7_1 : Int) := of_decide_eq_true as_
        have q170 : x7_1 < (l0.length : Int) := of_decide_eq_true as_
        obtain ⟨ad170, e170, hx170_0⟩ := Kd.at_string HR0.out x7_1 p170 q170
        cases e170
        replace p170 := eq_true p170
        replace q170 := eq_true q170
        go_wp2_with (first | ((with_reducible refine gate_callee (f := 78) rfl ?_); refine goesL_ (some 13) rfl rfl Try.func78 (by kernel_rfl) rfl #[.string (rdOf ByteArray.empty l0 x7_1)] rfl (ag_) ?_; (with_reducible refine (impl_isKey.calls (rdOf ByteArray.empty l0 x7_1) true _ A5.out).mono ?_); rintro e w' ⟨rfl, ⟨nd, rfl⟩⟩; refine ⟨_, rfl, ?_⟩))
        go_roundg k1
        case measure => have := HK1.out; omega
        case rel => exact ⟨(wrap64 (x7_1 + 1)), (by first | rfl | (simp; done) | (simp [*]; done)), H', ⟨by have := HK1.out; omega⟩, by repeat (first | exact Drawn0.refl _ | apply Drawn0.step)⟩
      ·replace c6 := Bool.eq_false_iff.mpr c6
       subst c6
       have H1 : (some false) = some r := by rw [if_neg (show ¬ (false = true) by decide)] at H; exact H
       clear H
       have H := H1
       clear H1
       obtain rfl := Option.some.inj H
       have p170 : 0 <= (x7_1 : Int) := of_decide_eq_true as_
       have q170 : x7_1 < (l0.length : Int) := of_decide_eq_true as_
       obtain ⟨ad170, e170, hx170_0⟩ := Kd.at_string HR0.out x7_1 p170 q170
       cases e170
       replace p170 := eq_true p170
       replace q170 := eq_true q170
       go_wp2_with (first | ((with_reducible refine gate_callee (f := 78) rfl ?_); refine goesL_ (some 13) rfl rfl Try.func78 (by kernel_rfl) rfl #[.string (rdOf ByteArray.empty l0 x7_1)] rfl (ag_) ?_; (with_reducible refine (impl_isKey.calls (rdOf ByteArray.empty l0 x7_1) false _ A5.out).mono ?_); rintro e w' ⟨rfl, ⟨nd, rfl⟩⟩; refine ⟨_, rfl, ?_⟩))
       go_ret
       exact ⟨by first | rfl | (simp only [Go.Proofs.Ytoddejmlcnbdmaa.Gen.nil_str, Go.Proofs.Ytoddejmlcnbdmaa.Gen.gt_str]; first | done | rfl | (simp; done)) | (simp; done) | (simp [*]; done), by repeat (first | exact Drawn0.refl _ | apply Drawn0.step)⟩
     ·rw [if_neg c4] at H
      exact absurd H (by simp)
    ·rw [if_neg c3] at H
     exact absurd H (by simp)
   ·rw [if_neg c2] at H
    have c2b0 : decide (x7_1 < (l0.length : Int)) = false := decide_eq_false c2
    clear c2
    obtain rfl := Option.some.inj H
    go_wp2
    go_ret
    exact ⟨by first | rfl | (simp only [Go.Proofs.Ytoddejmlcnbdmaa.Gen.nil_str, Go.Proofs.Ytoddejmlcnbdmaa.Gen.gt_str]; first | done | rfl | (simp; done)) | (simp; done) | (simp [*]; done), by repeat (first | exact Drawn0.refl _ | apply Drawn0.step)⟩
def impl_isVal.f (a0 : ByteArray) : Option (Bool) := some (decide ((a0.size : Int) <= 12))
theorem impl_isVal.calls (a0 : ByteArray) (r : Bool) (w : World) (h : impl_isVal.f a0 = some r) :
  Calls Try.prog 79 #[.string a0] w fun e w' => e = .returned (.bool r) /\ Drawn0 w w' := by
 have H : (some (decide ((a0.size : Int) <= 12))) = some r := h
 clear h
 obtain rfl := Option.some.inj H
 go_enter Try.func79, Try.ntmps79
 go_wp2
 go_ret
 exact ⟨by first | rfl | (simp; done) | (simp [*]; done), by repeat (first | exact Drawn0.refl _ | apply Drawn0.step)⟩
def impl_arePairs_1.f (a0 : ByteArray) : Option (Bool) := (impl_isVal.f a0).bind fun t173 => (some (!t173))
theorem impl_arePairs_1.calls (a0 : ByteArray) (r : Bool) (w : World) (h : impl_arePairs_1.f a0 = some r) :
  Calls Try.prog 117 #[.string a0] w fun e w' => e = .returned (.bool r) /\ Drawn0 w w' := by
 have H : ((impl_isVal.f a0).bind fun t173 => (some (!t173))) = some r := h
 clear h
 replace H := Option.bind_eq_some_iff.mp H
 obtain ⟨t173, A20, H⟩ := H
 replace H : (some (!t173)) = some r := H
 have A2 := A_ A20
 clear A20
 obtain rfl := Option.some.inj H
 go_enter Try.func117, Try.ntmps117
 go_wp2_with (first | ((with_reducible refine gate_callee (f := 79) rfl ?_); refine goesL_ (some 4) rfl rfl Try.func79 (by kernel_rfl) rfl #[.string a0] rfl (ag_) ?_; (with_reducible refine (impl_isVal.calls a0 t173 _ A2.out).mono ?_); rintro e w' ⟨rfl, ⟨nd, rfl⟩⟩; refine ⟨_, rfl, ?_⟩))
 go_ret
 exact ⟨by first | rfl | (simp; done) | (simp [*]; done), by repeat (first | exact Drawn0.refl _ | apply Drawn0.step)⟩
def slices_IndexFunc_at117.l0 : Nat -> List ByteArray -> Int -> Int -> Option (Int)
 | 0, _, _, _ => none
 | k + 1, x0, x7, x8 => if x8 < x7 then (if 0 <= x8 then (if x8 < (x0.length : Int) then ((impl_arePairs_1.f (rdOf ByteArray.empty x0 x8)).bind fun t175 => (if t175 = true then (some x8) else (slices_IndexFunc_at117.l0 k x0 x7 (wrap64 (x8 + 1))))) else (none)) else (none)) else (some (-1))
def slices_IndexFunc_at117.f (k : Nat) (l0 : List ByteArray)  : Option (Int) := slices_IndexFunc_at117.l0 k l0 (l0.length : Int) 0
theorem slices_IndexFunc_at117.mono_l : ∀ k, (∀ y0 y1 y2, LeO (slices_IndexFunc_at117.l0 k y0 y1 y2) (slices_IndexFunc_at117.l0 (k + 1) y0 y1 y2))
 | 0 => fun _ _ _ r h => by simp [slices_IndexFunc_at117.l0] at h
 | k + 1 => by
  have ih0 := slices_IndexFunc_at117.mono_l k
  ·intro y0 y1 y2
   unfold slices_IndexFunc_at117.l0
   repeat' (with_reducible first | exact ih0 _ _ _ | exact LeO.refl _ | exact LeO.none _ | refine LeO.ite ?_ ?_ | refine LeO.bind ?_ (fun _ => ?_))
theorem slices_IndexFunc_at117.mono : ∀ a0 k, LeO (slices_IndexFunc_at117.f k a0) (slices_IndexFunc_at117.f (k + 1) a0) := by
 intro a0 k
 have ih0 := slices_IndexFunc_at117.mono_l k
 unfold slices_IndexFunc_at117.f
 repeat' (with_reducible first | exact ih0 _ _ _ | exact LeO.refl _ | exact LeO.none _ | refine LeO.ite ?_ ?_ | refine LeO.bind ?_ (fun _ => ?_))
theorem slices_IndexFunc_at117.calls (k : Nat) (A0 : Option Addr) (c0 : Nat) (l0 : List ByteArray)  (r : Int) (w : World) (hr0 : Kd.C Kd.string w A0 l0.length l0) (hc0 : l0.length <= c0) (h : slices_IndexFunc_at117.f k l0 = some r) :
  Calls Try.prog 134 #[.slice A0 l0.length c0, .func (.func 117) #[] #[]] w fun e w' => e = .returned (.int .i64 r) /\ Drawn0 w w' := by
 have HR0 := A_ hr0
 have HC0 := A_ hc0
 clear hr0 hc0
 have H : (slices_IndexFunc_at117.l0 k l0 (l0.length : Int) 0) = some r := h
 clear h
 have H' := A_ H
 clear H
 go_enter Try.func134, Try.ntmps134
 go_wp2
 go_loopg [8] k (fun kq v8 w' => ∃ (x8_1 : Int), v8 = .int .i64 x8_1 /\ Aside0 (slices_IndexFunc_at117.l0 kq l0 (l0.length : Int) x8_1 = some r) /\ Aside0 (kq <= k) /\ Drawn0 w w')
 case atStart => exact ⟨(0), (by first | rfl | (simp; done) | (simp [*]; done)), H', ⟨Nat.le_refl _⟩, by repeat (first | exact Drawn0.refl _ | apply Drawn0.step)⟩
 case round =>
  clear H'
  (try clear c1); (try clear p2)
  obtain ⟨x8_1, rfl, HA, HK1, ⟨m1, rfl⟩⟩ := hrel
  cases gk with
  | zero => exact absurd HA.out (by simp [slices_IndexFunc_at117.l0])
  | succ k1 =>
   have H := HA.out
   clear HA
   simp only [slices_IndexFunc_at117.l0] at H
   by_cases c3 : x8_1 < (l0.length : Int)
   ·rw [if_pos c3] at H
    have c3b0 : decide (x8_1 < (l0.length : Int)) = true := decide_eq_true c3
    clear c3
    by_cases c4 : 0 <= x8_1
    ·rw [if_pos c4] at H
     have c4b0 : decide (0 <= x8_1) = true := decide_eq_true c4
     clear c4
     by_cases c5 : x8_1 < (l0.length : Int)
     ·rw [if_pos c5] at H
      have c5b0 : decide (x8_1 < (l0.length : Int)) = true := decide_eq_true c5
      clear c5
      replace H := Option.bind_eq_some_iff.mp H
      obtain ⟨t175, A60, H⟩ := H
      replace H : (if t175 = true then (some x8_1) else (slices_IndexFunc_at117.l0 k1 l0 (l0.length : Int) (wrap64 (x8_1 + 1)))) = some r := H
      have A6 := A_ A60
      clear A60
      by_cases c7 : t175 = true
      ·subst c7
       have H1 : (some x8_1) = some r := by rw [if_pos rfl] at H; exact H
       clear H
       have H := H1
       clear H1
       obtain rfl := Option.some.inj H
       have p174 : 0 <= (x8_1 : Int) := of_decide_eq_true as_
       have q174 : x8_1 < (l0.length : Int) := of_decide_eq_true as_
       obtain ⟨ad174, e174, hx174_0⟩ := Kd.at_string HR0.out x8_1 p174 q174
       cases e174
       replace p174 := eq_true p174
       replace q174 := eq_true q174
       go_wp2_with (first | ((with_reducible refine Go.Proofs.Ytoddejmlcnbdmaa.Gen.gateV rfl ?_); refine Go.Proofs.Ytoddejmlcnbdmaa.Gen.goesV_ (some 16) rfl rfl Try.func117 (by kernel_rfl) rfl #[.string (rdOf ByteArray.empty l0 x8_1)] rfl (ag_) ?_; (with_reducible refine (impl_arePairs_1.calls (rdOf ByteArray.empty l0 x8_1) true _ A6.out).mono ?_); rintro e w' ⟨rfl, ⟨nd, rfl⟩⟩; refine ⟨_, rfl, ?_⟩))
       go_ret
       exact ⟨by first | rfl | (simp; done) | (simp [*]; done), by repeat (first | exact Drawn0.refl _ | apply Drawn0.step)⟩
      ·replace c7 := Bool.eq_false_iff.mpr c7
       subst c7
       have H1 : (slices_IndexFunc_at117.l0 k1 l0 (l0.length : Int) (wrap64 (x8_1 + 1))) = some r := by rw [if_neg (show ¬ (false = true) by decide)] at H; exact H
       clear H
       have H := H1
       clear H1
       have H' := A_ H
       clear H
       have p174 : 0 <= (x8_1 : Int) := of_decide_eq_true as_
       have q174 : x8_1 < (l0.length : Int) := of_decide_eq_true as_
       obtain ⟨ad174, e174, hx174_0⟩ := Kd.at_string HR0.out x8_1 p174 q174
       cases e174
       replace p174 := eq_true p174
       replace q174 := eq_true q174
       go_wp2_with (first | ((with_reducible refine Go.Proofs.Ytoddejmlcnbdmaa.Gen.gateV rfl ?_); refine Go.Proofs.Ytoddejmlcnbdmaa.Gen.goesV_ (some 16) rfl rfl Try.func117 (by kernel_rfl) rfl #[.string (rdOf ByteArray.empty l0 x8_1)] rfl (ag_) ?_; (with_reducible refine (impl_arePairs_1.calls (rdOf ByteArray.empty l0 x8_1) false _ A6.out).mono ?_); rintro e w' ⟨rfl, ⟨nd, rfl⟩⟩; refine ⟨_, rfl, ?_⟩))
       go_roundg k1
       case measure => have := HK1.out; omega
       case rel => exact ⟨(wrap64 (x8_1 + 1)), (by first | rfl | (simp; done) | (simp [*]; done)), H', ⟨by have := HK1.out; omega⟩, by repeat (first | exact Drawn0.refl _ | apply Drawn0.step)⟩
     ·rw [if_neg c5] at H
      exact absurd H (by simp)
    ·rw [if_neg c4] at H
     exact absurd H (by simp)
   ·rw [if_neg c3] at H
    have c3b0 : decide (x8_1 < (l0.length : Int)) = false := decide_eq_false c3
    clear c3
    obtain rfl := Option.some.inj H
    go_wp2
    go_ret
    exact ⟨by first | rfl | (simp; done) | (simp [*]; done), by repeat (first | exact Drawn0.refl _ | apply Drawn0.step)⟩
def slices_ContainsFunc_at117.f (k : Nat) (l0 : List ByteArray)  : Option (Bool) := (slices_IndexFunc_at117.f k l0).bind fun t176 => (some (decide (t176 ≥ 0)))
theorem slices_ContainsFunc_at117.mono : ∀ a0 k, LeO (slices_ContainsFunc_at117.f k a0) (slices_ContainsFunc_at117.f (k + 1) a0) := by
 intro a0 k
 unfold slices_ContainsFunc_at117.f
 repeat' (with_reducible first | exact slices_IndexFunc_at117.mono _ _ | exact LeO.refl _ | exact LeO.none _ | refine LeO.ite ?_ ?_ | refine LeO.bind ?_ (fun _ => ?_))
theorem slices_ContainsFunc_at117.calls (k : Nat) (A0 : Option Addr) (c0 : Nat) (l0 : List ByteArray)  (r : Bool) (w : World) (hr0 : Kd.C Kd.string w A0 l0.length l0) (hc0 : l0.length <= c0) (h : slices_ContainsFunc_at117.f k l0 = some r) :
  Calls Try.prog 116 #[.slice A0 l0.length c0, .func (.func 117) #[] #[]] w fun e w' => e = .returned (.bool r) /\ Drawn0 w w' := by
 have HR0 := A_ hr0
 have HC0 := A_ hc0
 clear hr0 hc0
 have H : ((slices_IndexFunc_at117.f k l0).bind fun t176 => (some (decide (t176 ≥ 0)))) = some r := h
 clear h
 replace H := Option.bind_eq_some_iff.mp H
 obtain ⟨t176, A30, H⟩ := H
 replace H : (some (decide (t176 ≥ 0))) = some r := H
 have A3 := A_ A30
 clear A30
 obtain rfl := Option.some.inj H
 go_enter Try.func116, Try.ntmps116
 go_wp2_with (first | ((with_reducible refine gate_callee (f := 134) rfl ?_); refine goesL_ (some 7) rfl rfl Try.func134 (by kernel_rfl) rfl #[.slice A0 l0.length c0, .func (.func 117) #[] #[]] rfl (ag_) ?_; (with_reducible refine (slices_IndexFunc_at117.calls k _ _ l0  t176 _ ?side1 ?side2 A3.out).mono ?_); (case side1 => refine cd_ ?_; exact HR0.out); (case side2 => exact HC0.out); rintro e w' ⟨rfl, ⟨nd, rfl⟩⟩; refine ⟨_, rfl, ?_⟩))
 go_ret
 exact ⟨by first | rfl | (simp; done) | (simp [*]; done), by repeat (first | exact Drawn0.refl _ | apply Drawn0.step)⟩
def impl_arePairs.f (k : Nat) (l0 : List ByteArray) (l1 : List ByteArray) : Option (Bool) := if (l0.length : Int) <= 40 then (if (l0.length : Int) = (l1.length : Int) then ((impl_areRising.f k l0).bind fun t177 => (if t177 = true then ((slices_ContainsFunc_at117.f k l1).bind fun t178 => (some (!t178))) else (some false))) else (some false)) else (some false)
theorem impl_arePairs.mono : ∀ a0 a1 k, LeO (impl_arePairs.f k a0 a1) (impl_arePairs.f (k + 1) a0 a1) := by
 intro a0 a1 k
 unfold impl_arePairs.f
 repeat' (with_reducible first | exact impl_areRising.mono _ _ | exact slices_ContainsFunc_at117.mono _ _ | exact LeO.refl _ | exact LeO.none _ | refine LeO.ite ?_ ?_ | refine LeO.bind ?_ (fun _ => ?_))
theorem impl_arePairs.calls (k : Nat) (A0 : Option Addr) (c0 : Nat) (l0 : List ByteArray) (A1 : Option Addr) (c1 : Nat) (l1 : List ByteArray) (r : Bool) (w : World) (hr0 : Kd.C Kd.string w A0 l0.length l0) (hc0 : l0.length <= c0) (hr1 : Kd.C Kd.string w A1 l1.length l1) (hc1 : l1.length <= c1) (h : impl_arePairs.f k l0 l1 = some r) :
  Calls Try.prog 86 #[.slice A0 l0.length c0, .slice A1 l1.length c1] w fun e w' => e = .returned (.bool r) /\ Drawn0 w w' := by
 have HR0 := A_ hr0
 have HC0 := A_ hc0
 clear hr0 hc0
 have HR1 := A_ hr1
 have HC1 := A_ hc1
 clear hr1 hc1
 have H : (if (l0.length : Int) <= 40 then (if (l0.length : Int) = (l1.length : Int) then ((impl_areRising.f k l0).bind fun t177 => (if t177 = true then ((slices_ContainsFunc_at117.f k l1).bind fun t178 => (some (!t178))) else (some false))) else (some false)) else (some false)) = some r := h
 clear h
 by_cases c3 : (l0.length : Int) <= 40
 ·rw [if_pos c3] at H
  have c3b0 : decide ((l0.length : Int) <= 40) = true := decide_eq_true c3
  have c3b1 : decide (l0.length <= 40) = true := decide_eq_true (by omega)
  clear c3
  by_cases c4 : (l0.length : Int) = (l1.length : Int)
  ·rw [if_pos c4] at H
   have c4b0 : ((l0.length : Int) == (l1.length : Int)) = true := beq_iff_eq.mpr c4
   have c4b1 : ((l0.length : Int) != (l1.length : Int)) = false := bne_eq_false_iff_eq.mpr c4
   have c4b2 : (l0.length == l1.length) = true := by first | simpa using c4 | (simp at c4 ⊢; omega)
   clear c4
   replace H := Option.bind_eq_some_iff.mp H
   obtain ⟨t177, A50, H⟩ := H
   replace H : (if t177 = true then ((slices_ContainsFunc_at117.f k l1).bind fun t178 => (some (!t178))) else (some false)) = some r := H
   have A5 := A_ A50
   clear A50
   by_cases c6 : t177 = true
   ·subst c6
    have H1 : ((slices_ContainsFunc_at117.f k l1).bind fun t178 => (some (!t178))) = some r := by rw [if_pos rfl] at H; exact H
    clear H
    have H := H1
    clear H1
    replace H := Option.bind_eq_some_iff.mp H
    obtain ⟨t178, A70, H⟩ := H
    replace H : (some (!t178)) = some r := H
    have A7 := A_ A70
    clear A70
    obtain rfl := Option.some.inj H
    go_enter Try.func86, Try.ntmps86
    go_wp2_with (first | (go_at_call 115; (with_reducible refine (impl_areRising.calls k _ _ l0 true _ ?side1 ?side2 A5.out).mono ?_); (case side1 => refine cd_ ?_; exact HR0.out); (case side2 => exact HC0.out); rintro e w' ⟨rfl, ⟨nd, rfl⟩⟩) | (go_at_call 116; (with_reducible refine (slices_ContainsFunc_at117.calls k _ _ l1  t178 _ ?side1 ?side2 A7.out).mono ?_); (case side1 => refine cd_ ?_; exact HR1.out); (case side2 => exact HC1.out); rintro e w' ⟨rfl, ⟨nd, rfl⟩⟩))
    go_ret
    exact ⟨by first | rfl | (simp; done) | (simp [*]; done), by repeat (first | exact Drawn0.refl _ | apply Drawn0.step)⟩
   ·replace c6 := Bool.eq_false_iff.mpr c6
    subst c6
    have H1 : (some false) = some r := by rw [if_neg (show ¬ (false = true) by decide)] at H; exact H
    clear H
    have H := H1
    clear H1
    obtain rfl := Option.some.inj H
    go_enter Try.func86, Try.ntmps86
    go_wp2_with (first | (go_at_call 115; (with_reducible refine (impl_areRising.calls k _ _ l0 false _ ?side1 ?side2 A5.out).mono ?_); (case side1 => refine cd_ ?_; exact HR0.out); (case side2 => exact HC0.out); rintro e w' ⟨rfl, ⟨nd, rfl⟩⟩))
    go_ret
    exact ⟨by first | rfl | (simp; done) | (simp [*]; done), by repeat (first | exact Drawn0.refl _ | apply Drawn0.step)⟩
  ·rw [if_neg c4] at H
   have c4b0 : ((l0.length : Int) == (l1.length : Int)) = false := beq_eq_false_iff_ne.mpr c4
   have c4b1 : ((l0.length : Int) != (l1.length : Int)) = true := bne_iff_ne.mpr c4
   have c4b2 : (l0.length == l1.length) = false := by first | simpa using c4 | (simp at c4 ⊢; omega)
   obtain rfl := Option.some.inj H
   go_enter Try.func86, Try.ntmps86
   go_wp2
   go_ret
   exact ⟨by first | rfl | (simp; done) | (simp [*]; done), by repeat (first | exact Drawn0.refl _ | apply Drawn0.step)⟩
 ·rw [if_neg c3] at H
  have c3b0 : decide ((l0.length : Int) <= 40) = false := decide_eq_false c3
  have c3b1 : decide (l0.length <= 40) = false := decide_eq_false (by omega)
  clear c3
  obtain rfl := Option.some.inj H
  go_enter Try.func86, Try.ntmps86
  go_wp2
  go_ret
  exact ⟨by first | rfl | (simp; done) | (simp [*]; done), by repeat (first | exact Drawn0.refl _ | apply Drawn0.step)⟩
end Go.Proofs.Ytoddejmlcnbdmaa.Fn
namespace Go.Proofs.Ytoddejmlcnbdmaa.Tree
open Go.Proofs.Ytoddejmlcnbdmaa.Fn
def pairS (k v : ByteArray) : Bool := (spec_l5Pair.f k v).getD false
theorem pairS_f (k v : ByteArray) : spec_l5Pair.f k v = some (pairS k v) := by
 unfold pairS spec_l5Pair.f spec_l5Text.f
 simp only [Option.bind_some]
 split
 ·split <;> rfl
 ·rfl
def prevOk : Option ByteArray -> ByteArray -> Bool
 | none, _ => true
 | some p, k => ltB p k
def chkS : List ByteArray -> List ByteArray -> Option ByteArray -> Bool
 | [], _, _ => true
 | k :: ks, vs, prev => pairS k (vs.headD ByteArray.empty) && prevOk prev k && chkS ks (vs.drop 1) (some k)
def prevAt (keys : List ByteArray) : Nat -> Option ByteArray
 | 0 => none
 | j + 1 => keys[j]?
theorem chk_on {keys vals : List ByteArray} {i : Nat} {k v : ByteArray} {B : Bool} (h : B = chkS (keys.drop i) (vals.drop i) (prevAt keys i)) (hk : keys[i]? = some k) (hv : vals[i]? = some v) (hp : pairS k v = true) (ho : ∀ p, prevAt keys i = some p -> ltB p k = true) :
  B = chkS (keys.drop (i + 1)) (vals.drop (i + 1)) (prevAt keys (i + 1)) := by
 rw [drop_of hk, drop_of hv, chkS, List.headD_cons, hp, List.drop_succ_cons, List.drop_zero, Bool.true_and] at h
 rw [h]
 show _ = chkS _ _ (keys[i]?)
 rw [hk]
 cases hpr : prevAt keys i with
 | none => rfl
 | some p => simp only [prevOk, ho p hpr, Bool.true_and]
theorem chk_off1 {keys vals : List ByteArray} {i : Nat} {k v : ByteArray} {B : Bool} (h : B = chkS (keys.drop i) (vals.drop i) (prevAt keys i)) (hk : keys[i]? = some k) (hv : vals[i]? = some v) (hp : pairS k v = false) : B = false := by
 rw [drop_of hk, drop_of hv, chkS, List.headD_cons, hp, Bool.false_and, Bool.false_and] at h
 exact h
theorem chk_off2 {keys vals : List ByteArray} {i : Nat} {k p : ByteArray} {B : Bool} (h : B = chkS (keys.drop i) (vals.drop i) (prevAt keys i)) (hk : keys[i]? = some k) (hpr : prevAt keys i = some p) (ho : ltB p k = false) : B = false := by
 rw [drop_of hk, chkS, hpr] at h
 rw [h]
 simp only [prevOk, ho, Bool.and_false, Bool.false_and]
theorem chk_end {keys vals : List ByteArray} {i : Nat} {B : Bool} (h : B = chkS (keys.drop i) (vals.drop i) (prevAt keys i)) (hi : keys.length <= i) : B = true := by
 rw [List.drop_eq_nil_of_le hi, chkS] at h
 exact h
def ofS (P : List S110) : Option PT := match readS P 10 0 with
 | none => none
 | some r => if r.2 ≠ P.length then none else if chkS (allK r.1) (allV r.1) none = false then none else if evenS r.1 < 0 ∨ (r.1.kids.length ≠ 0 /\ r.1.keys.length = 0) ∨ 40 < (allK r.1).length then none else some r.1
def rootI (k : Nat) (P : List S110) : Option (Option PT) := match readS P (P.length + 1) 0 with
 | none => some none
 | some r => if r.2 ≠ P.length then some none else if (depthP r.1).2 = false then some none else (impl_arePairs.f k (allK r.1) (allV r.1)).bind fun b => some (if b = true then some r.1 else none)
theorem weave_le {α : Type} : ∀ (cs : List (List α)) (ks : List α), (weave cs ks).length <= (cs.map List.length).sum + ks.length
 | [], ks => by simp [weave]
 | c :: cs, [] => by simp [weave]
 | c :: cs, k :: ks => by
  have := weave_le cs ks
  simp only [weave, List.length_append, List.length_cons, List.map_cons, List.sum_cons]
  omega
structure Fits (t : PT) (m : Nat) : Prop where
 shp : Shp t
 four : t.keys.length <= 4
 k : (allK t).length <= 4 * m
 v : (allV t).length <= 4 * m
theorem readK_fits {rd : Nat -> Option (PT × Nat)} (hrd : ∀ a t n, rd a = some (t, n) -> a < n /\ Fits t (n - a)) : ∀ (l : List Int) (next : Nat) (acc ts : List PT) (n s : Nat),
  (∀ t ∈ acc, Shp t) -> ((acc.map allK).map List.length).sum <= 4 * s -> ((acc.map allV).map List.length).sum <= 4 * s -> readK rd l next acc = some (ts, n) ->
  next <= n /\ ts.length = acc.length + l.length /\ (∀ t ∈ ts, Shp t) /\ ((ts.map allK).map List.length).sum <= 4 * (s + (n - next)) /\ ((ts.map allV).map List.length).sum <= 4 * (s + (n - next))
 | [], next, acc, ts, n, s, h1, h2, h3, h => by
  rw [readK] at h
  injection h with h
  injection h with e1 e2
  subst e1; subst e2
  refine ⟨Nat.le_refl _, by simp, h1, by omega, by omega⟩
 | k :: ks, next, acc, ts, n, s, h1, h2, h3, h => by
  rw [readK] at h
  split at h
  ·cases h
  ·cases hr : rd next with
   | none => rw [hr] at h; cases h
   | some r =>
    rw [hr] at h
    obtain ⟨t, m⟩ := r
    obtain ⟨hlt, hf⟩ := hrd next t m hr
    have hk := hf.k
    have hv := hf.v
    have := readK_fits hrd ks m (acc ++ [t]) ts n (s + (m - next)) (fun x hx => by
     rcases List.mem_append.1 hx with hx | hx
     ·exact h1 x hx
     ·rw [List.mem_singleton.1 hx]; exact hf.shp) (by simp only [List.map_append, List.map_cons, List.map_nil, List.sum_append, List.sum_cons, List.sum_nil]; omega) (by simp only [List.map_append, List.map_cons, List.map_nil, List.sum_append, List.sum_cons, List.sum_nil]; omega) h
    obtain ⟨g1, g2, g3, g4, g5⟩ := this
    rw [List.length_append] at g2
    simp only [List.length_cons, List.length_nil] at g2 ⊢
    exact ⟨by omega, by omega, g3, by omega, by omega⟩
theorem readS_fits {P : List S110} : ∀ (f a : Nat) (t : PT) (n : Nat), readS P f a = some (t, n) -> a < n /\ Fits t (n - a)
 | 0, a, t, n, h => by cases h
 | f + 1, a, t, n, h => by
  rw [readS] at h
  split at h
  ·cases h
  ·split at h
   ·cases h
   ·rename_i hl hb
    generalize P.getD a z110 = p at h hb
    unfold fin at h
    obtain ⟨r, hr, e⟩ := Option.map_eq_some_iff.1 h
    obtain ⟨ts, m⟩ := r
    injection e with e1 e2
    have e2 : m = n := e2
    subst e2
    have := readK_fits (fun a t n h => readS_fits f a t n h) p.f2 (a + 1) [] ts m 0 (fun t h => by cases h) (by simp) (by simp) hr
    obtain ⟨g1, g2, g3, g4, g5⟩ := this
    have hb' : badP p = false := by cases hbb : badP p <;> simp_all
    unfold badP at hb'
    simp only [Bool.or_eq_false_iff, Bool.and_eq_false_iff, decide_eq_false_iff_not, bne_eq_false_iff_eq] at hb'
    have e1 : PT.mk p.f0 p.f1 ts = t := e1
    subst e1
    simp only [List.length_nil] at g2
    have s1 : Shp1 (.mk p.f0 p.f1 ts) := by
     unfold Shp1
     simp only [PT.keys, PT.vals, PT.kids]
     omega
    refine ⟨by omega, Shp.mk' s1 (fun i s hs => g3 s (List.mem_of_getElem? hs)), by show p.f0.length <= 4; omega, ?_, ?_⟩
    ·rw [allK_eq]
     have := weave_le (ts.map allK) p.f0
     show (weave (ts.map allK) p.f0).length <= _
     omega
    ·rw [allV_eq]
     have := weave_le (ts.map allV) p.f1
     show (weave (ts.map allV) p.f1).length <= _
     omega
theorem weave_len {α β : Type} : ∀ (cs : List (List α)) (ds : List (List β)) (ks : List α) (vs : List β), cs.map List.length = ds.map List.length -> ks.length = vs.length -> (weave cs ks).length = (weave ds vs).length
 | [], [], ks, vs, _, h => by simpa [weave] using h
 | [], d :: ds, ks, vs, h, _ => by simp at h
 | c :: cs, [], ks, vs, h, _ => by simp at h
 | c :: cs, d :: ds, [], [], h, _ => by simp at h; simp [weave, h.1]
 | c :: cs, d :: ds, [], v :: vs, _, h => by simp at h
 | c :: cs, d :: ds, k :: ks, [], _, h => by simp at h
 | c :: cs, d :: ds, k :: ks, v :: vs, h1, h2 => by
  simp only [List.map_cons, List.cons.injEq] at h1
  have := weave_len cs ds ks vs h1.2 (by simpa using h2)
  simp only [weave, List.length_append, List.length_cons]
  omega
theorem allV_len_ : ∀ (n : Nat) {t : PT}, SizeOf.sizeOf t <= n -> Shp t -> (allV t).length = (allK t).length
 | 0, t, h, _ => by cases t; simp at h
 | n + 1, t, h, hs => by
  have h1 := hs.one
  unfold Shp1 at h1
  rw [allV_eq, allK_eq]
  refine weave_len _ _ _ _ ?_ h1.1.symm
  rw [List.map_map, List.map_map]
  refine List.map_congr_left fun s hm => ?_
  obtain ⟨i, hi⟩ := List.getElem?_of_mem hm
  have := PT.size_kid hi
  exact allV_len_ n (by omega) (hs.kid hi)
theorem allV_len {t : PT} (h : Shp t) : (allV t).length = (allK t).length := allV_len_ _ (Nat.le_refl _) h
theorem q9054_0 {p0 q : Prop} (h0 : p0) (h : p0 -> q := by intro q0_; repeat (first | exact q0_ | (with_reducible refine Rd.drewN ?_ _) | (with_reducible refine Rd.drew ?_))) : q := h h0
set_option maxHeartbeats 8000000
set_option maxRecDepth 100000
theorem Shp.few_ {t : PT} (h : Shp t) : Few t := Shp.few (n := SizeOf.sizeOf t) (Nat.le_refl _) h
def OfR (T E : Nat) (w : World) (r : Option PT) (e : Ending) (w' : World) : Prop :=
 Below w.heap.size w w' /\ ((r = none /\ e = .returned (.tuple #[.pointer none, .bool false])) ∨
  ∃ nt : NT, r = some nt.erase /\ e = .returned (.tuple #[ptrv nt.p, .bool true]) /\ Sat w' w.heap.size (nt.cks T E))
theorem neNil (v : Value) : NeRow (.slice none 0 0) v := fun k hk => by cases hk
theorem spec_all.calls0 (t : PT) (hs : Shp t) {p : Nat} (w : World) (h : Rd 96 w p t) (hb1 : (allK t).length <= 8796093022208) (hb2 : (allV t).length <= 8796093022208) : Calls Try.prog 65 #[ptrv p, .slice none 0 0, .slice none 0 0] w (AllR w (allK t) (allV t)) :=
 spec_all.calls _ t (Nat.le_refl _) hs w w (.slice none 0 0) (.slice none 0 0) [] [] h (Below.refl _ _) (SR.nil _ _) (SR.nil _ _) (neNil _) hb1 hb2
theorem spec_l5Read.calls0 (P : List S110) (hN : P.length <= 1000000000000) (A : Option Addr) (c : Nat) (w : World) (hp : Kd.C k110 w A P.length P) (hm : ∀ p ∈ P, p.f0.length <= 1000000000000 /\ p.f1.length <= 1000000000000 /\ p.f2.length <= 1000000000000) :
  Calls Try.prog 95 #[.agg #[.slice A P.length c], .int .i64 0, .int .i64 1] w (ReadR 96 70 w (readS P 10 0)) :=
 spec_l5Read.calls P hN 10 1 (by omega) (by omega) 0 A c w hp hm (Nat.zero_le _)
theorem spec_l5Of.calls (P : List S110) (hN : P.length <= 1000000000000) (A : Option Addr) (c : Nat) (w : World) (hp : Kd.C k110 w A P.length P) (hm : ∀ p ∈ P, p.f0.length <= 1000000000000 /\ p.f1.length <= 1000000000000 /\ p.f2.length <= 1000000000000) :
  Calls Try.prog 57 #[.agg #[.slice A P.length c]] w (OfR 96 70 w (ofS P)) := by
 have HP := A_ hp
 have HM := A_ hm
 have HNP := A_ hN
 have hNl : P.length <= 1000000000000 := hN
 obtain ⟨R, hR⟩ : ∃ R, R = ofS P := ⟨_, rfl⟩
 rw [<- hR]
 unfold ofS at hR
 cases hrs : readS P 10 0 with
 | none =>
  rw [hrs] at hR
  have HE := A_ hR
  have HRS := A_ hrs
  have tn : ((-1 : Int) != (P.length : Int)) = true := by rw [bne_iff_ne]; omega
  clear hp hm hN hR hrs
  go_enter Try.func57, Try.ntmps57
  go_wp2_with (first | ((with_reducible refine gate_dst (N := 1) rfl ?_); refine box_event ?hg (N := 1) ?hd (cs := #[.slice A P.length c]) (t := 29) ?hr ?_; (case hd => rfl); (case hg => rfl); (case hr => first | (go_simp; done) | (go_simp; rfl)); intro b3 hg w1 hbox hb; have HBX := A_ hbox; have HB := A_ hb; have hz3 : w1.cell? ⟨b3, 0, none⟩ = some (.slice A P.length c) := (blk_cell hbox 0).trans rfl; clear hg hbox hb) | (go_at_call 95; (with_reducible refine (spec_l5Read.calls0 P HNP.out A c _ (Kd.C_below HP.out HB.out) HM.out).mono ?_); rintro e w2 ⟨hb, hr⟩; rw [HRS.out] at hr; obtain ⟨-, rfl⟩ := hr.resolve_right (by rintro ⟨_, _, h, _⟩; cases h); have hz3b : w2.cell? ⟨b3, 0, none⟩ = some (.slice A P.length c) := (blk_cell (blk_below HBX.out hb) 0).trans rfl; have n1_ := A_ (below_step HB.out hb); clear HB; have HB := n1_; clear n1_ hb hr))
  go_ret2
  exact ⟨HB.out, .inl ⟨HE.out, rfl⟩⟩
 | some tn =>
  obtain ⟨t, n⟩ := tn
  rw [hrs] at hR
  simp only at hR
  have HRS := A_ hrs
  have HFT := A_ (readS_fits 10 0 t n hrs).2
  have HLE := A_ (readS_le 10 0 t n hrs)
  have hn0 : decide ((n : Int) < 0) = false := decide_eq_false (by omega)
  by_cases hn : n = P.length
  ·rw [if_neg (by simp [hn])] at hR
   have tn1 : ((n : Int) != (P.length : Int)) = false := ne_f hn
   have tn2 : (n != P.length) = false := nen_f hn
   have HZ1 := A_ (show (allK t).length <= 8796093022208 by have := HFT.out.k; omega)
   have HZ2 := A_ (show (allV t).length <= 8796093022208 by have := HFT.out.v; omega)
   have HKB := A_ (show (allK t).length <= 4000000000000 by have := HFT.out.k; omega)
   have HRR := A_ hR
   clear hp hm hN hR hrs hn
   go_enter Try.func57, Try.ntmps57
   go_upto_region 6 with (first | ((with_reducible refine gate_dst (N := 1) rfl ?_); refine box_event ?hg (N := 1) ?hd (cs := #[.slice A P.length c]) (t := 29) ?hr ?_; (case hd => rfl); (case hg => rfl); (case hr => first | (go_simp; done) | (go_simp; rfl)); intro b3 hg w1 hbox hb; have HBX := A_ hbox; have HB := A_ hb; have hz3 : w1.cell? ⟨b3, 0, none⟩ = some (.slice A P.length c) := (blk_cell hbox 0).trans rfl; clear hg hbox hb) | (go_at_call 95; (with_reducible refine (spec_l5Read.calls0 P HNP.out A c _ (Kd.C_below HP.out HB.out) HM.out).mono ?_); rintro e w2 ⟨hb, hr⟩; rw [HRS.out] at hr; obtain ⟨nt, n9, h9, rfl, hs⟩ := hr.resolve_left (by rintro ⟨h, _⟩; cases h); injection h9 with h9; injection h9 with h9 h8; subst h9; subst h8; have hz3b : w2.cell? ⟨b3, 0, none⟩ = some (.slice A P.length c) := (blk_cell (blk_below HBX.out hb) 0).trans rfl; have HS2 := A_ (hs.lower HB.out.size); have n1_ := A_ (below_step HB.out hb); clear HB; have HB := n1_; clear n1_ hb hr hs) | (go_at_call 65; (with_reducible refine (spec_all.calls0 nt.erase HFT.out.shp w2 (rd_of HS2.out) HZ1.out HZ2.out).mono ?_); rintro e w3 ⟨u1, u2, rfl, ho1, ho2, hne, hb⟩; obtain ⟨B1, d1, rfl, hl1, hc1⟩ := Kd.R_reads ho1; obtain ⟨B2, d2, rfl, hl2, hc2⟩ := Kd.R_reads ho2; have HC1 := A_ hc1; have HC2 := A_ hc2; have n1_ := A_ (below_step HB.out hb); have HR3 := A_ ((rd_of HS2.out).under hb); have HS3 := A_ (HS2.out.under hb); clear HB; have HB := n1_; clear n1_ hb ho1 ho2 hne hl1 hl2 hc1 hc2 HS2))
   have hkb : (allK nt.erase).length <= 4000000000000 := HKB.out
   obtain ⟨B, hB⟩ : ∃ B, B = chkS (allK nt.erase) (allV nt.erase) none := ⟨_, rfl⟩
   have HBB := A_ hB
   have HVK := A_ (allV_len HFT.out.shp)
   have HCH := A_ (show B = chkS ((allK nt.erase).drop 0) ((allV nt.erase).drop 0) (prevAt (allK nt.erase) 0) from hB)
   clear hz3 hz3b hB
   go_loopg [31] (allK nt.erase).length (fun kq u31 w' => ∃ (i m : Nat), u31 = .int .i64 (i : Int) /\ Aside0 (i <= (allK nt.erase).length /\ kq + i = (allK nt.erase).length) /\ Aside0 (B = chkS ((allK nt.erase).drop i) ((allV nt.erase).drop i) (prevAt (allK nt.erase) i)) /\ w' = w3.drewN m)
   case atStart => exact ⟨0, 0, by first | rfl | (simp; done), ⟨by omega⟩, HCH, rfl⟩
   case round =>
    clear HCH
    obtain ⟨i, m, rfl, HK, HCH, rfl⟩ := hrel
    have ci : (0 <= (i : Int)) = True := eq_true (by omega)
    by_cases hi : i < (allK nt.erase).length
    ·have ce : decide ((i : Int) < ((allK nt.erase).length : Int)) = true := decide_eq_true (by omega)
     have ceb : (i < (allK nt.erase).length) = True := eq_true hi
     have hil : i < 4000000000000 := by omega
     have hiv : i < (allV nt.erase).length := by rw [HVK.out]; exact hi
     have cva : ((i : Int) < ((allV nt.erase).length : Int)) = True := eq_true (by omega)
     have cvb : (i < (allV nt.erase).length) = True := eq_true hiv
     have HI := A_ hi
     obtain ⟨adk, hA1, hk0⟩ := Kd.at_string HC1.out (i : Int) (by omega) (by omega)
     obtain ⟨adv, hA2, hv0⟩ := Kd.at_string HC2.out (i : Int) (by omega) (by omega)
     subst hA1
     subst hA2
     rw [Int.toNat_natCast] at hk0 hv0
     have hks : (allK nt.erase)[i]? = some (rdOf ByteArray.empty (allK nt.erase) (i : Int)) := by unfold rdOf; rw [Int.toNat_natCast, List.getD_eq_getElem?_getD, List.getElem?_eq_getElem hi]; rfl
     have hvs : (allV nt.erase)[i]? = some (rdOf ByteArray.empty (allV nt.erase) (i : Int)) := by unfold rdOf; rw [Int.toNat_natCast, List.getD_eq_getElem?_getD, List.getElem?_eq_getElem hiv]; rfl
     generalize rdOf ByteArray.empty (allK nt.erase) (i : Int) = kx at hk0 hks
     generalize rdOf ByteArray.empty (allV nt.erase) (i : Int) = vx at hv0 hvs
     have HKS := A_ hks
     have HVS := A_ hvs
     clear hks hvs hi hiv
     cases hpr : pairS kx vx with
     | false =>
      have HPR := A_ ((pairS_f kx vx).trans (by rw [hpr]))
      have hbf := chk_off1 HCH.out HKS.out HVS.out hpr
      have HE := A_ (show R = none by have := HRR.out; rw [if_pos (by rw [<- HBB.out]; exact hbf)] at this; exact this)
      clear hpr hbf
      go_wp2_with (go_at_call 75; (with_reducible refine (spec_l5Pair.calls kx vx false _ HPR.out).mono ?_); rintro e w' ⟨rfl, ⟨nd, rfl⟩⟩)
      go_ret2
      exact ⟨pw_below_drewN HB.out _, .inl ⟨HE.out, rfl⟩⟩
     | true =>
      have HPR := A_ ((pairS_f kx vx).trans (by rw [hpr]))
      have HPRT := A_ hpr
      clear hpr
      by_cases hi0 : 0 < i
      ·have t0 : decide (0 < (i : Int)) = true := decide_eq_true (by omega)
       have t0b : (0 < i) = True := eq_true hi0
       obtain ⟨ji, hji⟩ : ∃ j : Int, j = (i : Int) - 1 := ⟨_, rfl⟩
       have hjw : IntKind.i64.wrap ((i : Int) - 1) = ji := by rw [IntWalk.i64_in _ (by omega)]; exact hji.symm
       obtain ⟨adp, hA3, hp0⟩ := Kd.at_string HC1.out ji (by omega) (by have := HI.out; omega)
       obtain rfl : adk = adp := Option.some.inj hA3
       have hps : prevAt (allK nt.erase) i = some (rdOf ByteArray.empty (allK nt.erase) ji) := by
        obtain ⟨j, rfl⟩ : ∃ j, i = j + 1 := ⟨i - 1, by omega⟩
        have e : ji.toNat = j := by omega
        show (allK nt.erase)[j]? = _
        unfold rdOf
        rw [e, List.getD_eq_getElem?_getD, List.getElem?_eq_getElem (by have := HI.out; omega)]
        rfl
       generalize rdOf ByteArray.empty (allK nt.erase) ji = px at hp0 hps
       have cj0 : (0 <= ji) = True := eq_true (by omega)
       have cj1 : (ji < ((allK nt.erase).length : Int)) = True := eq_true (by have := HI.out; omega)
       have cj2 : decide (0 <= ji) = true := decide_eq_true (by omega)
       have cj3 : decide (ji < ((allK nt.erase).length : Int)) = true := decide_eq_true (by have := HI.out; omega)
       have HPS := A_ hps
       clear hps hi0 hji
       cases hlt : ltB px kx with
       | true =>
        have HC' := A_ (chk_on HCH.out HKS.out HVS.out HPRT.out (fun p hp => by rw [HPS.out] at hp; injection hp with hp; rw [<- hp]; exact hlt))
        have hl' : Op.bytesLess px.toList kx.toList = true := hlt
        clear hlt
        go_wp2_with (go_at_call 75; (with_reducible refine (spec_l5Pair.calls kx vx true _ HPR.out).mono ?_); rintro e w' ⟨rfl, ⟨nd, rfl⟩⟩)
        go_roundg ((allK nt.erase).length - (i + 1))
        case measure => have := HK.out; have := HI.out; omega
        case rel => exact ⟨i + 1, _, by first | rfl | go_num | (simp; done), ⟨by have := HK.out; have := HI.out; omega⟩, HC', rfl⟩
       | false =>
        have hbf := chk_off2 HCH.out HKS.out HPS.out hlt
        have HE := A_ (show R = none by have := HRR.out; rw [if_pos (by rw [<- HBB.out]; exact hbf)] at this; exact this)
        have hl' : Op.bytesLess px.toList kx.toList = false := hlt
        clear hlt hbf
        go_wp2_with (go_at_call 75; (with_reducible refine (spec_l5Pair.calls kx vx true _ HPR.out).mono ?_); rintro e w' ⟨rfl, ⟨nd, rfl⟩⟩)
        go_ret2
        exact ⟨pw_below_drewN HB.out _, .inl ⟨HE.out, rfl⟩⟩
      ·have t0 : decide (0 < (i : Int)) = false := decide_eq_false (by omega)
       have t0b : (0 < i) = False := eq_false hi0
       have HC' := A_ (chk_on HCH.out HKS.out HVS.out HPRT.out (fun p hp => by have h_ : i = 0 := (by omega); rw [h_] at hp; cases hp))
       clear hi0
       go_wp2_with (go_at_call 75; (with_reducible refine (spec_l5Pair.calls kx vx true _ HPR.out).mono ?_); rintro e w' ⟨rfl, ⟨nd, rfl⟩⟩)
       go_roundg ((allK nt.erase).length - (i + 1))
       case measure => have := HK.out; have := HI.out; omega
       case rel => exact ⟨i + 1, _, by first | rfl | go_num | (simp; done), ⟨by have := HK.out; have := HI.out; omega⟩, HC', rfl⟩
    ·have ce : decide ((i : Int) < ((allK nt.erase).length : Int)) = false := decide_eq_false (by omega)
     have ceb : (i < (allK nt.erase).length) = False := eq_false hi
     have hbt := chk_end HCH.out (by omega)
     have hrr := HRR.out
     rw [if_neg (by rw [<- HBB.out, hbt]; decide)] at hrr
     obtain ⟨Ak, ck, Av, cv, Ac, cc, ps, HN3⟩ := HR3.out.open
     have hzn := HN3.z0
     clear hi hbt HN3
     by_cases h1 : evenS nt.erase < 0
     ·have HE := A_ (show R = none by rw [hrr, if_pos (.inl h1)])
      have t1 : decide (evenS nt.erase < 0) = true := decide_eq_true h1
      clear h1 hrr
      go_wp2_with (go_at_call 61; (with_reducible refine (spec_even.calls _ nt.erase (Nat.le_refl _) HFT.out.shp.few_ _ ?side1).mono ?_); (case side1 => exact q9054_0 HR3.out); rintro e w' ⟨rfl, ⟨nd, rfl⟩⟩)
      go_ret2
      exact ⟨pw_below_drewN HB.out _, .inl ⟨HE.out, rfl⟩⟩
     ·have t1 : decide (evenS nt.erase < 0) = false := decide_eq_false h1
      by_cases h2 : nt.erase.kids.length = 0
      ·have hbl := A_ (show decide ((nt.erase.kids.length : Int) = 0) = true from decide_eq_true (by omega))
       by_cases h4 : 40 < (allK nt.erase).length
       ·have HE := A_ (show R = none by rw [hrr, if_pos (.inr (.inr h4))])
        have t4 : decide (40 < ((allK nt.erase).length : Int)) = true := decide_eq_true (by omega)
        have t4b : (40 < (allK nt.erase).length) = True := eq_true h4
        clear h1 h2 h4 hrr
        go_wp2_with (first | (go_at_call 61; (with_reducible refine (spec_even.calls _ nt.erase (Nat.le_refl _) HFT.out.shp.few_ _ ?side1).mono ?_); (case side1 => exact q9054_0 HR3.out); rintro e w' ⟨rfl, ⟨nd, rfl⟩⟩) | (go_at_call 84; (with_reducible refine (spec_leaf.callsB true hbl.out _ ?side1).mono ?_); (case side1 => exact q9054_0 HR3.out); rintro e w' ⟨rfl, ⟨nd, rfl⟩⟩))
        go_ret2
        exact ⟨pw_below_drewN HB.out _, .inl ⟨HE.out, rfl⟩⟩
       ·have HE := A_ (show R = some nt.erase by rw [hrr, if_neg (by omega)])
        have t4 : decide (40 < ((allK nt.erase).length : Int)) = false := decide_eq_false (by omega)
        have t4b : (40 < (allK nt.erase).length) = False := eq_false h4
        clear h1 h2 h4 hrr
        go_wp2_with (first | (go_at_call 61; (with_reducible refine (spec_even.calls _ nt.erase (Nat.le_refl _) HFT.out.shp.few_ _ ?side1).mono ?_); (case side1 => exact q9054_0 HR3.out); rintro e w' ⟨rfl, ⟨nd, rfl⟩⟩) | (go_at_call 84; (with_reducible refine (spec_leaf.callsB true hbl.out _ ?side1).mono ?_); (case side1 => exact q9054_0 HR3.out); rintro e w' ⟨rfl, ⟨nd, rfl⟩⟩))
        go_ret2
        exact ⟨pw_below_drewN HB.out _, .inr ⟨nt, HE.out, rfl, (HS3.out.drewN _).lower (Nat.le_refl _)⟩⟩
      ·have hbl := A_ (show decide ((nt.erase.kids.length : Int) = 0) = false from decide_eq_false (by omega))
       by_cases h3 : nt.erase.keys.length = 0
       ·have HE := A_ (show R = none by rw [hrr, if_pos (.inr (.inl ⟨h2, h3⟩))])
        have t3 : ((nt.erase.keys.length : Int) == 0) = true := by rw [beq_iff_eq]; omega
        have t3b : ((nt.erase.keys.length : Int) = 0) = True := eq_true (by omega)
        have t3c : decide ((nt.erase.keys.length : Int) = 0) = true := decide_eq_true (by omega)
        clear h1 h2 h3 hrr
        go_wp2_with (first | (go_at_call 61; (with_reducible refine (spec_even.calls _ nt.erase (Nat.le_refl _) HFT.out.shp.few_ _ ?side1).mono ?_); (case side1 => exact q9054_0 HR3.out); rintro e w' ⟨rfl, ⟨nd, rfl⟩⟩) | (go_at_call 84; (with_reducible refine (spec_leaf.callsB false hbl.out _ ?side1).mono ?_); (case side1 => exact q9054_0 HR3.out); rintro e w' ⟨rfl, ⟨nd, rfl⟩⟩))
        go_ret2
        exact ⟨pw_below_drewN HB.out _, .inl ⟨HE.out, rfl⟩⟩
       ·have t3 : ((nt.erase.keys.length : Int) == 0) = false := by rw [beq_eq_false_iff_ne]; omega
        have t3c : decide ((nt.erase.keys.length : Int) = 0) = false := decide_eq_false (by omega)
        by_cases h4 : 40 < (allK nt.erase).length
        ·have HE := A_ (show R = none by rw [hrr, if_pos (.inr (.inr h4))])
         have t4 : decide (40 < ((allK nt.erase).length : Int)) = true := decide_eq_true (by omega)
         have t4b : (40 < (allK nt.erase).length) = True := eq_true h4
         clear h1 h2 h3 h4 hrr
         go_wp2_with (first | (go_at_call 61; (with_reducible refine (spec_even.calls _ nt.erase (Nat.le_refl _) HFT.out.shp.few_ _ ?side1).mono ?_); (case side1 => exact q9054_0 HR3.out); rintro e w' ⟨rfl, ⟨nd, rfl⟩⟩) | (go_at_call 84; (with_reducible refine (spec_leaf.callsB false hbl.out _ ?side1).mono ?_); (case side1 => exact q9054_0 HR3.out); rintro e w' ⟨rfl, ⟨nd, rfl⟩⟩))
         go_ret2
         exact ⟨pw_below_drewN HB.out _, .inl ⟨HE.out, rfl⟩⟩
        ·have HE := A_ (show R = some nt.erase by rw [hrr, if_neg (by omega)])
         have t4 : decide (40 < ((allK nt.erase).length : Int)) = false := decide_eq_false (by omega)
         have t4b : (40 < (allK nt.erase).length) = False := eq_false h4
         clear h1 h2 h3 h4 hrr
         go_wp2_with (first | (go_at_call 61; (with_reducible refine (spec_even.calls _ nt.erase (Nat.le_refl _) HFT.out.shp.few_ _ ?side1).mono ?_); (case side1 => exact q9054_0 HR3.out); rintro e w' ⟨rfl, ⟨nd, rfl⟩⟩) | (go_at_call 84; (with_reducible refine (spec_leaf.callsB false hbl.out _ ?side1).mono ?_); (case side1 => exact q9054_0 HR3.out); rintro e w' ⟨rfl, ⟨nd, rfl⟩⟩))
         go_ret2
         exact ⟨pw_below_drewN HB.out _, .inr ⟨nt, HE.out, rfl, (HS3.out.drewN _).lower (Nat.le_refl _)⟩⟩
  ·rw [if_pos (by simpa using hn)] at hR
   have HE := A_ hR
   have tn1 : ((n : Int) != (P.length : Int)) = true := ne_t hn
   have tn2 : (n != P.length) = true := nen_t hn
   clear hp hm hN hR hrs hn
   go_enter Try.func57, Try.ntmps57
   go_wp2_with (first | ((with_reducible refine gate_dst (N := 1) rfl ?_); refine box_event ?hg (N := 1) ?hd (cs := #[.slice A P.length c]) (t := 29) ?hr ?_; (case hd => rfl); (case hg => rfl); (case hr => first | (go_simp; done) | (go_simp; rfl)); intro b3 hg w1 hbox hb; have HBX := A_ hbox; have HB := A_ hb; have hz3 : w1.cell? ⟨b3, 0, none⟩ = some (.slice A P.length c) := (blk_cell hbox 0).trans rfl; clear hg hbox hb) | (go_at_call 95; (with_reducible refine (spec_l5Read.calls0 P HNP.out A c _ (Kd.C_below HP.out HB.out) HM.out).mono ?_); rintro e w2 ⟨hb, hr⟩; rw [HRS.out] at hr; obtain ⟨nt, n9, h9, rfl, hs⟩ := hr.resolve_left (by rintro ⟨h, _⟩; cases h); injection h9 with h9; injection h9 with h9 h8; subst h9; subst h8; have hz3b : w2.cell? ⟨b3, 0, none⟩ = some (.slice A P.length c) := (blk_cell (blk_below HBX.out hb) 0).trans rfl; have HS2 := A_ (hs.lower HB.out.size); have n1_ := A_ (below_step HB.out hb); clear HB; have HB := n1_; clear n1_ hb hr hs))
   go_ret2
   exact ⟨HB.out, .inl ⟨HE.out, rfl⟩⟩
theorem q9055_0 {p0 q : Prop} (h0 : p0) (h : p0 -> q := by intro q0_; repeat (first | exact q0_ | (with_reducible refine Rd.drewN ?_ _) | (with_reducible refine Rd.drew ?_))) : q := h h0
set_option maxHeartbeats 8000000
set_option maxRecDepth 100000
theorem impl_all.calls0 (t : PT) (hs : Shp t) {p : Nat} (w : World) (h : Rd 101 w p t) (hb1 : (allK t).length <= 8796093022208) (hb2 : (allV t).length <= 8796093022208) : Calls Try.prog 66 #[ptrv p, .slice none 0 0, .slice none 0 0] w (AllR w (allK t) (allV t)) :=
 impl_all.calls _ t (Nat.le_refl _) hs w w (.slice none 0 0) (.slice none 0 0) [] [] h (Below.refl _ _) (SR.nil _ _) (SR.nil _ _) (neNil _) hb1 hb2
theorem impl_node.calls0 (P : List S110) (hN : P.length <= 1000000000000) (w0 : World) (A : Option Addr) (c : Nat) (hp : Kd.C k110 w0 A P.length P) (hm : ∀ p ∈ P, p.f0.length <= 1000000000000 /\ p.f1.length <= 1000000000000 /\ p.f2.length <= 1000000000000) (gb : Nat) (w : World) (hb : Below w0.heap.size w0 w) (hgb : w0.heap.size <= gb) (hg : w.heap[gb]? = some (.cells #[.slice A P.length c, .int .i64 0] 121 (0, 0))) :
  Calls Try.prog 97 #[ptrv gb] w (NodeR w0 w gb (.slice A P.length c) (readS P (P.length + 1) 0)) :=
 impl_node.calls P hN w0 A c hp hm (P.length + 1) 0 (by omega) (Nat.zero_le _) gb w hb hgb hg
theorem impl_root.calls (k : Nat) (P : List S110) (hN : P.length <= 1000000000000) (A : Option Addr) (c : Nat) (w : World) (hp : Kd.C k110 w A P.length P) (hm : ∀ p ∈ P, p.f0.length <= 1000000000000 /\ p.f1.length <= 1000000000000 /\ p.f2.length <= 1000000000000) (r : Option PT) (h : rootI k P = some r) :
  Calls Try.prog 59 #[.agg #[.slice A P.length c]] w (OfR 101 74 w r) := by
 have HP := A_ hp
 have HM := A_ hm
 have HNP := A_ hN
 have hNl : P.length <= 1000000000000 := hN
 unfold rootI at h
 cases hrs : readS P (P.length + 1) 0 with
 | none =>
  rw [hrs] at h
  have HE := A_ (Option.some.inj h)
  have HRS := A_ hrs
  clear hp hm hN h hrs
  go_enter Try.func59, Try.ntmps59
  go_wp2_with (first | ((with_reducible refine gate_dst (N := 1) rfl ?_); refine box_event ?hg (N := 1) ?hd (cs := #[.slice A P.length c]) (t := 29) ?hr ?_; (case hd => rfl); (case hg => rfl); (case hr => first | (go_simp; done) | (go_simp; rfl)); intro b3 hg w1 hbox hb; have HBX := A_ hbox; have HB := A_ hb; have hz3 : w1.cell? ⟨b3, 0, none⟩ = some (.slice A P.length c) := (blk_cell hbox 0).trans rfl; clear hg hbox hb) | ((with_reducible refine gate_dst (N := 12) rfl ?_); refine box_event ?hg (N := 12) ?hd (cs := #[.slice A P.length c, .int .i64 0]) (t := 121) ?hr ?_; (case hd => rfl); (case hg => rfl); (case hr => first | (go_simp; done) | (go_simp; rfl)); intro gb hg w2 hbox hb; have HGB := A_ (show w.heap.size <= gb by rw [hg]; exact HB.out.size); have HBG := A_ (show b3 ≠ gb by have := blk_lt HBX.out; omega); have HG := A_ hbox; have n2_ := A_ (blk_below HBX.out hb); have n1_ := A_ (below_step HB.out hb); clear HB; clear HBX; have HB := n1_; have HBX := n2_; clear n1_ n2_ hg hbox hb) | (go_at_call 97; (with_reducible refine (impl_node.calls0 P HNP.out w A c HP.out HM.out gb _ HB.out HGB.out HG.out).mono ?_); rintro e w3 ⟨hb, hr⟩; rw [HRS.out] at hr; obtain ⟨-, rfl⟩ := hr.resolve_right (by rintro ⟨_, _, h, _⟩; cases h); clear HB; have HB := A_ hb; clear hb hr))
  go_quiet (fail)
  go_wp2
  go_ret2
  exact ⟨pw_below_drewN HB.out _, .inl ⟨HE.out.symm, rfl⟩⟩
 | some tn =>
  obtain ⟨t, n⟩ := tn
  rw [hrs] at h
  simp only at h
  have HRS := A_ hrs
  have HFT := A_ (readS_fits _ 0 t n hrs).2
  have HLE := A_ (readS_le _ 0 t n hrs)
  by_cases hn : n = P.length
  ·rw [if_neg (by simp [hn])] at h
   have tn1 : ((n : Int) != (P.length : Int)) = false := ne_f hn
   have tn2 : (n != P.length) = false := nen_f hn
   have HZ1 := A_ (show (allK t).length <= 8796093022208 by have := HFT.out.k; omega)
   have HZ2 := A_ (show (allV t).length <= 8796093022208 by have := HFT.out.v; omega)
   obtain ⟨dd, bb, hdp⟩ : ∃ d b, depthP t = (d, b) := ⟨_, _, rfl⟩
   have HDP := A_ hdp
   rw [hdp] at h
   cases bb with
   | false =>
    have HE := A_ (Option.some.inj h)
    clear hp hm hN h hrs hn hdp
    go_enter Try.func59, Try.ntmps59
    go_wp2_with (first | ((with_reducible refine gate_dst (N := 1) rfl ?_); refine box_event ?hg (N := 1) ?hd (cs := #[.slice A P.length c]) (t := 29) ?hr ?_; (case hd => rfl); (case hg => rfl); (case hr => first | (go_simp; done) | (go_simp; rfl)); intro b3 hg w1 hbox hb; have HBX := A_ hbox; have HB := A_ hb; have hz3 : w1.cell? ⟨b3, 0, none⟩ = some (.slice A P.length c) := (blk_cell hbox 0).trans rfl; clear hg hbox hb) | ((with_reducible refine gate_dst (N := 12) rfl ?_); refine box_event ?hg (N := 12) ?hd (cs := #[.slice A P.length c, .int .i64 0]) (t := 121) ?hr ?_; (case hd => rfl); (case hg => rfl); (case hr => first | (go_simp; done) | (go_simp; rfl)); intro gb hg w2 hbox hb; have HGB := A_ (show w.heap.size <= gb by rw [hg]; exact HB.out.size); have HBG := A_ (show b3 ≠ gb by have := blk_lt HBX.out; omega); have HG := A_ hbox; have n2_ := A_ (blk_below HBX.out hb); have n1_ := A_ (below_step HB.out hb); clear HB; clear HBX; have HB := n1_; have HBX := n2_; clear n1_ n2_ hg hbox hb) | (go_at_call 97; (with_reducible refine (impl_node.calls0 P HNP.out w A c HP.out HM.out gb _ HB.out HGB.out HG.out).mono ?_); rintro e w3 ⟨hb, hr⟩; rw [HRS.out] at hr; obtain ⟨nt, n9, h9, rfl, hs, hk, hg⟩ := hr.resolve_left (by rintro ⟨h, _⟩; cases h); injection h9 with h9; injection h9 with h9 h8; subst h9; subst h8; have hz3b : w3.cell? ⟨b3, 0, none⟩ = some (.slice A P.length c) := (blk_cell (blk_kept HBX.out hk HBG.out) 0).trans rfl; have hzg : w3.cell? ⟨gb, 1, none⟩ = some (.int .i64 (n : Int)) := (blk_cell hg 1).trans rfl; have HS2 := A_ (hs.lower HB.out.size); clear HB; have HB := A_ hb; have HR3 := A_ (rd_of HS2.out); clear hb hr hs hk hg))
    go_quiet (fail)
    go_wp2_with (go_at_call 62; (with_reducible refine (impl_depth.calls _ nt.erase (Nat.le_refl _) HFT.out.shp.few_ dd false HDP.out _ ?side1).mono ?_); (case side1 => exact q9055_0 HR3.out); rintro e w' ⟨rfl, ⟨nd, rfl⟩⟩)
    go_ret2
    exact ⟨pw_below_drewN HB.out _, .inl ⟨HE.out.symm, rfl⟩⟩
   | true =>
    rw [if_neg (by simp)] at h
    obtain ⟨b, hap, h⟩ := Option.bind_eq_some_iff.mp h
    have HAP := A_ hap
    cases b with
    | false =>
     have HE := A_ (Option.some.inj h)
     clear hp hm hN h hrs hn hdp hap
     go_enter Try.func59, Try.ntmps59
     go_wp2_with (first | ((with_reducible refine gate_dst (N := 1) rfl ?_); refine box_event ?hg (N := 1) ?hd (cs := #[.slice A P.length c]) (t := 29) ?hr ?_; (case hd => rfl); (case hg => rfl); (case hr => first | (go_simp; done) | (go_simp; rfl)); intro b3 hg w1 hbox hb; have HBX := A_ hbox; have HB := A_ hb; have hz3 : w1.cell? ⟨b3, 0, none⟩ = some (.slice A P.length c) := (blk_cell hbox 0).trans rfl; clear hg hbox hb) | ((with_reducible refine gate_dst (N := 12) rfl ?_); refine box_event ?hg (N := 12) ?hd (cs := #[.slice A P.length c, .int .i64 0]) (t := 121) ?hr ?_; (case hd => rfl); (case hg => rfl); (case hr => first | (go_simp; done) | (go_simp; rfl)); intro gb hg w2 hbox hb; have HGB := A_ (show w.heap.size <= gb by rw [hg]; exact HB.out.size); have HBG := A_ (show b3 ≠ gb by have := blk_lt HBX.out; omega); have HG := A_ hbox; have n2_ := A_ (blk_below HBX.out hb); have n1_ := A_ (below_step HB.out hb); clear HB; clear HBX; have HB := n1_; have HBX := n2_; clear n1_ n2_ hg hbox hb) | (go_at_call 97; (with_reducible refine (impl_node.calls0 P HNP.out w A c HP.out HM.out gb _ HB.out HGB.out HG.out).mono ?_); rintro e w3 ⟨hb, hr⟩; rw [HRS.out] at hr; obtain ⟨nt, n9, h9, rfl, hs, hk, hg⟩ := hr.resolve_left (by rintro ⟨h, _⟩; cases h); injection h9 with h9; injection h9 with h9 h8; subst h9; subst h8; have hz3b : w3.cell? ⟨b3, 0, none⟩ = some (.slice A P.length c) := (blk_cell (blk_kept HBX.out hk HBG.out) 0).trans rfl; have hzg : w3.cell? ⟨gb, 1, none⟩ = some (.int .i64 (n : Int)) := (blk_cell hg 1).trans rfl; have HS2 := A_ (hs.lower HB.out.size); clear HB; have HB := A_ hb; have HR3 := A_ (rd_of HS2.out); clear hb hr hs hk hg))
     have HRN := fun m => HR3.out.drewN m
     go_quiet (fail)
     go_wp2_with (first | (go_at_call 62; (with_reducible refine (impl_depth.calls _ nt.erase (Nat.le_refl _) HFT.out.shp.few_ dd true HDP.out _ ?side1).mono ?_); (case side1 => exact q9055_0 HR3.out); rintro e w' ⟨rfl, ⟨nd, rfl⟩⟩) | (go_at_call 66; (with_reducible refine (impl_all.calls0 nt.erase HFT.out.shp _ (HRN _) HZ1.out HZ2.out).mono ?_); rintro e w5 ⟨u1, u2, rfl, ho1, ho2, hne, hb⟩; obtain ⟨B1, d1, rfl, hl1, hc1⟩ := Kd.R_reads ho1; obtain ⟨B2, d2, rfl, hl2, hc2⟩ := Kd.R_reads ho2; have HC1 := A_ hc1; have HC2 := A_ hc2; have HD1 := A_ hl1; have HD2 := A_ hl2; have n1_ := A_ (below_step (pw_below_drewN HB.out _) hb); have HS3 := A_ ((HS2.out.drewN _).under hb); clear HB; have HB := n1_; clear n1_ hb ho1 ho2 hne hl1 hl2 hc1 hc2 HS2) | (go_at_call 86; (with_reducible refine (impl_arePairs.calls k _ _ (allK nt.erase) _ _ (allV nt.erase) false _ HC1.out HD1.out HC2.out HD2.out HAP.out).mono ?_); rintro e w' ⟨rfl, ⟨nd, rfl⟩⟩))
     go_ret2
     exact ⟨pw_below_drewN HB.out _, .inl ⟨HE.out.symm, rfl⟩⟩
    | true =>
     have HE := A_ (Option.some.inj h)
     clear hp hm hN h hrs hn hdp hap
     go_enter Try.func59, Try.ntmps59
     go_wp2_with (first | ((with_reducible refine gate_dst (N := 1) rfl ?_); refine box_event ?hg (N := 1) ?hd (cs := #[.slice A P.length c]) (t := 29) ?hr ?_; (case hd => rfl); (case hg => rfl); (case hr => first | (go_simp; done) | (go_simp; rfl)); intro b3 hg w1 hbox hb; have HBX := A_ hbox; have HB := A_ hb; have hz3 : w1.cell? ⟨b3, 0, none⟩ = some (.slice A P.length c) := (blk_cell hbox 0).trans rfl; clear hg hbox hb) | ((with_reducible refine gate_dst (N := 12) rfl ?_); refine box_event ?hg (N := 12) ?hd (cs := #[.slice A P.length c, .int .i64 0]) (t := 121) ?hr ?_; (case hd => rfl); (case hg => rfl); (case hr => first | (go_simp; done) | (go_simp; rfl)); intro gb hg w2 hbox hb; have HGB := A_ (show w.heap.size <= gb by rw [hg]; exact HB.out.size); have HBG := A_ (show b3 ≠ gb by have := blk_lt HBX.out; omega); have HG := A_ hbox; have n2_ := A_ (blk_below HBX.out hb); have n1_ := A_ (below_step HB.out hb); clear HB; clear HBX; have HB := n1_; have HBX := n2_; clear n1_ n2_ hg hbox hb) | (go_at_call 97; (with_reducible refine (impl_node.calls0 P HNP.out w A c HP.out HM.out gb _ HB.out HGB.out HG.out).mono ?_); rintro e w3 ⟨hb, hr⟩; rw [HRS.out] at hr; obtain ⟨nt, n9, h9, rfl, hs, hk, hg⟩ := hr.resolve_left (by rintro ⟨h, _⟩; cases h); injection h9 with h9; injection h9 with h9 h8; subst h9; subst h8; have hz3b : w3.cell? ⟨b3, 0, none⟩ = some (.slice A P.length c) := (blk_cell (blk_kept HBX.out hk HBG.out) 0).trans rfl; have hzg : w3.cell? ⟨gb, 1, none⟩ = some (.int .i64 (n : Int)) := (blk_cell hg 1).trans rfl; have HS2 := A_ (hs.lower HB.out.size); clear HB; have HB := A_ hb; have HR3 := A_ (rd_of HS2.out); clear hb hr hs hk hg))
     have HRN := fun m => HR3.out.drewN m
     go_quiet (fail)
     go_wp2_with (first | (go_at_call 62; (with_reducible refine (impl_depth.calls _ nt.erase (Nat.le_refl _) HFT.out.shp.few_ dd true HDP.out _ ?side1).mono ?_); (case side1 => exact q9055_0 HR3.out); rintro e w' ⟨rfl, ⟨nd, rfl⟩⟩) | (go_at_call 66; (with_reducible refine (impl_all.calls0 nt.erase HFT.out.shp _ (HRN _) HZ1.out HZ2.out).mono ?_); rintro e w5 ⟨u1, u2, rfl, ho1, ho2, hne, hb⟩; obtain ⟨B1, d1, rfl, hl1, hc1⟩ := Kd.R_reads ho1; obtain ⟨B2, d2, rfl, hl2, hc2⟩ := Kd.R_reads ho2; have HC1 := A_ hc1; have HC2 := A_ hc2; have HD1 := A_ hl1; have HD2 := A_ hl2; have n1_ := A_ (below_step (pw_below_drewN HB.out _) hb); have HS3 := A_ ((HS2.out.drewN _).under hb); clear HB; have HB := n1_; clear n1_ hb ho1 ho2 hne hl1 hl2 hc1 hc2 HS2) | (go_at_call 86; (with_reducible refine (impl_arePairs.calls k _ _ (allK nt.erase) _ _ (allV nt.erase) true _ HC1.out HD1.out HC2.out HD2.out HAP.out).mono ?_); rintro e w' ⟨rfl, ⟨nd, rfl⟩⟩))
     go_ret2
     exact ⟨pw_below_drewN HB.out _, .inr ⟨nt, by rw [<- HE.out]; rfl, rfl, HS3.out.drewN _⟩⟩
  ·rw [if_pos (by simpa using hn)] at h
   have HE := A_ (Option.some.inj h)
   have tn1 : ((n : Int) != (P.length : Int)) = true := ne_t hn
   have tn2 : (n != P.length) = true := nen_t hn
   clear hp hm hN h hrs hn
   go_enter Try.func59, Try.ntmps59
   go_wp2_with (first | ((with_reducible refine gate_dst (N := 1) rfl ?_); refine box_event ?hg (N := 1) ?hd (cs := #[.slice A P.length c]) (t := 29) ?hr ?_; (case hd => rfl); (case hg => rfl); (case hr => first | (go_simp; done) | (go_simp; rfl)); intro b3 hg w1 hbox hb; have HBX := A_ hbox; have HB := A_ hb; have hz3 : w1.cell? ⟨b3, 0, none⟩ = some (.slice A P.length c) := (blk_cell hbox 0).trans rfl; clear hg hbox hb) | ((with_reducible refine gate_dst (N := 12) rfl ?_); refine box_event ?hg (N := 12) ?hd (cs := #[.slice A P.length c, .int .i64 0]) (t := 121) ?hr ?_; (case hd => rfl); (case hg => rfl); (case hr => first | (go_simp; done) | (go_simp; rfl)); intro gb hg w2 hbox hb; have HGB := A_ (show w.heap.size <= gb by rw [hg]; exact HB.out.size); have HBG := A_ (show b3 ≠ gb by have := blk_lt HBX.out; omega); have HG := A_ hbox; have n2_ := A_ (blk_below HBX.out hb); have n1_ := A_ (below_step HB.out hb); clear HB; clear HBX; have HB := n1_; have HBX := n2_; clear n1_ n2_ hg hbox hb) | (go_at_call 97; (with_reducible refine (impl_node.calls0 P HNP.out w A c HP.out HM.out gb _ HB.out HGB.out HG.out).mono ?_); rintro e w3 ⟨hb, hr⟩; rw [HRS.out] at hr; obtain ⟨nt, n9, h9, rfl, hs, hk, hg⟩ := hr.resolve_left (by rintro ⟨h, _⟩; cases h); injection h9 with h9; injection h9 with h9 h8; subst h9; subst h8; have hz3b : w3.cell? ⟨b3, 0, none⟩ = some (.slice A P.length c) := (blk_cell (blk_kept HBX.out hk HBG.out) 0).trans rfl; have hzg : w3.cell? ⟨gb, 1, none⟩ = some (.int .i64 (n : Int)) := (blk_cell hg 1).trans rfl; have HS2 := A_ (hs.lower HB.out.size); clear HB; have HB := A_ hb; have HR3 := A_ (rd_of HS2.out); clear hb hr hs hk hg))
   go_quiet (fail)
   go_wp2
   go_ret2
   exact ⟨pw_below_drewN HB.out _, .inl ⟨HE.out.symm, rfl⟩⟩
set_option maxHeartbeats 8000000
set_option maxRecDepth 100000
theorem spec_at.calls (t : PT) (hm : t.keys.length <= 1000000000000) (key : ByteArray) (i0 : Nat) (b : Bool) (hi0 : atI key t.keys = i0) (hb : hasS t.keys i0 key = b) {p : Nat} (w : World) (h : Rd 96 w p t) :
  Calls Try.prog 100 #[ptrv p, .string key] w fun e w' => e = .returned (.tuple #[.int .i64 (i0 : Int), .bool b]) /\ Drawn0 w w' := by
 obtain ⟨Ak, ck, Av, cv, Ac, cc, ps, HN0⟩ := h.open
 have HN := A_ HN0
 have hz0 := HN0.z0
 have HE := A_ (show i0 = 0 + atI key (t.keys.drop 0) by rw [List.drop_zero, Nat.zero_add]; exact hi0.symm)
 have HBB := A_ hb
 clear h HN0 hi0 hb
 go_enter Try.func100, Try.ntmps100
 go_wp2
 go_loopg [6] t.keys.length (fun kq u6 w' => ∃ (i m : Nat), u6 = .int .i64 (i : Int) /\ Aside0 (i <= t.keys.length /\ kq + i = t.keys.length) /\ Aside0 (i0 = i + atI key (t.keys.drop i)) /\ w' = w.drewN m)
 case atStart => exact ⟨0, 0, by first | rfl | (simp; done), ⟨by omega⟩, HE, rfl⟩
 case round =>
  clear HE
  obtain ⟨i, m, rfl, HK, HE, rfl⟩ := hrel
  have ci : (0 <= (i : Int)) = True := eq_true (by omega)
  by_cases hi : i < t.keys.length
  ·have ce : decide ((i : Int) < (t.keys.length : Int)) = true := decide_eq_true (by omega)
   have ceb : (i < t.keys.length) = True := eq_true hi
   have hil : i < 1000000000000 := by omega
   have HI := A_ hi
   obtain ⟨adk, rfl, hk0⟩ := HN.out.key i (by omega) (by omega)
   rw [Int.toNat_natCast] at hk0
   have hks : t.keys[i]? = some (rdOf ByteArray.empty t.keys (i : Int)) := by unfold rdOf; rw [Int.toNat_natCast, List.getD_eq_getElem?_getD, List.getElem?_eq_getElem hi]; rfl
   generalize rdOf ByteArray.empty t.keys (i : Int) = k at hk0 hks
   have HKS := A_ hks
   clear hks hi
   cases hlt : ltB k key with
   | true =>
    have HE1 := A_ (atI_on HKS.out HE.out hlt)
    have hlt' : Op.bytesLess k.toList key.toList = true := hlt
    clear hlt
    go_wp2
    go_roundg (t.keys.length - (i + 1))
    case measure => have := HK.out; have := HI.out; omega
    case rel => exact ⟨i + 1, _, by first | rfl | go_num | (simp; done), ⟨by have := HK.out; have := HI.out; omega⟩, HE1, rfl⟩
   | false =>
    have he := atI_off HKS.out HE.out hlt
    subst he
    have hlt' : Op.bytesLess k.toList key.toList = false := hlt
    have hbb : (k.toList == key.toList) = b := by have := HBB.out; unfold hasS at this; rw [HKS.out] at this; exact this
    clear hlt
    go_wp2
    go_quiet (fail)
    go_wp2
    go_ret2
    exact ⟨rfl, by repeat (first | exact Drawn0.refl _ | apply Drawn0.step | exact ⟨_, rfl⟩)⟩
  ·have ce : decide ((i : Int) < (t.keys.length : Int)) = false := decide_eq_false (by omega)
   have ceb : (i < t.keys.length) = False := eq_false hi
   have he := atI_end (by omega) HE.out
   subst he
   obtain rfl : b = false := by
    cases b with
    | false => rfl
    | true => exact absurd (hasS_lt HBB.out) hi
   clear hi
   go_wp2
   go_quiet (fail)
   go_wp2
   go_ret2
   exact ⟨rfl, by repeat (first | exact Drawn0.refl _ | apply Drawn0.step | exact ⟨_, rfl⟩)⟩
end Go.Proofs.Ytoddejmlcnbdmaa.Tree
namespace Go.Proofs.Ytoddejmlcnbdmaa.Fn
open Go.Proofs.Ytoddejmlcnbdmaa.Tree
set_option maxHeartbeats 8000000
set_option maxRecDepth 100000
def okP (P : List S110) : Bool := decide (P.length <= 1000000000000) && P.all fun p => decide (p.f0.length <= 1000000000000) && decide (p.f1.length <= 1000000000000) && decide (p.f2.length <= 1000000000000)
theorem okP_parts {P : List S110} (h : okP P = true) : P.length <= 1000000000000 /\ ∀ p ∈ P, p.f0.length <= 1000000000000 /\ p.f1.length <= 1000000000000 /\ p.f2.length <= 1000000000000 := by
 unfold okP at h
 simp only [Bool.and_eq_true, decide_eq_true_eq, List.all_eq_true] at h
 exact ⟨h.1, fun p hp => ⟨(h.2 p hp).1.1, (h.2 p hp).1.2, (h.2 p hp).2⟩⟩
theorem rootI_mono (P : List S110) (k : Nat) : LeO (rootI k P) (rootI (k + 1) P) := by
 unfold rootI
 cases readS P (P.length + 1) 0 with
 | none => exact LeO.refl _
 | some r =>
  refine LeO.ite (LeO.refl _) (LeO.ite (LeO.refl _) (LeO.bind (impl_arePairs.mono _ _ _) fun _ => LeO.refl _))
open Go.Proofs.Ytoddejmlcnbdmaa.Tree
set_option maxHeartbeats 8000000
set_option maxRecDepth 100000
end Go.Proofs.Ytoddejmlcnbdmaa.Fn
namespace Go.Proofs.Ytoddejmlcnbdmaa.Tree
def NT.head (T E : Nat) (t : NT) : List Ck := [.box T t.p #[t.kv, t.vv, t.cv], txt t.kv t.keys, txt t.vv t.vals, .que E t.cv (ptrs t.kids)]
theorem NT.cks_eq (T E : Nat) (t : NT) : t.cks T E = t.head T E ++ NT.cksL T E t.kids := by
 cases t
 rw [NT.cks]
 rfl
def NT.hole (T E : Nat) (t : NT) (i : Nat) (L : List Ck) : List Ck := t.head T E ++ (NT.cksL T E (t.kids.take i) ++ (NT.cksL T E (t.kids.drop (i + 1)) ++ L))
def NT.setKid (t : NT) (i : Nat) (s : NT) : NT := .mk t.p t.kv t.vv t.cv t.keys t.vals (t.kids.set i s)
theorem take_kid {l : List NT} {i : Nat} {s : NT} (h : l[i]? = some s) : l = l.take i ++ s :: l.drop (i + 1) := by
 rw [<- drop_of h, List.take_append_drop]
theorem cksL_kid (T E : Nat) {l : List NT} {i : Nat} {s : NT} (h : l[i]? = some s) : NT.cksL T E l = NT.cksL T E (l.take i) ++ (s.cks T E ++ NT.cksL T E (l.drop (i + 1))) := by
 conv => lhs; rw [take_kid h]
 rw [cksL_append, NT.cksL]
theorem kid_out {T E : Nat} {t s : NT} {i : Nat} (L : List Ck) (h : t.kids[i]? = some s) : (t.cks T E ++ L).Perm (s.cks T E ++ t.hole T E i L) := by
 rw [NT.cks_eq, cksL_kid T E h]
 unfold NT.hole
 simp only [List.append_assoc]
 refine (List.Perm.append_left _ (List.perm_append_comm_assoc _ _ _)).trans ?_
 exact List.perm_append_comm_assoc _ _ _
theorem set_kid {l : List NT} {i : Nat} {s s' : NT} (h : l[i]? = some s) : (l.set i s')[i]? = some s' /\ (l.set i s').take i = l.take i /\ (l.set i s').drop (i + 1) = l.drop (i + 1) := by
 have hl : i < l.length := (List.getElem?_eq_some_iff.1 h).1
 refine ⟨by rw [List.getElem?_set_self hl], ?_, ?_⟩
 ·rw [List.take_set_of_le (Nat.le_refl _)]
 ·rw [List.drop_set_of_lt (Nat.lt_succ_self _)]
theorem ptrs_set {l : List NT} {i : Nat} {s s' : NT} (h : l[i]? = some s) (hp : s'.p = s.p) : ptrs (l.set i s') = ptrs l := by
 unfold ptrs
 rw [List.map_set]
 refine List.ext_getElem? fun j => ?_
 rw [List.getElem?_set]
 by_cases hj : i = j
 ·subst hj
  have hl : i < l.length := (List.getElem?_eq_some_iff.1 h).1
  rw [if_pos rfl, if_pos (by rw [List.length_map]; exact hl), List.getElem?_map, h, hp]
  rfl
 ·rw [if_neg hj]
theorem kid_in {T E : Nat} {t s s' : NT} {i : Nat} (L : List Ck) (h : t.kids[i]? = some s) (hp : s'.p = s.p) : (s'.cks T E ++ t.hole T E i L).Perm ((t.setKid i s').cks T E ++ L) := by
 obtain ⟨h1, h2, h3⟩ := set_kid (s' := s') h
 have hh : (t.setKid i s').hole T E i L = t.hole T E i L := by
  unfold NT.hole NT.head NT.setKid NT.p NT.kv NT.vv NT.cv NT.keys NT.vals NT.kids
  cases t with | mk p kv vv cv keys vals kids =>
  simp only [NT.kids] at h h1 h2 h3
  simp only
  rw [ptrs_set h hp, h2, h3]
 rw [<- hh]
 refine (kid_out L ?_).symm
 cases t
 exact h1
theorem erase_setKid {t s' : NT} {i : Nat} : (t.setKid i s').erase = .mk t.keys t.vals (t.erase.kids.set i s'.erase) := by
 cases t with | mk p kv vv cv keys vals kids =>
 show PT.mk keys vals (NT.eraseL (kids.set i s')) = PT.mk keys vals ((NT.eraseL kids).set i s'.erase)
 rw [eraseL_map, eraseL_map, List.map_set]
section
variable {w w1 W : World} {base : Nat} {L : List Ck}
theorem Sat.setTxt {g c : Nat} {l : List ByteArray} (h : Sat w base (txt (.slice (some ⟨g, 0, none⟩) l.length c) l :: L)) (i : Nat) (x : ByteArray) :
  Sat (w.setCell ⟨g, i, none⟩ (.string x)) base (txt (.slice (some ⟨g, 0, none⟩) (l.set i x).length c) (l.set i x) :: L) := by
 have h1 := ok_sr (h.ok _ List.mem_cons_self)
 obtain ⟨h2, hg⟩ := Kd.R_put (enc := Value.string) (h1 := fun _ => rfl) h1 (i : Int) x
 rw [Int.toNat_natCast] at h2 hg
 have hl : (l.set i x).length = l.length := List.length_set
 rw [hl]
 refine Sat.frame (A := [txt (.slice (some ⟨g, 0, none⟩) l.length c) l]) (A' := [txt (.slice (some ⟨g, 0, none⟩) l.length c) (l.set i x)]) (R := L) (w := w) h (Sat.one (sr_ok h2)) ⟨hg.size, fun k hk hnot => hg.block k hk fun he => hnot ⟨_, List.mem_singleton_self _, ?_⟩⟩ ?_
 ·exact he.symm
 ·rintro k ⟨c', hc, hb⟩
  rw [List.mem_singleton.1 hc] at hb
  exact .inl ⟨_, List.mem_singleton_self _, hb⟩
end
def SatG (w : World) (base : Nat) (gs : List (List Ck)) : Prop := Sat w base gs.flatten
section
variable {w w1 W : World} {base : Nat} {gs gs' : List (List Ck)} {A B : List Ck} {c c' : Ck}
theorem SatG.drew (h : SatG w base gs) : SatG w.drew base gs := Sat.drew h
theorem SatG.drewN (h : SatG w base gs) (m : Nat) : SatG (w.drewN m) base gs := Sat.drewN h m
theorem grp_perm {i : Nat} (hi : gs[i]? = some A) (B : List Ck) : gs.flatten.Perm (A ++ (gs.eraseIdx i).flatten) /\ (gs.set i B).flatten.Perm (B ++ (gs.eraseIdx i).flatten) := by
 obtain ⟨h1, h2⟩ := set_perm (y := B) hi
 exact ⟨h1.flatten, h2.flatten⟩
theorem SatG.at (h : SatG w base gs) (i : Nat) (hi : gs[i]? = some A) : Sat w base A :=
 Sat.left (Sat.perm h (grp_perm hi A).1)
theorem SatG.z (h : SatG w base gs) (i : Nat) {T p : Nat} {cs : Array Value} (hi : gs[i]? = some [.box T p cs]) (j : Nat) : w.cell? ⟨p, j, none⟩ = cs[j]? := (h.at i hi).z 0 rfl j
theorem SatG.f (h : SatG w base gs) (i : Nat) {T p : Nat} {cs : Array Value} (hi : gs[i]? = some [.box T p cs]) (j : Nat) : w.frozen? ⟨p, j, none⟩ = false := (h.at i hi).f 0 rfl j
theorem SatG.ge (h : SatG w base gs) (i : Nat) {T p : Nat} {cs : Array Value} (hi : gs[i]? = some [.box T p cs]) : base <= p := ((h.at i hi).ok _ List.mem_cons_self).1
theorem SatG.sr (h : SatG w base gs) (i : Nat) {v : Value} {l : List ByteArray} (hi : gs[i]? = some [txt v l]) : SR w base v l := (h.at i hi).sr 0 rfl
theorem SatG.row (h : SatG w base gs) (i : Nat) {Ad : Option Addr} {n c : Nat} {l : List ByteArray} (hi : gs[i]? = some [txt (.slice Ad n c) l]) : n = l.length /\ n <= c /\ Kd.C Kd.string w Ad l.length l := Kd.R_reads' (h.sr i hi)
theorem SatG.q (h : SatG w base gs) (i : Nat) {E : Nat} {v : Value} {l : List NT} (hi : gs[i]? = some [.que E v (ptrs l)]) : PQ E w base v (l.map NT.p) := by
 have := (h.at i hi).ok _ List.mem_cons_self
 rw [ptrs_encs] at this
 exact ok_pq this
theorem SatG.rowQ (h : SatG w base gs) (i : Nat) {E : Nat} {Ad : Option Addr} {n c : Nat} {l : List NT} (hi : gs[i]? = some [.que E (.slice Ad n c) (ptrs l)]) : n = l.length /\ n <= c /\ kptr.C w Ad n (l.map NT.p) := by
 obtain ⟨h1, h2, h3⟩ := Kd.Q_reads' (h.q i hi)
 rw [List.length_map] at h1 h3
 subst h1
 exact ⟨rfl, h2, h3⟩
theorem SatG.turn (h : SatG w base gs) (i : Nat) (hi : gs[i]? = some A) (ha : Sat w1 base B) (hk : Kept w w1 (blks A)) (hb : ∀ k, blks B k -> blks A k ∨ w.heap.size <= k) : SatG w1 base (gs.set i B) :=
 Sat.perm (Sat.frame (Sat.perm h (grp_perm hi B).1) ha hk hb) (grp_perm hi B).2.symm
theorem SatG.put (h : SatG w base gs) (i : Nat) {T p : Nat} {cs cs' : Array Value} (hi : gs[i]? = some [.box T p cs]) (j : Nat) (u : Value) (e : cs.setIfInBounds j u = cs') : SatG (w.setCell ⟨p, j, none⟩ u) base (gs.set i [.box T p cs']) := by
 obtain ⟨h1, h2⟩ := grp_perm hi [.box T p cs']
 exact Sat.perm (Sat.put (Sat.perm h h1) j u e) h2.symm
theorem SatG.setTxt (h : SatG w base gs) (i : Nat) {g c : Nat} {l : List ByteArray} (hi : gs[i]? = some [txt (.slice (some ⟨g, 0, none⟩) l.length c) l]) (j : Nat) (x : ByteArray) :
  SatG (w.setCell ⟨g, j, none⟩ (.string x)) base (gs.set i [txt (.slice (some ⟨g, 0, none⟩) (l.set j x).length c) (l.set j x)]) := by
 obtain ⟨h1, h2⟩ := grp_perm hi [txt (.slice (some ⟨g, 0, none⟩) (l.set j x).length c) (l.set j x)]
 exact Sat.perm (Sat.setTxt (Sat.perm h h1) j x) h2.symm
theorem SatG.new (h : SatG w base gs) (hb : Below w.heap.size w w1) (hbase : base <= w.heap.size) (hn : Sat w1 w.heap.size A) : SatG w1 base (gs ++ [A]) := by
 have := Sat.behind h hb hbase hn
 unfold SatG
 rw [List.flatten_append, List.flatten_singleton]
 exact this
theorem SatG.newTxt {v : Value} {l : List ByteArray} (h : SatG w base gs) (hb : Below w.heap.size w w1) (hbase : base <= w.heap.size) (ho : Kd.string.R 9 w1 w.heap.size (fun _ => True) v l) : SatG w1 base (gs ++ [[txt v l]]) :=
 h.new hb hbase (Sat.one (sr_ok ho))
theorem SatG.newBox {T g : Nat} {cs : Array Value} (h : SatG W base gs) (hg : g = W.heap.size) (hbox : w1.heap[g]? = some (.cells cs T (0, 0))) (hb : Below W.heap.size W w1) (hbase : base <= W.heap.size) : SatG w1 base (gs ++ [[.box T g cs]]) :=
 h.new hb hbase (Sat.one ⟨by omega, hbox⟩)
theorem SatG.takeTxt {Ad : Option Addr} {c : Nat} {l : List ByteArray} (h : SatG w base gs) (i : Nat) (hi : gs[i]? = some [txt (.slice Ad l.length c) l]) (m : Nat) (hm : m <= l.length) : SatG w base (gs.set i [txt (.slice Ad m c) (l.take m)]) := by
 have h1 := h.sr i hi
 have h2 : SR w base (.slice Ad m c) (l.take m) := Kd.R_take h1 hm
 refine h.turn i hi (Sat.one (sr_ok h2)) (Kept.refl _ _) ?_
 rintro k ⟨d, hd, hb⟩
 rw [List.mem_singleton.1 hd] at hb
 exact .inl ⟨_, List.mem_singleton_self _, by cases Ad <;> exact hb⟩
theorem SatG.lit {xs : List ByteArray} {vb : Value} (h : SatG W base gs) (ho : Kd.string.R 9 w1 base (fun _ => True) vb xs) (hg : W.grownBy w1 none) (hn : ∃ b, vb.ownBlock = some b /\ W.heap.size <= b) : SatG w1 base (gs ++ [[txt vb xs]]) := by
 have := Sat.lit h ho hg hn
 unfold SatG
 rw [List.flatten_append, List.flatten_singleton]
 exact this
theorem one_blk {c c' : Ck} (hat : c'.blk = c.blk ∨ ∃ b, c'.blk = some b /\ W.heap.size <= b) : ∀ k, blks [c'] k -> blks [c] k ∨ W.heap.size <= k := by
 rintro k ⟨d, hd, hb⟩
 rw [List.mem_singleton.1 hd] at hb
 rcases hat with h | ⟨b, h1, h2⟩
 ·exact .inl ⟨_, List.mem_singleton_self _, by rw [<- h]; exact hb⟩
 ·rw [h1] at hb
  injection hb with hb
  exact .inr (by omega)
theorem SatG.app {x y : List ByteArray} {u u1 : Value} (i : Nat) (h : SatG W base gs) (hi : gs[i]? = some [txt u x]) (ho : Kd.string.R 9 w1 base (fun _ => True) u1 y) (hg : W.grownBy w1 u.ownBlock) (hat : u1.ownBlock = u.ownBlock ∨ ∃ b, u1.ownBlock = some b /\ W.heap.size <= b) : SatG w1 base (gs.set i [txt u1 y]) :=
 h.turn i hi (Sat.one (sr_ok ho)) ⟨hg.size, fun k hk hnot => hg.block k hk fun he => hnot ⟨_, List.mem_singleton_self _, he.symm⟩⟩ (one_blk hat)
theorem SatG.takeQ {E : Nat} {Ad : Option Addr} {n c : Nat} {l : List NT} (h : SatG w base gs) (i : Nat) (hi : gs[i]? = some [.que E (.slice Ad n c) (ptrs l)]) (m : Nat) (hm : m <= l.length) : SatG w base (gs.set i [.que E (.slice Ad m c) (ptrs (l.take m))]) := by
 have h1 := h.q i hi
 have h2 : PQ E w base (.slice Ad m c) ((l.map NT.p).take m) := Kd.Q_take h1 (by rw [List.length_map]; exact hm)
 rw [<- List.map_take] at h2
 have h3 := pq_ok h2
 rw [<- ptrs_encs] at h3
 refine h.turn i hi (Sat.one h3) (Kept.refl _ _) ?_
 rintro k ⟨d, hd, hb⟩
 rw [List.mem_singleton.1 hd] at hb
 exact .inl ⟨_, List.mem_singleton_self _, by cases Ad <;> exact hb⟩
theorem SatG.newPtr {E : Nat} {v : Value} {l : List NT} (h : SatG w base gs) (hb : Below w.heap.size w w1) (hbase : base <= w.heap.size) (ho : kptr.R E w1 w.heap.size (fun _ => True) v (l.map NT.p)) : SatG w1 base (gs ++ [[.que E v (ptrs l)]]) := by
 have h2 : PQ E w1 w.heap.size v (l.map NT.p) := Kd.Q_of_R ho
 have h3 := pq_ok h2
 rw [<- ptrs_encs] at h3
 exact h.new hb hbase (Sat.one h3)
theorem SatG.litC {c : Ck} (h : SatG W base gs) (hc : c.ok w1 base) (hg : W.grownBy w1 none) (hn : ∃ b, c.blk = some b /\ W.heap.size <= b) : SatG w1 base (gs ++ [[c]]) := by
 have hk : Kept W w1 (fun _ => False) := ⟨hg.size, fun i hi _ => hg.block i hi (by simp)⟩
 have h2 := Sat.perm (Sat.add h hk (Sat.one hc) (by
  rintro k ⟨d, hd, hb⟩
  rw [List.mem_singleton.1 hd] at hb
  obtain ⟨b, h1, h2⟩ := hn
  rw [h1] at hb
  injection hb with hb
  omega)) List.perm_append_comm
 unfold SatG
 rw [List.flatten_append, List.flatten_singleton]
 exact h2
theorem own_ptr {E : Nat} {v : Value} {l : List Nat} (h : kptr.R E w base (fun _ => True) v l) : Ck.ok w base (.own E v (encs ptrv l)) := by
 have h2 := Kd.own_of_R (enc := ptrv) (h1 := fun _ => rfl) h
 show w.ownsRow base E 1 v (encs ptrv l).length (encs ptrv l)
 rw [encs_length]
 exact h2
theorem ptr_own {E : Nat} {v : Value} {l : List Nat} (h : Ck.ok w base (.own E v (encs ptrv l))) : kptr.R E w base (fun _ => True) v l :=
 Kd.R_of_own (enc := ptrv) (h1 := fun _ => rfl) (by have h2 : w.ownsRow base E 1 v (encs ptrv l).length (encs ptrv l) := h; rw [encs_length] at h2; exact h2) (fun _ _ => trivial)
theorem SatG.ptrR (h : SatG w base gs) (i : Nat) {E : Nat} {v : Value} {l : List Nat} (hi : gs[i]? = some [.own E v (encs ptrv l)]) : kptr.R E w base (fun _ => True) v l := ptr_own ((h.at i hi).ok _ List.mem_cons_self)
theorem SatG.appOwn {E : Nat} {x : List Nat} {y : List NT} {u u1 : Value} (i : Nat) (h : SatG W base gs) (hi : gs[i]? = some [.own E u (encs ptrv x)]) (ho : kptr.R E w1 base (fun _ => True) u1 (y.map NT.p)) (hg : W.grownBy w1 u.ownBlock) (hat : u1.ownBlock = u.ownBlock ∨ ∃ b, u1.ownBlock = some b /\ W.heap.size <= b) : SatG w1 base (gs.set i [.que E u1 (ptrs y)]) := by
 have h3 := pq_ok (Kd.Q_of_R ho : PQ E w1 base u1 (y.map NT.p))
 rw [<- ptrs_encs] at h3
 exact h.turn i hi (Sat.one h3) ⟨hg.size, fun k hk hnot => hg.block k hk fun he => hnot ⟨_, List.mem_singleton_self _, he.symm⟩⟩ (one_blk hat)
theorem SatG.cut (h : SatG w base gs) (i : Nat) (hi : gs[i]? = some (A ++ B)) : SatG w base (gs.set i A ++ [B]) := by
 obtain ⟨h1, h2⟩ := grp_perm hi A
 unfold SatG
 rw [List.flatten_append, List.flatten_singleton]
 have h3 := Sat.perm h h1
 rw [List.append_assoc] at h3
 refine Sat.perm h3 ?_
 refine (List.Perm.append_left A List.perm_append_comm).trans ?_
 rw [<- List.append_assoc]
 exact h2.symm.append_right B
theorem SatG.addNil (h : SatG w base gs) (E : Nat) : SatG w base (gs ++ [[.que E (.slice none 0 0) []]]) := by
 unfold SatG
 rw [List.flatten_append, List.flatten_singleton]
 exact (Sat.addNil h E).perm (List.perm_append_comm (l₁ := [Ck.que E (.slice none 0 0) []]))
theorem SatG.addNo (h : SatG w base gs) : SatG w base (gs ++ [[]]) := by
 unfold SatG
 rw [List.flatten_append, List.flatten_singleton, List.append_nil]
 exact h
theorem SatG.rd5 {T E p : Nat} {kv vv cv : Value} {keys vals : List ByteArray} {kids : List NT} (h : SatG w base [[.box T p #[kv, vv, cv]], [txt kv keys], [txt vv vals], [.que E cv (ptrs kids)], NT.cksL T E kids]) : Rd T w p (NT.mk p kv vv cv keys vals kids).erase := by
 refine rd_of (base := base) (E := E) (t := NT.mk p kv vv cv keys vals kids) ?_
 rw [NT.cks]
 unfold SatG at h
 simp only [List.flatten_cons, List.flatten_nil, List.cons_append, List.nil_append, List.append_nil] at h
 exact h
def sel (gs : List (List Ck)) (is : List Nat) : List (List Ck) := is.map fun i => gs.getD i []
theorem SatG.apart2 (h : SatG w base gs) {i j : Nat} (hij : i ≠ j) (hi : gs[i]? = some A) (hj : gs[j]? = some B) : ∀ a ∈ A, ∀ b ∈ B, Apart a b := by
 intro a ha b hb
 have key : ∀ {i j : Nat} {A B : List Ck}, i < j -> gs[i]? = some A -> gs[j]? = some B -> ∀ a ∈ A, ∀ b ∈ B, Apart a b := by
  intro i j A B hij hi hj a ha b hb
  have hp : gs.Pairwise fun l m => ∀ x ∈ l, ∀ y ∈ m, Apart x y := (List.pairwise_flatten.1 h.ap).2
  obtain ⟨h1, h2⟩ := List.getElem?_eq_some_iff.1 hi
  obtain ⟨h3, h4⟩ := List.getElem?_eq_some_iff.1 hj
  subst h2
  subst h4
  exact List.pairwise_iff_getElem.1 hp i j h1 h3 hij a ha b hb
 rcases Nat.lt_or_gt_of_ne hij with hlt | hlt
 ·exact key hlt hi hj a ha b hb
 ·exact Apart.symm (key hlt hj hi b hb a ha)
theorem getD_at {i : Nat} {c : Ck} (h : c ∈ gs.getD i []) : ∃ g, gs[i]? = some g /\ c ∈ g := by
 rw [List.getD_eq_getElem?_getD] at h
 cases hg : gs[i]? with
 | none => rw [hg] at h; cases h
 | some g => rw [hg] at h; exact ⟨g, rfl, h⟩
theorem SatG.sel (h : SatG w base gs) (is : List Nat) (hn : is.Nodup) : SatG w base (sel gs is) := by
 refine ⟨fun c hc => ?_, List.pairwise_flatten.2 ⟨fun g hg => ?_, ?_⟩⟩
 ·obtain ⟨g, hg, hcg⟩ := List.mem_flatten.1 hc
  obtain ⟨i, _, rfl⟩ := List.mem_map.1 hg
  obtain ⟨g, hi, hcg⟩ := getD_at hcg
  exact (h.at i hi).ok c hcg
 ·obtain ⟨i, _, rfl⟩ := List.mem_map.1 hg
  cases hi : gs[i]? with
  | none =>
   rw [List.getD_eq_getElem?_getD, hi]
   exact .nil
  | some g =>
   rw [List.getD_eq_getElem?_getD, hi]
   exact (h.at i hi).ap
 ·unfold Tree.sel
  rw [List.pairwise_map]
  refine hn.imp fun {i j} hij a ha b hb => ?_
  obtain ⟨g, hi, hag⟩ := getD_at ha
  obtain ⟨g', hj, hbg⟩ := getD_at hb
  exact h.apart2 hij hi hj a hag b hbg
end
abbrev a0_ (g : Nat) : Option Addr := some ⟨g, 0, none⟩
abbrev tz_ (A : Option Addr) (c : Nat) (l : List ByteArray) : List Ck := [txt (.slice A l.length c) l]
abbrev ty_ (A : Option Addr) (n c : Nat) (l : List ByteArray) : List Ck := [txt (.slice A n c) l]
abbrev qz_ (t : Nat) (A : Option Addr) (c : Nat) (l : List NT) : List Ck := [.que t (.slice A l.length c) (ptrs l)]
abbrev qy_ (t : Nat) (A : Option Addr) (n c : Nat) (l : List NT) : List Ck := [.que t (.slice A n c) (ptrs l)]
abbrev bx_ (t p : Nat) (A : Option Addr) (a c : Nat) (B : Option Addr) (b d : Nat) (C : Option Addr) (e f : Nat) : List Ck := [.box t p #[.slice A a c, .slice B b d, .slice C e f]]
theorem ns_ {w : World} {base : Nat} {gs gs' : List (List Ck)} (h : SatG w base gs) (e : gs = gs' := by (try simp only [sel, List.map_cons, List.map_nil, List.getElem?_cons_succ, List.getElem?_cons_zero, List.getD_cons_succ, List.getD_cons_zero, Option.getD_some, List.set_cons_zero, List.set_cons_succ, List.cons_append, List.nil_append]); rfl) : SatG w base gs' := e ▸ h
theorem nm_ {w : World} {base : Nat} {gs gs' : List (List Ck)} (h : SatG w base gs) (e : gs = gs' := by (try simp only [sel, List.map_cons, List.map_nil, List.getElem?_cons_succ, List.getElem?_cons_zero, List.getD_cons_succ, List.getD_cons_zero, Option.getD_some, List.set_cons_zero, List.set_cons_succ, List.cons_append, List.nil_append]); rfl) : Aside0 (SatG w base gs') := ⟨e ▸ h⟩
end Go.Proofs.Ytoddejmlcnbdmaa.Tree
namespace Go.Proofs.Ytoddejmlcnbdmaa.Fn
def spec_l5Insert.f (l0 : List ByteArray) (a1 : Int) (a2 : ByteArray) : Option (List ByteArray) := (some (([] : List ByteArray) : List ByteArray)).bind fun y223 => (if 0 <= a1 then (if a1 <= (l0.length : Int) then (if y223.length + (l0.take (a1 : Int).toNat).length < 8796093022208 then ((some (y223 ++ (l0.take (a1 : Int).toNat) : List ByteArray)).bind fun y227 => (if y227.length < 8796093022208 then ((some (y227 ++ [a2] : List ByteArray)).bind fun y230 => (if y230.length + (l0.drop (a1 : Int).toNat).length < 8796093022208 then (some (y230 ++ (l0.drop (a1 : Int).toNat))) else (none))) else (none))) else (none)) else (none)) else (none))
theorem spec_l5Insert.calls (A0 : Option Addr) (c0 : Nat) (l0 : List ByteArray) (a1 : Int) (a2 : ByteArray) (r : List ByteArray) (w : World) (hr0 : Kd.C Kd.string w A0 l0.length l0) (hc0 : l0.length <= c0) (h : spec_l5Insert.f l0 a1 a2 = some r) :
  Calls Try.prog 124 #[.slice A0 l0.length c0, .int .i64 a1, .string a2] w fun e w' => ∃ v0_ : Value, e = .returned (v0_) /\ Kd.R Kd.string 9 w' w.heap.size (fun _ => True) v0_ r /\ Below w.heap.size w w' := by
 have HR0 := A_ hr0
 have HC0 := A_ hc0
 clear hr0 hc0
 have HB := A_ (Below.refl w.heap.size w)
 have H : ((some (([] : List ByteArray) : List ByteArray)).bind fun y223 => (if 0 <= a1 then (if a1 <= (l0.length : Int) then (if y223.length + (l0.take (a1 : Int).toNat).length < 8796093022208 then ((some (y223 ++ (l0.take (a1 : Int).toNat) : List ByteArray)).bind fun y227 => (if y227.length < 8796093022208 then ((some (y227 ++ [a2] : List ByteArray)).bind fun y230 => (if y230.length + (l0.drop (a1 : Int).toNat).length < 8796093022208 then (some (y230 ++ (l0.drop (a1 : Int).toNat))) else (none))) else (none))) else (none)) else (none)) else (none))) = some r := h
 clear h
 obtain ⟨y223, hy223⟩ : ∃ y_ : List ByteArray, y_ = (([] : List ByteArray)) := ⟨_, rfl⟩
 replace H : (if 0 <= a1 then (if a1 <= (l0.length : Int) then (if y223.length + (l0.take (a1 : Int).toNat).length < 8796093022208 then ((some (y223 ++ (l0.take (a1 : Int).toNat) : List ByteArray)).bind fun y227 => (if y227.length < 8796093022208 then ((some (y227 ++ [a2] : List ByteArray)).bind fun y230 => (if y230.length + (l0.drop (a1 : Int).toNat).length < 8796093022208 then (some (y230 ++ (l0.drop (a1 : Int).toNat))) else (none))) else (none))) else (none)) else (none)) else (none)) = some r := by first | (rw [hy223]; with_reducible exact H) | (have H2_ := (Option.bind_some _ _).symm.trans H; rw [hy223]; with_reducible exact H2_) | (have H2_ := (Option.bind_some _ _).symm.trans H; with_reducible exact H2_) | with_reducible exact H | (rw [hy223]; exact H) | exact H
 have Ny223 := A_ hy223
 clear hy223
 by_cases c4 : 0 <= a1
 ·rw [if_pos c4] at H
  have c4b0 := eq_true c4
  have c4b1 : decide (0 <= a1) = true := decide_eq_true c4
  clear c4
  by_cases c5 : a1 <= (l0.length : Int)
  ·rw [if_pos c5] at H
   have c5b0 := eq_true c5
   have c5b1 : decide (a1 <= (l0.length : Int)) = true := decide_eq_true c5
   clear c5
   by_cases c6 : y223.length + (l0.take (a1 : Int).toNat).length < 8796093022208
   ·rw [if_pos c6] at H
    have LMc6 := A_ c6
    clear c6
    obtain ⟨y227, hy227⟩ : ∃ y_ : List ByteArray, y_ = (y223 ++ (l0.take (a1 : Int).toNat)) := ⟨_, rfl⟩
    replace H : (if y227.length < 8796093022208 then ((some (y227 ++ [a2] : List ByteArray)).bind fun y230 => (if y230.length + (l0.drop (a1 : Int).toNat).length < 8796093022208 then (some (y230 ++ (l0.drop (a1 : Int).toNat))) else (none))) else (none)) = some r := by first | (rw [hy227]; with_reducible exact H) | (have H2_ := (Option.bind_some _ _).symm.trans H; rw [hy227]; with_reducible exact H2_) | (have H2_ := (Option.bind_some _ _).symm.trans H; with_reducible exact H2_) | with_reducible exact H | (rw [hy227]; exact H) | exact H
    have Ny227 := A_ hy227
    clear hy227
    by_cases c7 : y227.length < 8796093022208
    ·rw [if_pos c7] at H
     have LMc7 := A_ c7
     clear c7
     obtain ⟨y230, hy230⟩ : ∃ y_ : List ByteArray, y_ = (y227 ++ [a2]) := ⟨_, rfl⟩
     replace H : (if y230.length + (l0.drop (a1 : Int).toNat).length < 8796093022208 then (some (y230 ++ (l0.drop (a1 : Int).toNat))) else (none)) = some r := by first | (rw [hy230]; with_reducible exact H) | (have H2_ := (Option.bind_some _ _).symm.trans H; rw [hy230]; with_reducible exact H2_) | (have H2_ := (Option.bind_some _ _).symm.trans H; with_reducible exact H2_) | with_reducible exact H | (rw [hy230]; exact H) | exact H
     have Ny230 := A_ hy230
     clear hy230
     have c8b0 := eq_true (of_decide_eq_true as_ : 0 <= a1)
     have c9b0 := eq_true (of_decide_eq_true as_ : a1 <= (l0.length : Int))
     by_cases c10 : y230.length + (l0.drop (a1 : Int).toNat).length < 8796093022208
     ·rw [if_pos c10] at H
      have LMc10 := A_ c10
      clear c10
      obtain ⟨y234, hy234⟩ : ∃ y_ : List ByteArray, y_ = (y230 ++ (l0.drop (a1 : Int).toNat)) := ⟨_, rfl⟩
      replace H : (some y234) = some r := by first | (rw [hy234]; with_reducible exact H) | (have H2_ := (Option.bind_some _ _).symm.trans H; rw [hy234]; with_reducible exact H2_) | (have H2_ := (Option.bind_some _ _).symm.trans H; with_reducible exact H2_) | with_reducible exact H | (rw [hy234]; exact H) | exact H
      have Ny234 := A_ hy234
      clear hy234
      obtain rfl := Option.some.inj H
      go_enter Try.func124, Try.ntmps124
      go_wp2_with (first | ((with_reducible refine gate_dst (N := 8) rfl ?_); refine Kd.R_lit Kd.string _ 9 ?hg (N := 8) ?hd (xs := ([] : List ByteArray)) (inner := []) (ok := fun _ => True) (okp := fun _ => True) ?hr ?hp (fun _ hk => hk) trivial (Below.refl _ _) (Nat.le_refl _) (by simp) ?_; (case hd => rfl); (case hg => rfl); (case hr => first | (go_simp; done) | (go_simp; rfl)); (case hp => exact (Reps.none _ _)); intro v224 w11 ho12 hb hg_ hnew_; clear hg_ hnew_; (first | rw [<- Ny223.out] at ho12 | (simp only [Int.reduceToNat] at ho12; rw [<- Ny223.out] at ho12)); have n0_ := A_ (Kd.R_lower ho12 (bw_ HB.out)); have n1_ := A_ (bs_ HB.out hb); clear HB; have HO225 := n0_; have HB := n1_; clear n0_ n1_; clear hb ho12; obtain ⟨i013, hi013, _, hsz13, _⟩ := info_parts info9; obtain ⟨hcut13, hA13, hC13⟩ := print_take_of (P := Try.prog) Value.string (⟨#[]⟩ : ByteArray) 38 9 .i64 Try.underlying38 hi013 hsz13 A0 c0 l0 a1 (of_decide_eq_true as_) (of_decide_eq_true as_) HC0.out; have HR226 := A_ (Kd.C_of_reads (h1 := fun _ => rfl) (hA13 _ (Kd.reads_of_C HR0.out))); have HC226 := A_ hC13; clear hA13 hC13 hi013 hsz13) | ((with_reducible refine gate_builtin (b := .append) (xs := #[.tmp 8, .tmp 11]) rfl ?_); at_builtin; refine Kd.R_append_rows Kd.string (w0 := w) w.heap.size rfl (.tmp 8) (.tmp 11) 38 9 (.string ⟨#[]⟩) 16 rfl Try.underlying38 info9 rfl (by decide) (by omega) v224 y223 (l0.take (a1 : Int).toNat) _ _ _ (fun _ => True) (fun _ => False) rfl rfl ?aO ?aR (fun _ _ h => h) (fun _ h => h.elim) ?aF ?aB ?aS ?aL ?_; (case aR => first | (have h9_ := (show (l0.take (a1 : Int).toNat).length = a1.toNat from (by rw [List.length_take]; have h_ : (a1 : Int) <= (l0.length : Int) := of_decide_eq_true as_; omega)); have h8_ := (Kd.C_below HR226.out HB.out); rw [h9_] at h8_; exact h8_) | (rw [<- show (l0.take (a1 : Int).toNat).length = a1.toNat from (by rw [List.length_take]; have h_ : (a1 : Int) <= (l0.length : Int) := of_decide_eq_true as_; omega)]; repeat (first | exact (Kd.C_below HR226.out HB.out) | (with_reducible refine Kd.C_alloc ?_ _) | (with_reducible refine Kd.C_drewN ?_ _) | (with_reducible refine Kd.C_drew ?_))) | (repeat (first | exact (Kd.C_below HR226.out HB.out) | (with_reducible refine Kd.C_alloc ?_ _) | (with_reducible refine Kd.C_drewN ?_ _) | (with_reducible refine Kd.C_drew ?_)))); (case aB => exact (be_ HB.out)); (case aF => exact (fun _ _ => trivial)); (case aO => exact (rk_ HO225.out)); (case aS => exact (bw_ HB.out)); (case aL => have := LMc6.out; have hlx_ := (show (l0.take (a1 : Int).toNat).length = a1.toNat from (by rw [List.length_take]; have h_ : (a1 : Int) <= (l0.length : Int) := of_decide_eq_true as_; omega)); omega); intro v228 w14 ho hb hg hat; rw [<- Ny227.out] at ho; have n0_ := A_ (hb); have n1_ := A_ (ho); clear HB; clear HO225; have HB := n0_; have HO229 := n1_; clear n0_ n1_; clear ho hb hg hat) | ((with_reducible refine gate_builtin (b := .append) (xs := #[.tmp 13, .tmp 15]) rfl ?_); at_builtin; refine Kd.R_append Kd.string (w0 := w) w.heap.size rfl (.tmp 13) (.tmp 15) 38 9 (.string ⟨#[]⟩) 16 rfl Try.underlying38 info9 rfl (by decide) (by omega) v228 y227 a2 [.string a2] (fun _ => True) (fun _ => False) rfl rfl ?aP (fun _ hk => hk.elim) ?aF ?aO ?aB ?aS ?aL ?_; (case aP => exact rfl); (case aB => exact (be_ HB.out)); (case aF => exact (fun _ _ => trivial)); (case aO => exact (rk_ HO229.out)); (case aS => exact (bw_ HB.out)); (case aL => have := LMc7.out; omega); intro v231 w15 ho hb hg hat; rw [<- Ny230.out] at ho; have n0_ := A_ (hb); have n1_ := A_ (ho); clear HB; clear HO229; have HB := n0_; have HO232 := n1_; clear n0_ n1_; clear ho hb hg hat; obtain ⟨i016, hi016, _, hsz16, _⟩ := info_parts info9; obtain ⟨A16, hcut16, hA16, hC16⟩ := print_drop_of (P := Try.prog) Value.string (⟨#[]⟩ : ByteArray) 38 9 .i64 Try.underlying38 hi016 hsz16 A0 c0 l0 a1 (of_decide_eq_true as_) (of_decide_eq_true as_) HC0.out; have HR233 := A_ (Kd.C_of_reads (h1 := fun _ => rfl) (hA16 _ (Kd.reads_of_C HR0.out))); have HC233 := A_ hC16; clear hA16 hC16 hi016 hsz16) | ((with_reducible refine gate_builtin (b := .append) (xs := #[.tmp 17, .tmp 20]) rfl ?_); at_builtin; refine Kd.R_append_rows Kd.string (w0 := w) w.heap.size rfl (.tmp 17) (.tmp 20) 38 9 (.string ⟨#[]⟩) 16 rfl Try.underlying38 info9 rfl (by decide) (by omega) v231 y230 (l0.drop (a1 : Int).toNat) _ _ _ (fun _ => True) (fun _ => False) rfl rfl ?aO ?aR (fun _ _ h => h) (fun _ h => h.elim) ?aF ?aB ?aS ?aL ?_; (case aR => first | (rw [<- show (l0.drop (a1 : Int).toNat).length = (l0.length - a1.toNat) from List.length_drop]; repeat (first | exact (Kd.C_below HR233.out HB.out) | (with_reducible refine Kd.C_alloc ?_ _) | (with_reducible refine Kd.C_drewN ?_ _) | (with_reducible refine Kd.C_drew ?_))) | (repeat (first | exact (Kd.C_below HR233.out HB.out) | (with_reducible refine Kd.C_alloc ?_ _) | (with_reducible refine Kd.C_drewN ?_ _) | (with_reducible refine Kd.C_drew ?_)))); (case aB => exact (be_ HB.out)); (case aF => exact (fun _ _ => trivial)); (case aO => exact (rk_ HO232.out)); (case aS => exact (bw_ HB.out)); (case aL => have := LMc10.out; have hlx_ := (show (l0.drop (a1 : Int).toNat).length = (l0.length - a1.toNat) from List.length_drop); omega); intro v235 w17 ho hb hg hat; rw [<- Ny234.out] at ho; have n0_ := A_ (hb); have n1_ := A_ (ho); clear HB; clear HO232; have HB := n0_; have HO236 := n1_; clear n0_ n1_; clear ho hb hg hat))
      go_ret
      exact ⟨_, ew_, by (with_reducible repeat (first | apply Kd.R_alloc | apply Kd.R_drewN | apply Kd.R_drew)); exact HO236.out, by repeat (first | (with_reducible first | exact HB.out | apply below_alloc | apply pw_below_drewN | apply below_drew1) | exact HB.out)⟩
     ·rw [if_neg c10] at H
      exact absurd H (by simp)
    ·rw [if_neg c7] at H
     exact absurd H (by simp)
   ·rw [if_neg c6] at H
    exact absurd H (by simp)
  ·rw [if_neg c5] at H
   exact absurd H (by simp)
 ·rw [if_neg c4] at H
  exact absurd H (by simp)
end Go.Proofs.Ytoddejmlcnbdmaa.Fn
namespace Go.Proofs.Ytoddejmlcnbdmaa.Tree
def spec_l5InsertKid.f (l0 : List Nat) (a1 : Int) (a2 : Nat) : Option (List Nat) := (some (([] : List Nat) : List Nat)).bind fun y223 => (if 0 <= a1 then (if a1 <= (l0.length : Int) then (if y223.length + (l0.take (a1 : Int).toNat).length < 8796093022208 then ((some (y223 ++ (l0.take (a1 : Int).toNat) : List Nat)).bind fun y227 => (if y227.length < 8796093022208 then ((some (y227 ++ [a2] : List Nat)).bind fun y230 => (if y230.length + (l0.drop (a1 : Int).toNat).length < 8796093022208 then (some (y230 ++ (l0.drop (a1 : Int).toNat))) else (none))) else (none))) else (none)) else (none)) else (none))
theorem spec_l5InsertKid.calls (A0 : Option Addr) (c0 : Nat) (l0 : List Nat) (a1 : Int) (a2 : Nat) (r : List Nat) (w : World) (hr0 : Kd.C kptr w A0 l0.length l0) (hc0 : l0.length <= c0) (h : spec_l5InsertKid.f l0 a1 a2 = some r) :
  Calls Try.prog 125 #[.slice A0 l0.length c0, .int .i64 a1, ptrv a2] w fun e w' => ∃ v0_ : Value, e = .returned (v0_) /\ Kd.R kptr 70 w' w.heap.size (fun _ => True) v0_ r /\ Below w.heap.size w w' := by
 have HR0 := A_ hr0
 have HC0 := A_ hc0
 clear hr0 hc0
 have HB := A_ (Below.refl w.heap.size w)
 have H : ((some (([] : List Nat) : List Nat)).bind fun y223 => (if 0 <= a1 then (if a1 <= (l0.length : Int) then (if y223.length + (l0.take (a1 : Int).toNat).length < 8796093022208 then ((some (y223 ++ (l0.take (a1 : Int).toNat) : List Nat)).bind fun y227 => (if y227.length < 8796093022208 then ((some (y227 ++ [a2] : List Nat)).bind fun y230 => (if y230.length + (l0.drop (a1 : Int).toNat).length < 8796093022208 then (some (y230 ++ (l0.drop (a1 : Int).toNat))) else (none))) else (none))) else (none)) else (none)) else (none))) = some r := h
 clear h
 obtain ⟨y223, hy223⟩ : ∃ y_ : List Nat, y_ = (([] : List Nat)) := ⟨_, rfl⟩
 replace H : (if 0 <= a1 then (if a1 <= (l0.length : Int) then (if y223.length + (l0.take (a1 : Int).toNat).length < 8796093022208 then ((some (y223 ++ (l0.take (a1 : Int).toNat) : List Nat)).bind fun y227 => (if y227.length < 8796093022208 then ((some (y227 ++ [a2] : List Nat)).bind fun y230 => (if y230.length + (l0.drop (a1 : Int).toNat).length < 8796093022208 then (some (y230 ++ (l0.drop (a1 : Int).toNat))) else (none))) else (none))) else (none)) else (none)) else (none)) = some r := by first | (rw [hy223]; with_reducible exact H) | (have H2_ := (Option.bind_some _ _).symm.trans H; rw [hy223]; with_reducible exact H2_) | (have H2_ := (Option.bind_some _ _).symm.trans H; with_reducible exact H2_) | with_reducible exact H | (rw [hy223]; exact H) | exact H
 have Ny223 := A_ hy223
 clear hy223
 by_cases c4 : 0 <= a1
 ·rw [if_pos c4] at H
  have c4b0 := eq_true c4
  have c4b1 : decide (0 <= a1) = true := decide_eq_true c4
  clear c4
  by_cases c5 : a1 <= (l0.length : Int)
  ·rw [if_pos c5] at H
   have c5b0 := eq_true c5
   have c5b1 : decide (a1 <= (l0.length : Int)) = true := decide_eq_true c5
   clear c5
   by_cases c6 : y223.length + (l0.take (a1 : Int).toNat).length < 8796093022208
   ·rw [if_pos c6] at H
    have LMc6 := A_ c6
    clear c6
    obtain ⟨y227, hy227⟩ : ∃ y_ : List Nat, y_ = (y223 ++ (l0.take (a1 : Int).toNat)) := ⟨_, rfl⟩
    replace H : (if y227.length < 8796093022208 then ((some (y227 ++ [a2] : List Nat)).bind fun y230 => (if y230.length + (l0.drop (a1 : Int).toNat).length < 8796093022208 then (some (y230 ++ (l0.drop (a1 : Int).toNat))) else (none))) else (none)) = some r := by first | (rw [hy227]; with_reducible exact H) | (have H2_ := (Option.bind_some _ _).symm.trans H; rw [hy227]; with_reducible exact H2_) | (have H2_ := (Option.bind_some _ _).symm.trans H; with_reducible exact H2_) | with_reducible exact H | (rw [hy227]; exact H) | exact H
    have Ny227 := A_ hy227
    clear hy227
    by_cases c7 : y227.length < 8796093022208
    ·rw [if_pos c7] at H
     have LMc7 := A_ c7
     clear c7
     obtain ⟨y230, hy230⟩ : ∃ y_ : List Nat, y_ = (y227 ++ [a2]) := ⟨_, rfl⟩
     replace H : (if y230.length + (l0.drop (a1 : Int).toNat).length < 8796093022208 then (some (y230 ++ (l0.drop (a1 : Int).toNat))) else (none)) = some r := by first | (rw [hy230]; with_reducible exact H) | (have H2_ := (Option.bind_some _ _).symm.trans H; rw [hy230]; with_reducible exact H2_) | (have H2_ := (Option.bind_some _ _).symm.trans H; with_reducible exact H2_) | with_reducible exact H | (rw [hy230]; exact H) | exact H
     have Ny230 := A_ hy230
     clear hy230
     have c8b0 := eq_true (of_decide_eq_true as_ : 0 <= a1)
     have c9b0 := eq_true (of_decide_eq_true as_ : a1 <= (l0.length : Int))
     by_cases c10 : y230.length + (l0.drop (a1 : Int).toNat).length < 8796093022208
     ·rw [if_pos c10] at H
      have LMc10 := A_ c10
      clear c10
      obtain ⟨y234, hy234⟩ : ∃ y_ : List Nat, y_ = (y230 ++ (l0.drop (a1 : Int).toNat)) := ⟨_, rfl⟩
      replace H : (some y234) = some r := by first | (rw [hy234]; with_reducible exact H) | (have H2_ := (Option.bind_some _ _).symm.trans H; rw [hy234]; with_reducible exact H2_) | (have H2_ := (Option.bind_some _ _).symm.trans H; with_reducible exact H2_) | with_reducible exact H | (rw [hy234]; exact H) | exact H
      have Ny234 := A_ hy234
      clear hy234
      obtain rfl := Option.some.inj H
      go_enter Try.func125, Try.ntmps125
      go_wp2_with (first | ((with_reducible refine gate_dst (N := 8) rfl ?_); refine Kd.R_lit kptr _ 70 ?hg (N := 8) ?hd (xs := ([] : List Nat)) (inner := []) (ok := fun _ => True) (okp := fun _ => True) ?hr ?hp (fun _ hk => hk) trivial (Below.refl _ _) (Nat.le_refl _) (by simp) ?_; (case hd => rfl); (case hg => rfl); (case hr => first | (go_simp; done) | (go_simp; rfl)); (case hp => exact (Reps.none _ _)); intro v224 w11 ho12 hb hg_ hnew_; clear hg_ hnew_; (first | rw [<- Ny223.out] at ho12 | (simp only [Int.reduceToNat] at ho12; rw [<- Ny223.out] at ho12)); have n0_ := A_ (Kd.R_lower ho12 (bw_ HB.out)); have n1_ := A_ (bs_ HB.out hb); clear HB; have HO225 := n0_; have HB := n1_; clear n0_ n1_; clear hb ho12; obtain ⟨i013, hi013, _, hsz13, _⟩ := info_parts info70; obtain ⟨hcut13, hA13, hC13⟩ := print_take_of (P := Try.prog) ptrv (0 : Nat) 94 70 .i64 under94 hi013 hsz13 A0 c0 l0 a1 (of_decide_eq_true as_) (of_decide_eq_true as_) HC0.out; have HR226 := A_ (Kd.C_of_reads (h1 := fun _ => rfl) (hA13 _ (Kd.reads_of_C HR0.out))); have HC226 := A_ hC13; clear hA13 hC13 hi013 hsz13) | ((with_reducible refine gate_builtin (b := .append) (xs := #[.tmp 8, .tmp 11]) rfl ?_); at_builtin; refine Kd.R_append_rows kptr (w0 := w) w.heap.size rfl (.tmp 8) (.tmp 11) 94 70 (.pointer none) 8 rfl under94 info70 rfl (by decide) (by omega) v224 y223 (l0.take (a1 : Int).toNat) _ _ _ (fun _ => True) (fun _ => False) rfl rfl ?aO ?aR (fun _ _ h => h) (fun _ h => h.elim) ?aF ?aB ?aS ?aL ?_; (case aR => first | (have h9_ := (show (l0.take (a1 : Int).toNat).length = a1.toNat from (by rw [List.length_take]; have h_ : (a1 : Int) <= (l0.length : Int) := of_decide_eq_true as_; omega)); have h8_ := (Kd.C_below HR226.out HB.out); rw [h9_] at h8_; exact h8_) | (rw [<- show (l0.take (a1 : Int).toNat).length = a1.toNat from (by rw [List.length_take]; have h_ : (a1 : Int) <= (l0.length : Int) := of_decide_eq_true as_; omega)]; repeat (first | exact (Kd.C_below HR226.out HB.out) | (with_reducible refine Kd.C_alloc ?_ _) | (with_reducible refine Kd.C_drewN ?_ _) | (with_reducible refine Kd.C_drew ?_))) | (repeat (first | exact (Kd.C_below HR226.out HB.out) | (with_reducible refine Kd.C_alloc ?_ _) | (with_reducible refine Kd.C_drewN ?_ _) | (with_reducible refine Kd.C_drew ?_)))); (case aB => exact (be_ HB.out)); (case aF => exact (fun _ _ => trivial)); (case aO => exact (rk_ HO225.out)); (case aS => exact (bw_ HB.out)); (case aL => have := LMc6.out; have hlx_ := (show (l0.take (a1 : Int).toNat).length = a1.toNat from (by rw [List.length_take]; have h_ : (a1 : Int) <= (l0.length : Int) := of_decide_eq_true as_; omega)); omega); intro v228 w14 ho hb hg hat; rw [<- Ny227.out] at ho; have n0_ := A_ (hb); have n1_ := A_ (ho); clear HB; clear HO225; have HB := n0_; have HO229 := n1_; clear n0_ n1_; clear ho hb hg hat) | ((with_reducible refine gate_builtin (b := .append) (xs := #[.tmp 13, .tmp 15]) rfl ?_); at_builtin; refine Kd.R_append kptr (w0 := w) w.heap.size rfl (.tmp 13) (.tmp 15) 94 70 (.pointer none) 8 rfl under94 info70 rfl (by decide) (by omega) v228 y227 a2 [ptrv a2] (fun _ => True) (fun _ => False) rfl rfl ?aP (fun _ hk => hk.elim) ?aF ?aO ?aB ?aS ?aL ?_; (case aP => exact rfl); (case aB => exact (be_ HB.out)); (case aF => exact (fun _ _ => trivial)); (case aO => exact (rk_ HO229.out)); (case aS => exact (bw_ HB.out)); (case aL => have := LMc7.out; omega); intro v231 w15 ho hb hg hat; rw [<- Ny230.out] at ho; have n0_ := A_ (hb); have n1_ := A_ (ho); clear HB; clear HO229; have HB := n0_; have HO232 := n1_; clear n0_ n1_; clear ho hb hg hat; obtain ⟨i016, hi016, _, hsz16, _⟩ := info_parts info70; obtain ⟨A16, hcut16, hA16, hC16⟩ := print_drop_of (P := Try.prog) ptrv (0 : Nat) 94 70 .i64 under94 hi016 hsz16 A0 c0 l0 a1 (of_decide_eq_true as_) (of_decide_eq_true as_) HC0.out; have HR233 := A_ (Kd.C_of_reads (h1 := fun _ => rfl) (hA16 _ (Kd.reads_of_C HR0.out))); have HC233 := A_ hC16; clear hA16 hC16 hi016 hsz16) | ((with_reducible refine gate_builtin (b := .append) (xs := #[.tmp 17, .tmp 20]) rfl ?_); at_builtin; refine Kd.R_append_rows kptr (w0 := w) w.heap.size rfl (.tmp 17) (.tmp 20) 94 70 (.pointer none) 8 rfl under94 info70 rfl (by decide) (by omega) v231 y230 (l0.drop (a1 : Int).toNat) _ _ _ (fun _ => True) (fun _ => False) rfl rfl ?aO ?aR (fun _ _ h => h) (fun _ h => h.elim) ?aF ?aB ?aS ?aL ?_; (case aR => first | (rw [<- show (l0.drop (a1 : Int).toNat).length = (l0.length - a1.toNat) from List.length_drop]; repeat (first | exact (Kd.C_below HR233.out HB.out) | (with_reducible refine Kd.C_alloc ?_ _) | (with_reducible refine Kd.C_drewN ?_ _) | (with_reducible refine Kd.C_drew ?_))) | (repeat (first | exact (Kd.C_below HR233.out HB.out) | (with_reducible refine Kd.C_alloc ?_ _) | (with_reducible refine Kd.C_drewN ?_ _) | (with_reducible refine Kd.C_drew ?_)))); (case aB => exact (be_ HB.out)); (case aF => exact (fun _ _ => trivial)); (case aO => exact (rk_ HO232.out)); (case aS => exact (bw_ HB.out)); (case aL => have := LMc10.out; have hlx_ := (show (l0.drop (a1 : Int).toNat).length = (l0.length - a1.toNat) from List.length_drop); omega); intro v235 w17 ho hb hg hat; rw [<- Ny234.out] at ho; have n0_ := A_ (hb); have n1_ := A_ (ho); clear HB; clear HO232; have HB := n0_; have HO236 := n1_; clear n0_ n1_; clear ho hb hg hat))
      go_ret
      exact ⟨_, ew_, by (with_reducible repeat (first | apply Kd.R_alloc | apply Kd.R_drewN | apply Kd.R_drew)); exact HO236.out, by repeat (first | (with_reducible first | exact HB.out | apply below_alloc | apply pw_below_drewN | apply below_drew1) | exact HB.out)⟩
     ·rw [if_neg c10] at H
      exact absurd H (by simp)
    ·rw [if_neg c7] at H
     exact absurd H (by simp)
   ·rw [if_neg c6] at H
    exact absurd H (by simp)
  ·rw [if_neg c5] at H
   exact absurd H (by simp)
 ·rw [if_neg c4] at H
  exact absurd H (by simp)
def insAt {α : Type} (l : List α) (i : Nat) (x : α) : List α := l.take i ++ x :: l.drop i
theorem insAt_len {α : Type} {l : List α} {i : Nat} (x : α) (h : i <= l.length) : (insAt l i x).length = l.length + 1 := by
 unfold insAt
 rw [List.length_append, List.length_cons, List.length_take, List.length_drop]
 omega
theorem insAt_map {α β : Type} (f : α -> β) (l : List α) (i : Nat) (x : α) : (insAt l i x).map f = insAt (l.map f) i (f x) := by
 unfold insAt
 rw [List.map_append, List.map_cons, List.map_take, List.map_drop]
theorem l5Insert_f {l : List ByteArray} {i : Nat} (x : ByteArray) (h : i <= l.length) (hl : l.length <= 1000000000000) : spec_l5Insert.f l (i : Int) x = some (insAt l i x) := by
 unfold spec_l5Insert.f insAt
 simp only [Option.bind_some, Int.toNat_natCast, List.length_nil, List.nil_append, List.length_take, List.length_drop, List.length_append, List.length_singleton, List.length_cons]
 rw [if_pos (by omega), if_pos (by omega), if_pos (by omega), if_pos (by omega), if_pos (by omega)]
 simp
theorem l5InsertKid_f {l : List Nat} {i : Nat} (x : Nat) (h : i <= l.length) (hl : l.length <= 1000000000000) : spec_l5InsertKid.f l (i : Int) x = some (insAt l i x) := by
 unfold spec_l5InsertKid.f insAt
 simp only [Option.bind_some, Int.toNat_natCast, List.length_nil, List.nil_append, List.length_take, List.length_drop, List.length_append, List.length_singleton, List.length_cons]
 rw [if_pos (by omega), if_pos (by omega), if_pos (by omega), if_pos (by omega), if_pos (by omega)]
 simp
theorem insKid_n (A : Option Addr) (c : Nat) (l : List Nat) (i x n : Nat) (w : World) (hn : n = l.length) (hr : kptr.C w A n l) (hc : n <= c) (hi : i + 1 <= l.length) (hl : l.length <= 1000000000000) :
  Calls Try.prog 125 #[.slice A n c, .int .i64 ((i : Int) + 1), ptrv x] w fun e w' => ∃ v0_ : Value, e = .returned (v0_) /\ kptr.R 70 w' w.heap.size (fun _ => True) v0_ (insAt l (i + 1) x) /\ Below w.heap.size w w' := by
 subst hn
 exact spec_l5InsertKid.calls A c l ((i + 1 : Nat) : Int) x _ w hr hc (l5InsertKid_f x hi hl)
def splitK (t k : PT) (i : Nat) : PT :=
 .mk (insAt t.keys i (k.keys.getD 2 ByteArray.empty)) (insAt t.vals i (k.vals.getD 2 ByteArray.empty)) (insAt (t.kids.set i (.mk (k.keys.take 2) (k.vals.take 2) (k.kids.take 3))) (i + 1) (.mk (k.keys.drop 3) (k.vals.drop 3) (k.kids.drop 3)))
theorem ins_set {α : Type} {l : List α} {i : Nat} {x x' y : α} (h : l[i]? = some x) : insAt (l.set i x') (i + 1) y = l.take i ++ (x' :: (y :: l.drop (i + 1))) := by
 have hl : i < l.length := (List.getElem?_eq_some_iff.1 h).1
 unfold insAt
 rw [List.take_add_one, List.getElem?_set_self hl, List.take_set_of_le (Nat.le_refl _), List.drop_set_of_lt (Nat.lt_succ_self _)]
 simp
theorem cksL_ins {T E : Nat} {l : List NT} {i : Nat} {k k' r' : NT} (h : l[i]? = some k) : NT.cksL T E (insAt (l.set i k') (i + 1) r') = NT.cksL T E (l.take i) ++ (k'.cks T E ++ (r'.cks T E ++ NT.cksL T E (l.drop (i + 1)))) := by
 rw [ins_set h, cksL_append, NT.cksL, NT.cksL]
theorem eraseL_ins {l : List NT} {i : Nat} {k' r' : NT} : NT.eraseL (insAt (l.set i k') (i + 1) r') = insAt ((NT.eraseL l).set i k'.erase) (i + 1) r'.erase := by
 rw [eraseL_map, insAt_map, List.map_set, <- eraseL_map]
section
variable {w : World} {base T E : Nat} {L : List Ck}
def kidGs (T E : Nat) (t k : NT) (i : Nat) (L : List Ck) : List (List Ck) :=
 [[.box T t.p #[t.kv, t.vv, t.cv]], [txt t.kv t.keys], [txt t.vv t.vals], [.que E t.cv (ptrs t.kids)], NT.cksL T E (t.kids.take i),
   [.box T k.p #[k.kv, k.vv, k.cv]], [txt k.kv k.keys], [txt k.vv k.vals], [.que E k.cv (ptrs k.kids)], NT.cksL T E k.kids, NT.cksL T E (t.kids.drop (i + 1)), L]
theorem kidGs_flat {t k : NT} {i : Nat} (h : t.kids[i]? = some k) : (kidGs T E t k i L).flatten = t.cks T E ++ L := by
 rw [NT.cks_eq, cksL_kid T E h, NT.cks_eq T E k]
 unfold kidGs NT.head
 simp only [List.flatten_cons, List.flatten_nil, List.append_assoc, List.cons_append, List.nil_append, List.append_nil]
theorem open_kid {t k : NT} {i : Nat} (h : t.kids[i]? = some k) (hs : Sat w base (t.cks T E ++ L)) : SatG w base (kidGs T E t k i L) := by
 unfold SatG
 rw [kidGs_flat h]
 exact hs
end
open Go.Proofs.Ytoddejmlcnbdmaa.Fn
def One (m : Nat) (t : PT) : Prop := t.vals.length = t.keys.length /\ t.keys.length <= m /\ (t.kids.length = 0 ∨ t.kids.length = t.keys.length + 1)
mutual
def Bnd : PT -> Prop
 | .mk keys vals kids => One 4 (.mk keys vals kids) /\ BndL kids
def BndL : List PT -> Prop
 | [] => True
 | c :: cs => Bnd c /\ BndL cs
end
theorem BndL_iff : ∀ {l : List PT}, BndL l ↔ ∀ c ∈ l, Bnd c
 | [] => by simp [BndL]
 | c :: cs => by simp only [BndL, List.forall_mem_cons, BndL_iff (l := cs)]
theorem Bnd_iff {t : PT} : Bnd t ↔ One 4 t /\ ∀ c ∈ t.kids, Bnd c := by
 cases t with | mk keys vals kids =>
 rw [Bnd, BndL_iff]
 rfl
def Bnd5 (t : PT) : Prop := One 5 t /\ ∀ c ∈ t.kids, Bnd c
theorem One.mono {a b : Nat} {t : PT} (h : One a t) (hab : a <= b) : One b t := ⟨h.1, Nat.le_trans h.2.1 hab, h.2.2⟩
theorem Bnd.five {t : PT} (h : Bnd t) : Bnd5 t := ⟨(Bnd_iff.1 h).1.mono (by omega), (Bnd_iff.1 h).2⟩
theorem mem_insAt {α : Type} {l : List α} {i : Nat} {x y : α} (h : y ∈ insAt l i x) : y = x ∨ y ∈ l := by
 unfold insAt at h
 rcases List.mem_append.1 h with h | h
 ·exact .inr (List.mem_of_mem_take h)
 ·rcases List.mem_cons.1 h with h | h
  ·exact .inl h
  ·exact .inr (List.mem_of_mem_drop h)
theorem split_bnd {t k : PT} {i : Nat} (ht : t.vals.length = t.keys.length /\ t.keys.length <= 4 /\ t.kids.length = t.keys.length + 1) (hi : i <= t.keys.length) (hk : t.kids.length = t.kids.length) (hc : ∀ (j : Nat) (c : PT), j ≠ i -> t.kids[j]? = some c -> Bnd c) (h5 : Bnd5 k) (hk5 : k.keys.length = 5) : Bnd5 (splitK t k i) := by
 obtain ⟨⟨k1, k2, k3⟩, k4⟩ := h5
 cases k with | mk kk kv kc =>
 simp only [PT.keys, PT.vals, PT.kids] at k1 k2 k3 k4 hk5
 have l : Bnd (.mk (kk.take 2) (kv.take 2) (kc.take 3)) := by
  refine Bnd_iff.2 ⟨⟨?_, ?_, ?_⟩, fun c hc => k4 c (List.mem_of_mem_take hc)⟩
  ·simp only [PT.keys, PT.vals, List.length_take]; omega
  ·simp only [PT.keys, List.length_take]; omega
  ·simp only [PT.keys, PT.kids, List.length_take]; omega
 have r : Bnd (.mk (kk.drop 3) (kv.drop 3) (kc.drop 3)) := by
  refine Bnd_iff.2 ⟨⟨?_, ?_, ?_⟩, fun c hc => k4 c (List.mem_of_mem_drop hc)⟩
  ·simp only [PT.keys, PT.vals, List.length_drop]; omega
  ·simp only [PT.keys, List.length_drop]; omega
  ·simp only [PT.keys, PT.kids, List.length_drop]; omega
 refine ⟨⟨?_, ?_, ?_⟩, ?_⟩
 ·show (insAt _ _ _).length = (insAt _ _ _).length
  rw [insAt_len _ (by omega), insAt_len _ hi]
  omega
 ·show (insAt _ _ _).length <= 5
  rw [insAt_len _ hi]
  omega
 ·right
  show (insAt _ _ _).length = (insAt _ _ _).length + 1
  rw [insAt_len _ (by rw [List.length_set]; omega), insAt_len _ hi, List.length_set]
  omega
 ·intro c hm
  have hm : c ∈ insAt (t.kids.set i _) (i + 1) _ := hm
  rcases mem_insAt hm with rfl | hm
  ·exact r
  ·obtain ⟨j, hj⟩ := List.getElem?_of_mem hm
   rw [List.getElem?_set] at hj
   split at hj
   ·split at hj
    ·obtain rfl := Option.some.inj hj
     exact l
    ·cases hj
   ·rename_i hne
    exact hc j c (fun e => hne e.symm) hj
def putP : Nat -> PT -> ByteArray -> ByteArray -> PT
 | 0, t, _, _ => t
 | n + 1, t, key, val =>
  if hasS t.keys (atI key t.keys) key = true then .mk t.keys (t.vals.set (atI key t.keys) val) t.kids
  else if t.kids.length = 0 then .mk (insAt t.keys (atI key t.keys) key) (insAt t.vals (atI key t.keys) val) t.kids
  else match t.kids[atI key t.keys]? with
   | none => t
   | some s => if 4 < (putP n s key val).keys.length then splitK t (putP n s key val) (atI key t.keys) else .mk t.keys t.vals (t.kids.set (atI key t.keys) (putP n s key val))
theorem putP_bnd : ∀ (n : Nat) (t : PT) (key val : ByteArray), Bnd t -> Bnd5 (putP n t key val)
 | 0, t, key, val, h => h.five
 | n + 1, t, key, val, h => by
  obtain ⟨⟨h1, h2, h3⟩, h4⟩ := Bnd_iff.1 h
  have hle := atI_le key t.keys
  rw [putP]
  split
  ·exact ⟨⟨by show (t.vals.set _ _).length = _; rw [List.length_set]; exact h1, by show t.keys.length <= 5; omega, h3⟩, h4⟩
  ·split
   ·rename_i h0
    refine ⟨⟨?_, ?_, .inl h0⟩, h4⟩
    ·show (insAt _ _ _).length = (insAt _ _ _).length
     rw [insAt_len _ (by omega), insAt_len _ hle]
     omega
    ·show (insAt _ _ _).length <= 5
     rw [insAt_len _ hle]
     omega
   ·rename_i h0
    cases hs : t.kids[atI key t.keys]? with
    | none => exact h.five
    | some s =>
     have ih := putP_bnd n s key val (h4 s (List.mem_of_getElem? hs))
     simp only
     split
     ·rename_i h5
      exact split_bnd ⟨h1, h2, by omega⟩ hle rfl (fun j c _ hj => h4 c (List.mem_of_getElem? hj)) ih (by have := ih.1.2.1; omega)
     ·rename_i h5
      refine ⟨⟨h1, by show t.keys.length <= 5; omega, by show (t.kids.set _ _).length = 0 ∨ (t.kids.set _ _).length = _; rw [List.length_set]; exact h3⟩, fun c hm => ?_⟩
      rcases List.mem_or_eq_of_mem_set hm with hm | rfl
      ·exact h4 c hm
      ·exact Bnd_iff.2 ⟨⟨ih.1.1, by omega, ih.1.2.2⟩, ih.2⟩
end Go.Proofs.Ytoddejmlcnbdmaa.Tree
namespace Go.Proofs.Ytoddejmlcnbdmaa.Pure
def nm (s : ByteArray) : List Int := s.data.toList.map fun b => (b.toNat : Int)
theorem nm_length (s : ByteArray) : (nm s).length = s.size := by
 rw [nm, List.length_map, Array.length_toList]; rfl
theorem toList_nil {s : ByteArray} : s.toList = ([] : List UInt8) ↔ nm s = [] := by
 rw [Lib.toList_data, nm]
 simp
theorem nm_append (s t : ByteArray) : nm (s ++ t) = nm s ++ nm t := by
 simp [nm]
theorem mark_ev {α γ : Type} (L : Nat -> List α -> γ -> Int -> Option (γ × List α)) (cn : Nat -> γ) (e : Nat -> α -> α) (l : List α)
  (hend : ∀ k x, x.length = l.length -> L (k + 1) x (cn l.length) (l.length : Int) = some (cn l.length, x))
  (hstep : ∀ (i : Nat) (y : α), l[i]? = some y -> ∃ K, ∀ k (x : List α), K <= k -> x.length = l.length -> x[i]? = some y -> L (k + 1) x (cn i) (i : Int) = L k (x.set i (e i y)) (cn (i + 1)) ((i + 1 : Nat) : Int)) :
  Ev (fun k => L k l (cn 0) 0) (cn l.length, l.mapIdx e) := by
 have := ev_down l.length (fun i => Ev (fun k => L k ((l.mapIdx e).take i ++ l.drop i) (cn i) (i : Int)) (cn l.length, l.mapIdx e)) ?_ ?_
 ·simpa using this
 ·refine ⟨1, fun k hk => ?_⟩
  obtain ⟨m, rfl⟩ : ∃ m, k = m + 1 := ⟨k - 1, by omega⟩
  dsimp only
  rw [hend _ _ (by simp)]
  simp only [List.drop_length, List.append_nil]
  rw [List.take_of_length_le (by simp)]
 ·intro i hi ih
  have hx : l[i]? = some l[i] := List.getElem?_eq_getElem hi
  have hm : i = ((l.mapIdx e).take i).length := by simp; omega
  obtain ⟨K, hK⟩ := hstep i _ hx
  refine Ev.next (K := K) (fun k hk => ?_) ih
  have hd : l.drop i = l[i] :: l.drop (i + 1) := List.drop_eq_getElem_cons hi
  have hat : ((l.mapIdx e).take i ++ l.drop i)[i]? = some l[i] := by
   rw [List.getElem?_append_right (by omega), hd]
   have h0 : i - ((l.mapIdx e).take i).length = 0 := by omega
   rw [h0]; rfl
  rw [hK k _ hk (by simp; omega) hat]
  congr 1
  rw [List.set_append_right _ _ (by omega)]
  have h1 : i - ((l.mapIdx e).take i).length = 0 := by omega
  rw [h1, hd, List.set_cons_zero, List.take_succ_eq_append_getElem (by simpa using hi)]
  simp
open Go.Proofs.Ytoddejmlcnbdmaa.Fn Go.Proofs.Ytoddejmlcnbdmaa.Tree
theorem within_eq (a b c : Int) : impl_within.f a b c = some (decide (b <= a /\ a <= c)) := by
 unfold impl_within.f
 by_cases h : b <= a
 ·rw [if_pos h]; simp [h]
 ·rw [if_neg h]; simp [h]
def keyOk (s : ByteArray) : Bool := decide (1 <= s.size /\ s.size <= 12)
def valOk (s : ByteArray) : Bool := decide (s.size <= 12)
theorem isKey_eq (s : ByteArray) : impl_isKey.f s = some (keyOk s) := by
 simp only [impl_isKey.f, within_eq, Option.bind_some, keyOk, Option.some.injEq, decide_eq_decide]
 omega
theorem isVal_eq (s : ByteArray) : impl_isVal.f s = some (valOk s) := by
 simp only [impl_isVal.f, valOk, Option.some.injEq, decide_eq_decide]
 omega
theorem text_eq (s : ByteArray) : spec_l5Text.f s = some (valOk s) := isVal_eq s
theorem size_nil (s : ByteArray) : (s.toList != ([] : List UInt8)) = decide (1 <= s.size) := by
 rw [Bool.eq_iff_iff]
 simp only [bne_iff_ne, ne_eq, toList_nil, decide_eq_true_eq]
 rw [<- nm_length]
 cases h : nm s with
 | nil => simp
 | cons x t => simp
theorem pair_eq (a b : ByteArray) : spec_l5Pair.f a b = some (keyOk a && valOk b) := by
 simp only [spec_l5Pair.f, text_eq, Option.bind_some, size_nil]
 cases ha : valOk a with
 | false =>
  have : keyOk a = false := by
   simp only [valOk, decide_eq_false_iff_not] at ha
   simp only [keyOk, decide_eq_false_iff_not]
   omega
  simp [this]
 | true =>
  have : keyOk a = decide (1 <= a.size) := by
   simp only [valOk, decide_eq_true_eq] at ha
   simp only [keyOk, decide_eq_decide]
   omega
  cases hb : valOk b <;> simp [this]
theorem pairS_eq (a b : ByteArray) : pairS a b = (keyOk a && valOk b) := by
 have := (pairS_f a b).symm.trans (pair_eq a b)
 exact Option.some.inj this
def riseP : List ByteArray -> Option ByteArray -> Bool
 | [], _ => true
 | k :: ks, prev => keyOk k && (prevOk prev k && riseP ks (some k))
theorem chk_split : ∀ (ks vs : List ByteArray) (prev : Option ByteArray), ks.length = vs.length -> chkS ks vs prev = (riseP ks prev && vs.all valOk)
 | [], [], _, _ => rfl
 | [], v :: vs, _, h => by simp at h
 | k :: ks, [], _, h => by simp at h
 | k :: ks, v :: vs, prev, h => by
  have := chk_split ks vs (some k) (by simpa using h)
  rw [chkS, List.headD_cons, List.drop_succ_cons, List.drop_zero, this, pairS_eq, riseP, List.all_cons]
  cases keyOk k <;> cases valOk v <;> cases prevOk prev k <;> simp
theorem rising_ev (K : List ByteArray) (hK : K.length <= 1048576000) : Ev (fun k => impl_areRising.f k K) (riseP K none) := by
 have key : ∀ (t : List ByteArray) (i : Nat), K.drop i = t -> i <= K.length -> Ev (fun k => impl_areRising.l0 k K K K.length i) (riseP t (prevAt K i)) := by
  intro t
  induction t with
  | nil =>
   intro i h hi
   have := drop_nil h
   (refine Ev.up ?_; simp only [impl_areRising.l0, decT])
   (repeat (first | with_reducible refine Ev.bindS ?_ | (with_reducible refine Ev.ifp ?_ ?_; (· exact cnd_)) | (with_reducible refine Ev.ifn ?_ ?_; (· exact cnd_))))
   exact Ev.val rfl
  | cons x t ih =>
   intro i h hi
   obtain ⟨p1, p2, p3⟩ := drop_cons h
   have ih := ih (i + 1) p3 (by omega)
   have hn : prevAt K (i + 1) = some x := p2
   rw [hn] at ih
   (refine Ev.up ?_; simp only [impl_areRising.l0, decT])
   rw [rdOf_at p2, wrap_succ (by omega), isKey_eq]
   simp only [riseP]
   cases hp : keyOk x with
   | false =>
    (repeat (first | with_reducible refine Ev.bindS ?_ | (with_reducible refine Ev.ifp ?_ ?_; (· exact cnd_)) | (with_reducible refine Ev.ifn ?_ ?_; (· exact cnd_))))
    exact Ev.val (by simp)
   | true =>
    rw [Bool.true_and]
    (repeat (first | with_reducible refine Ev.bindS ?_ | (with_reducible refine Ev.ifp ?_ ?_; (· exact cnd_)) | (with_reducible refine Ev.ifn ?_ ?_; (· exact cnd_))))
    rcases Nat.eq_zero_or_pos i with h0 | h0
    ·subst h0
     simp only [prevAt, prevOk, Bool.true_and]
     (repeat (first | with_reducible refine Ev.bindS ?_ | (with_reducible refine Ev.ifp ?_ ?_; (· exact cnd_)) | (with_reducible refine Ev.ifn ?_ ?_; (· exact cnd_))))
     exact ih
    ·obtain ⟨j, rfl⟩ : ∃ j, i = j + 1 := ⟨i - 1, by omega⟩
     have e : wrap64 (((j + 1 : Nat) : Int) - 1) = (j : Int) := by rw [wrap_ok (by omega) (by omega)]; omega
     have hj : j < K.length := by omega
     have hj2 : K[j]? = some K[j] := List.getElem?_eq_getElem hj
     simp only [prevAt, hj2, prevOk]
     rw [e, rdOf_at hj2]
     (repeat (first | with_reducible refine Ev.bindS ?_ | (with_reducible refine Ev.ifp ?_ ?_; (· exact cnd_)) | (with_reducible refine Ev.ifn ?_ ?_; (· exact cnd_))))
     cases hb : ltB K[j] x with
     | true =>
      have hb' : Op.bytesLess K[j].toList x.toList = true := hb
      rw [Bool.true_and]
      (repeat (first | with_reducible refine Ev.bindS ?_ | (with_reducible refine Ev.ifp ?_ ?_; (· exact cnd_)) | (with_reducible refine Ev.ifn ?_ ?_; (· exact cnd_))))
      exact ih
     | false =>
      have hb' : ¬ Op.bytesLess K[j].toList x.toList = true := by
       have : Op.bytesLess K[j].toList x.toList = false := hb
       rw [this]; simp
      (repeat (first | with_reducible refine Ev.bindS ?_ | (with_reducible refine Ev.ifp ?_ ?_; (· exact cnd_)) | (with_reducible refine Ev.ifn ?_ ?_; (· exact cnd_))))
      exact Ev.val (by simp)
 exact key K 0 rfl (by omega)
theorem find_ev (l : List ByteArray) (hl : l.length <= 1048576000) : Ev (fun k => slices_ContainsFunc_at117.f k l) (!(l.all valOk)) := by
 have key : ∀ (t : List ByteArray) (i : Nat), l.drop i = t -> i <= l.length -> ∃ r : Int, Ev (fun k => slices_IndexFunc_at117.l0 k l l.length i) r /\ decide (r ≥ 0) = !(t.all valOk) := by
  intro t
  induction t with
  | nil =>
   intro i h hi
   have := drop_nil h
   refine ⟨-1, ?_, by simp⟩
   (refine Ev.up ?_; simp only [slices_IndexFunc_at117.l0, decT])
   (repeat (first | with_reducible refine Ev.bindS ?_ | (with_reducible refine Ev.ifp ?_ ?_; (· exact cnd_)) | (with_reducible refine Ev.ifn ?_ ?_; (· exact cnd_))))
   exact Ev.val rfl
  | cons x t ih =>
   intro i h hi
   obtain ⟨p1, p2, p3⟩ := drop_cons h
   obtain ⟨r, ih, hr⟩ := ih (i + 1) p3 (by omega)
   cases hx : valOk x with
   | true =>
    refine ⟨r, ?_, by rw [List.all_cons, hx, hr]; simp⟩
    (refine Ev.up ?_; simp only [slices_IndexFunc_at117.l0, decT])
    simp only [rdOf_at p2, wrap_succ (i := i) (by omega), impl_arePairs_1.f, isVal_eq, hx, Option.bind_some]
    (repeat (first | with_reducible refine Ev.bindS ?_ | (with_reducible refine Ev.ifp ?_ ?_; (· exact cnd_)) | (with_reducible refine Ev.ifn ?_ ?_; (· exact cnd_))))
    exact ih
   | false =>
    refine ⟨i, ?_, by rw [List.all_cons, hx]; simp⟩
    (refine Ev.up ?_; simp only [slices_IndexFunc_at117.l0, decT])
    simp only [rdOf_at p2, wrap_succ (i := i) (by omega), impl_arePairs_1.f, isVal_eq, hx, Option.bind_some]
    (repeat (first | with_reducible refine Ev.bindS ?_ | (with_reducible refine Ev.ifp ?_ ?_; (· exact cnd_)) | (with_reducible refine Ev.ifn ?_ ?_; (· exact cnd_))))
    exact Ev.val rfl
 obtain ⟨r, h1, h2⟩ := key l 0 rfl (by omega)
 simp only [slices_ContainsFunc_at117.f]
 refine Ev.bind (g := fun k => slices_IndexFunc_at117.f k l) h1 ?_
 exact Ev.val h2
def pairsOk (K V : List ByteArray) : Bool := decide (K.length <= 40) && (decide (V.length = K.length) && (riseP K none && V.all valOk))
theorem arePairs_ev (K V : List ByteArray) (hK : K.length <= 1048576000) (hV : V.length <= 1048576000) : Ev (fun k => impl_arePairs.f k K V) (pairsOk K V) := by
 simp only [impl_arePairs.f, pairsOk]
 by_cases h : K.length <= 40
 ·rw [decide_eq_true h, Bool.true_and]
  (repeat (first | with_reducible refine Ev.bindS ?_ | (with_reducible refine Ev.ifp ?_ ?_; (· exact cnd_)) | (with_reducible refine Ev.ifn ?_ ?_; (· exact cnd_))))
  by_cases h2 : V.length = K.length
  ·rw [decide_eq_true h2, Bool.true_and]
   (repeat (first | with_reducible refine Ev.bindS ?_ | (with_reducible refine Ev.ifp ?_ ?_; (· exact cnd_)) | (with_reducible refine Ev.ifn ?_ ?_; (· exact cnd_))))
   refine Ev.bind (rising_ev K hK) ?_
   cases riseP K none with
   | false => (repeat (first | with_reducible refine Ev.bindS ?_ | (with_reducible refine Ev.ifp ?_ ?_; (· exact cnd_)) | (with_reducible refine Ev.ifn ?_ ?_; (· exact cnd_)))); exact Ev.val (by simp)
   | true =>
    (repeat (first | with_reducible refine Ev.bindS ?_ | (with_reducible refine Ev.ifp ?_ ?_; (· exact cnd_)) | (with_reducible refine Ev.ifn ?_ ?_; (· exact cnd_))))
    refine Ev.bind (find_ev V hV) ?_
    exact Ev.val (by simp)
  ·rw [decide_eq_false h2]
   (repeat (first | with_reducible refine Ev.bindS ?_ | (with_reducible refine Ev.ifp ?_ ?_; (· exact cnd_)) | (with_reducible refine Ev.ifn ?_ ?_; (· exact cnd_))))
   exact Ev.val (by simp)
 ·rw [decide_eq_false h]
  (repeat (first | with_reducible refine Ev.bindS ?_ | (with_reducible refine Ev.ifp ?_ ?_; (· exact cnd_)) | (with_reducible refine Ev.ifn ?_ ?_; (· exact cnd_))))
  exact Ev.val (by simp)
theorem pairs_chk (K V : List ByteArray) (h : V.length = K.length) : pairsOk K V = (decide (K.length <= 40) && chkS K V none) := by
 rw [pairsOk, chk_split K V none h.symm, decide_eq_true h, Bool.true_and]
end Go.Proofs.Ytoddejmlcnbdmaa.Pure

