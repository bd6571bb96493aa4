/- The law FnPages holds of the given program: at every input it answers true and leaves its arguments as they were; no condition. This text: part 5 of what its proof reaches. -/
import Derived.Deep.QuietTactic
import Derived.BigQuiet
import Derived.Test.YtoddejmlcnbdmaaCFPagesA
import Derived.Test.YtoddejmlcnbdmaaCFPagesB
import Derived.Test.YtoddejmlcnbdmaaCFPagesC
import Derived.Test.YtoddejmlcnbdmaaCFPagesD
set_option maxHeartbeats 8000000
set_option maxRecDepth 100000
set_option linter.unusedVariables false
set_option linter.unusedSimpArgs false
open Go.RowKit Go.Proofs.YtoddejmlcnbdmaaW.PrintWords Go.Proofs.YtoddejmlcnbdmaaW.PrintLast Go.Proofs.YtoddejmlcnbdmaaW.PrintMore Go.Proofs.Ytoddejmlcnbdmaa.Gen Go.Proofs.Ytoddejmlcnbdmaa.Fn Go.Proofs.Ytoddejmlcnbdmaa.Tree
namespace Go.Proofs.Ytoddejmlcnbdmaa.Tree
theorem AR {l : List ByteArray} {n : Nat} {x : ByteArray} (h : n = l.length) : aI l n x = l ++ [x] := by
 subst h;unfold aI;rw [List.take_length, List.drop_length]
theorem Kn.calls (t l r : NT) (P Q : List NT) (i : Nat) (hno : i = 0 \/ 0 < i /\ ∃ s : NT, t.kids[i - 1]? = some s /\ s.keys.length <= 2) (ht : t.kids = P ++ l :: r :: Q) (hP : P.length = i) (h2 : 2 < r.keys.length) (hk2 : l.keys.length < 2) (hl : FX l.keys l.vals l.kids.length) (hr : FX r.keys r.vals r.kids.length) (hj : i < t.keys.length /\ t.keys.length <= 1000 /\ t.vals.length = t.keys.length /\ t.kids.length = t.keys.length + 1)
  (base : Nat) (L : List Ck) (w : World) (hs : Sat w base (t.dH 101 74 ++ L)) (hbs : base <= w.heap.size) :
  Calls Try.prog 133 #[bu t.p, .int .i64 (i : Int)] w (WR w base 101 74 t L (BL t.erase i)) := by
 have OA : af (i = 0 \/ 0 < i /\ ∃ (sp n : Nat) (A : Option Addr) (c : Nat), Iq t.kids (i - 1) sp /\ n <= 2 /\ w.cell? ⟨sp, 0, none⟩ = some (.slice A n c)) := ⟨by
  rcases hno with h | ⟨h, s, h1, h2⟩
  ·exact .inl h
  ·obtain ⟨A, c, h3⟩ := oJ hs h1
   exact .inr ⟨h, s.p, s.keys.length, A, c, ⟨s, h1, rfl⟩, h2, h3⟩⟩
 clear hno
 cases t with | mk tp yC yD yE tks tvs aJ =>
 cases l with | mk lp JC JD JE dF kG lcs =>
 cases r with | mk rp JF JG rcv mG lK eU =>
 have h0 := open_pair ht hs;unfold kL at h0;simp only [NT.keys, NT.vals, NT.kids, NT.p, NT.kv, NT.vv, NT.cv] at ht hl hr hj h0 h2 hk2 OA ⊢;clear hs;unfold FX at hl hr;obtain ⟨hl1, hl2, hl3⟩ := hl;obtain ⟨hr1, hr2, hr3⟩ := hr;obtain ⟨hj1, hj2, JH, KU⟩ := hj;have hil : (i + 1) < aJ.length := by rw [ht, List.length_append, hP]; simp only [List.length_cons]; omega
 have hij : (i + 1) = i + 1 := by omega
 have HP := A_ hP;have HT := A_ ht
 have hkl : aJ[i]? = some (NT.mk lp JC JD JE dF kG lcs) /\ (NT.mk lp JC JD JE dF kG lcs).p = lp := ⟨by rw [ht]; exact M9 hP, rfl⟩
 have hkr : aJ[(i + 1)]? = some (NT.mk rp JF JG rcv mG lK eU) /\ (NT.mk rp JF JG rcv mG lK eU).p = rp := ⟨by rw [ht, hij]; exact Na hP, rfl⟩
 have xu := A_ hkl;have Oz := A_ hkr;clear hkl hkr ht hij
 obtain ⟨R, hR⟩ : ∃ R, R = BL (NT.mk tp yC yD yE tks tvs aJ).erase i := ⟨_, rfl⟩
 rw [<- hR];have HRR := A_ hR;clear hR;obtain ⟨jF, fG, rfl⟩ := Kd.ak (h0.sr 1 rfl);obtain ⟨jG, rfl⟩ := dA (h0.sr 1 rfl) (by omega);obtain ⟨jK, fM, rfl⟩ := Kd.ak (h0.sr 2 rfl);obtain ⟨jH, rfl⟩ := dA (h0.sr 2 rfl) (by omega);obtain ⟨qB, fK, rfl, _, _⟩ := dz (h0.q 3 rfl);obtain ⟨iB, rfl⟩ := fJ (h0.q 3 rfl) (by omega);obtain ⟨Fz, uz, rfl⟩ := Kd.ak (h0.sr 5 rfl);obtain ⟨Bc, sH, rfl⟩ := Kd.ak (h0.sr 6 rfl);obtain ⟨vY, nK, rfl, _, _⟩ := dz (h0.q 7 rfl);obtain ⟨G9, FB, rfl⟩ := Kd.ak (h0.sr 10 rfl);obtain ⟨ZG, rfl⟩ := dA (h0.sr 10 rfl) (by omega);obtain ⟨Bd, Ai, rfl⟩ := Kd.ak (h0.sr 11 rfl);obtain ⟨ZH, rfl⟩ := dA (h0.sr 11 rfl) (by omega);obtain ⟨vZ, crc, rfl, _, _⟩ := dz (h0.q 12 rfl)
 obtain ⟨GP, Dm⟩ : ∃ G, G = NT.aZ 101 74 P := ⟨_, rfl⟩
 obtain ⟨GQ, Dn⟩ : ∃ G, G = NT.aZ 101 74 Q ++ L := ⟨_, rfl⟩
 rw [<- Dm, <- Dn] at h0;have HS := A_ h0;have HB := A_ (Below.refl base w);have bQ := A_ hbs;have KW := A_ Dm;have KX := A_ Dn;clear h0 hbs Dm Dn hP;have Rk := A_ (show eU.length <= 1001 /\ lcs.length <= 1001 by omega);have HV := A_ (show kG.length = dF.length /\ lK.length = mG.length /\ tvs.length = tks.length /\ (eU.length = 0 \/ eU.length = mG.length + 1) /\ aJ.length = tks.length + 1 from ⟨hl2, hr2, JH, hr3, KU⟩);have XU : mG.length <= lK.length /\ lK.length <= 1000 := by omega
 have hlv : dF.length <= kG.length /\ kG.length <= 1000 := by omega
 have Fv : i < tvs.length /\ tvs.length <= 1000 := by omega
 have htc : i + 1 < aJ.length /\ aJ.length <= 1001 := by omega
 clear hl2 hl3 hr2 hr3 JH KU
 obtain ⟨tx, htx⟩ : ∃ x, bq tks i = x := ⟨_, rfl⟩
 have oV : af (i < tks.length /\ bq tks i = tx) := ⟨by omega, htx⟩
 clear htx
 obtain ⟨ty, hty⟩ : ∃ x, bq tvs i = x := ⟨_, rfl⟩
 have oh : af (i < tvs.length /\ bq tvs i = ty) := ⟨by omega, hty⟩
 clear hty
 obtain ⟨lx, hlx⟩ : ∃ x, bq mG 0 = x := ⟨_, rfl⟩
 have KY : af (0 < mG.length /\ bq mG 0 = lx) := ⟨by omega, hlx⟩
 clear hlx
 obtain ⟨ly, QV⟩ : ∃ x, bq lK 0 = x := ⟨_, rfl⟩
 have KZ : af (0 < lK.length /\ bq lK 0 = ly) := ⟨by have := HV.out; omega, QV⟩
 clear QV;obtain ⟨l1, mF⟩ := lL (aI dF dF.length tx);obtain ⟨l2, qa⟩ := lL (aI kG dF.length ty);obtain ⟨l3, yF⟩ := lL (tks.set i lx);obtain ⟨l4, Ah⟩ := lL (tvs.set i ly);obtain ⟨l5, zM⟩ := lL (mG.eraseIdx 0);obtain ⟨l6, zN⟩ := lL (lK.eraseIdx 0);go_enter Try.func133, Try.ntmps133;have b7 := bV (0 <= (i : Int));have b8 := bV ((i : Int) < (aJ.length : Int));have b9 := bV (i < aJ.length)
 have eT := (aa.z2 HS.out 0 rfl)
 have qU := (ik (aa.fH HS.out 3 rfl) xu.out)
 go_upto_region 1 with fail
 clear eT qU;have c10 := kS ((2 : Int) <= (dF.length : Int))
 have eT := (aa.z0 HS.out 4 rfl)
 go_upto_if 26 with fail
 clear eT;go_cut [] (fun wc => w = wc)
 case first =>
  skip
  rcases OA.out with h0 | ⟨h0, ZI, ls, As, cs, ⟨s0, hs1, hs4⟩, hs2, hs3⟩
  ·have c_ : (0 < (i : Int)) = False := eq_false (by omega)
   have K4 := kS ((0 : Int) < (i : Int))
   go_wp2_with fail
   go_meet
   case rel => rfl
  ·have c_ := lQ ((0 : Int) < (i : Int))
   have Rm := bV (1 <= (i : Int));have TE := bV (((i : Int) - 1) < (aJ.length : Int));have Vx := bV ((i - 1) < aJ.length);have K4 := kS ((2 : Int) < (ls : Int));have qU := aa.z2 HS.out 0 rfl;have wG := ik (aa.fH HS.out 3 rfl) (And.intro hs1 hs4)
   go_wp2_with fail
   go_meet
   case rel => rfl
 case rest =>
  have ew := hcut;subst ew
  go_upto_region 11 with fail
  have c11 := lQ (((i : Int) + 1) < (aJ.length : Int))
  have eT := (aa.z2 HS.out 0 rfl)
  go_upto_region 12 with fail
  clear eT;have b12 := bV (0 <= ((i : Int) + 1));have b13 := bV (((i : Int) + 1) < (aJ.length : Int));have b14 := bV ((i + 1) < aJ.length)
  have eT := (aa.z2 HS.out 0 rfl)
  have qU := (wV (aa.fH HS.out 3 rfl) Oz.out (by omega))
  go_upto_region 13 with fail
  clear eT qU;have c15 := lQ ((2 : Int) < (mG.length : Int))
  have eT := (aa.z0 HS.out 9 rfl)
  go_upto_region 14 with fail
  clear eT;have b16 := bV ((i : Int) < (tks.length : Int));have b17 := bV (i < tks.length);have b18 := bV ((i : Int) < (tvs.length : Int));have b19 := bV (i < tvs.length);refine bS (n := 21) (S := fun w' => w'.cell? ⟨lp, 0, none⟩ = some (.slice Fz dF.length uz) /\ w'.cell? ⟨tp, 0, none⟩ = some (.slice (some ⟨jG, 0, none⟩) tks.length fG) /\ w'.cell? ⟨jG, i, none⟩ = some (.string tx) /\ w'.cell? ⟨tp, 1, none⟩ = some (.slice (some ⟨jH, 0, none⟩) tvs.length fM) /\ w'.cell? ⟨jH, i, none⟩ = some (.string ty)) (ds := [20]) (bt 21 0) (by kernel_rfl) rfl rfl ⟨(aa.z0 (aa.drew HS.out) 4 rfl), (aa.z0 (aa.drew HS.out) 0 rfl), (iH (aa.sr (aa.drew HS.out) 1 rfl) oV.out), (aa.z1 (aa.drew HS.out) 0 rfl), (iH (aa.sr (aa.drew HS.out) 2 rfl) oh.out)⟩ (fun hHeld => ?_);refine aH 0 140 1 ?_;refine aH 1 141 3 ?_;refine aH 2 142 7 ?_;refine aH 3 143 15 ?_;refine aH 6 146 79 ?_;refine aH 7 147 207 ?_;refine aH 8 148 463 ?_;refine aH 10 150 1487 ?_;refine aH 13 153 9679 ?_;refine aH 14 154 26063 ?_;refine aH 15 155 58831 ?_;refine aH 17 157 189903 ?_;refine fq 4 144 189919 hHeld ?_;refine aH 5 145 189951 ?_;refine fq 9 149 190463 hHeld ?_;refine aH 11 151 192511 ?_;refine fq 12 152 196607 hHeld ?_;refine fq 16 156 262143 hHeld ?_;refine aH 18 158 524287 ?_;refine fq 19 159 1048575 hHeld ?_;refine qz 20 (some 160) 2097151 (fun K hK => ?_);have zO := yL (aa.gJ (aa.drew HS.out) [4, 5, 6, 0, 1, 2, 3, 7, 8, 9, 10, 11, 12, 13, 14, 15] (by decide));refine lI Try.func126 #[bu lp, .int .i64 (dF.length : Int), .string tx, .string ty] ?_
  with_reducible refine (Mh (i := dF.length) zO mF.out qa.out (by omega) (cO bQ HB)).mono ?_
  rintro e w2 ⟨rfl, zI, c21, Dq, c23, hs_, nD⟩;refine ⟨_, rfl, ?_⟩;have ah := jN hs_
  replace HB : af (Below base w w2) := ⟨((aG HB.out)).trans nD⟩
  replace HS := ah; clear ah hs_ nD zO;refine hK.out _ _ ?_;clear hK K;refine YK 160 ?_;refine dL (by kernel_rfl) ?_
  go_upto_region 15 with fail
  refine bS (n := 19) (S := fun w' => w'.cell? ⟨tp, 0, none⟩ = some (.slice (some ⟨jG, 0, none⟩) tks.length fG) /\ w'.cell? ⟨tp, 1, none⟩ = some (.slice (some ⟨jH, 0, none⟩) tvs.length fM)) (ds := [16, 18]) (bt 19 0) (by kernel_rfl) rfl rfl ⟨(aa.z0 (aa.drew HS.out) 3 rfl), (aa.z1 (aa.drew HS.out) 3 rfl)⟩ (fun hHeld => ?_);refine aH 0 162 1 ?_;refine aH 1 163 3 ?_;refine aH 2 164 7 ?_;refine aH 4 166 23 ?_;refine aH 5 167 55 ?_;refine aH 6 168 119 ?_;refine aH 7 169 247 ?_;refine aH 9 171 759 ?_;refine aH 10 172 1783 ?_;refine fq 3 165 1791 hHeld ?_;refine fq 8 170 2047 hHeld ?_;refine gG 11 (some 173) 4095 (fun K hK => ?_);have zO := yL (aa.gJ (aa.drew HS.out) [9, 10, 11, 0, 1, 2, 3, 4, 5, 6, 7, 8, 12, 13, 14, 15] (by decide));refine lI Try.func131 #[bu rp, .int .i64 0] ?_
  with_reducible refine (yh (i := 0) zO KY.out KZ.out zM.out zN.out (by omega) (cO bQ HB)).mono ?_
  rintro e w3 ⟨rfl, Dp, Ae, G7, G8, hs_, nD⟩;refine ⟨_, rfl, ?_⟩;have ah := jN hs_
  replace HB : af (Below base w w3) := ⟨((aG HB.out)).trans nD⟩
  replace HS := ah; clear ah hs_ nD zO;have zs0 := iH (aa.sr HS.out 7 rfl) oV.out;have jE := fZ (aa.sr HS.out 7 rfl) (Nat.lt_of_le_of_lt (Nat.zero_le _) oV.out.1) i;have Ox := iH (aa.sr HS.out 8 rfl) oh.out;have Oy := fZ (aa.sr HS.out 8 rfl) (Nat.lt_of_le_of_lt (Nat.zero_le _) oh.out.1) i;refine dh 173 hK ⟨(aa.z0 HS.out 6 rfl), (aa.z1 HS.out 6 rfl)⟩ (fun hHeld => ?_);refine aH 12 161 8191 ?_;refine aH 13 174 16383 ?_;refine aH 14 175 32767 ?_;refine aH 15 176 65535 ?_;refine qz 16 none 131071 (fun K hK => ?_);refine fA (w1 := ?_) (by rfl) rfl ?_ ?_;rotate_left
  ·go_simp
   rfl
  refine hK.out _ _ ?_;clear hK K;refine aH 17 177 262143 ?_;refine qz 18 none 524287 (fun K hK => ?_);have Oa := iH (aa.sr (aa.nM HS.out 7 rfl i lx yF.out) 8 rfl) oh.out;refine fA (w1 := ?_) (by rfl) rfl ?_ ?_;rotate_left
  ·go_simp
   rfl
  clear Oa;refine hK.out _ _ ?_;clear hK K;refine dL (by kernel_rfl) ?_;have ah := gq (World.setCell (World.setCell w3 ⟨jG, i, none⟩ (.string lx)) ⟨jH, i, none⟩ (.string ly)) (aa.nM (aa.nM HS.out 7 rfl i lx yF.out) 8 rfl i ly Ah.out)
  replace HB : af (Below base w (World.setCell (World.setCell w3 ⟨jG, i, none⟩ (.string lx)) ⟨jH, i, none⟩ (.string ly))) := ⟨((HB.out).setCell (p := ⟨jG, i, none⟩) (rX HS.out 7 rfl oV.out) _).setCell (p := ⟨jH, i, none⟩) (rX HS.out 8 rfl oh.out) _⟩
  generalize World.setCell (World.setCell w3 ⟨jG, i, none⟩ (.string lx)) ⟨jH, i, none⟩ (.string ly) = w4 at ah HB ⊢;replace HS := ah; clear ah zs0 jE Ox Oy
  go_upto_region 16 with fail
  by_cases nN : eU.length = 0
  ·skip
   have hl0 : eU = [] := List.length_eq_zero_iff.1 nN;have SL := A_ hl0;have uo := A_ ((aa.gJ HS.out [0, 1, 2, 12, 13] (by decide)).Ol);have hbl := A_ (show decide (((NT.mk rp (.slice Dp l5.length Ae) (.slice G7 l6.length G8) (.slice vZ eU.length crc) l5 l6 eU).erase.kids.length : Int) = 0) = true from decide_eq_true (by show ((NT.ax eU).length : Int) = 0; rw [aC, List.length_map]; omega))
   go_wp2_with (first | (go_at_call 99; (with_reducible refine (cz.cK true hbl.out _ ?az).mono ?_); (case az => repeat (first | exact uo.out | (with_reducible refine Rd.drewN ?_ _) | (with_reducible refine Rd.drew ?_))); rintro e w' ⟨rfl, ⟨nd, rfl⟩⟩))
   generalize hW : World.drewN _ _ = w5
   have ah : af (aa w5 base [jM 101 rp Dp l5.length Ae G7 l6.length G8 vZ eU.length crc, gK Dp Ae l5, gK G7 G8 l6, jM 101 lp zI l1.length c21 Dq l2.length c23 vY lcs.length nK, gK zI c21 l1, gK Dq c23 l2, jM 101 tp (iX jG) tks.length fG (iX jH) tvs.length fM (some iB) aJ.length fK, uw (iX jG) tks.length fG l3, uw (iX jH) tvs.length fM l4, lX 74 (some iB) fK aJ, lX 74 vY nK lcs, (NT.aZ 101 74 lcs), lX 74 vZ crc eU, (NT.aZ 101 74 eU), GP, GQ]) := ⟨by rw [<- hW]; exact aa.drewN HS.out _⟩
   replace HB : af (Below base w w5) := ⟨by rw [<- hW]; exact aj HB.out _⟩
   replace HS := ah; clear ah uo hbl hW;refine bodyPost_ret (results_none rfl _ _ _) rfl ?_;have hS := yL (aa.gJ HS.out [6, 7, 8, 9, 3, 4, 5, 10, 11, 0, 1, 2, 12, 13, 14, 15] (by decide));refine ⟨rfl, NT.mk tp (.slice (some ⟨jG, 0, none⟩) tks.length fG) (.slice (some ⟨jH, 0, none⟩) tvs.length fM) (.slice (some iB) aJ.length fK) l3 l4 (P ++ NT.mk lp (.slice zI l1.length c21) (.slice Dq l2.length c23) (.slice vY lcs.length nK) l1 l2 lcs :: NT.mk rp (.slice Dp l5.length Ae) (.slice G7 l6.length G8) (.slice vZ eU.length crc) l5 l6 eU :: Q), rfl, ?_, shut_pair rfl ?_, HB.out⟩
   ·have e0 := HRR.out
    rw [HT.out] at e0;rw [e0];show PT.mk l3 l4 (NT.ax (P ++ _ :: _ :: Q)) = BL (PT.mk tks tvs (NT.ax (P ++ _ :: _ :: Q))) i;simp only [aC, List.map_append, List.map_cons];rw [xW (by rw [List.length_map]; exact HP.out)];have Df := mF.out;subst Df;have Dh := qa.out;subst Dh;have Di := yF.out;subst Di;have Dj := Ah.out;subst Dj;have Dk := zM.out;subst Dk;have Dl := zN.out;subst Dl;have K6 := oV.out.2;subst K6;have ety := oh.out.2;subst ety;have QX := KY.out.2;subst QX;have QY := KZ.out.2;subst QY;have q1 : aI dF dF.length (bq tks i) = dF ++ [(bq tks i)] := AR rfl;have q2 : aI kG dF.length (bq tvs i) = kG ++ [(bq tvs i)] := AR HV.out.1.symm;rw [q1, q2];have ec := SL.out;subst ec;simp [rU, uh, NT.erase, NT.ax, PT.keys, PT.vals, PT.kids]
   ·unfold kL
    simp only [NT.keys, NT.vals, NT.kids, NT.p, NT.kv, NT.vv, NT.cv]
    have hq : ∀ a b : NT, a.p = lp -> b.p = rp -> ptrs (P ++ a :: b :: Q) = ptrs aJ := fun a b ha hb => by rw [HT.out]; simp only [ptrs, List.map_append, List.map_cons, ha, hb]; rfl
    rw [hq _ _ rfl rfl, <- KW.out, <- KX.out];exact hS
  ·skip
   have hrc : 0 < eU.length /\ eU.length <= 1001 := by have := Rk.out; omega
   have hlc : lcs.length <= 1001 := by have := Rk.out; omega
   obtain ⟨s, hs0⟩ : ∃ s, eU[0]? = some s := ⟨eU[0], List.getElem?_eq_getElem hrc.1⟩
   obtain ⟨sp, hsp⟩ : ∃ p, s.p = p := ⟨_, rfl⟩
   have jw : af (eU[0]? = some s /\ s.p = sp) := ⟨hs0, hsp⟩
   clear hs0 hsp;obtain ⟨MO, rfl⟩ := fJ (aa.q HS.out 12 rfl) (by omega);obtain ⟨Ro, VL⟩ := lL (lcs ++ [s]);obtain ⟨YC, VM⟩ := lL (eU.drop 1)
   have Vw : af (lcs.map NT.p ++ [sp] = Ro.map NT.p) := ⟨by rw [VL.out, List.map_append, <- jw.out.2]; rfl⟩
   have uo := A_ ((aa.gJ HS.out [0, 1, 2, 12, 13] (by decide)).Ol);have hbl := A_ (show decide (((NT.mk rp (.slice Dp l5.length Ae) (.slice G7 l6.length G8) (.slice (some MO) eU.length crc) l5 l6 eU).erase.kids.length : Int) = 0) = false from decide_eq_false (by show ((NT.ax eU).length : Int) ≠ 0; rw [aC, List.length_map]; omega))
   go_upto_region 17 with (first | (go_at_call 99; (with_reducible refine (cz.cK false hbl.out _ ?az).mono ?_); (case az => repeat (first | exact uo.out | (with_reducible refine Rd.drewN ?_ _) | (with_reducible refine Rd.drew ?_))); rintro e w' ⟨rfl, ⟨nd, rfl⟩⟩))
   generalize hW : World.drewN _ _ = w5
   have ah : af (aa w5 base [jM 101 rp Dp l5.length Ae G7 l6.length G8 (some MO) eU.length crc, gK Dp Ae l5, gK G7 G8 l6, jM 101 lp zI l1.length c21 Dq l2.length c23 vY lcs.length nK, gK zI c21 l1, gK Dq c23 l2, jM 101 tp (iX jG) tks.length fG (iX jH) tvs.length fM (some iB) aJ.length fK, uw (iX jG) tks.length fG l3, uw (iX jH) tvs.length fM l4, lX 74 (some iB) fK aJ, lX 74 vY nK lcs, (NT.aZ 101 74 lcs), lX 74 (some MO) crc eU, (NT.aZ 101 74 eU), GP, GQ]) := ⟨by rw [<- hW]; exact aa.drewN HS.out _⟩
   replace HB : af (Below base w w5) := ⟨by rw [<- hW]; exact aj HB.out _⟩
   replace HS := ah; clear ah uo hbl hW;have b30 := bV ((0 : Int) < (eU.length : Int));have b31 := bV (0 < eU.length);have sd38 : ((lcs.map NT.p).length + 1) * 8 <= 140737488355328 := by rw [List.length_map]; omega
   refine bS (n := 16) (S := fun w' => w'.cell? ⟨lp, 2, none⟩ = some (.slice vY lcs.length nK) /\ w'.cell? ⟨rp, 2, none⟩ = some (.slice (some MO) eU.length crc) /\ w'.cell? MO = some (bu sp)) (ds := [15]) (bt 16 0) (by kernel_rfl) rfl rfl ⟨(aa.z2 (aa.drew HS.out) 3 rfl), (aa.z2 (aa.drew HS.out) 0 rfl), (uI (aa.fH (aa.drew HS.out) 12 rfl) jw.out)⟩ (fun hHeld => ?_);refine aH 0 181 1 ?_;refine aH 1 182 3 ?_;refine aH 2 183 7 ?_;refine aH 3 184 15 ?_;refine aH 5 186 47 ?_;refine aH 6 187 111 ?_;refine aH 7 188 239 ?_;refine fq 4 185 255 hHeld ?_;refine fq 8 189 511 hHeld ?_;refine aH 9 190 1023 ?_;refine fq 10 191 2047 hHeld ?_;refine gG 11 (some 192) 4095 (fun K hK => ?_);refine xy dZ 74 192 [sp] [bu sp] (Kd.aY (enc := bu) [sp]) (aG HB.out) (cO bQ HB) ?_;intro v32 w6 ho hb hg hn;obtain ⟨A33, c34, rfl⟩ : ∃ A c, v32 = .slice A 1 c := Kd.ak ho;have ah := jN (aa.nH (aa.drew HS.out) (qH ho) hg hn)
   replace HB : af (Below base w w6) := ⟨hb⟩
   replace HS := ah; clear ah ho hb hg hn;refine dh 192 hK ⟨(aa.z2 HS.out 3 rfl), (aa.z2 HS.out 0 rfl), (uI (aa.fH HS.out 12 rfl) jw.out)⟩ (fun hHeld => ?_);refine gG 12 (some 193) 8191 (fun K hK => ?_);refine lU (w0 := w) base (by rfl) (.tmp 185) (.tmp 192) 99 74 rfl sO kZ (.slice vY lcs.length nK) (lcs.map NT.p) [sp] A33 1 c34 rfl rfl (aa.q HS.out 10 rfl) (Xc HS.out 16 rfl) HB.out (cO bQ HB) sd38 ?_;intro u35 w7 ho hb hg hat;rw [Vw.out] at ho;obtain ⟨N7, c37, wF⟩ := Kd.xD ho;rw [List.length_map] at wF;obtain ⟨rfl, _⟩ := wF;have ah := jN (aa.O6 10 HS.out rfl ho hg hat)
   replace HB : af (Below base w w7) := ⟨hb⟩
   replace HS := ah; clear ah ho hb hg hat;have zs0 := aa.z2 HS.out 3 rfl;have jE := aa.f HS.out 3 rfl 2;refine dh 193 hK ⟨(aa.z2 HS.out 3 rfl), (aa.z2 HS.out 0 rfl), (uI (aa.fH HS.out 12 rfl) jw.out)⟩ (fun hHeld => ?_);refine aH 13 194 16383 ?_;refine aH 14 195 32767 ?_;refine qz 15 none 65535 (fun K hK => ?_);refine fA (w1 := ?_) (by rfl) rfl ?_ ?_;rotate_left
   ·go_simp
    rfl
   refine hK.out _ _ ?_;clear hK K;refine dL (by kernel_rfl) ?_;have ah := gq (World.setCell w7 ⟨lp, 2, none⟩ (.slice N7 Ro.length c37)) (aa.rW HS.out 3 rfl (.slice N7 Ro.length c37))
   replace HB : af (Below base w (World.setCell w7 ⟨lp, 2, none⟩ (.slice N7 Ro.length c37))) := ⟨(HB.out).setCell (p := ⟨lp, 2, none⟩) (aa.ge HS.out 3 rfl) _⟩
   generalize World.setCell w7 ⟨lp, 2, none⟩ (.slice N7 Ro.length c37) = w8 at ah HB ⊢;replace HS := ah; clear ah zs0 jE
   go_upto_region 18 with fail
   obtain ⟨QR, lH, _, nZ, _⟩ := info_parts kZ;have zk := qh (P := Try.prog) 99 74 .i64 sO lH 1 nZ (some MO) eU.length crc 1 (by omega) (by omega);simp only [show ((1 : Int)).toNat = 1 from by omega] at zk
   obtain ⟨Rp, VN⟩ : ∃ A : Option Addr, A = (if crc = 1 then (some MO) else ((some MO) : Option Addr).map (·.add (1 * 1))) := ⟨_, rfl⟩
   obtain ⟨VO, VP⟩ : ∃ c, c = crc - 1 := ⟨_, rfl⟩
   rw [<- VN, <- VP] at zk;have HA40 := A_ VN;have Hc41 := A_ VP;clear VN VP;clear lH nZ
   have eT := (aa.z2 HS.out 0 rfl)
   have zs0 := aa.z2 HS.out 0 rfl;have jE := aa.f HS.out 0 rfl 2
   go_wp2_with fail
   have ah := gq (World.setCell w8 ⟨rp, 2, none⟩ (.slice Rp (eU.length - 1) VO)) (Xd (aa.rW HS.out 0 rfl (.slice Rp (eU.length - 1) VO)) 12 rfl VM.out (by omega) HA40.out rfl Hc41.out)
   replace HB : af (Below base w (World.setCell w8 ⟨rp, 2, none⟩ (.slice Rp (eU.length - 1) VO))) := ⟨(HB.out).setCell (p := ⟨rp, 2, none⟩) (aa.ge HS.out 0 rfl) _⟩
   generalize World.setCell w8 ⟨rp, 2, none⟩ (.slice Rp (eU.length - 1) VO) = w9 at ah HB ⊢;replace HS := ah; clear ah eT zs0 jE;clear zk
   have QT : af (NT.aZ 101 74 eU = s.dH 101 74 ++ NT.aZ 101 74 YC) := ⟨by rw [VM.out, lW 101 74 jw.out.1, List.take_zero, NT.aZ, List.nil_append]⟩
   have ah : af (aa w9 base [jM 101 rp Dp l5.length Ae G7 l6.length G8 Rp (eU.length - 1) VO, gK Dp Ae l5, gK G7 G8 l6, jM 101 lp zI l1.length c21 Dq l2.length c23 N7 Ro.length c37, gK zI c21 l1, gK Dq c23 l2, jM 101 tp (iX jG) tks.length fG (iX jH) tvs.length fM (some iB) aJ.length fK, uw (iX jG) tks.length fG l3, uw (iX jH) tvs.length fM l4, lX 74 (some iB) fK aJ, lX 74 N7 c37 Ro, (NT.aZ 101 74 lcs), WW 74 Rp (eU.length - 1) VO YC, (NT.aZ 101 74 YC), GP, GQ, [.own 74 (.slice A33 1 c34) (encs bu [sp])], (s.dH 101 74)]) := ⟨aa.Xa HS.out 13 (congrArg some QT.out)⟩
   replace HB : af (Below base w w9) := ⟨HB.out⟩
   replace HS := ah; clear ah;refine bodyPost_ret (results_none rfl _ _ _) rfl ?_;have hS := yL (aa.gJ HS.out [6, 7, 8, 9, 3, 4, 5, 10, 11, 17, 0, 1, 2, 12, 13, 14, 15] (by decide));refine ⟨rfl, NT.mk tp (.slice (some ⟨jG, 0, none⟩) tks.length fG) (.slice (some ⟨jH, 0, none⟩) tvs.length fM) (.slice (some iB) aJ.length fK) l3 l4 (P ++ NT.mk lp (.slice zI l1.length c21) (.slice Dq l2.length c23) (.slice N7 Ro.length c37) l1 l2 Ro :: NT.mk rp (.slice Dp l5.length Ae) (.slice G7 l6.length G8) (.slice Rp (eU.length - 1) VO) l5 l6 YC :: Q), rfl, ?_, shut_pair rfl ?_, HB.out⟩
   ·have e0 := HRR.out
    rw [HT.out] at e0;rw [e0];show PT.mk l3 l4 (NT.ax (P ++ _ :: _ :: Q)) = BL (PT.mk tks tvs (NT.ax (P ++ _ :: _ :: Q))) i;simp only [aC, List.map_append, List.map_cons];rw [xW (by rw [List.length_map]; exact HP.out)];have Df := mF.out;subst Df;have Dh := qa.out;subst Dh;have Di := yF.out;subst Di;have Dj := Ah.out;subst Dj;have Dk := zM.out;subst Dk;have Dl := zN.out;subst Dl;have el28 := VL.out;subst el28;have el29 := VM.out;subst el29;have K6 := oV.out.2;subst K6;have ety := oh.out.2;subst ety;have QX := KY.out.2;subst QX;have QY := KZ.out.2;subst QY;have q1 : aI dF dF.length (bq tks i) = dF ++ [(bq tks i)] := AR rfl;have q2 : aI kG dF.length (bq tvs i) = kG ++ [(bq tvs i)] := AR HV.out.1.symm;rw [q1, q2]
    have hn : ¬ eU = [] := fun h => nN (by rw [h]; rfl)
    have hs' : (eU.map NT.erase).head? = some s.erase := by rw [List.head?_eq_getElem?, List.getElem?_map, jw.out.1]; rfl
    simp [rU, uh, NT.erase, aC, PT.keys, PT.vals, PT.kids, gy, hn, List.map_drop, List.eraseIdx_zero];rw [jw.out.1];rfl
   ·unfold kL
    simp only [NT.keys, NT.vals, NT.kids, NT.p, NT.kv, NT.vv, NT.cv]
    have hq : ∀ a b : NT, a.p = lp -> b.p = rp -> ptrs (P ++ a :: b :: Q) = ptrs aJ := fun a b ha hb => by rw [HT.out]; simp only [ptrs, List.map_append, List.map_cons, ha, hb]; rfl
    have hc : NT.aZ 101 74 Ro = NT.aZ 101 74 lcs ++ s.dH 101 74 := by rw [VL.out, gZ, NT.aZ, NT.aZ, List.append_nil]
    rw [hq _ _ rfl rfl, <- KW.out, <- KX.out, hc];unfold aa at hS ⊢;simp only [List.flatten_cons, List.append_assoc] at hS ⊢;exact hS
theorem Cn.calls (t l r : NT) (P Q : List NT) (i j : Nat) (hkd : ∃ s : NT, t.kids[i]? = some s /\ s.keys.length < 2) (hno : i = 0 \/ 0 < i /\ ∃ s : NT, t.kids[i - 1]? = some s /\ s.keys.length <= 2) (hnb : i + 1 = t.kids.length \/ i + 1 < t.kids.length /\ ∃ s : NT, t.kids[i + 1]? = some s /\ s.keys.length <= 2) (hm : i = j \/ (i = j + 1 /\ j + 2 = t.kids.length)) (ht : t.kids = P ++ l :: r :: Q) (hP : P.length = j) (hl : FX l.keys l.vals l.kids.length) (hr : FX r.keys r.vals r.kids.length) (hj : j < t.keys.length /\ t.keys.length <= 1000 /\ t.vals.length = t.keys.length /\ t.kids.length = t.keys.length + 1)
  (base : Nat) (L : List Ck) (w : World) (hs : Sat w base (t.dH 101 74 ++ L)) (hbs : base <= w.heap.size) :
  Calls Try.prog 133 #[bu t.p, .int .i64 (i : Int)] w (WR w base 101 74 t L (wy t.erase j)) := by
 have OA : af (i = 0 \/ 0 < i /\ ∃ (sp n : Nat) (A : Option Addr) (c : Nat), Iq t.kids (i - 1) sp /\ n <= 2 /\ w.cell? ⟨sp, 0, none⟩ = some (.slice A n c)) := ⟨by
  rcases hno with h | ⟨h, s, h1, h2⟩
  ·exact .inl h
  ·obtain ⟨A, c, h3⟩ := oJ hs h1
   exact .inr ⟨h, s.p, s.keys.length, A, c, ⟨s, h1, rfl⟩, h2, h3⟩⟩
 clear hno
 have Fw : af (∃ (sp n : Nat) (A : Option Addr) (c : Nat), Iq t.kids i sp /\ n < 2 /\ w.cell? ⟨sp, 0, none⟩ = some (.slice A n c)) := ⟨by
  obtain ⟨s, h1, h2⟩ := hkd;obtain ⟨A, c, h3⟩ := oJ hs h1
  exact ⟨s.p, s.keys.length, A, c, ⟨s, h1, rfl⟩, h2, h3⟩⟩
 clear hkd
 have HNB : af (i + 1 = t.kids.length \/ i + 1 < t.kids.length /\ ∃ (sp n : Nat) (A : Option Addr) (c : Nat), Iq t.kids (i + 1) sp /\ n <= 2 /\ w.cell? ⟨sp, 0, none⟩ = some (.slice A n c)) := ⟨by
  rcases hnb with h | ⟨h, s, h1, h2⟩
  ·exact .inl h
  ·obtain ⟨A, c, h3⟩ := oJ hs h1
   exact .inr ⟨h, s.p, s.keys.length, A, c, ⟨s, h1, rfl⟩, h2, h3⟩⟩
 clear hnb
 cases t with | mk tp yC yD yE tks tvs aJ =>
 cases l with | mk lp JC JD JE dF kG lcs =>
 cases r with | mk rp JF JG rcv mG lK eU =>
 have h0 := open_pair ht hs;unfold kL at h0;simp only [NT.keys, NT.vals, NT.kids, NT.p, NT.kv, NT.vv, NT.cv] at ht hl hr hj h0 hm Fw OA HNB ⊢;clear hs;unfold FX at hl hr;obtain ⟨hl1, hl2, hl3⟩ := hl;obtain ⟨hr1, hr2, hr3⟩ := hr;obtain ⟨hj1, hj2, JH, KU⟩ := hj;have hil : (j + 1) < aJ.length := by rw [ht, List.length_append, hP]; simp only [List.length_cons]; omega
 have hij : (j + 1) = j + 1 := by omega
 have HP := A_ hP;have HT := A_ ht
 have hkl : aJ[j]? = some (NT.mk lp JC JD JE dF kG lcs) /\ (NT.mk lp JC JD JE dF kG lcs).p = lp := ⟨by rw [ht]; exact M9 hP, rfl⟩
 have hkr : aJ[(j + 1)]? = some (NT.mk rp JF JG rcv mG lK eU) /\ (NT.mk rp JF JG rcv mG lK eU).p = rp := ⟨by rw [ht, hij]; exact Na hP, rfl⟩
 have xu := A_ hkl;have Oz := A_ hkr;clear hkl hkr ht hij
 obtain ⟨R, hR⟩ : ∃ R, R = wy (NT.mk tp yC yD yE tks tvs aJ).erase j := ⟨_, rfl⟩
 rw [<- hR];have HRR := A_ hR;clear hR;obtain ⟨jF, fG, rfl⟩ := Kd.ak (h0.sr 1 rfl);obtain ⟨jG, rfl⟩ := dA (h0.sr 1 rfl) (by omega);obtain ⟨jK, fM, rfl⟩ := Kd.ak (h0.sr 2 rfl);obtain ⟨jH, rfl⟩ := dA (h0.sr 2 rfl) (by omega);obtain ⟨qB, fK, rfl, _, _⟩ := dz (h0.q 3 rfl);obtain ⟨iB, rfl⟩ := fJ (h0.q 3 rfl) (by omega);obtain ⟨Fz, uz, rfl⟩ := Kd.ak (h0.sr 5 rfl);obtain ⟨Bc, sH, rfl⟩ := Kd.ak (h0.sr 6 rfl);obtain ⟨vY, nK, rfl, _, _⟩ := dz (h0.q 7 rfl);obtain ⟨G9, FB, rfl⟩ := Kd.ak (h0.sr 10 rfl);obtain ⟨Bd, Ai, rfl⟩ := Kd.ak (h0.sr 11 rfl);obtain ⟨vZ, crc, rfl, _, _⟩ := dz (h0.q 12 rfl)
 obtain ⟨GP, Dm⟩ : ∃ G, G = NT.aZ 101 74 P := ⟨_, rfl⟩
 obtain ⟨GQ, Dn⟩ : ∃ G, G = NT.aZ 101 74 Q ++ L := ⟨_, rfl⟩
 rw [<- Dm, <- Dn] at h0;have HS := A_ h0;have HB := A_ (Below.refl base w);have bQ := A_ hbs;have KW := A_ Dm;have KX := A_ Dn;clear h0 hbs Dm Dn hP;have hrc : eU.length <= 1001 := by omega
 have hlc : lcs.length <= 1001 := by omega
 have XU : lK.length <= 1000 := by omega
 have hlv : kG.length <= 1000 := by omega
 have Fv : j < tvs.length /\ tvs.length <= 1000 := by omega
 have htc : j + 1 < aJ.length /\ aJ.length <= 1001 /\ i < aJ.length := by omega
 clear hl2 hl3 hr2 hr3 JH KU
 obtain ⟨tx, htx⟩ : ∃ x, bq tks j = x := ⟨_, rfl⟩
 have oV : af (j < tks.length /\ bq tks j = tx) := ⟨by omega, htx⟩
 clear htx
 obtain ⟨ty, hty⟩ : ∃ x, bq tvs j = x := ⟨_, rfl⟩
 have oh : af (j < tvs.length /\ bq tvs j = ty) := ⟨by omega, hty⟩
 clear hty;obtain ⟨l1, mF⟩ := lL (dF ++ [tx] ++ mG);obtain ⟨l2, qa⟩ := lL (kG ++ [ty] ++ lK);obtain ⟨l3, yF⟩ := lL (tks.eraseIdx j);obtain ⟨l4, Ah⟩ := lL (tvs.eraseIdx j);obtain ⟨l5, zM⟩ := lL (lcs ++ eU);obtain ⟨l6, zN⟩ := lL (aJ.eraseIdx (j + 1));go_enter Try.func133, Try.ntmps133;obtain ⟨kp, kn, Ak, ck, ⟨sk, hk1, hk4⟩, hk2, hk3⟩ := Fw.out;have c0_ := kS ((2 : Int) <= (kn : Int));have Rm := bV (0 <= (i : Int));have TE := bV ((i : Int) < (aJ.length : Int));have Vx := bV (i < aJ.length);have qU := aa.z2 HS.out 0 rfl;have wG := ik (aa.fH HS.out 3 rfl) (And.intro hk1 hk4)
 go_upto_if 26 with fail
 clear wG hk3 hk1 hk4 c0_ hk2
 go_cut [5] from 27 to 41 (fun v_ wc => w = wc)
 case first =>
  skip
  rcases OA.out with h0 | ⟨h0, ZI, ls, As, cs, ⟨s0, hs1, hs4⟩, hs2, hs3⟩
  ·have c_ : (0 < (i : Int)) = False := eq_false (by omega)
   have K4 := kS ((0 : Int) < (i : Int))
   go_wp2_with fail
   go_meet
   case rel => rfl
  ·have c_ := lQ ((0 : Int) < (i : Int))
   have Rm := bV (1 <= (i : Int));have TE := bV (((i : Int) - 1) < (aJ.length : Int));have Vx := bV ((i - 1) < aJ.length);have K4 := kS ((2 : Int) < (ls : Int));have qU := aa.z2 HS.out 0 rfl;have wG := ik (aa.fH HS.out 3 rfl) (And.intro hs1 hs4)
   go_wp2_with fail
   go_meet
   case rel => rfl
 case rest =>
  as_aux_lemma =>
  have ew := hcut;subst ew
  go_upto_if 125 with fail
  go_cut [7] from 125 to 140 (fun v_ wc => w = wc)
  case first =>
   skip
   rcases HNB.out with h0 | ⟨h0, ZI, ls, As, cs, ⟨s0, hs1, hs4⟩, hs2, hs3⟩
   ·have c_ := kS (((i : Int) + 1) < (aJ.length : Int))
    go_wp2_with fail
    go_meet
    case rel => rfl
   ·have c_ := lQ (((i : Int) + 1) < (aJ.length : Int))
    have Rm := bV (0 <= ((i : Int) + 1));have TE := bV (((i : Int) + 1) < (aJ.length : Int));have Vx := bV ((i + 1) < aJ.length);have K4 := kS ((2 : Int) < (ls : Int));have qU := aa.z2 HS.out 0 rfl;have wG := wV (aa.fH HS.out 3 rfl) (And.intro hs1 hs4) (by omega)
    go_wp2_with fail
    go_meet
    case rel => rfl
  case rest =>
   as_aux_lemma =>
   have ew := hcut;subst ew;have hmin : min (i : Int) ((aJ.length : Int) - 2) = (j : Int) := by omega
   go_upto_region 20 with fail
   clear hm hmin qU Rm TE Vx;have b7 := bV (0 <= (j : Int));have b8 := bV ((j : Int) < (aJ.length : Int));have b9 := bV (j < aJ.length);have b10 := bV (0 <= ((j : Int) + 1));have b11 := bV (((j : Int) + 1) < (aJ.length : Int));have b12 := bV ((j + 1) < aJ.length);have q13 : wrap64 ((j : Int) + 1) = ((j : Int) + 1) := jW (by omega);refine bS (n := 17) (S := fun w' => w'.cell? ⟨tp, 2, none⟩ = some (.slice (some iB) aJ.length fK) /\ w'.cell? (iB.add j) = some (bu lp) /\ w'.cell? ⟨iB.block, iB.off + (j + 1), none⟩ = some (bu rp)) (ds := []) (bt 17 0) (by kernel_rfl) rfl rfl ⟨(aa.z2 (aa.drew HS.out) 0 rfl), (ik (aa.fH (aa.drew HS.out) 3 rfl) xu.out), (wV (aa.fH (aa.drew HS.out) 3 rfl) Oz.out (Nat.succ_pos _))⟩ (fun hHeld => ?_);refine aH 0 212 1 ?_;refine aH 1 213 3 ?_;refine aH 2 214 7 ?_;refine aH 4 216 23 ?_;refine aH 7 219 151 ?_;refine aH 8 220 407 ?_;refine aH 9 221 919 ?_;refine aH 11 223 2967 ?_;refine aH 12 224 7063 ?_;refine fq 3 215 7071 hHeld ?_;refine aH 5 217 7103 ?_;refine fq 6 218 7167 hHeld ?_;refine aH 15 8 39935 ?_;refine fq 10 222 40959 hHeld ?_;refine aH 13 225 49151 ?_;refine fq 14 226 65535 hHeld ?_;refine aH 16 9 131071 ?_;refine dL (by kernel_rfl) ?_;clear q13;have ah := gq (World.drew w) ((aa.drew HS.out))
   replace HB : af (Below base w (World.drew w)) := ⟨(aG HB.out)⟩
   generalize World.drew w = w2 at ah HB ⊢;replace HS := ah; clear ah
   go_upto_region 21 with fail
   go_upto_region 22 with (first | (go_at_call 131; have zO := yL (aa.gJ HS.out [0, 1, 2, 3, 4, 5, 6, 7, 8, 9, 10, 11, 12, 13, 14, 15] (by decide)); (with_reducible refine (yh (i := j) zO oV.out oh.out yF.out Ah.out (by omega) (cO bQ HB)).mono ?_); rintro e w3 ⟨rfl, JN, c15, TA, c17, hs_, nD⟩; have ah := jN hs_; replace HB : af (Below base w w3) := ⟨(HB.out).trans nD⟩; replace HS := ah; clear ah hs_ nD zO))
   refine bS (n := 32) (S := fun w' => w'.cell? ⟨lp, 0, none⟩ = some (.slice Fz dF.length uz) /\ w'.cell? ⟨rp, 0, none⟩ = some (.slice G9 mG.length FB) /\ w'.cell? ⟨lp, 1, none⟩ = some (.slice Bc kG.length sH) /\ w'.cell? ⟨rp, 1, none⟩ = some (.slice Bd lK.length Ai)) (ds := [28, 31]) (bt 32 0) (by kernel_rfl) rfl rfl ⟨(aa.z0 (aa.drew HS.out) 4 rfl), (aa.z0 (aa.drew HS.out) 9 rfl), (aa.z1 (aa.drew HS.out) 4 rfl), (aa.z1 (aa.drew HS.out) 9 rfl)⟩ (fun hHeld => ?_);refine aH 0 233 1 ?_;refine aH 1 234 3 ?_;refine aH 2 235 7 ?_;refine aH 3 236 15 ?_;refine aH 4 237 31 ?_;refine aH 6 239 95 ?_;refine aH 8 241 351 ?_;refine aH 9 242 863 ?_;refine aH 10 243 1887 ?_;refine aH 14 247 18271 ?_;refine aH 15 248 51039 ?_;refine aH 16 249 116575 ?_;refine aH 18 251 378719 ?_;refine aH 20 253 1427295 ?_;refine aH 21 254 3524447 ?_;refine aH 22 255 7718751 ?_;refine fq 5 238 7718783 hHeld ?_;refine fq 11 244 7720831 hHeld ?_;refine fq 17 250 7851903 hHeld ?_;refine fq 23 256 16240511 hHeld ?_;refine gQ (σ := Value × Value × Value × Value × Value) 7 (bt 32 33554431) (fun z => [(240, z.1), (245, z.2.1), (246, z.2.2.1), (252, z.2.2.2.1), (257, z.2.2.2.2)]) (fun z w' => Below base w w' /\ aa w' base [jM 101 tp JN l3.length c15 TA l4.length c17 (some iB) aJ.length fK, gK JN c15 l3, gK TA c17 l4, lX 74 (some iB) fK aJ, jM 101 lp Fz dF.length uz Bc kG.length sH vY lcs.length nK, gK Fz uz dF, gK Bc sH kG, lX 74 vY nK lcs, (NT.aZ 101 74 lcs), jM 101 rp G9 mG.length FB Bd lK.length Ai vZ eU.length crc, gK G9 FB mG, gK Bd Ai lK, lX 74 vZ crc eU, (NT.aZ 101 74 eU), GP, GQ, [txt z.2.2.1 l1], [txt z.2.2.2.1 [ty]], [.own 38 z.2.2.2.2 [.slice Bc kG.length sH, z.2.2.2.1, .slice Bd lK.length Ai]]]) ?_ ?_;rotate_left
   ·intro iE
    as_aux_lemma =>
    refine ve 7 19 (some 240) (some 252) 16240639 16764799 (fun K hK => ?_) (fun K hK => ?_)
    ·skip
     as_aux_lemma =>
     refine xy Kd.string 9 240 [tx] [.string tx] (Kd.aY (enc := Value.string) [tx]) (aG HB.out) (cO bQ HB) ?_;intro vb1 NJ dx hbb hgb hnb;have lV := A_ hbb;have lN := A_ (aa.lit (aa.drew HS.out) dx hgb hnb);obtain ⟨gL, gM, rfl⟩ : ∃ A c, vb1 = .slice A 1 c := Kd.ak dx;clear dx hbb hgb hnb;refine dh 240 hK ⟨(aa.z0 lN.out 4 rfl), (aa.z0 lN.out 9 rfl), (aa.z1 lN.out 4 rfl), (aa.z1 lN.out 9 rfl)⟩ (fun hHeld => ?_);refine ve 12 19 (some 245) (some 252) 16244735 16764927 (fun K hK => ?_) (fun K hK => ?_)
     ·skip
      as_aux_lemma =>
      refine gz (w0 := w) base 38 3 (by rfl) (N := 245) rfl (xs := [.slice Fz dF.length uz, .slice gL 1 gM, .slice G9 mG.length FB]) rfl ?hr lV.out (cO bQ lV) (by decide) ?_
      (case hr => first | (go_simp; done) | (go_simp; rfl))
      intro o8 o9 DT dx hbb hgb hnb;have jD := A_ hbb;have iA := A_ (aa.nH lN.out dx hgb hnb);clear dx hbb hgb hnb;refine dh 245 hK ⟨(aa.z0 iA.out 4 rfl), (aa.z0 iA.out 9 rfl), (aa.z1 iA.out 4 rfl), (aa.z1 iA.out 9 rfl)⟩ (fun hHeld => ?_);refine ve 13 19 (some 246) (some 252) 16252927 16769023 (fun K hK => ?_) (fun K hK => ?_)
      ·skip
       as_aux_lemma =>
       refine lI Try.func140 #[.slice o8 3 o9] ?_
       with_reducible refine (Ch iA.out (ig := 17) (i0 := 5) (i1 := 16) (i2 := 10) rfl rfl rfl rfl mF.out (by show _ + 1 + _ <= _; omega)).mono ?_
       rintro e AZ ⟨ja, rfl, ho, hb⟩;refine ⟨_, rfl, ?_⟩;obtain ⟨Aj, Al, rfl⟩ := Kd.ak ho;have kD := A_ ((jD.out).trans (hb.mono (cO bQ jD)));have iw := A_ (aa.eG iA.out hb (cO bQ jD) ho);clear ho hb;refine dh 246 hK ⟨(aa.z0 iw.out 4 rfl), (aa.z0 iw.out 9 rfl), (aa.z1 iw.out 4 rfl), (aa.z1 iw.out 9 rfl)⟩ (fun hHeld => ?_);refine gG 19 (some 252) 16777215 (fun K hK => ?_);refine xy Kd.string 9 252 [ty] [.string ty] (Kd.aY (enc := Value.string) [ty]) kD.out (cO bQ kD) ?_;intro pX SV dx hbb hgb hnb;have uY := A_ hbb;have mh := A_ (aa.lit iw.out dx hgb hnb);obtain ⟨fQ, fT, rfl⟩ : ∃ A c, pX = .slice A 1 c := Kd.ak dx;clear dx hbb hgb hnb;refine dh 252 hK ⟨(aa.z0 mh.out 4 rfl), (aa.z0 mh.out 9 rfl), (aa.z1 mh.out 4 rfl), (aa.z1 mh.out 9 rfl)⟩ (fun hHeld => ?_);refine gG 24 (some 257) 33554431 (fun K hK => ?_);refine gz (w0 := w) base 38 3 (by rfl) (N := 257) rfl (xs := [.slice Bc kG.length sH, .slice fQ 1 fT, .slice Bd lK.length Ai]) rfl ?hr uY.out (cO bQ uY) (by decide) ?_
       (case hr => first | (go_simp; done) | (go_simp; rfl))
       intro rz rA SX dx hbb hgb hnb;have Ha := A_ hbb;have nE := A_ (aa.nH mh.out dx hgb hnb);clear dx hbb hgb hnb;refine dh 257 hK ⟨(aa.z0 nE.out 4 rfl), (aa.z0 nE.out 9 rfl), (aa.z1 nE.out 4 rfl), (aa.z1 nE.out 9 rfl)⟩ (fun hHeld => ?_);exact yA (iE ⟨.slice gL 1 gM, .slice o8 3 o9, .slice Aj l1.length Al, .slice fQ 1 fT, .slice rz 3 rA⟩ _ ⟨Ha.out, aa.gJ nE.out [0, 1, 2, 3, 4, 5, 6, 7, 8, 9, 10, 11, 12, 13, 14, 15, 18, 19, 20] (by decide)⟩)
      ·skip
       as_aux_lemma =>
       refine xy Kd.string 9 252 [ty] [.string ty] (Kd.aY (enc := Value.string) [ty]) jD.out (cO bQ jD) ?_;intro pX AZ dx hbb hgb hnb;have kD := A_ hbb;have iw := A_ (aa.lit iA.out dx hgb hnb);obtain ⟨fQ, fT, rfl⟩ : ∃ A c, pX = .slice A 1 c := Kd.ak dx;clear dx hbb hgb hnb;refine dh 252 hK ⟨(aa.z0 iw.out 4 rfl), (aa.z0 iw.out 9 rfl), (aa.z1 iw.out 4 rfl), (aa.z1 iw.out 9 rfl)⟩ (fun hHeld => ?_);refine ve 13 24 (some 246) (some 257) 16777215 33546239 (fun K hK => ?_) (fun K hK => ?_)
       ·skip
        as_aux_lemma =>
        refine lI Try.func140 #[.slice o8 3 o9] ?_
        with_reducible refine (Ch iw.out (ig := 17) (i0 := 5) (i1 := 16) (i2 := 10) rfl rfl rfl rfl mF.out (by show _ + 1 + _ <= _; omega)).mono ?_
        rintro e SV ⟨ja, rfl, ho, hb⟩;refine ⟨_, rfl, ?_⟩;obtain ⟨Aj, Al, rfl⟩ := Kd.ak ho;have uY := A_ ((kD.out).trans (hb.mono (cO bQ kD)));have mh := A_ (aa.eG iw.out hb (cO bQ kD) ho);clear ho hb;refine dh 246 hK ⟨(aa.z0 mh.out 4 rfl), (aa.z0 mh.out 9 rfl), (aa.z1 mh.out 4 rfl), (aa.z1 mh.out 9 rfl)⟩ (fun hHeld => ?_);refine gG 24 (some 257) 33554431 (fun K hK => ?_);refine gz (w0 := w) base 38 3 (by rfl) (N := 257) rfl (xs := [.slice Bc kG.length sH, .slice fQ 1 fT, .slice Bd lK.length Ai]) rfl ?hr uY.out (cO bQ uY) (by decide) ?_
        (case hr => first | (go_simp; done) | (go_simp; rfl))
        intro rz rA SX dx hbb hgb hnb;have Ha := A_ hbb;have nE := A_ (aa.nH mh.out dx hgb hnb);clear dx hbb hgb hnb;refine dh 257 hK ⟨(aa.z0 nE.out 4 rfl), (aa.z0 nE.out 9 rfl), (aa.z1 nE.out 4 rfl), (aa.z1 nE.out 9 rfl)⟩ (fun hHeld => ?_);exact yA (iE ⟨.slice gL 1 gM, .slice o8 3 o9, .slice Aj l1.length Al, .slice fQ 1 fT, .slice rz 3 rA⟩ _ ⟨Ha.out, aa.gJ nE.out [0, 1, 2, 3, 4, 5, 6, 7, 8, 9, 10, 11, 12, 13, 14, 15, 19, 18, 20] (by decide)⟩)
       ·skip
        as_aux_lemma =>
        refine gz (w0 := w) base 38 3 (by rfl) (N := 257) rfl (xs := [.slice Bc kG.length sH, .slice fQ 1 fT, .slice Bd lK.length Ai]) rfl ?hr kD.out (cO bQ kD) (by decide) ?_
        (case hr => first | (go_simp; done) | (go_simp; rfl))
        intro rz rA SV dx hbb hgb hnb;have uY := A_ hbb;have mh := A_ (aa.nH iw.out dx hgb hnb);clear dx hbb hgb hnb;refine dh 257 hK ⟨(aa.z0 mh.out 4 rfl), (aa.z0 mh.out 9 rfl), (aa.z1 mh.out 4 rfl), (aa.z1 mh.out 9 rfl)⟩ (fun hHeld => ?_);refine gG 13 (some 246) 33554431 (fun K hK => ?_);refine lI Try.func140 #[.slice o8 3 o9] ?_
        with_reducible refine (Ch mh.out (ig := 17) (i0 := 5) (i1 := 16) (i2 := 10) rfl rfl rfl rfl mF.out (by show _ + 1 + _ <= _; omega)).mono ?_
        rintro e SX ⟨ja, rfl, ho, hb⟩;refine ⟨_, rfl, ?_⟩;obtain ⟨Aj, Al, rfl⟩ := Kd.ak ho;have Ha := A_ ((uY.out).trans (hb.mono (cO bQ uY)));have nE := A_ (aa.eG mh.out hb (cO bQ uY) ho);clear ho hb;refine dh 246 hK ⟨(aa.z0 nE.out 4 rfl), (aa.z0 nE.out 9 rfl), (aa.z1 nE.out 4 rfl), (aa.z1 nE.out 9 rfl)⟩ (fun hHeld => ?_);exact yA (iE ⟨.slice gL 1 gM, .slice o8 3 o9, .slice Aj l1.length Al, .slice fQ 1 fT, .slice rz 3 rA⟩ _ ⟨Ha.out, aa.gJ nE.out [0, 1, 2, 3, 4, 5, 6, 7, 8, 9, 10, 11, 12, 13, 14, 15, 20, 18, 19] (by decide)⟩)
     ·skip
      as_aux_lemma =>
      refine xy Kd.string 9 252 [ty] [.string ty] (Kd.aY (enc := Value.string) [ty]) lV.out (cO bQ lV) ?_;intro pX DT dx hbb hgb hnb;have jD := A_ hbb;have iA := A_ (aa.lit lN.out dx hgb hnb);obtain ⟨fQ, fT, rfl⟩ : ∃ A c, pX = .slice A 1 c := Kd.ak dx;clear dx hbb hgb hnb;refine dh 252 hK ⟨(aa.z0 iA.out 4 rfl), (aa.z0 iA.out 9 rfl), (aa.z1 iA.out 4 rfl), (aa.z1 iA.out 9 rfl)⟩ (fun hHeld => ?_);refine ve 12 24 (some 245) (some 257) 16769023 33542143 (fun K hK => ?_) (fun K hK => ?_)
      ·skip
       as_aux_lemma =>
       refine gz (w0 := w) base 38 3 (by rfl) (N := 245) rfl (xs := [.slice Fz dF.length uz, .slice gL 1 gM, .slice G9 mG.length FB]) rfl ?hr jD.out (cO bQ jD) (by decide) ?_
       (case hr => first | (go_simp; done) | (go_simp; rfl))
       intro o8 o9 AZ dx hbb hgb hnb;have kD := A_ hbb;have iw := A_ (aa.nH iA.out dx hgb hnb);clear dx hbb hgb hnb;refine dh 245 hK ⟨(aa.z0 iw.out 4 rfl), (aa.z0 iw.out 9 rfl), (aa.z1 iw.out 4 rfl), (aa.z1 iw.out 9 rfl)⟩ (fun hHeld => ?_);refine ve 13 24 (some 246) (some 257) 16777215 33546239 (fun K hK => ?_) (fun K hK => ?_)
       ·skip
        as_aux_lemma =>
        refine lI Try.func140 #[.slice o8 3 o9] ?_
        with_reducible refine (Ch iw.out (ig := 18) (i0 := 5) (i1 := 16) (i2 := 10) rfl rfl rfl rfl mF.out (by show _ + 1 + _ <= _; omega)).mono ?_
        rintro e SV ⟨ja, rfl, ho, hb⟩;refine ⟨_, rfl, ?_⟩;obtain ⟨Aj, Al, rfl⟩ := Kd.ak ho;have uY := A_ ((kD.out).trans (hb.mono (cO bQ kD)));have mh := A_ (aa.eG iw.out hb (cO bQ kD) ho);clear ho hb;refine dh 246 hK ⟨(aa.z0 mh.out 4 rfl), (aa.z0 mh.out 9 rfl), (aa.z1 mh.out 4 rfl), (aa.z1 mh.out 9 rfl)⟩ (fun hHeld => ?_);refine gG 24 (some 257) 33554431 (fun K hK => ?_);refine gz (w0 := w) base 38 3 (by rfl) (N := 257) rfl (xs := [.slice Bc kG.length sH, .slice fQ 1 fT, .slice Bd lK.length Ai]) rfl ?hr uY.out (cO bQ uY) (by decide) ?_
        (case hr => first | (go_simp; done) | (go_simp; rfl))
        intro rz rA SX dx hbb hgb hnb;have Ha := A_ hbb;have nE := A_ (aa.nH mh.out dx hgb hnb);clear dx hbb hgb hnb;refine dh 257 hK ⟨(aa.z0 nE.out 4 rfl), (aa.z0 nE.out 9 rfl), (aa.z1 nE.out 4 rfl), (aa.z1 nE.out 9 rfl)⟩ (fun hHeld => ?_);exact yA (iE ⟨.slice gL 1 gM, .slice o8 3 o9, .slice Aj l1.length Al, .slice fQ 1 fT, .slice rz 3 rA⟩ _ ⟨Ha.out, aa.gJ nE.out [0, 1, 2, 3, 4, 5, 6, 7, 8, 9, 10, 11, 12, 13, 14, 15, 19, 17, 20] (by decide)⟩)
       ·skip
        as_aux_lemma =>
        refine gz (w0 := w) base 38 3 (by rfl) (N := 257) rfl (xs := [.slice Bc kG.length sH, .slice fQ 1 fT, .slice Bd lK.length Ai]) rfl ?hr kD.out (cO bQ kD) (by decide) ?_
        (case hr => first | (go_simp; done) | (go_simp; rfl))
        intro rz rA SV dx hbb hgb hnb;have uY := A_ hbb;have mh := A_ (aa.nH iw.out dx hgb hnb);clear dx hbb hgb hnb;refine dh 257 hK ⟨(aa.z0 mh.out 4 rfl), (aa.z0 mh.out 9 rfl), (aa.z1 mh.out 4 rfl), (aa.z1 mh.out 9 rfl)⟩ (fun hHeld => ?_);refine gG 13 (some 246) 33554431 (fun K hK => ?_);refine lI Try.func140 #[.slice o8 3 o9] ?_
        with_reducible refine (Ch mh.out (ig := 18) (i0 := 5) (i1 := 16) (i2 := 10) rfl rfl rfl rfl mF.out (by show _ + 1 + _ <= _; omega)).mono ?_
        rintro e SX ⟨ja, rfl, ho, hb⟩;refine ⟨_, rfl, ?_⟩;obtain ⟨Aj, Al, rfl⟩ := Kd.ak ho;have Ha := A_ ((uY.out).trans (hb.mono (cO bQ uY)));have nE := A_ (aa.eG mh.out hb (cO bQ uY) ho);clear ho hb;refine dh 246 hK ⟨(aa.z0 nE.out 4 rfl), (aa.z0 nE.out 9 rfl), (aa.z1 nE.out 4 rfl), (aa.z1 nE.out 9 rfl)⟩ (fun hHeld => ?_);exact yA (iE ⟨.slice gL 1 gM, .slice o8 3 o9, .slice Aj l1.length Al, .slice fQ 1 fT, .slice rz 3 rA⟩ _ ⟨Ha.out, aa.gJ nE.out [0, 1, 2, 3, 4, 5, 6, 7, 8, 9, 10, 11, 12, 13, 14, 15, 20, 17, 19] (by decide)⟩)
      ·skip
       as_aux_lemma =>
       refine gz (w0 := w) base 38 3 (by rfl) (N := 257) rfl (xs := [.slice Bc kG.length sH, .slice fQ 1 fT, .slice Bd lK.length Ai]) rfl ?hr jD.out (cO bQ jD) (by decide) ?_
       (case hr => first | (go_simp; done) | (go_simp; rfl))
       intro rz rA AZ dx hbb hgb hnb;have kD := A_ hbb;have iw := A_ (aa.nH iA.out dx hgb hnb);clear dx hbb hgb hnb;refine dh 257 hK ⟨(aa.z0 iw.out 4 rfl), (aa.z0 iw.out 9 rfl), (aa.z1 iw.out 4 rfl), (aa.z1 iw.out 9 rfl)⟩ (fun hHeld => ?_);refine gG 12 (some 245) 33546239 (fun K hK => ?_);refine gz (w0 := w) base 38 3 (by rfl) (N := 245) rfl (xs := [.slice Fz dF.length uz, .slice gL 1 gM, .slice G9 mG.length FB]) rfl ?hr kD.out (cO bQ kD) (by decide) ?_
       (case hr => first | (go_simp; done) | (go_simp; rfl))
       intro o8 o9 SV dx hbb hgb hnb;have uY := A_ hbb;have mh := A_ (aa.nH iw.out dx hgb hnb);clear dx hbb hgb hnb;refine dh 245 hK ⟨(aa.z0 mh.out 4 rfl), (aa.z0 mh.out 9 rfl), (aa.z1 mh.out 4 rfl), (aa.z1 mh.out 9 rfl)⟩ (fun hHeld => ?_);refine gG 13 (some 246) 33554431 (fun K hK => ?_);refine lI Try.func140 #[.slice o8 3 o9] ?_
       with_reducible refine (Ch mh.out (ig := 19) (i0 := 5) (i1 := 16) (i2 := 10) rfl rfl rfl rfl mF.out (by show _ + 1 + _ <= _; omega)).mono ?_
       rintro e SX ⟨ja, rfl, ho, hb⟩;refine ⟨_, rfl, ?_⟩;obtain ⟨Aj, Al, rfl⟩ := Kd.ak ho;have Ha := A_ ((uY.out).trans (hb.mono (cO bQ uY)));have nE := A_ (aa.eG mh.out hb (cO bQ uY) ho);clear ho hb;refine dh 246 hK ⟨(aa.z0 nE.out 4 rfl), (aa.z0 nE.out 9 rfl), (aa.z1 nE.out 4 rfl), (aa.z1 nE.out 9 rfl)⟩ (fun hHeld => ?_);exact yA (iE ⟨.slice gL 1 gM, .slice o8 3 o9, .slice Aj l1.length Al, .slice fQ 1 fT, .slice rz 3 rA⟩ _ ⟨Ha.out, aa.gJ nE.out [0, 1, 2, 3, 4, 5, 6, 7, 8, 9, 10, 11, 12, 13, 14, 15, 20, 17, 18] (by decide)⟩)
    ·skip
     as_aux_lemma =>
     refine xy Kd.string 9 252 [ty] [.string ty] (Kd.aY (enc := Value.string) [ty]) (aG HB.out) (cO bQ HB) ?_;intro pX NJ dx hbb hgb hnb;have lV := A_ hbb;have lN := A_ (aa.lit (aa.drew HS.out) dx hgb hnb);obtain ⟨fQ, fT, rfl⟩ : ∃ A c, pX = .slice A 1 c := Kd.ak dx;clear dx hbb hgb hnb;refine dh 252 hK ⟨(aa.z0 lN.out 4 rfl), (aa.z0 lN.out 9 rfl), (aa.z1 lN.out 4 rfl), (aa.z1 lN.out 9 rfl)⟩ (fun hHeld => ?_);refine ve 7 24 (some 240) (some 257) 16764927 33542015 (fun K hK => ?_) (fun K hK => ?_)
     ·skip
      as_aux_lemma =>
      refine xy Kd.string 9 240 [tx] [.string tx] (Kd.aY (enc := Value.string) [tx]) lV.out (cO bQ lV) ?_;intro vb1 DT dx hbb hgb hnb;have jD := A_ hbb;have iA := A_ (aa.lit lN.out dx hgb hnb);obtain ⟨gL, gM, rfl⟩ : ∃ A c, vb1 = .slice A 1 c := Kd.ak dx;clear dx hbb hgb hnb;refine dh 240 hK ⟨(aa.z0 iA.out 4 rfl), (aa.z0 iA.out 9 rfl), (aa.z1 iA.out 4 rfl), (aa.z1 iA.out 9 rfl)⟩ (fun hHeld => ?_);refine ve 12 24 (some 245) (some 257) 16769023 33542143 (fun K hK => ?_) (fun K hK => ?_)
      ·skip
       as_aux_lemma =>
       refine gz (w0 := w) base 38 3 (by rfl) (N := 245) rfl (xs := [.slice Fz dF.length uz, .slice gL 1 gM, .slice G9 mG.length FB]) rfl ?hr jD.out (cO bQ jD) (by decide) ?_
       (case hr => first | (go_simp; done) | (go_simp; rfl))
       intro o8 o9 AZ dx hbb hgb hnb;have kD := A_ hbb;have iw := A_ (aa.nH iA.out dx hgb hnb);clear dx hbb hgb hnb;refine dh 245 hK ⟨(aa.z0 iw.out 4 rfl), (aa.z0 iw.out 9 rfl), (aa.z1 iw.out 4 rfl), (aa.z1 iw.out 9 rfl)⟩ (fun hHeld => ?_);refine ve 13 24 (some 246) (some 257) 16777215 33546239 (fun K hK => ?_) (fun K hK => ?_)
       ·skip
        as_aux_lemma =>
        refine lI Try.func140 #[.slice o8 3 o9] ?_
        with_reducible refine (Ch iw.out (ig := 18) (i0 := 5) (i1 := 17) (i2 := 10) rfl rfl rfl rfl mF.out (by show _ + 1 + _ <= _; omega)).mono ?_
        rintro e SV ⟨ja, rfl, ho, hb⟩;refine ⟨_, rfl, ?_⟩;obtain ⟨Aj, Al, rfl⟩ := Kd.ak ho;have uY := A_ ((kD.out).trans (hb.mono (cO bQ kD)));have mh := A_ (aa.eG iw.out hb (cO bQ kD) ho);clear ho hb;refine dh 246 hK ⟨(aa.z0 mh.out 4 rfl), (aa.z0 mh.out 9 rfl), (aa.z1 mh.out 4 rfl), (aa.z1 mh.out 9 rfl)⟩ (fun hHeld => ?_);refine gG 24 (some 257) 33554431 (fun K hK => ?_);refine gz (w0 := w) base 38 3 (by rfl) (N := 257) rfl (xs := [.slice Bc kG.length sH, .slice fQ 1 fT, .slice Bd lK.length Ai]) rfl ?hr uY.out (cO bQ uY) (by decide) ?_
        (case hr => first | (go_simp; done) | (go_simp; rfl))
        intro rz rA SX dx hbb hgb hnb;have Ha := A_ hbb;have nE := A_ (aa.nH mh.out dx hgb hnb);clear dx hbb hgb hnb;refine dh 257 hK ⟨(aa.z0 nE.out 4 rfl), (aa.z0 nE.out 9 rfl), (aa.z1 nE.out 4 rfl), (aa.z1 nE.out 9 rfl)⟩ (fun hHeld => ?_);exact yA (iE ⟨.slice gL 1 gM, .slice o8 3 o9, .slice Aj l1.length Al, .slice fQ 1 fT, .slice rz 3 rA⟩ _ ⟨Ha.out, aa.gJ nE.out [0, 1, 2, 3, 4, 5, 6, 7, 8, 9, 10, 11, 12, 13, 14, 15, 19, 16, 20] (by decide)⟩)
       ·skip
        as_aux_lemma =>
        refine gz (w0 := w) base 38 3 (by rfl) (N := 257) rfl (xs := [.slice Bc kG.length sH, .slice fQ 1 fT, .slice Bd lK.length Ai]) rfl ?hr kD.out (cO bQ kD) (by decide) ?_
        (case hr => first | (go_simp; done) | (go_simp; rfl))
        intro rz rA SV dx hbb hgb hnb;have uY := A_ hbb;have mh := A_ (aa.nH iw.out dx hgb hnb);clear dx hbb hgb hnb;refine dh 257 hK ⟨(aa.z0 mh.out 4 rfl), (aa.z0 mh.out 9 rfl), (aa.z1 mh.out 4 rfl), (aa.z1 mh.out 9 rfl)⟩ (fun hHeld => ?_);refine gG 13 (some 246) 33554431 (fun K hK => ?_);refine lI Try.func140 #[.slice o8 3 o9] ?_
        with_reducible refine (Ch mh.out (ig := 18) (i0 := 5) (i1 := 17) (i2 := 10) rfl rfl rfl rfl mF.out (by show _ + 1 + _ <= _; omega)).mono ?_
        rintro e SX ⟨ja, rfl, ho, hb⟩;refine ⟨_, rfl, ?_⟩;obtain ⟨Aj, Al, rfl⟩ := Kd.ak ho;have Ha := A_ ((uY.out).trans (hb.mono (cO bQ uY)));have nE := A_ (aa.eG mh.out hb (cO bQ uY) ho);clear ho hb;refine dh 246 hK ⟨(aa.z0 nE.out 4 rfl), (aa.z0 nE.out 9 rfl), (aa.z1 nE.out 4 rfl), (aa.z1 nE.out 9 rfl)⟩ (fun hHeld => ?_);exact yA (iE ⟨.slice gL 1 gM, .slice o8 3 o9, .slice Aj l1.length Al, .slice fQ 1 fT, .slice rz 3 rA⟩ _ ⟨Ha.out, aa.gJ nE.out [0, 1, 2, 3, 4, 5, 6, 7, 8, 9, 10, 11, 12, 13, 14, 15, 20, 16, 19] (by decide)⟩)
      ·skip
       as_aux_lemma =>
       refine gz (w0 := w) base 38 3 (by rfl) (N := 257) rfl (xs := [.slice Bc kG.length sH, .slice fQ 1 fT, .slice Bd lK.length Ai]) rfl ?hr jD.out (cO bQ jD) (by decide) ?_
       (case hr => first | (go_simp; done) | (go_simp; rfl))
       intro rz rA AZ dx hbb hgb hnb;have kD := A_ hbb;have iw := A_ (aa.nH iA.out dx hgb hnb);clear dx hbb hgb hnb;refine dh 257 hK ⟨(aa.z0 iw.out 4 rfl), (aa.z0 iw.out 9 rfl), (aa.z1 iw.out 4 rfl), (aa.z1 iw.out 9 rfl)⟩ (fun hHeld => ?_);refine gG 12 (some 245) 33546239 (fun K hK => ?_);refine gz (w0 := w) base 38 3 (by rfl) (N := 245) rfl (xs := [.slice Fz dF.length uz, .slice gL 1 gM, .slice G9 mG.length FB]) rfl ?hr kD.out (cO bQ kD) (by decide) ?_
       (case hr => first | (go_simp; done) | (go_simp; rfl))
       intro o8 o9 SV dx hbb hgb hnb;have uY := A_ hbb;have mh := A_ (aa.nH iw.out dx hgb hnb);clear dx hbb hgb hnb;refine dh 245 hK ⟨(aa.z0 mh.out 4 rfl), (aa.z0 mh.out 9 rfl), (aa.z1 mh.out 4 rfl), (aa.z1 mh.out 9 rfl)⟩ (fun hHeld => ?_);refine gG 13 (some 246) 33554431 (fun K hK => ?_);refine lI Try.func140 #[.slice o8 3 o9] ?_
       with_reducible refine (Ch mh.out (ig := 19) (i0 := 5) (i1 := 17) (i2 := 10) rfl rfl rfl rfl mF.out (by show _ + 1 + _ <= _; omega)).mono ?_
       rintro e SX ⟨ja, rfl, ho, hb⟩;refine ⟨_, rfl, ?_⟩;obtain ⟨Aj, Al, rfl⟩ := Kd.ak ho;have Ha := A_ ((uY.out).trans (hb.mono (cO bQ uY)));have nE := A_ (aa.eG mh.out hb (cO bQ uY) ho);clear ho hb;refine dh 246 hK ⟨(aa.z0 nE.out 4 rfl), (aa.z0 nE.out 9 rfl), (aa.z1 nE.out 4 rfl), (aa.z1 nE.out 9 rfl)⟩ (fun hHeld => ?_);exact yA (iE ⟨.slice gL 1 gM, .slice o8 3 o9, .slice Aj l1.length Al, .slice fQ 1 fT, .slice rz 3 rA⟩ _ ⟨Ha.out, aa.gJ nE.out [0, 1, 2, 3, 4, 5, 6, 7, 8, 9, 10, 11, 12, 13, 14, 15, 20, 16, 18] (by decide)⟩)
     ·skip
      as_aux_lemma =>
      refine gz (w0 := w) base 38 3 (by rfl) (N := 257) rfl (xs := [.slice Bc kG.length sH, .slice fQ 1 fT, .slice Bd lK.length Ai]) rfl ?hr lV.out (cO bQ lV) (by decide) ?_
      (case hr => first | (go_simp; done) | (go_simp; rfl))
      intro rz rA DT dx hbb hgb hnb;have jD := A_ hbb;have iA := A_ (aa.nH lN.out dx hgb hnb);clear dx hbb hgb hnb;refine dh 257 hK ⟨(aa.z0 iA.out 4 rfl), (aa.z0 iA.out 9 rfl), (aa.z1 iA.out 4 rfl), (aa.z1 iA.out 9 rfl)⟩ (fun hHeld => ?_);refine gG 7 (some 240) 33542143 (fun K hK => ?_);refine xy Kd.string 9 240 [tx] [.string tx] (Kd.aY (enc := Value.string) [tx]) jD.out (cO bQ jD) ?_;intro vb1 AZ dx hbb hgb hnb;have kD := A_ hbb;have iw := A_ (aa.lit iA.out dx hgb hnb);obtain ⟨gL, gM, rfl⟩ : ∃ A c, vb1 = .slice A 1 c := Kd.ak dx;clear dx hbb hgb hnb;refine dh 240 hK ⟨(aa.z0 iw.out 4 rfl), (aa.z0 iw.out 9 rfl), (aa.z1 iw.out 4 rfl), (aa.z1 iw.out 9 rfl)⟩ (fun hHeld => ?_);refine gG 12 (some 245) 33546239 (fun K hK => ?_);refine gz (w0 := w) base 38 3 (by rfl) (N := 245) rfl (xs := [.slice Fz dF.length uz, .slice gL 1 gM, .slice G9 mG.length FB]) rfl ?hr kD.out (cO bQ kD) (by decide) ?_
      (case hr => first | (go_simp; done) | (go_simp; rfl))
      intro o8 o9 SV dx hbb hgb hnb;have uY := A_ hbb;have mh := A_ (aa.nH iw.out dx hgb hnb);clear dx hbb hgb hnb;refine dh 245 hK ⟨(aa.z0 mh.out 4 rfl), (aa.z0 mh.out 9 rfl), (aa.z1 mh.out 4 rfl), (aa.z1 mh.out 9 rfl)⟩ (fun hHeld => ?_);refine gG 13 (some 246) 33554431 (fun K hK => ?_);refine lI Try.func140 #[.slice o8 3 o9] ?_
      with_reducible refine (Ch mh.out (ig := 19) (i0 := 5) (i1 := 18) (i2 := 10) rfl rfl rfl rfl mF.out (by show _ + 1 + _ <= _; omega)).mono ?_
      rintro e SX ⟨ja, rfl, ho, hb⟩;refine ⟨_, rfl, ?_⟩;obtain ⟨Aj, Al, rfl⟩ := Kd.ak ho;have Ha := A_ ((uY.out).trans (hb.mono (cO bQ uY)));have nE := A_ (aa.eG mh.out hb (cO bQ uY) ho);clear ho hb;refine dh 246 hK ⟨(aa.z0 nE.out 4 rfl), (aa.z0 nE.out 9 rfl), (aa.z1 nE.out 4 rfl), (aa.z1 nE.out 9 rfl)⟩ (fun hHeld => ?_);exact yA (iE ⟨.slice gL 1 gM, .slice o8 3 o9, .slice Aj l1.length Al, .slice fQ 1 fT, .slice rz 3 rA⟩ _ ⟨Ha.out, aa.gJ nE.out [0, 1, 2, 3, 4, 5, 6, 7, 8, 9, 10, 11, 12, 13, 14, 15, 20, 16, 17] (by decide)⟩)
   rintro ⟨vb1, vr1, u1, pX, vr2⟩ w8 ⟨hb, hs⟩;obtain ⟨fQ, fT, rfl⟩ : ∃ A c, pX = .slice A 1 c := Kd.ak (aa.sr hs 17 rfl);obtain ⟨Aj, Al, rfl⟩ := Kd.ak (aa.sr hs 16 rfl);obtain ⟨rz, rA, rfl⟩ : ∃ A c, vr2 = .slice A 3 c := Nl (n := 0) ((aa.at hs 18 rfl).ok _ List.mem_cons_self)
   have hHeld : (w8.cell? ⟨lp, 0, none⟩ = some (.slice Fz dF.length uz)) /\ (w8.cell? ⟨rp, 0, none⟩ = some (.slice G9 mG.length FB)) /\ (w8.cell? ⟨lp, 1, none⟩ = some (.slice Bc kG.length sH)) /\ (w8.cell? ⟨rp, 1, none⟩ = some (.slice Bd lK.length Ai)) := ⟨aa.z0 hs 4 rfl, aa.z0 hs 9 rfl, aa.z1 hs 4 rfl, aa.z1 hs 9 rfl⟩
   clear HS HB;have HB := A_ hb;have HS := A_ hs;clear hb hs;refine uq ?_;refine gG 25 (some 258) 67108863 (fun K hK => ?_);refine lI Try.func140 #[.slice rz 3 rA] ?_
   with_reducible refine (Ch HS.out (ig := 18) (i0 := 6) (i1 := 17) (i2 := 11) rfl rfl rfl rfl qa.out (by show _ + 1 + _ <= _; omega)).mono ?_
   rintro e w9 ⟨ja, rfl, ho, hb⟩;refine ⟨_, rfl, ?_⟩;obtain ⟨X7, X8, rfl⟩ := Kd.ak ho;have ah := jN (aa.eG HS.out hb (cO bQ HB) ho)
   replace HB : af (Below base w w9) := ⟨(HB.out).trans (hb.mono (cO bQ HB))⟩
   replace HS := ah; clear ah ho hb;have zs0 := aa.z0 HS.out 4 rfl;have jE := aa.f HS.out 4 rfl 0;have Ox := aa.z1 HS.out 4 rfl;have Oy := aa.f HS.out 4 rfl 1;refine dh 258 hK ⟨(aa.z0 HS.out 4 rfl), (aa.z0 HS.out 9 rfl), (aa.z1 HS.out 4 rfl), (aa.z1 HS.out 9 rfl)⟩ (fun hHeld => ?_);refine aH 26 259 134217727 ?_;refine aH 27 260 268435455 ?_;refine qz 28 none 536870911 (fun K hK => ?_);refine fA (w1 := ?_) (by rfl) rfl ?_ ?_;rotate_left
   ·go_simp
    rfl
   refine hK.out _ _ ?_;clear hK K;refine aH 29 261 1073741823 ?_;refine aH 30 262 2147483647 ?_;refine qz 31 none 4294967295 (fun K hK => ?_);refine fA (w1 := ?_) (by rfl) rfl ?_ ?_;rotate_left
   ·go_simp
    rfl
   refine hK.out _ _ ?_;clear hK K;refine dL (by kernel_rfl) ?_;have ah := gq (World.setCell (World.setCell w9 ⟨lp, 0, none⟩ (.slice Aj l1.length Al)) ⟨lp, 1, none⟩ (.slice X7 l2.length X8)) (aa.gJ (aa.xU (aa.xS HS.out 4 rfl (.slice Aj l1.length Al)) 4 rfl (.slice X7 l2.length X8)) [0, 1, 2, 3, 4, 16, 19, 7, 8, 9, 10, 11, 12, 13, 14, 15] (by decide))
   replace HB : af (Below base w (World.setCell (World.setCell w9 ⟨lp, 0, none⟩ (.slice Aj l1.length Al)) ⟨lp, 1, none⟩ (.slice X7 l2.length X8))) := ⟨(HB.out.setCell (p := ⟨lp, 0, none⟩) (aa.ge HS.out 4 rfl) _).setCell (p := ⟨lp, 1, none⟩) (aa.ge HS.out 4 rfl) _⟩
   generalize World.setCell (World.setCell w9 ⟨lp, 0, none⟩ (.slice Aj l1.length Al)) ⟨lp, 1, none⟩ (.slice X7 l2.length X8) = Yw at ah HB ⊢;replace HS := ah; clear ah zs0 jE Ox Oy
   go_upto_region 23 with fail
   have sd21 : lcs.length + eU.length <= 1000000 := by omega
   refine bS (n := 14) (S := fun w' => w'.cell? ⟨lp, 2, none⟩ = some (.slice vY lcs.length nK) /\ w'.cell? ⟨rp, 2, none⟩ = some (.slice vZ eU.length crc)) (ds := [13]) (bt 14 0) (by kernel_rfl) rfl rfl ⟨(aa.z2 (aa.drew HS.out) 4 rfl), (aa.z2 (aa.drew HS.out) 9 rfl)⟩ (fun hHeld => ?_);refine aH 0 263 1 ?_;refine aH 1 264 3 ?_;refine aH 2 265 7 ?_;refine aH 3 266 15 ?_;refine aH 5 268 47 ?_;refine aH 6 269 111 ?_;refine aH 7 270 239 ?_;refine fq 4 267 255 hHeld ?_;refine fq 8 271 511 hHeld ?_;refine gG 9 (some 272) 1023 (fun K hK => ?_);refine gz (w0 := w) base 99 2 (by rfl) (N := 272) rfl (xs := [.slice vY lcs.length nK, .slice vZ eU.length crc]) rfl ?hr (aG HB.out) (cO bQ HB) (by decide) ?_
   (case hr => first | (go_simp; done) | (go_simp; rfl))
   intro QS c20 w22 ho hb hg hn;have ah := jN (aa.nH (aa.drew HS.out) ho hg hn)
   replace HB : af (Below base w w22) := ⟨hb⟩
   replace HS := ah; clear ah ho hb hg hn;refine dh 272 hK ⟨(aa.z2 HS.out 4 rfl), (aa.z2 HS.out 9 rfl)⟩ (fun hHeld => ?_);refine gG 10 (some 273) 2047 (fun K hK => ?_);refine lI Try.func141 #[.slice QS 2 c20] ?_
   with_reducible refine (YQ HS.out (ig := 16) (i0 := 7) (i1 := 12) rfl rfl rfl zM.out sd21).mono ?_
   rintro e YD ⟨ja, rfl, ho, hb⟩;refine ⟨_, rfl, ?_⟩;obtain ⟨Dq, c23, wF⟩ := Kd.ak ho;rw [List.length_map] at wF;subst wF;have ah := jN (aa.wS HS.out hb (cO bQ HB) ho)
   replace HB : af (Below base w YD) := ⟨(HB.out).trans (hb.mono (cO bQ HB))⟩
   replace HS := ah; clear ah ho hb;have zs0 := aa.z2 HS.out 4 rfl;have jE := aa.f HS.out 4 rfl 2;refine dh 273 hK ⟨(aa.z2 HS.out 4 rfl), (aa.z2 HS.out 9 rfl)⟩ (fun hHeld => ?_);refine aH 11 274 4095 ?_;refine aH 12 275 8191 ?_;refine qz 13 none 16383 (fun K hK => ?_);refine fA (w1 := ?_) (by rfl) rfl ?_ ?_;rotate_left
   ·go_simp
    rfl
   refine hK.out _ _ ?_;clear hK K;refine dL (by kernel_rfl) ?_;have ah := gq (World.setCell YD ⟨lp, 2, none⟩ (.slice Dq l5.length c23)) (aa.gJ (aa.rW HS.out 4 rfl (.slice Dq l5.length c23)) [0, 1, 2, 3, 4, 5, 6, 17, 8, 9, 10, 11, 12, 13, 14, 15, 16] (by decide))
   replace HB : af (Below base w (World.setCell YD ⟨lp, 2, none⟩ (.slice Dq l5.length c23))) := ⟨(HB.out).setCell (p := ⟨lp, 2, none⟩) (aa.ge HS.out 4 rfl) _⟩
   generalize World.setCell YD ⟨lp, 2, none⟩ (.slice Dq l5.length c23) = w24 at ah HB ⊢;replace HS := ah; clear ah zs0 jE
   go_upto_region 24 with fail
   have eT := (aa.z2 HS.out 0 rfl)
   go_wp2_with (first | (go_at_call 142; (with_reducible refine (Xh (ia := 3) (i := (j + 1)) HS.out rfl zN.out (by omega) (cO bQ HB) HB.out).mono ?_); rintro e YE ⟨rfl, hs_, nD⟩; have ah := jN hs_; replace HB : af (Below base w YE) := ⟨nD⟩; replace HS := ah; clear ah hs_ nD; clear eT; have eT := (aa.z2 HS.out 0 rfl); have zs0 := aa.z2 HS.out 0 rfl; have jE := aa.f HS.out 0 rfl 2))
   have ah := gq (World.setCell YE ⟨tp, 2, none⟩ (.slice (some iB) l6.length fK)) (aa.rW HS.out 0 rfl (.slice (some iB) l6.length fK))
   replace HB : af (Below base w (World.setCell YE ⟨tp, 2, none⟩ (.slice (some iB) l6.length fK))) := ⟨(HB.out).setCell (p := ⟨tp, 2, none⟩) (aa.ge HS.out 0 rfl) _⟩
   generalize World.setCell YE ⟨tp, 2, none⟩ (.slice (some iB) l6.length fK) = w26 at ah HB ⊢;replace HS := ah; clear ah eT zs0 jE
   go_end0
   have hS := yL (aa.gJ HS.out [0, 1, 2, 3, 4, 5, 6, 7, 8, 13, 14, 15] (by decide))
   obtain ⟨m, hm⟩ : ∃ m, m = NT.mk lp (.slice Aj l1.length Al) (.slice X7 l2.length X8) (.slice Dq l5.length c23) l1 l2 l5 := ⟨_, rfl⟩
   refine ⟨rfl, NT.mk tp (.slice JN l3.length c15) (.slice TA l4.length c17) (.slice (some iB) l6.length fK) l3 l4 (P ++ m :: Q), rfl, ?_, Ip rfl ?_, HB.out⟩
   ·have e0 := HRR.out
    rw [HT.out] at e0;rw [e0];show PT.mk l3 l4 (NT.ax (P ++ m :: Q)) = wy (PT.mk tks tvs (NT.ax (P ++ _ :: _ :: Q))) j;simp only [aC, List.map_append, List.map_cons];rw [xX (by rw [List.length_map]; exact HP.out), hm];have Df := mF.out;subst Df;have Dh := qa.out;subst Dh;have Di := yF.out;subst Di;have Dj := Ah.out;subst Dj;have Dk := zM.out;subst Dk;have Dl := zN.out;subst Dl;have K6 := oV.out.2;subst K6;have ety := oh.out.2;subst ety;simp [zy, NT.erase, aC, PT.keys, PT.vals, PT.kids]
   ·unfold Io
    simp only [NT.keys, NT.vals, NT.kids, NT.p, NT.kv, NT.vv, NT.cv]
    have hq : ptrs (P ++ m :: Q) = ptrs l6 := by
     have e1 := zN.out;have e2 := HT.out;have e3 := HP.out;rw [e1, e2];subst e3;exact (EB (by rw [hm]; rfl)).symm
    have hc : NT.aZ 101 74 l5 = NT.aZ 101 74 lcs ++ NT.aZ 101 74 eU := by rw [zM.out, gZ]
    rw [hq, <- KW.out, <- KX.out, hm];simp only [NT.keys, NT.vals, NT.kids, NT.p, NT.kv, NT.vv, NT.cv];rw [hc];unfold aa at hS ⊢;simp only [List.flatten_cons, List.append_assoc] at hS ⊢;exact hS
theorem IK.calls (t : NT) (i : Nat) (s : NT) (hk : t.kids[i]? = some s) (h2 : 2 <= s.keys.length) (hm : t.kids.length <= 1001) (base : Nat) (L : List Ck) (w : World) (hs : Sat w base (t.dH 101 74 ++ L)) :
  Calls Try.prog 133 #[bu t.p, .int .i64 (i : Int)] w fun e w' => e = .returned (.tuple #[]) /\ w' = w := by
 have hil : i < t.kids.length := (List.getElem?_eq_some_iff.1 hk).1;obtain ⟨Ak, Av, ad, ck, cv, cc, z0, z1, z2, hq⟩ := xg hs (by omega);obtain ⟨A, c, h3⟩ := oJ hs hk;have zi := ik hq (And.intro hk rfl)
 obtain ⟨sp, hsp⟩ : ∃ p, s.p = p := ⟨_, rfl⟩
 obtain ⟨ns, hns⟩ : ∃ n, s.keys.length = n := ⟨_, rfl⟩
 obtain ⟨nc, hnc⟩ : ∃ n, t.kids.length = n := ⟨_, rfl⟩
 obtain ⟨tp, htp⟩ : ∃ p, t.p = p := ⟨_, rfl⟩
 rw [hsp] at zi h3;rw [hns] at h3 h2;rw [hnc] at z2 hm hil;rw [htp] at z2 ⊢;clear hs hq z0 z1 hk hsp hns hnc htp;have b0 := bV (0 <= (i : Int));have b1 := bV ((i : Int) < (nc : Int));have b2 := bV (i < nc);have c1 := lQ ((2 : Int) <= (ns : Int));go_enter Try.func133, Try.ntmps133;go_wp2;refine bodyPost_ret (results_none rfl _ _ _) rfl ?_;exact ⟨rfl, rfl⟩
theorem y7.calls (t : NT) (i : Nat) (ht : Ue t) (hk : t.kids.length = t.keys.length + 1) (h0 : 0 < t.keys.length) (hi : i < t.kids.length) (hks : ∀ s ∈ t.kids, Ue s) (base : Nat) (L : List Ck) (w : World) (hs : Sat w base (t.dH 101 74 ++ L)) (hbs : base <= w.heap.size) :
  Calls Try.prog 133 #[bu t.p, .int .i64 (i : Int)] w (WR w base 101 74 t L (tu t.erase i)) := by
 obtain ⟨ht1, ht2, _⟩ := ht;have key : t.erase.keys.length = t.keys.length := by rw [aU]
 have get : ∀ j, j < t.kids.length -> ∃ s : NT, t.kids[j]? = some s /\ Ue s /\ gy t.erase j = s.erase := fun j hj => by
  have e : t.kids[j]? = some t.kids[j] := List.getElem?_eq_getElem hj;exact ⟨_, e, hks _ (List.getElem_mem hj), qm e⟩
 obtain ⟨s, hse, os, es⟩ := get i hi;unfold tu;rw [es, aU]
 by_cases h2 : s.keys.length < 2
 ·rw [if_pos h2]
  unfold Ik
  by_cases hA : 0 < i /\ 2 < (gy t.erase (i - 1)).keys.length
  ·rw [if_pos hA]
   obtain ⟨l, hl, ol, el⟩ := get (i - 1) (by omega);rw [el, aU] at hA;exact Kl.calls t l s (t.kids.take (i - 1)) (t.kids.drop (i - 1 + 2)) i hA.1 (vL hl (by rw [show i - 1 + 1 = i by omega]; exact hse)) (by rw [List.length_take]; omega) hA.2 h2 ol os ⟨by omega, ht1, ht2, hk⟩ base L w hs hbs
  ·rw [if_neg hA]
   have hno : i = 0 \/ 0 < i /\ ∃ s : NT, t.kids[i - 1]? = some s /\ s.keys.length <= 2 := by
    rcases Nat.eq_zero_or_pos i with h | h
    ·exact .inl h
    ·obtain ⟨l, hl, ol, el⟩ := get (i - 1) (by omega)
     rw [el, aU] at hA;exact .inr ⟨h, l, hl, by omega⟩
   rw [key]
   by_cases hB : i < t.keys.length
   ·obtain ⟨r, hr, Rb, er⟩ := get (i + 1) (by omega)
    have hp := vL hse hr;have hl' : (t.kids.take i).length = i := by rw [List.length_take]; omega
    by_cases hC : 2 < r.keys.length
    ·rw [if_pos ⟨hB, by rw [er, aU]; exact hC⟩]
     exact Kn.calls t s r _ _ i hno hp hl' hC h2 os Rb ⟨hB, ht1, ht2, hk⟩ base L w hs hbs
    ·rw [if_neg (by rw [er, aU]; omega), if_pos hB]
     exact Cn.calls t s r _ _ i i ⟨s, hse, h2⟩ hno (.inr ⟨by omega, r, hr, by omega⟩) (.inl rfl) hp hl' os Rb ⟨hB, ht1, ht2, hk⟩ base L w hs hbs
   ·rw [if_neg (fun h => hB h.1), if_neg hB]
    obtain ⟨l, hl, ol, el⟩ := get (i - 1) (by omega);exact Cn.calls t l s _ _ i (i - 1) ⟨s, hse, h2⟩ hno (.inl (by omega)) (.inr ⟨by omega, by omega⟩) (vL hl (by rw [show i - 1 + 1 = i by omega]; exact hse)) (by rw [List.length_take]; omega) ol os ⟨by omega, ht1, ht2, hk⟩ base L w hs hbs
 ·rw [if_neg h2]
  refine (IK.calls t i s hse (by omega) (by omega) base L w hs).mono ?_;rintro e w' ⟨rfl, rfl⟩;exact ⟨rfl, t, rfl, rfl, hs, Below.refl base _⟩
open Go.Proofs.Ytoddejmlcnbdmaa.Pure (kK aX qD Has mZ qL lC oK qj vI rZ)
theorem EZ {w : World} {base T E i : Nat} {t s : NT} {L : List Ck} (hk : t.kids[i]? = some s) (hs : Sat w base (t.dH T E ++ L)) :
  aa w base [[.box T t.p #[t.kv, t.vv, t.cv]], [txt t.kv t.keys], [txt t.vv t.vals], [.jL E t.cv (ptrs t.kids)], NT.aZ T E (t.kids.take i), s.dH T E, NT.aZ T E (t.kids.drop (i + 1)), L] := by
 have h := fF hs;unfold jV at h;rw [lW T E hk] at h;unfold aa at h ⊢;simp only [List.flatten_cons, List.flatten_nil, List.append_assoc] at h ⊢;exact h
theorem Nt {l : List NT} {i : Nat} {s s' : NT} (h : l[i]? = some s) (hp : s'.p = s.p) : ptrs (l.set i s') = ptrs l := by
 rw [dM, dM, List.map_set, hp, vG h]
theorem Nu {w : World} {base T E i p : Nat} {kv vv cv : Value} {ks vs : List ByteArray} {cs : List NT} {s s' : NT} {L : List Ck} (hk : cs[i]? = some s) (hp : s'.p = s.p)
  (hs : aa w base [[.box T p #[kv, vv, cv]], [txt kv ks], [txt vv vs], [.jL E cv (ptrs cs)], NT.aZ T E (cs.take i), s'.dH T E, NT.aZ T E (cs.drop (i + 1)), L]) :
  Sat w base ((NT.mk p kv vv cv ks vs (cs.set i s')).dH T E ++ L) := by
 refine gV ?_;unfold jV;simp only [NT.keys, NT.vals, NT.kids, NT.p, NT.kv, NT.vv, NT.cv];obtain ⟨h1, h2, h3⟩ := qG (s' := s') hk;rw [lW T E h1, h2, h3, Nt hk hp];unfold aa at hs ⊢;simp only [List.flatten_cons, List.flatten_nil, List.append_assoc] at hs ⊢;exact hs
def LR (w : World) (base : Nat) (t : NT) (L : List Ck) (n : Nat) (e : Ending) (w' : World) : Prop :=
 e = .returned (.tuple #[.string (kT n t.erase), .string (oW n t.erase)]) /\ ∃ t' : NT, t'.p = t.p /\ t'.erase = uF n t.erase /\ Sat w' base (t'.dH 101 74 ++ L) /\ Below base w w'
theorem IL {n h : Nat} {t : PT} (hb : t.big <= n) (hk : qD h t) (h0 : 0 < t.keys.length) (hs : kK (aX t)) : qD h (uF n t) /\ t.keys.length <= (uF n t).keys.length + 1 := by
 obtain ⟨X, eX⟩ := oK n t h hb hk h0;obtain ⟨r, e1, h1, h2, _⟩ := mZ n t (kT n t) h hb hk (fun _ => h0) hs ⟨(kT n t, oW n t), by rw [eX]; exact List.mem_append_right _ (List.mem_singleton_self _), by simp⟩;rw [vI n t h hb hk h0 hs] at e1;obtain rfl := Option.some.inj e1;exact ⟨h1, h2⟩
theorem DJ.calls : ∀ (n : Nat) (t : NT) (h : Nat), t.erase.big <= n -> qD h t.erase -> 0 < t.keys.length -> kK (aX t.erase) -> ∀ (base : Nat) (L : List Ck) (w : World), Sat w base (t.dH 101 74 ++ L) -> base <= w.heap.size ->
  Calls Try.prog 132 #[bu t.p] w (LR w base t L n) := by
 intro n
 induction n with
 | zero =>
  intro t h hb;exact absurd t.erase.fB (by omega)
 | succ n ih =>
  intro t h hbig hkd hroot hsrt base L w hs hbs
  cases h with
  | zero => exact hkd.l.elim
  | succ h =>
  have hrd := jc hs.left;obtain ⟨⟨ho1, ho2, ho3⟩, oO⟩ := bJ.1 hkd.b;have h0 := fF hs;have N8 := A_ (Pure.jU hkd.b hkd.l);have N9 := A_ hsrt;have KO := A_ hkd.b
  cases t with | mk tp yC yD yE tks tvs aJ =>
  have e0 : (NT.mk tp yC yD yE tks tvs aJ).erase = .mk tks tvs (NT.ax aJ) := rfl;unfold jV at h0;simp only [NT.keys, NT.vals, NT.kids, NT.p, NT.kv, NT.vv, NT.cv] at h0 hroot ⊢;rw [e0] at hrd hbig ho1 ho2 ho3 oO N8 N9 KO;replace hrd : Rd 101 w tp (PT.mk tks tvs (NT.ax aJ)) := hrd;simp only [PT.keys, PT.vals, PT.kids] at ho1 ho2 ho3 oO;have vQ := A_ hrd;have bQ := A_ hbs;have Dy := A_ ho1;have Fv : tvs.length <= 4 := by omega
  obtain ⟨jF, fG, rfl⟩ := Kd.ak (h0.sr 1 rfl);obtain ⟨jK, fM, rfl⟩ := Kd.ak (h0.sr 2 rfl);obtain ⟨qB, fK, rfl, _, _⟩ := dz (h0.q 3 rfl);have HS := A_ h0;have HB := A_ (Below.refl base w);have HSW := A_ hs;have KT := A_ oO;have X3 := A_ ho3;clear h0 hrd hs hbs ho1 ho3 oO hsrt hkd
  by_cases hlf : aJ.length = 0
  ·skip
   have hk0 : NT.ax aJ = [] := by rw [List.length_eq_zero_iff.1 hlf]; rfl
   have VG : tks.length - 1 < tvs.length := by have := Dy.out; omega
   have hbl := A_ (show decide ((((PT.mk tks tvs (NT.ax aJ)).kids.length : Nat) : Int) = 0) = true from decide_eq_true (by show ((NT.ax aJ).length : Int) = 0; rw [hk0]; rfl));have GG := A_ hk0;clear hk0
   obtain ⟨tx, htx⟩ : ∃ x, bq tks (tks.length - 1) = x := ⟨_, rfl⟩
   have oV : af ((tks.length - 1) < tks.length /\ bq tks (tks.length - 1) = tx) := ⟨by omega, htx⟩
   clear htx
   obtain ⟨ty, hty⟩ : ∃ x, bq tvs (tks.length - 1) = x := ⟨_, rfl⟩
   have oh : af ((tks.length - 1) < tvs.length /\ bq tvs (tks.length - 1) = ty) := ⟨by omega, hty⟩
   clear hty;obtain ⟨l1, mF⟩ := lL (tks.eraseIdx (tks.length - 1));obtain ⟨l2, qa⟩ := lL (tvs.eraseIdx (tks.length - 1));go_enter Try.func132, Try.ntmps132
   go_upto_region 2 with (first | (go_at_call 99; (with_reducible refine (cz.cK true hbl.out _ ?az).mono ?_); (case az => repeat (first | exact vQ.out | (with_reducible refine Rd.drewN ?_ _) | (with_reducible refine Rd.drew ?_))); rintro e w' ⟨rfl, ⟨nd, rfl⟩⟩))
   generalize hW : World.drewN _ _ = w2
   have ah : af (aa w2 base [jM 101 tp jF tks.length fG jK tvs.length fM qB aJ.length fK, gK jF fG tks, gK jK fM tvs, lX 74 qB fK aJ, (NT.aZ 101 74 aJ), L]) := ⟨by rw [<- hW]; exact aa.drewN HS.out _⟩
   replace HB : af (Below base w w2) := ⟨by rw [<- hW]; exact aj HB.out _⟩
   replace HS := ah; clear ah vQ hbl hW
   have eT := (aa.z0 HS.out 0 rfl)
   go_wp2_with (first | (go_at_call 131; have zO := yL (aa.gJ HS.out [0, 1, 2, 3, 4, 5] (by decide)); (with_reducible refine (yh (i := (tks.length - 1)) zO oV.out oh.out mF.out qa.out (by omega) (cO bQ HB)).mono ?_); rintro e w3 ⟨rfl, A3, c4, A5, c6, hs_, nD⟩; have ah := jN hs_; replace HB : af (Below base w w3) := ⟨(HB.out).trans nD⟩; replace HS := ah; clear ah hs_ nD zO; clear eT; have eT := (aa.z0 HS.out 0 rfl)))
   clear eT;have hl0 : (PT.mk tks tvs (NT.ax aJ)).kids.length = 0 := by show (NT.ax aJ).length = 0; rw [GG.out]; rfl
   have hl1 : jC (n + 1) (PT.mk tks tvs (NT.ax aJ)) = PT.mk tks tvs (NT.ax aJ) := by rw [jC, if_pos hl0]
   have hS := yL (aa.gJ HS.out [0, 1, 2, 3, 4, 5] (by decide))
   go_ret2
   refine ⟨?_, NT.mk tp (.slice A3 l1.length c4) (.slice A5 l2.length c6) (.slice qB aJ.length fK) l1 l2 aJ, rfl, ?_, gV hS, HB.out⟩
   ·rw [<- oV.out.2, <- oh.out.2]
    show Ending.returned (.tuple #[.string (bq tks (tks.length - 1)), .string (bq tvs (tks.length - 1))]) = Ending.returned (.tuple #[.string (kT (n + 1) (PT.mk tks tvs (NT.ax aJ))), .string (oW (n + 1) (PT.mk tks tvs (NT.ax aJ)))]);unfold kT oW;rw [hl1];rfl
   ·show PT.mk l1 l2 (NT.ax aJ) = uF (n + 1) (PT.mk tks tvs (NT.ax aJ))
    rw [uF, if_pos hl0, mF.out, qa.out];rfl
  ·skip
   have hnl : (NT.ax aJ).length = aJ.length := by rw [aC, List.length_map]
   have hkl : aJ.length = tks.length + 1 := by
    have := X3.out;omega
   obtain ⟨s, hsx⟩ : ∃ s, aJ[aJ.length - 1]? = some s := ⟨aJ[aJ.length - 1]'(by omega), List.getElem?_eq_getElem (by omega)⟩
   have hse : (PT.mk tks tvs (NT.ax aJ)).kids[aJ.length - 1]? = some s.erase := by show (NT.ax aJ)[aJ.length - 1]? = _; rw [aC, List.getElem?_map, hsx]; rfl
   have hsm : s.erase ∈ NT.ax aJ := List.mem_of_getElem? hse;have hor := N8.out.resolve_left (fun c => hlf (by have := congrArg List.length c.2; rw [<- hnl]; exact this));have jw := A_ (show qD h s.erase /\ 2 <= s.keys.length from ⟨⟨KT.out _ hsm, (hor.2.2 _ hsm).1⟩, by have := (hor.2.2 _ hsm).2; rw [aU] at this; exact this⟩);have Fx := A_ (show s.erase.big <= n by have := PT.gH hse; omega);have JB := A_ (lC KO.out N9.out hse (show aJ.length - 1 <= tks.length by omega));have Fw := A_ (show gy (PT.mk tks tvs (NT.ax aJ)) (aJ.length - 1) = s.erase from Pure.ky hse);have rE := A_ hsx;have WC := A_ hse;have hil : aJ.length - 1 < aJ.length := by omega
   have htc : aJ.length <= 5 := by omega
   have xu := A_ hkl;have hbl := A_ (show decide ((((PT.mk tks tvs (NT.ax aJ)).kids.length : Nat) : Int) = 0) = false from decide_eq_false (by show ((NT.ax aJ).length : Int) ≠ 0; omega));obtain ⟨iB, rfl⟩ := fJ (aa.q HS.out 3 rfl) (by omega);have VH := A_ hlf;clear hnl hkl hsx hse hsm hor hlf;go_enter Try.func132, Try.ntmps132
   go_upto_region 3 with (first | (go_at_call 99; (with_reducible refine (cz.cK false hbl.out _ ?az).mono ?_); (case az => repeat (first | exact vQ.out | (with_reducible refine Rd.drewN ?_ _) | (with_reducible refine Rd.drew ?_))); rintro e w' ⟨rfl, ⟨nd, rfl⟩⟩))
   generalize hW : World.drewN _ _ = w2
   have ah : af (aa w2 base [jM 101 tp jF tks.length fG jK tvs.length fM (some iB) aJ.length fK, gK jF fG tks, gK jK fM tvs, lX 74 (some iB) fK aJ, (NT.aZ 101 74 aJ), L]) := ⟨by rw [<- hW]; exact aa.drewN HS.out _⟩
   replace HB : af (Below base w w2) := ⟨by rw [<- hW]; exact aj HB.out _⟩
   replace HS := ah; clear ah vQ hbl hW
   obtain ⟨sp, wh⟩ : ∃ p, s.p = p := ⟨_, rfl⟩
   have uX := A_ wh
   obtain ⟨t0, ht0⟩ : ∃ t0, t0 = NT.mk tp (.slice jF tks.length fG) (.slice jK tvs.length fM) (.slice (some iB) aJ.length fK) tks tvs aJ := ⟨_, rfl⟩
   have HT0 := A_ ht0;have uk := A_ (show Sat w2 base (t0.dH 101 74 ++ L) by rw [ht0]; exact gV HS.out)
   have MH : af (t0.kids[aJ.length - 1]? = some s) := ⟨by rw [ht0]; exact rE.out⟩
   clear ht0;have wG := aa.z2 HS.out 0 rfl;have VJ := ik (aa.fH HS.out 3 rfl) (And.intro rE.out wh);clear wh;have QB := bV (1 <= (aJ.length : Int));have QC := bV (((aJ.length : Int) - 1) < (aJ.length : Int));have Rh : (aJ.length - 1 < aJ.length) = True := eq_true hil
   have hC := fun (w : World) (hs : Sat w base (t0.dH 101 74 ++ L)) (hb : base <= w.heap.size) => ih s h Fx.out jw.out.1 (by have := jw.out.2; omega) JB.out base (t0.hole 101 74 (aJ.length - 1) L) w (hs.perm (sU L MH.out)) hb
   rw [uX.out] at hC;have HC := A_ hC;clear hC
   go_upto_region 5 with (first | (go_at_call 132; (with_reducible refine (HC.out _ uk.out (cO bQ HB)).mono ?_); rintro e w8 ⟨rfl, s', hsp, o7, hs', hb'⟩))
   obtain ⟨kx, hkx⟩ : ∃ x, kT n s.erase = x := ⟨_, rfl⟩
   obtain ⟨kv, Qy⟩ : ∃ x, oW n s.erase = x := ⟨_, rfl⟩
   rw [hkx, Qy];have SB := A_ (And.intro hkx Qy);clear hkx Qy
   have Ob : af (kV s'.erase) := ⟨by rw [o7]; exact (IL Fx.out jw.out.1 (by rw [aU]; have := jw.out.2; omega) JB.out).1.b⟩
   rw [uX.out] at hsp;have JI : s'.p = s.p := by rw [hsp, uX.out]
   have hT1 : Sat w8 base ((t0.eQ (aJ.length - 1) s').dH 101 74 ++ L) := hs'.perm (BH L MH.out JI);have hE1 : (t0.eQ (aJ.length - 1) s').erase = .mk tks tvs ((NT.ax aJ).set (aJ.length - 1) s'.erase) := by rw [mX, HT0.out]; rfl
   have HB2 := A_ (HB.out.trans hb')
   have Oc := y7.calls (t0.eQ (aJ.length - 1) s') (aJ.length - 1) (by rw [HT0.out]; exact ⟨by show tks.length <= 1000; omega, by have := Dy.out; show tvs.length = tks.length; omega, .inr (by have := xu.out; show (aJ.set _ s').length = tks.length + 1; rw [List.length_set]; omega)⟩) (by rw [HT0.out]; have := xu.out; show (aJ.set _ s').length = tks.length + 1; rw [List.length_set]; omega) (by rw [HT0.out]; show 0 < tks.length; omega) (by rw [HT0.out]; show aJ.length - 1 < (aJ.set _ s').length; rw [List.length_set]; exact hil) (fun c hc => by
    rw [HT0.out] at hc;have hc : c ∈ aJ.set (aJ.length - 1) s' := hc;refine Gh ?_
    rcases List.mem_or_eq_of_mem_set hc with hc | rfl
    ·exact KT.out _ (by rw [aC]; exact List.mem_map_of_mem hc)
    ·exact Ob.out) base L w8 hT1 (cO bQ HB2)
   rw [show (t0.eQ (aJ.length - 1) s').p = tp by rw [HT0.out]; rfl] at Oc;rw [hE1] at Oc;have WH := A_ Oc
   have X9 : af ((t0.eQ (aJ.length - 1) s').p = tp) := ⟨by rw [HT0.out]; rfl⟩
   have VQ := A_ o7;clear Oc hE1 hT1 JI hs' hb' o7 wG VJ
   have HCI : af (((aJ.length - 1 : Nat) : Int) = (aJ.length : Int) - 1) := ⟨by omega⟩
   rw [HCI.out] at WH
   go_wp2_with (first | (go_at_call 133; (with_reducible refine WH.out.mono ?_); rintro e w9 ⟨rfl, t2, ht1, ht2, ht3, Fy⟩))
   have hl0 : ¬ (PT.mk tks tvs (NT.ax aJ)).kids.length = 0 := fun c => VH.out (by have c' : (NT.ax aJ).length = 0 := c; rw [aC, List.length_map] at c'; exact c')
   have hln : (PT.mk tks tvs (NT.ax aJ)).kids.length - 1 = aJ.length - 1 := by show (NT.ax aJ).length - 1 = _; rw [aC, List.length_map]
   have hl1 : jC (n + 1) (PT.mk tks tvs (NT.ax aJ)) = jC n s.erase := by rw [jC, if_neg hl0, hln, Fw.out]
   go_ret2
   refine ⟨?_, t2, by rw [ht1, X9.out]; rfl, ?_, ht3, HB2.out.trans Fy⟩
   ·show Ending.returned (.tuple #[.string kx, .string kv]) = Ending.returned (.tuple #[.string (kT (n + 1) (PT.mk tks tvs (NT.ax aJ))), .string (oW (n + 1) (PT.mk tks tvs (NT.ax aJ)))])
    have e1 := SB.out.1;have e2 := SB.out.2;unfold kT at e1 ⊢;unfold oW at e2 ⊢;rw [hl1, e1, e2]
   ·rw [ht2, VQ.out]
    show _ = uF (n + 1) (PT.mk tks tvs (NT.ax aJ));rw [uF, if_neg hl0, hln, Fw.out];rfl
open Go.Proofs.Ytoddejmlcnbdmaa.Pure (kK aX qD Has mZ qL lC oK qj vI rZ)
theorem Xi {w : World} {base sp : Nat} {x y : ByteArray} {S : List Ck} {R : List (List Ck)} {P : NT -> Prop} (h : ∀ (L : List Ck) (w : World), Sat w base (S ++ L) -> base <= w.heap.size -> Calls Try.prog 132 #[bu sp] w fun e w' => e = .returned (.tuple #[.string x, .string y]) /\ ∃ s' : NT, s'.p = sp /\ P s' /\ Sat w' base (s'.dH 101 74 ++ L) /\ Below base w w')
  (hs : aa w base (S :: R)) (hb : base <= w.heap.size) : Calls Try.prog 132 #[bu sp] w fun e w' => e = .returned (.tuple #[.string x, .string y]) /\ ∃ s' : NT, s'.p = sp /\ P s' /\ aa w' base (s'.dH 101 74 :: R) /\ Below base w w' := by
 refine (h R.flatten w hs hb).mono ?_;rintro e w' ⟨h1, s', h2, h3, h4, h5⟩;exact ⟨h1, s', h2, h3, h4, h5⟩
theorem Nv.calls : ∀ (n : Nat) (t : NT) (key : ByteArray) (h : Nat), t.erase.big <= n -> qD h t.erase -> (t.kids.length ≠ 0 -> 0 < t.keys.length) -> kK (aX t.erase) -> Has key (aX t.erase) -> ∀ (base : Nat) (L : List Ck) (w : World), Sat w base (t.dH 101 74 ++ L) -> base <= w.heap.size ->
  Calls Try.prog 114 #[bu t.p, .string key] w (DR w base 101 74 t L (wz n t.erase key)) := by
 intro n
 induction n with
 | zero =>
  intro t key h hb;exact absurd t.erase.fB (by omega)
 | succ n ih =>
  intro t key h hbig hkd hroot hsrt hhas base L w hs hbs
  cases h with
  | zero => exact hkd.l.elim
  | succ h =>
  have hrd := jc hs.left;obtain ⟨⟨ho1, ho2, ho3⟩, oO⟩ := bJ.1 hkd.b;have h0 := fF hs;have N8 := A_ (Pure.jU hkd.b hkd.l);have N9 := A_ hsrt;have KO := A_ hkd.b
  cases t with | mk tp yC yD yE tks tvs aJ =>
  have e0 : (NT.mk tp yC yD yE tks tvs aJ).erase = .mk tks tvs (NT.ax aJ) := rfl;unfold jV at h0;simp only [NT.keys, NT.vals, NT.kids, NT.p, NT.kv, NT.vv, NT.cv] at h0 hroot ⊢;rw [e0] at hrd hbig ho1 ho2 ho3 oO N8 N9 KO;replace hrd : Rd 101 w tp (PT.mk tks tvs (NT.ax aJ)) := hrd;simp only [PT.keys, PT.vals, PT.kids] at ho1 ho2 ho3 oO;have vQ := A_ hrd;have bQ := A_ hbs;have Dy := A_ ho1;have Fv : tvs.length <= 4 := by omega
  obtain ⟨jF, fG, rfl⟩ := Kd.ak (h0.sr 1 rfl);obtain ⟨jK, fM, rfl⟩ := Kd.ak (h0.sr 2 rfl);obtain ⟨qB, fK, rfl, _, _⟩ := dz (h0.q 3 rfl);have HS := A_ h0;have HB := A_ (Below.refl base w);have HSW := A_ hs;have KT := A_ oO;have X3 := A_ ho3;clear h0 hrd hs hbs ho1 ho3 oO hsrt hkd;rw [e0] at hhas;show Calls Try.prog 114 _ w (DR w base 101 74 _ L (wz (n + 1) (PT.mk tks tvs (NT.ax aJ)) key))
  obtain ⟨R, hR⟩ : ∃ R, R = wz (n + 1) (.mk tks tvs (NT.ax aJ)) key := ⟨_, rfl⟩
  rw [<- hR]
  obtain ⟨i, hi⟩ : ∃ i, dG key tks = i := ⟨_, rfl⟩
  obtain ⟨b, hb⟩ : ∃ b, jg tks i key = b := ⟨_, rfl⟩
  have hle : i <= tks.length := by rw [<- hi]; exact lS key tks
  have hsk : Pure.DC tks := Pure.oG ((Pure.ku (Pure.bA KO.out)).2 N9.out);obtain ⟨kf, Vs⟩ := Mi tks key (by omega) hsk;rw [hi] at Vs;have z8 := A_ Vs;have JM := A_ (show eH.f tks (i : Int) key = some b from by rw [Pure.xN, hb]);have HRW := A_ (aa.row HS.out 1 rfl);have Q3 := A_ (And.intro hi hb);rw [wz] at hR;rw [show dG key (PT.mk tks tvs (NT.ax aJ)).keys = i from hi] at hR;rw [show jg (PT.mk tks tvs (NT.ax aJ)).keys i key = b from hb] at hR;have HR := A_ hR;have TF := A_ hhas;have ZL := A_ hroot;have hz0_ := aa.z0 HS.out 0 rfl;clear hR hi hb hsk Vs hhas hroot
  by_cases hlf : aJ.length = 0
  ·skip
   have hk0 : NT.ax aJ = [] := by rw [List.length_eq_zero_iff.1 hlf]; rfl
   have hS := qj KO.out hk0 N9.out TF.out;have hbt : b = true := by rw [<- Q3.out.2, <- Q3.out.1]; exact hS
   subst hbt;have VF : i < tks.length := jQ Q3.out.2;have VG : i < tvs.length := by have := Dy.out; omega
   have hbl := A_ (show decide ((((PT.mk tks tvs (NT.ax aJ)).kids.length : Nat) : Int) = 0) = true from decide_eq_true (by show ((NT.ax aJ).length : Int) = 0; rw [hk0]; rfl));have GG := A_ hk0;clear hS hk0
   obtain ⟨tx, htx⟩ : ∃ x, bq tks i = x := ⟨_, rfl⟩
   have oV : af (i < tks.length /\ bq tks i = tx) := ⟨by omega, htx⟩
   clear htx
   obtain ⟨ty, hty⟩ : ∃ x, bq tvs i = x := ⟨_, rfl⟩
   have oh : af (i < tvs.length /\ bq tvs i = ty) := ⟨by omega, hty⟩
   clear hty;obtain ⟨l1, mF⟩ := lL (tks.eraseIdx i);obtain ⟨l2, qa⟩ := lL (tvs.eraseIdx i);go_enter Try.func114, Try.ntmps114
   go_upto_region 3 with (first | (go_at_call 73; (with_reducible refine (ed.calls kf _ _ tks key (i : Int) _ ?az ?bW z8.out).mono ?_); (case az => repeat (first | exact HRW.out.2.2 | (with_reducible refine Kd.dB ?_ _) | (with_reducible refine Kd.gD ?_))); (case bW => exact HRW.out.2.1); rintro e w1 ⟨rfl, ⟨nd, rfl⟩⟩) | (go_at_call 101; (with_reducible refine (eH.calls _ _ tks (i : Int) key true _ ?az ?bW JM.out).mono ?_); (case az => repeat (first | exact HRW.out.2.2 | (with_reducible refine Kd.dB ?_ _) | (with_reducible refine Kd.gD ?_))); (case bW => exact HRW.out.2.1); rintro e w1 ⟨rfl, ⟨nd, rfl⟩⟩) | (go_at_call 99; (with_reducible refine (cz.cK true hbl.out _ ?az).mono ?_); (case az => repeat (first | exact vQ.out | (with_reducible refine Rd.drewN ?_ _) | (with_reducible refine Rd.drew ?_))); rintro e w' ⟨rfl, ⟨nd, rfl⟩⟩))
   generalize hW : World.drewN _ _ = w2
   have ah : af (aa w2 base [jM 101 tp jF tks.length fG jK tvs.length fM qB aJ.length fK, gK jF fG tks, gK jK fM tvs, lX 74 qB fK aJ, (NT.aZ 101 74 aJ), L]) := ⟨by rw [<- hW]; exact aa.drewN HS.out _⟩
   replace HB : af (Below base w w2) := ⟨by rw [<- hW]; exact aj HB.out _⟩
   replace HS := ah; clear ah vQ hbl hW
   go_wp2_with (first | (go_at_call 131; have zO := yL (aa.gJ HS.out [0, 1, 2, 3, 4, 5] (by decide)); (with_reducible refine (yh (i := i) zO oV.out oh.out mF.out qa.out (by omega) (cO bQ HB)).mono ?_); rintro e w3 ⟨rfl, A3, c4, A5, c6, hs_, nD⟩; have ah := jN hs_; replace HB : af (Below base w w3) := ⟨(HB.out).trans nD⟩; replace HS := ah; clear ah hs_ nD zO))
   refine bodyPost_ret (results_none rfl _ _ _) rfl ?_;have hS := yL (aa.gJ HS.out [0, 1, 2, 3, 4, 5] (by decide));refine ⟨.mk (tks.eraseIdx i) (tvs.eraseIdx i) (NT.ax aJ), ?_, rfl, NT.mk tp (.slice A3 l1.length c4) (.slice A5 l2.length c6) (.slice qB aJ.length fK) l1 l2 aJ, rfl, ?_, gV hS, HB.out⟩
   ·rw [HR.out]
    (first | rw [if_pos rfl] | rw [if_pos trivial])
    rw [if_pos (show (PT.mk tks tvs (NT.ax aJ)).kids.length = 0 by show (NT.ax aJ).length = 0; rw [GG.out]; rfl)];rfl
   ·rw [mF.out, qa.out]
    rfl
  ·skip
   have hnl : (NT.ax aJ).length = aJ.length := by rw [aC, List.length_map]
   have hkl : aJ.length = tks.length + 1 := by
    have := X3.out;omega
   obtain ⟨s, hsx⟩ : ∃ s, aJ[i]? = some s := ⟨aJ[i]'(by omega), List.getElem?_eq_getElem (by omega)⟩
   have hse : (PT.mk tks tvs (NT.ax aJ)).kids[i]? = some s.erase := by show (NT.ax aJ)[i]? = _; rw [aC, List.getElem?_map, hsx]; rfl
   have hsm : s.erase ∈ NT.ax aJ := List.mem_of_getElem? hse;have hor := N8.out.resolve_left (fun c => hlf (by have := congrArg List.length c.2; rw [<- hnl]; exact this));have jw := A_ (show qD h s.erase /\ 2 <= s.keys.length from ⟨⟨KT.out _ hsm, (hor.2.2 _ hsm).1⟩, by have := (hor.2.2 _ hsm).2; rw [aU] at this; exact this⟩);have Fx := A_ (show s.erase.big <= n by have := PT.gH hse; omega);have JB := A_ (lC KO.out N9.out hse (show i <= tks.length by omega));have Fw := A_ (show gy (PT.mk tks tvs (NT.ax aJ)) (i) = s.erase from Pure.ky hse);have rE := A_ hsx;have WC := A_ hse;have hil : i < aJ.length := by omega
   have htc : aJ.length <= 5 := by omega
   have xu := A_ hkl;have hbl := A_ (show decide ((((PT.mk tks tvs (NT.ax aJ)).kids.length : Nat) : Int) = 0) = false from decide_eq_false (by show ((NT.ax aJ).length : Int) ≠ 0; omega));obtain ⟨iB, rfl⟩ := fJ (aa.q HS.out 3 rfl) (by omega);have VH := A_ hlf;clear hnl hkl hsx hse hsm hor hlf;have h0k : 0 < tks.length := ZL.out VH.out;have hl0 := A_ (show ¬ (PT.mk tks tvs (NT.ax aJ)).kids.length = 0 from fun c => VH.out (by have c' : (NT.ax aJ).length = 0 := c; rw [aC, List.length_map] at c'; exact c'))
   cases b with
   | true =>
    go_enter Try.func114, Try.ntmps114
    go_upto_region 5 with (first | (go_at_call 73; (with_reducible refine (ed.calls kf _ _ tks key (i : Int) _ ?az ?bW z8.out).mono ?_); (case az => repeat (first | exact HRW.out.2.2 | (with_reducible refine Kd.dB ?_ _) | (with_reducible refine Kd.gD ?_))); (case bW => exact HRW.out.2.1); rintro e w1 ⟨rfl, ⟨nd, rfl⟩⟩) | (go_at_call 101; (with_reducible refine (eH.calls _ _ tks (i : Int) key true _ ?az ?bW JM.out).mono ?_); (case az => repeat (first | exact HRW.out.2.2 | (with_reducible refine Kd.dB ?_ _) | (with_reducible refine Kd.gD ?_))); (case bW => exact HRW.out.2.1); rintro e w1 ⟨rfl, ⟨nd, rfl⟩⟩) | (go_at_call 99; (with_reducible refine (cz.cK false hbl.out _ ?az).mono ?_); (case az => repeat (first | exact vQ.out | (with_reducible refine Rd.drewN ?_ _) | (with_reducible refine Rd.drew ?_))); rintro e w' ⟨rfl, ⟨nd, rfl⟩⟩))
    generalize hW : World.drewN _ _ = w2
    have ah : af (aa w2 base [jM 101 tp jF tks.length fG jK tvs.length fM (some iB) aJ.length fK, gK jF fG tks, gK jK fM tvs, lX 74 (some iB) fK aJ, (NT.aZ 101 74 aJ), L]) := ⟨by rw [<- hW]; exact aa.drewN HS.out _⟩
    replace HB : af (Below base w w2) := ⟨by rw [<- hW]; exact aj HB.out _⟩
    replace HS := ah; clear ah vQ hbl hW;have VF : i < tks.length := jQ Q3.out.2;have VG : i < tvs.length := by have := Dy.out; omega
    obtain ⟨jG, rfl⟩ := dA (aa.sr HS.out 1 rfl) (by omega);obtain ⟨jH, rfl⟩ := dA (aa.sr HS.out 2 rfl) (by omega)
    obtain ⟨sp, wh⟩ : ∃ p, s.p = p := ⟨_, rfl⟩
    obtain ⟨yx, hyx⟩ : ∃ x, kT n s.erase = x := ⟨_, rfl⟩
    obtain ⟨yz, WG⟩ : ∃ x, oW n s.erase = x := ⟨_, rfl⟩
    have YF := fun (L : List Ck) (w : World) (hs : Sat w base (s.dH 101 74 ++ L)) (hb : base <= w.heap.size) => DJ.calls n s h Fx.out jw.out.1 (by have := jw.out.2; omega) JB.out base L w hs hb
    unfold LR at YF;simp only [hyx, WG, wh] at YF;have QT := A_ YF;have ZR := A_ wh;have mU := A_ (And.intro rE.out wh);have HY := A_ (And.intro hyx WG);have YG := EZ (t := NT.mk tp (.slice (some ⟨jG, 0, none⟩) tks.length fG) (.slice (some ⟨jH, 0, none⟩) tvs.length fM) (.slice (some iB) aJ.length fK) tks tvs aJ) rE.out (gV HS.out);simp only [NT.keys, NT.vals, NT.kids, NT.p, NT.kv, NT.vv, NT.cv] at YG
    obtain ⟨GA, Qz⟩ : ∃ G, G = NT.aZ 101 74 (aJ.take i) := ⟨_, rfl⟩
    obtain ⟨GD, QA⟩ : ∃ G, G = NT.aZ 101 74 (aJ.drop (i + 1)) := ⟨_, rfl⟩
    rw [<- Qz, <- QA] at YG;have UU := A_ Qz;have UW := A_ QA;clear HS YF wh hyx WG Qz QA;have HS := A_ YG;clear YG
    obtain ⟨tx, htx⟩ : ∃ x, bq tks i = x := ⟨_, rfl⟩
    have oV : af (i < tks.length /\ bq tks i = tx) := ⟨by omega, htx⟩
    clear htx
    obtain ⟨ty, hty⟩ : ∃ x, bq tvs i = x := ⟨_, rfl⟩
    have oh : af (i < tvs.length /\ bq tvs i = ty) := ⟨by omega, hty⟩
    clear hty;obtain ⟨l1, mF⟩ := lL (tks.set i yx);obtain ⟨l2, qa⟩ := lL (tvs.set i yz);have b3 := bV (0 <= (i : Int));have b4 := bV ((i : Int) < (aJ.length : Int));have b5 := bV (i < aJ.length);have b6 := bV ((i : Int) < (tks.length : Int));have b7 := bV (i < tks.length);have b8 := bV ((i : Int) < (tvs.length : Int));have b9 := bV (i < tvs.length);refine bS (n := 25) (S := fun w' => w'.cell? ⟨tp, 0, none⟩ = some (.slice (some ⟨jG, 0, none⟩) tks.length fG) /\ w'.cell? ⟨tp, 1, none⟩ = some (.slice (some ⟨jH, 0, none⟩) tvs.length fM) /\ w'.cell? ⟨tp, 2, none⟩ = some (.slice (some iB) aJ.length fK) /\ w'.cell? (iB.add i) = some (bu sp)) (ds := [22, 24]) (bt 25 0) (by kernel_rfl) rfl rfl ⟨(aa.z0 (aa.drew HS.out) 0 rfl), (aa.z1 (aa.drew HS.out) 0 rfl), (aa.z2 (aa.drew HS.out) 0 rfl), (ik (aa.fH (aa.drew HS.out) 3 rfl) mU.out)⟩ (fun hHeld => ?_);refine aH 0 44 1 ?_;refine aH 1 45 3 ?_;refine aH 2 46 7 ?_;refine aH 4 48 23 ?_;refine aH 5 49 55 ?_;refine aH 6 50 119 ?_;refine aH 7 51 247 ?_;refine aH 9 53 759 ?_;refine aH 10 54 1783 ?_;refine aH 11 55 3831 ?_;refine aH 12 56 7927 ?_;refine aH 14 58 24311 ?_;refine fq 3 47 24319 hHeld ?_;refine fq 8 52 24575 hHeld ?_;refine fq 13 57 32767 hHeld ?_;refine aH 15 59 65535 ?_;refine fq 16 60 131071 hHeld ?_;refine gG 17 (some 61) 262143 (fun K hK => ?_);have zO := yL (aa.gJ (aa.drew HS.out) [5, 0, 1, 2, 3, 4, 6, 7] (by decide));refine lI Try.func132 #[bu sp] ?_
    with_reducible refine (Xi QT.out zO (cO bQ HB)).mono ?_
    rintro e w3 ⟨rfl, s', SN, o7, hs_, nD⟩;refine ⟨_, rfl, ?_⟩;have VR := A_ (And.intro SN o7);have ah := jN hs_
    have bT : af (Below base w w3) := ⟨((aG HB.out)).trans nD⟩
    clear HS HB hs_ nD zO SN o7; have HS := ah; have HB := bT; clear ah bT;have zs0 := iH (aa.sr HS.out 2 rfl) oV.out;have jE := fZ (aa.sr HS.out 2 rfl) (Nat.lt_of_le_of_lt (Nat.zero_le _) oV.out.1) i;have Ox := iH (aa.sr HS.out 3 rfl) oh.out;have Oy := fZ (aa.sr HS.out 3 rfl) (Nat.lt_of_le_of_lt (Nat.zero_le _) oh.out.1) i;refine dh 61 hK ⟨(aa.z0 HS.out 1 rfl), (aa.z1 HS.out 1 rfl), (aa.z2 HS.out 1 rfl), (ik (aa.fH HS.out 4 rfl) mU.out)⟩ (fun hHeld => ?_);refine aH 18 43 524287 ?_;refine aH 19 62 1048575 ?_;refine aH 20 63 2097151 ?_;refine aH 21 64 4194303 ?_;refine qz 22 none 8388607 (fun K hK => ?_);refine fA (w1 := ?_) (by rfl) rfl ?_ ?_;rotate_left
    ·go_simp
     rfl
    refine hK.out _ _ ?_;clear hK K;refine aH 23 65 16777215 ?_;refine qz 24 none 33554431 (fun K hK => ?_);have Oa := iH (aa.sr (aa.nM HS.out 2 rfl i yx mF.out) 3 rfl) oh.out;refine fA (w1 := ?_) (by rfl) rfl ?_ ?_;rotate_left
    ·go_simp
     rfl
    clear Oa;refine hK.out _ _ ?_;clear hK K;refine dL (by kernel_rfl) ?_;have ah := gq (World.setCell (World.setCell w3 ⟨jG, i, none⟩ (.string yx)) ⟨jH, i, none⟩ (.string yz)) (aa.nM (aa.nM HS.out 2 rfl i yx mF.out) 3 rfl i yz qa.out)
    replace HB : af (Below base w (World.setCell (World.setCell w3 ⟨jG, i, none⟩ (.string yx)) ⟨jH, i, none⟩ (.string yz))) := ⟨((HB.out).setCell (p := ⟨jG, i, none⟩) (rX HS.out 2 rfl oV.out) _).setCell (p := ⟨jH, i, none⟩) (rX HS.out 3 rfl oh.out) _⟩
    generalize World.setCell (World.setCell w3 ⟨jG, i, none⟩ (.string yx)) ⟨jH, i, none⟩ (.string yz) = w4 at ah HB ⊢;replace HS := ah; clear ah zs0 jE Ox Oy
    go_upto_region 6 with fail
    have hS := yL (aa.gJ HS.out [1, 2, 3, 4, 5, 0, 6, 7] (by decide));rw [UU.out, UW.out] at hS;have hT := Nu rE.out (by rw [VR.out.1, ZR.out]) hS
    obtain ⟨t1, ht1⟩ : ∃ t1, t1 = NT.mk tp (.slice (some ⟨jG, 0, none⟩) tks.length fG) (.slice (some ⟨jH, 0, none⟩) tvs.length fM) (.slice (some iB) aJ.length fK) l1 l2 (aJ.set i s') := ⟨_, rfl⟩
    rw [<- ht1] at hT;have HT1 := A_ ht1;have hA1 : l1.length = tks.length := by rw [mF.out, List.length_set]
    have hB1 : l2.length = tvs.length := by rw [qa.out, List.length_set]
    have Ob : kV s'.erase := by rw [VR.out.2]; exact (IL Fx.out jw.out.1 (by rw [aU]; have := jw.out.2; omega) JB.out).1.b
    have Oc := y7.calls t1 i (by rw [ht1]; exact ⟨by show l1.length <= 1000; omega, by have := Dy.out; show l2.length = l1.length; omega, .inr (by have := xu.out; show (aJ.set _ s').length = l1.length + 1; rw [List.length_set]; omega)⟩) (by rw [ht1]; have := xu.out; show (aJ.set _ s').length = l1.length + 1; rw [List.length_set]; omega) (by rw [ht1]; show 0 < l1.length; omega) (by rw [ht1]; show i < (aJ.set _ s').length; rw [List.length_set]; exact hil) (fun c hc => by
     rw [ht1] at hc;have hc : c ∈ aJ.set i s' := hc;refine Gh ?_
     rcases List.mem_or_eq_of_mem_set hc with hc | rfl
     ·exact KT.out _ (by rw [aC]; exact List.mem_map_of_mem hc)
     ·exact Ob) base L w4 hT (cO bQ HB)
    rw [show t1.p = tp by rw [ht1]; rfl] at Oc;have WH := A_ Oc
    have oQ : af (t1.erase = .mk l1 l2 ((NT.ax aJ).set i s'.erase)) := ⟨by rw [ht1]; show PT.mk _ _ (NT.ax (aJ.set i s')) = _; rw [aC, aC, List.map_set]⟩
    clear ht1 hS hT Oc hA1 hB1 Ob HS
    go_wp2_with (first | (go_at_call 133; (with_reducible refine WH.out.mono ?_); rintro e w9 ⟨rfl, t2, ht1, ht2, ht3, Fy⟩))
    go_end0
    refine ⟨tu (.mk l1 l2 ((NT.ax aJ).set i s'.erase)) i, ?_, rfl, t2, by rw [ht1, HT1.out]; rfl, by rw [ht2, oQ.out], ht3, HB.out.trans Fy⟩;rw [HR.out]
    (first | rw [if_pos rfl] | rw [if_pos trivial])
    rw [if_neg hl0.out, Fw.out, VR.out.2, mF.out, qa.out, HY.out.1, HY.out.2];rfl
   | false =>
    go_enter Try.func114, Try.ntmps114
    go_upto_region 1 with (first | (go_at_call 73; (with_reducible refine (ed.calls kf _ _ tks key (i : Int) _ ?az ?bW z8.out).mono ?_); (case az => repeat (first | exact HRW.out.2.2 | (with_reducible refine Kd.dB ?_ _) | (with_reducible refine Kd.gD ?_))); (case bW => exact HRW.out.2.1); rintro e w1 ⟨rfl, ⟨nd, rfl⟩⟩) | (go_at_call 101; (with_reducible refine (eH.calls _ _ tks (i : Int) key false _ ?az ?bW JM.out).mono ?_); (case az => repeat (first | exact HRW.out.2.2 | (with_reducible refine Kd.dB ?_ _) | (with_reducible refine Kd.gD ?_))); (case bW => exact HRW.out.2.1); rintro e w1 ⟨rfl, ⟨nd, rfl⟩⟩))
    generalize hW : World.drewN _ _ = w5
    have ah : af (aa w5 base [jM 101 tp jF tks.length fG jK tvs.length fM (some iB) aJ.length fK, gK jF fG tks, gK jK fM tvs, lX 74 (some iB) fK aJ, (NT.aZ 101 74 aJ), L]) := ⟨by rw [<- hW]; exact aa.drewN HS.out _⟩
    replace HB : af (Below base w w5) := ⟨by rw [<- hW]; exact aj HB.out _⟩
    replace HS := ah; clear ah vQ hbl hW;have hH2 : Has key (aX s.erase) := (qL (t := PT.mk tks tvs (NT.ax aJ)) KO.out N9.out (by rw [show dG key (PT.mk tks tvs (NT.ax aJ)).keys = i from Q3.out.1]; exact Q3.out.2) (by rw [show dG key (PT.mk tks tvs (NT.ax aJ)).keys = i from Q3.out.1]; exact WC.out)).2.2 TF.out;have ZT := A_ hH2;clear hH2
    obtain ⟨sp, wh⟩ : ∃ p, s.p = p := ⟨_, rfl⟩
    have uX := A_ wh
    obtain ⟨t0, ht0⟩ : ∃ t0, t0 = NT.mk tp (.slice jF tks.length fG) (.slice jK tvs.length fM) (.slice (some iB) aJ.length fK) tks tvs aJ := ⟨_, rfl⟩
    have HT0 := A_ ht0;have uk := A_ (show Sat w5 base (t0.dH 101 74 ++ L) by rw [ht0]; exact gV HS.out)
    have MH : af (t0.kids[i]? = some s) := ⟨by rw [ht0]; exact rE.out⟩
    clear ht0;have wG := aa.z2 HS.out 0 rfl;have VJ := ik (aa.fH HS.out 3 rfl) (And.intro rE.out wh);clear wh;have QB := bV (0 <= (i : Int));have QC := bV ((i : Int) < (aJ.length : Int));have Rh : (i < aJ.length) = True := eq_true hil
    have hC := fun (w : World) (hs : Sat w base (t0.dH 101 74 ++ L)) (hb : base <= w.heap.size) => ih s key h Fx.out jw.out.1 (fun _ => by have := jw.out.2; omega) JB.out ZT.out base (t0.hole 101 74 (i) L) w (hs.perm (sU L MH.out)) hb
    rw [uX.out] at hC;have HC := A_ hC;clear hC
    go_upto_region 6 with (first | (go_at_call 114; (with_reducible refine (HC.out _ uk.out (cO bQ HB)).mono ?_); rintro e w8 ⟨rs, hrs, rfl, s', hsp, o7, hs', hb'⟩))
    have jP := A_ hrs;have VS := hrs;rw [rZ n s.erase key h Fx.out jw.out.1 JB.out ZT.out] at VS;obtain ⟨rs', K7, hkr, hlr, _⟩ := mZ n s.erase key h Fx.out jw.out.1 (fun _ => by have := jw.out.2; rw [aU]; omega) JB.out ZT.out;obtain rfl : rs = rs' := by rw [VS] at K7; exact Option.some.inj K7
    have Ob : af (kV s'.erase) := ⟨by rw [o7]; exact hkr.b⟩
    clear hrs VS K7 hkr hlr;rw [uX.out] at hsp;have JI : s'.p = s.p := by rw [hsp, uX.out]
    have hT1 : Sat w8 base ((t0.eQ (i) s').dH 101 74 ++ L) := hs'.perm (BH L MH.out JI);have hE1 : (t0.eQ (i) s').erase = .mk tks tvs ((NT.ax aJ).set (i) s'.erase) := by rw [mX, HT0.out]; rfl
    have HB2 := A_ (HB.out.trans hb')
    have Oc := y7.calls (t0.eQ (i) s') (i) (by rw [HT0.out]; exact ⟨by show tks.length <= 1000; omega, by have := Dy.out; show tvs.length = tks.length; omega, .inr (by have := xu.out; show (aJ.set _ s').length = tks.length + 1; rw [List.length_set]; omega)⟩) (by rw [HT0.out]; have := xu.out; show (aJ.set _ s').length = tks.length + 1; rw [List.length_set]; omega) (by rw [HT0.out]; show 0 < tks.length; omega) (by rw [HT0.out]; show i < (aJ.set _ s').length; rw [List.length_set]; exact hil) (fun c hc => by
     rw [HT0.out] at hc;have hc : c ∈ aJ.set (i) s' := hc;refine Gh ?_
     rcases List.mem_or_eq_of_mem_set hc with hc | rfl
     ·exact KT.out _ (by rw [aC]; exact List.mem_map_of_mem hc)
     ·exact Ob.out) base L w8 hT1 (cO bQ HB2)
    rw [show (t0.eQ (i) s').p = tp by rw [HT0.out]; rfl] at Oc;rw [hE1] at Oc;have WH := A_ Oc
    have X9 : af ((t0.eQ (i) s').p = tp) := ⟨by rw [HT0.out]; rfl⟩
    have VQ := A_ o7;clear Oc hE1 hT1 JI hs' hb' o7 wG VJ
    go_wp2_with (first | (go_at_call 133; (with_reducible refine WH.out.mono ?_); rintro e w9 ⟨rfl, t2, ht1, ht2, ht3, Fy⟩))
    go_end0
    refine ⟨tu (.mk tks tvs ((NT.ax aJ).set i s'.erase)) i, ?_, rfl, t2, by rw [ht1, X9.out]; rfl, ht2, ht3, HB2.out.trans Fy⟩;rw [HR.out]
    (first | rw [if_neg (by decide)] | rw [if_neg not_false])
    rw [if_neg hl0.out, Fw.out, jP.out, VQ.out];rfl
open Go.Proofs.Ytoddejmlcnbdmaa.Pure (kK aX qD Has)
def DWR (w : World) (base T E : Nat) (L : List Ck) (r : Option PT) (e : Ending) (w' : World) : Prop := ∃ r', r = some r' /\ WP w base T E L (lq r') e w'
theorem E8 {w : World} {base T E i : Nat} {t s : NT} {L : List Ck} (hk : t.kids[i]? = some s) (hs : Sat w base (t.dH T E ++ L)) : Sat w base (s.dH T E ++ L) := by
 have h := aa.gJ (EZ hk hs) [5, 7] (by decide);unfold aa at h;simp only [gJ, List.map_cons, List.map_nil, List.getD_cons_succ, List.getD_cons_zero, List.flatten_cons, List.flatten_nil, List.append_nil] at h;exact h
theorem Gi.calls (t : NT) (key : ByteArray) (h : Nat) (hkd : qD h t.erase) (hroot : t.kids.length ≠ 0 -> 0 < t.keys.length) (hsrt : kK (aX t.erase)) (hhas : Has key (aX t.erase)) (base : Nat) (L : List Ck) (w : World) (hs : Sat w base (t.dH 101 74 ++ L)) (hbs : base <= w.heap.size) :
  Calls Try.prog 85 #[bu t.p, .string key] w (DWR w base 101 74 L (wz t.erase.big t.erase key)) := by
 have hC := Nv.calls t.erase.big t key h (Nat.le_refl _) hkd hroot hsrt hhas base L w hs hbs;have hok := Pure.mZ t.erase.big t.erase key h (Nat.le_refl _) hkd (fun c => by rw [aU]; exact hroot (fun e => c (by rw [qi, List.length_eq_zero_iff.1 e]; rfl))) hsrt hhas;rw [<- Pure.rZ t.erase.big t.erase key h (Nat.le_refl _) hkd hsrt hhas] at hok;generalize wz t.erase.big t.erase key = R at hC hok ⊢;obtain ⟨rk, hrk, hrb, _⟩ := hok;have uo := A_ (And.intro hrk hrb.b)
 obtain ⟨tp, htp⟩ : ∃ p, t.p = p := ⟨_, rfl⟩
 rw [htp] at hC ⊢;have SH := A_ htp;have HC := A_ hC;clear hkd hroot hsrt hhas hs hbs htp hrk hrb hC;go_enter Try.func85, Try.ntmps85
 go_upto_region 2 with (first | (go_at_call 114; (with_reducible refine HC.out.mono ?_); rintro e w1 ⟨r1, hr1, rfl, t1, ht1, ht2, ht3, Fy⟩))
 have hb1 : kV t1.erase := by
  obtain rfl : r1 = rk := by rw [uo.out.1] at hr1; exact (Option.some.inj hr1).symm
  rw [ht2];exact uo.out.2
 rw [SH.out] at ht1;have hrd := jc ht3.left
 cases t1 with | mk p1 Vb SI rD uy vs1 cs1 =>
 have ht1 : p1 = tp := ht1;subst ht1;have h0 := fF ht3;unfold jV at h0;simp only [NT.keys, NT.vals, NT.kids, NT.p, NT.kv, NT.vv, NT.cv] at h0;obtain ⟨zG, ck1, rfl⟩ := Kd.ak (h0.sr 1 rfl);obtain ⟨UD, Tx, rfl, _, _⟩ := dz (h0.q 3 rfl);have eT := aa.z0 h0 0 rfl;have wG := aa.z2 h0 0 rfl
 obtain ⟨t1, Q4⟩ : ∃ t1, t1 = NT.mk p1 (.slice zG uy.length ck1) SI (.slice UD cs1.length Tx) uy vs1 cs1 := ⟨_, rfl⟩
 rw [<- Q4] at ht2 ht3 hrd hb1;have HT1 := A_ Q4;have HR1 := A_ (And.intro hr1 ht2);have HS := A_ ht3;have HB := A_ Fy
 have vQ : af (Rd 101 w1 p1 t1.erase) := ⟨by have := hrd; rw [Q4] at this ⊢; exact this⟩
 have hks : uy.length <= 4 /\ cs1.length <= 5 := by
  obtain ⟨⟨_, q2, q3⟩, _⟩ := bJ.1 hb1;rw [aU, Q4] at q2 q3;rw [bE] at q3;have q2 : uy.length <= 4 := q2;have q3 : cs1.length = 0 \/ cs1.length = uy.length + 1 := q3;omega
 have HQ := A_ h0;clear hr1 ht2 ht3 Fy hrd h0 Q4 hb1
 obtain ⟨nk, hnk⟩ : ∃ n, uy.length = n := ⟨_, rfl⟩
 have QU := A_ hnk;rw [hnk] at eT hks
 by_cases hk0 : nk = 0
 ·have ck := lQ ((nk : Int) = (0 : Int))
  have ck2 : ((nk : Int) == (0 : Int)) = true := by rw [hk0]; rfl
  by_cases hc0 : cs1.length = 0
  ·have hbl := A_ (show decide ((t1.erase.kids.length : Int) = 0) = true from decide_eq_true (by rw [bE, HT1.out]; show (cs1.length : Int) = 0; omega))
   have qP := A_ hc0;clear hnk hc0
   go_wp2_with (first | (go_at_call 99; (with_reducible refine (cz.cK true hbl.out _ ?az).mono ?_); (case az => repeat (first | exact vQ.out | (with_reducible refine Rd.drewN ?_ _) | (with_reducible refine Rd.drew ?_))); rintro e w' ⟨rfl, ⟨nd, rfl⟩⟩))
   go_ret;refine ⟨r1, HR1.out.1, t1, by rw [HT1.out]; rfl, ?_, Sat.drewN HS.out _, aj HB.out _⟩;unfold lq;rw [if_neg (by rintro ⟨_, c⟩; exact c (by rw [<- HR1.out.2, bE, HT1.out]; exact qP.out)), HR1.out.2]
  ·have hbl := A_ (show decide ((t1.erase.kids.length : Int) = 0) = false from decide_eq_false (by rw [bE, HT1.out]; show ¬ (cs1.length : Int) = 0; omega))
   obtain ⟨s, hsx⟩ : ∃ s, cs1[0]? = some s := ⟨cs1[0]'(by omega), List.getElem?_eq_getElem (by omega)⟩
   obtain ⟨sp, hsp⟩ : ∃ p, s.p = p := ⟨_, rfl⟩
   obtain ⟨Xu, rfl⟩ := fJ (aa.q HQ.out 3 rfl) (by omega);have VJ := uI (aa.fH HQ.out 3 rfl) (And.intro hsx hsp);have Ou := A_ (And.intro hsx hsp);have b0_ := bV ((0 : Int) < (cs1.length : Int));have Rm := bV (0 < cs1.length);have qP := A_ hc0;clear hnk hsx hsp hc0
   go_wp2_with (first | (go_at_call 99; (with_reducible refine (cz.cK false hbl.out _ ?az).mono ?_); (case az => repeat (first | exact vQ.out | (with_reducible refine Rd.drewN ?_ _) | (with_reducible refine Rd.drew ?_))); rintro e w' ⟨rfl, ⟨nd, rfl⟩⟩))
   rw [<- Ou.out.2];go_ret;have hk1 : t1.kids[0]? = some s := by rw [HT1.out]; exact Ou.out.1
   refine ⟨r1, HR1.out.1, s, rfl, ?_, Sat.drewN (E8 hk1 HS.out) _, aj HB.out _⟩;unfold lq;rw [if_pos ⟨by rw [<- HR1.out.2, aU, HT1.out]; show uy.length = 0; rw [QU.out]; exact hk0, fun c => qP.out (by rw [<- HR1.out.2, bE, HT1.out] at c; exact c)⟩, <- HR1.out.2, qm hk1]
 ·have ck := kS ((nk : Int) = (0 : Int))
  have ck2 : ((nk : Int) == (0 : Int)) = false := beq_eq_false_iff_ne.2 (by omega);clear hnk
  go_wp2_with fail
  go_ret;refine ⟨r1, HR1.out.1, t1, by rw [HT1.out]; rfl, ?_, HS.out, HB.out⟩;unfold lq;rw [if_neg (by rintro ⟨c, _⟩; rw [<- HR1.out.2, aU, HT1.out] at c; exact hk0 (QU.out.symm.trans c)), HR1.out.2]
end Go.Proofs.Ytoddejmlcnbdmaa.Tree
namespace Go.Proofs.Ytoddejmlcnbdmaa.Fn
theorem qN {p0 p1 q : Prop} (h0 : p0) (h1 : p1) (h : p0 -> p1 -> q := by intro uu XT; repeat (first | (with_reducible first | exact uu | apply aj | apply bD | refine bF ?_ XT) | exact uu)) : q := h h0 h1
open Go.Proofs.Ytoddejmlcnbdmaa.Pure (EG tH jX aX jJ lM fD nT ko bA kz Has dQ l9 uN EW uJ EK)
def uj (o : Option PT) (key : ByteArray) : List bC × Bool := match o with
 | none => ([], false)
 | some t => if (dQ key (aX t)).2 = true then (match mP t.big t key with
  | none => ([], false)
  | some r => (iM (lq r) 0, true)) else ([], false)
theorem E9 {key : ByteArray} {l : List Pure.KV} : (kz key l).length <= l.length := List.length_filter_le _ _
def gY.f (aW : List bC) (a1 : ByteArray) : Option (List bC × Bool) := if kM aW = true then some (uj (mq aW) a1) else none
theorem gY.oZ (bL : Option Addr) (bM : Nat) (aW : List (bC)) (a1 : ByteArray) (r1 : List bC) (r2 : Bool) (w : World) (iO : Kd.C j4 w bL aW.length aW) (mg : aW.length <= bM) (h : gY.f aW a1 = some (r1, r2)) :
  Calls Try.prog 39 #[.agg #[.slice bL aW.length bM], .string a1] w fun e w' => ∃ ja : Value, e = .returned (.tuple #[.agg #[ja], .bool r2]) /\ iZ w' w.heap.size ja r1 /\ Below w.heap.size w w' := by
 unfold gY.f at h;have HP := A_ iO;clear iO mg
 by_cases hok : kM aW = true
 ·rw [if_pos hok] at h
  obtain ⟨hok1, hP⟩ := jo hok;have nA := A_ (dN hok1).1;have HM := A_ (dN hok1).2
  obtain ⟨o, hrs⟩ : ∃ o, mq aW = o := ⟨_, rfl⟩
  rw [hrs] at h;have hof := hrs;have h := Option.some.inj h;have jP := A_ hrs;clear hok hok1 hrs
  cases o with
  | none =>
   have h : (([] : List bC), false) = (r1, r2) := h
   injection h with e1 e2
   subst e1;subst e2;clear hof hP;go_enter Try.func39, Try.ntmps39
   go_wp2_with (first | (refine jl 2 #[.slice bL aW.length bM] 29 ?_; intro b3 hg w1 aA hb; have HB := A_ hb; have hz3 : w1.cell? ⟨b3, 0, none⟩ = some (.slice bL aW.length bM) := (au aA 0).trans rfl; clear hg aA hb) | (refine jl 4 #[.slice none 0 0] 29 ?_; intro g6 hg w2 aA hb; have kF := (hb.cell (World.block_lt_of_cell? w1 _ hz3)).trans hz3; clear hz3; have hz3 := kF; clear kF; have qV := A_ (show w.heap.size <= g6 from by rw [hg]; exact Below.size HB.out); have ah := A_ (ay HB.out hb); clear HB; have HB := ah; have fw := A_ aA; clear ah hg aA hb) | (go_at_call 57; (with_reducible refine (gI.calls aW nA.out bL bM _ (Kd.aN HP.out HB.out) HM.out).mono ?_); rintro e w3 ⟨hb, hr⟩; rw [jP.out] at hr; obtain ⟨-, rfl⟩ := hr.resolve_right (by rintro ⟨_, h, _⟩; cases h); have ah := A_ (ay HB.out hb); have bT := A_ (bG fw.out hb); clear HB fw; have HB := ah; have fw := bT; clear ah bT hb hr hz3; have vR := (au fw.out 0).trans rfl; have wH := aV fw.out 0))
   refine bodyPost_ret (df rfl _ _ g6 29 #[.slice none 0 0] (0, 0) _ rfl (by (with_reducible repeat (first | refine di ?_ _ | refine dK ?_ )); refine dP (cs := #[.slice none 0 0]) ?_ 0 _ rfl; (with_reducible repeat (first | refine di ?_ _ | refine dK ?_)); exact fw.out) Try.underlying29 rfl (by kernel_rfl)) rfl ?_;exact ⟨_, rfl, iZ.nil _ _, (qN HB.out qV.out)⟩
  | some t =>
   have yG := A_ (jX hP hof);clear hof hP;have hg := uN t.big t a1 (Nat.le_refl _) yG.out.1.bnd yG.out.1.AL;have h : (if (dQ a1 (aX t)).2 = true then (match mP t.big t a1 with | none => ([], false) | some r => (iM (lq r) 0, true)) else (([] : List bC), false)) = (r1, r2) := h
   have MP : (xH t.big t a1).2 = true -> Has a1 (aX t) := fun e => l9.1 (by rw [<- hg]; exact e)
   rw [<- hg] at h
   obtain ⟨⟨gv, gb⟩, hgg⟩ : ∃ g, xH t.big t a1 = g := ⟨_, rfl⟩
   rw [hgg] at h MP;have HX := A_ hgg;clear hg hgg;have CV := A_ (bA yG.out.1.bnd)
   cases gb with
   | false =>
    have h : (([] : List bC), false) = (r1, r2) := h
    injection h with e1 e2
    subst e1;subst e2;clear MP;go_enter Try.func39, Try.ntmps39
    go_wp2_with (first | (refine jl 2 #[.slice bL aW.length bM] 29 ?_; intro b3 hg w1 aA hb; have HB := A_ hb; have hz3 : w1.cell? ⟨b3, 0, none⟩ = some (.slice bL aW.length bM) := (au aA 0).trans rfl; clear hg aA hb) | (refine jl 4 #[.slice none 0 0] 29 ?_; intro g6 hg w2 aA hb; have kF := (hb.cell (World.block_lt_of_cell? w1 _ hz3)).trans hz3; clear hz3; have hz3 := kF; clear kF; have qV := A_ (show w.heap.size <= g6 from by rw [hg]; exact Below.size HB.out); have ah := A_ (ay HB.out hb); clear HB; have HB := ah; have fw := A_ aA; clear ah hg aA hb) | (go_at_call 57; (with_reducible refine (gI.calls aW nA.out bL bM _ (Kd.aN HP.out HB.out) HM.out).mono ?_); rintro e w3 ⟨hb, hr⟩; rw [jP.out] at hr; obtain ⟨nt, h9, rfl, hs⟩ := hr.resolve_left (by rintro ⟨h, _⟩; cases h); injection h9 with h9; subst h9; have ah := A_ (ay HB.out hb); have bT := A_ (bG fw.out hb); have HS := A_ (((Sat.one (c := .box 29 g6 #[.slice none 0 0]) ⟨qV.out, fw.out⟩).behind hb (Below.size HB.out) hs).perm List.perm_append_comm); clear HB fw; have HB := ah; have fw := bT; clear ah bT hb hr hs hz3; have vR := (au fw.out 0).trans rfl; have wH := aV fw.out 0) | (go_at_call 63; (with_reducible refine (BF.calls _ nt.erase (Nat.le_refl _) CV.out a1 gv _ HX.out _ ?az).mono ?_); (case az => repeat (first | exact jc HS.out.left | (with_reducible refine Rd.drewN ?_ _) | (with_reducible refine Rd.drew ?_))); rintro e w' ⟨rfl, ⟨nd, rfl⟩⟩))
    refine bodyPost_ret (df rfl _ _ g6 29 #[.slice none 0 0] (0, 0) _ rfl (by (with_reducible repeat (first | refine di ?_ _ | refine dK ?_ )); refine dP (cs := #[.slice none 0 0]) ?_ 0 _ rfl; (with_reducible repeat (first | refine di ?_ _ | refine dK ?_)); exact fw.out) Try.underlying29 rfl (by kernel_rfl)) rfl ?_;exact ⟨_, rfl, iZ.nil _ _, (qN HB.out qV.out)⟩
   | true =>
    have MP := MP rfl;obtain ⟨r, hr, hro, hra⟩ := uJ yG.out.1 MP;obtain ⟨hgd, hkd⟩ := yG.out.1.kid;have h : (match mP t.big t a1 with | none => ([], false) | some r => (iM (lq r) 0, true)) = (r1, r2) := h;rw [hr] at h;have h : (iM (lq r) 0, true) = (r1, r2) := h
    injection h with e1 e2
    subst e1;subst e2;have TF := A_ MP;have HRR := A_ hr;have Ya := A_ hro;have Fw := A_ hkd
    have hsm : (lq r).big <= 100000 := by
     have h1 := hro.small;rw [hra] at h1;have h2 := E9 (key := a1) (l := aX t);have h3 := yG.out.2;omega
    have Kz := A_ hsm;clear MP hr hro hra hkd hsm;go_enter Try.func39, Try.ntmps39
    go_upto_region 7 with (first | (refine jl 2 #[.slice bL aW.length bM] 29 ?_; intro b3 hg w1 aA hb; have HB := A_ hb; have hz3 : w1.cell? ⟨b3, 0, none⟩ = some (.slice bL aW.length bM) := (au aA 0).trans rfl; clear hg aA hb) | (refine jl 4 #[.slice none 0 0] 29 ?_; intro g6 hg w2 aA hb; have kF := (hb.cell (World.block_lt_of_cell? w1 _ hz3)).trans hz3; clear hz3; have hz3 := kF; clear kF; have qV := A_ (show w.heap.size <= g6 from by rw [hg]; exact Below.size HB.out); have ah := A_ (ay HB.out hb); clear HB; have HB := ah; have fw := A_ aA; clear ah hg aA hb) | (go_at_call 57; (with_reducible refine (gI.calls aW nA.out bL bM _ (Kd.aN HP.out HB.out) HM.out).mono ?_); rintro e w3 ⟨hb, hr⟩; rw [jP.out] at hr; obtain ⟨nt, h9, rfl, hs⟩ := hr.resolve_left (by rintro ⟨h, _⟩; cases h); injection h9 with h9; subst h9; have ah := A_ (ay HB.out hb); have bT := A_ (bG fw.out hb); have HS := A_ (((Sat.one (c := .box 29 g6 #[.slice none 0 0]) ⟨qV.out, fw.out⟩).behind hb (Below.size HB.out) hs).perm List.perm_append_comm); clear HB fw; have HB := ah; have fw := bT; clear ah bT hb hr hs hz3; have vR := (au fw.out 0).trans rfl; have wH := aV fw.out 0) | (go_at_call 63; (with_reducible refine (BF.calls _ nt.erase (Nat.le_refl _) CV.out a1 gv _ HX.out _ ?az).mono ?_); (case az => repeat (first | exact jc HS.out.left | (with_reducible refine Rd.drewN ?_ _) | (with_reducible refine Rd.drew ?_))); rintro e w' ⟨rfl, ⟨nd, rfl⟩⟩))
    generalize hW : World.drewN w3 _ = w4;have ah := A_ (show Below w.heap.size w w4 by rw [<- hW]; exact aj HB.out _);have bT := A_ (show Sat w4 w.heap.size (nt.dH 96 70 ++ [.box 29 g6 #[.slice none 0 0]]) by rw [<- hW]; exact Sat.drewN HS.out _);clear HB HS fw vR wH hW;have HB := ah;have HS := bT;clear ah bT;have Aa := A_ (Ns.calls nt.erase.big nt a1 _ (Nat.le_refl _) Fw.out (fun e => by have := yG.out.1.root (fun c => e (by rw [<- bE, c]; rfl)); rw [aU] at this; exact this) yG.out.1.AL TF.out w.heap.size _ w4 HS.out (Below.size HB.out))
    go_upto_region 8 with (first | (go_at_call 83; (with_reducible refine (Aa.out).mono ?_); rintro e w5 ⟨r', hr', rfl, t1, ht0, ht1, ht2, ht3⟩))
    obtain rfl : r = r' := by rw [HRR.out] at hr'; exact Option.some.inj hr'
    have ah := A_ (HB.out.trans ht3);clear HB HS Aa hr' ht3;have HB := ah;clear ah
    have hrb : kV t1.erase := by
     obtain ⟨r', h1, h2, _⟩ := Pure.mZ nt.erase.big nt.erase a1 _ (Nat.le_refl _) Fw.out yG.out.1.root yG.out.1.AL TF.out;obtain rfl : r = r' := by rw [HRR.out] at h1; exact Option.some.inj h1
     rw [ht1];exact h2.b
    have hrd := jc ht2.left;have h0 := fF ht2
    obtain ⟨p0, hp1⟩ : ∃ p, nt.p = p := ⟨_, rfl⟩
    rw [hp1] at ht0 ⊢
    cases t1 with | mk p1 Vb SI rD uy vs1 cs1 =>
    have ht0 : p1 = p0 := ht0;subst ht0;unfold jV at h0;simp only [NT.keys, NT.vals, NT.kids, NT.p, NT.kv, NT.vv, NT.cv] at h0;obtain ⟨zG, ck1, rfl⟩ := Kd.ak (h0.sr 1 rfl);obtain ⟨UD, Tx, rfl, _, _⟩ := dz (h0.q 3 rfl);have eT := aa.z0 h0 0 rfl;have wG := aa.z2 h0 0 rfl
    obtain ⟨t1, Q4⟩ : ∃ t1, t1 = NT.mk p1 (.slice zG uy.length ck1) SI (.slice UD cs1.length Tx) uy vs1 cs1 := ⟨_, rfl⟩
    rw [<- Q4] at ht1 ht2 hrd hrb;have HT1 := A_ Q4
    have ZU : af (t1.p = p1) := ⟨by rw [Q4]; rfl⟩
    have oQ := A_ ht1;have HS := A_ ht2
    have vQ : af (Rd 96 w5 p1 t1.erase) := ⟨by have h9 := hrd; rw [ZU.out] at h9; exact h9⟩
    have hks : uy.length <= 4 /\ cs1.length <= 5 := by
     obtain ⟨⟨_, q2, q3⟩, _⟩ := bJ.1 hrb;rw [aU, Q4] at q2 q3;rw [bE] at q3;have q2 : uy.length <= 4 := q2;have q3 : cs1.length = 0 \/ cs1.length = uy.length + 1 := q3;omega
    have HQ := A_ h0;clear ht1 ht2 hrd h0 Q4 hrb hp1
    obtain ⟨nk, hnk⟩ : ∃ n, uy.length = n := ⟨_, rfl⟩
    have QU := A_ hnk;rw [hnk] at eT hks
    by_cases hk0 : nk = 0
    ·have ck := lQ ((nk : Int) = (0 : Int))
     have ck2 : ((nk : Int) == (0 : Int)) = true := by rw [hk0]; rfl
     by_cases hc0 : cs1.length = 0
     ·have hbl := A_ (show decide ((t1.erase.kids.length : Int) = 0) = true from decide_eq_true (by rw [bE, HT1.out]; show (cs1.length : Int) = 0; omega))
      have qP := A_ hc0;clear hnk hc0
      go_upto_region 10 with (first | (go_at_call 84; (with_reducible refine (dm.cK true hbl.out _ ?az).mono ?_); (case az => repeat (first | exact vQ.out | (with_reducible refine Rd.drewN ?_ _) | (with_reducible refine Rd.drew ?_))); rintro e w' ⟨rfl, ⟨nd, rfl⟩⟩))
      generalize hW : World.drewN w5 _ = w6;have ah := A_ (show Below w.heap.size w w6 by rw [<- hW]; exact aj HB.out _);have bT := A_ (show Sat w6 w.heap.size (t1.dH 96 70 ++ [.box 29 g6 #[.slice none 0 0]]) by rw [<- hW]; exact Sat.drewN HS.out _);clear HB HS hW;have HB := ah;have HS := bT;clear ah bT
      have Q5 : af (t1.erase = lq r) := ⟨by unfold lq; rw [if_neg (by rintro ⟨_, c⟩; exact c (by rw [<- oQ.out, bE, HT1.out]; exact qP.out)), oQ.out]⟩
      have um := A_ (qM.calls t1 (by rw [Q5.out]; exact Ya.out.bnd) (by rw [Q5.out]; exact Kz.out) w.heap.size _ w6 HS.out (Below.size HB.out))
      replace um : af (Calls Try.prog 77 #[bu p1] w6 _) := ⟨by have h9 := um.out; rw [ZU.out] at h9; exact h9⟩
      go_wp2_with (first | (go_at_call 77; (with_reducible refine (um.out).mono ?_); rintro e w7 ⟨vo, pgs, rfl, he, hs3, hb3⟩; obtain ⟨Ao, co, rfl⟩ := iD (hs3.ok (nI vo pgs) (List.mem_append_right _ List.mem_cons_self)); have fw := A_ (hs3.cell (T := 29) (p := g6) (cs := #[.slice none 0 0]) (List.mem_append_right _ (List.mem_append_right _ List.mem_cons_self))); have zJ := A_ hs3; have HE := A_ he; have ah := A_ (HB.out.trans hb3); clear HB; have HB := ah; clear ah hs3 hb3 he; have vR := (au fw.out 0).trans rfl; have wH := aV fw.out 0))
      refine bodyPost_ret (df rfl _ _ g6 29 #[.slice Ao pgs.length co] (0, 0) _ rfl (dP (cs := #[.slice none 0 0]) fw.out 0 _ rfl) Try.underlying29 rfl (by kernel_rfl)) rfl ?_;refine ⟨_, rfl, ?_, (qN HB.out qV.out)⟩;exact ⟨Ao, co, pgs, rfl, by rw [HE.out, Q5.out], nU zJ.out⟩
     ·have hbl := A_ (show decide ((t1.erase.kids.length : Int) = 0) = false from decide_eq_false (by rw [bE, HT1.out]; show ¬ (cs1.length : Int) = 0; omega))
      obtain ⟨s, hsx⟩ : ∃ s, cs1[0]? = some s := ⟨cs1[0]'(by omega), List.getElem?_eq_getElem (by omega)⟩
      obtain ⟨sp, hsp⟩ : ∃ p, s.p = p := ⟨_, rfl⟩
      obtain ⟨Xu, rfl⟩ := fJ (aa.q HQ.out 3 rfl) (by omega);have VJ := uI (aa.fH HQ.out 3 rfl) (And.intro hsx hsp);have Ou := A_ (And.intro hsx hsp);have b0_ := bV ((0 : Int) < (cs1.length : Int));have Rm := bV (0 < cs1.length);have qP := A_ hc0;have hk1 : t1.kids[0]? = some s := by rw [HT1.out]; exact hsx
      have wE := A_ hk1;clear hnk hsx hsp hc0 hk1
      go_upto_region 10 with (first | (go_at_call 84; (with_reducible refine (dm.cK false hbl.out _ ?az).mono ?_); (case az => repeat (first | exact vQ.out | (with_reducible refine Rd.drewN ?_ _) | (with_reducible refine Rd.drew ?_))); rintro e w' ⟨rfl, ⟨nd, rfl⟩⟩))
      generalize hW : World.drewN w5 _ = w6;have ah := A_ (show Below w.heap.size w w6 by rw [<- hW]; exact aj HB.out _);have bT := A_ (show Sat w6 w.heap.size (s.dH 96 70 ++ [.box 29 g6 #[.slice none 0 0]]) by rw [<- hW]; exact Sat.drewN (E8 wE.out HS.out) _);clear HB HS hW;have HB := ah;have HS := bT;clear ah bT
      have Q5 : af (s.erase = lq r) := ⟨by unfold lq; rw [if_pos ⟨by rw [<- oQ.out, aU, HT1.out]; show uy.length = 0; rw [QU.out]; exact hk0, fun c => qP.out (by rw [<- oQ.out, bE, HT1.out] at c; exact c)⟩, <- oQ.out, qm wE.out]⟩
      have um := A_ (qM.calls s (by rw [Q5.out]; exact Ya.out.bnd) (by rw [Q5.out]; exact Kz.out) w.heap.size _ w6 HS.out (Below.size HB.out))
      replace um : af (Calls Try.prog 77 #[bu sp] w6 _) := ⟨by have h9 := um.out; rw [Ou.out.2] at h9; exact h9⟩
      go_wp2_with (first | (go_at_call 77; (with_reducible refine (um.out).mono ?_); rintro e w7 ⟨vo, pgs, rfl, he, hs3, hb3⟩; obtain ⟨Ao, co, rfl⟩ := iD (hs3.ok (nI vo pgs) (List.mem_append_right _ List.mem_cons_self)); have fw := A_ (hs3.cell (T := 29) (p := g6) (cs := #[.slice none 0 0]) (List.mem_append_right _ (List.mem_append_right _ List.mem_cons_self))); have zJ := A_ hs3; have HE := A_ he; have ah := A_ (HB.out.trans hb3); clear HB; have HB := ah; clear ah hs3 hb3 he; have vR := (au fw.out 0).trans rfl; have wH := aV fw.out 0))
      refine bodyPost_ret (df rfl _ _ g6 29 #[.slice Ao pgs.length co] (0, 0) _ rfl (dP (cs := #[.slice none 0 0]) fw.out 0 _ rfl) Try.underlying29 rfl (by kernel_rfl)) rfl ?_;refine ⟨_, rfl, ?_, (qN HB.out qV.out)⟩;exact ⟨Ao, co, pgs, rfl, by rw [HE.out, Q5.out], nU zJ.out⟩
    ·have ck := kS ((nk : Int) = (0 : Int))
     have ck2 : ((nk : Int) == (0 : Int)) = false := beq_eq_false_iff_ne.2 (by omega);clear hnk
     go_upto_region 10 with fail
     have Q5 : af (t1.erase = lq r) := ⟨by unfold lq; rw [if_neg (by rintro ⟨c, _⟩; rw [<- oQ.out, aU, HT1.out] at c; exact hk0 (QU.out.symm.trans c)), oQ.out]⟩
     have um := A_ (qM.calls t1 (by rw [Q5.out]; exact Ya.out.bnd) (by rw [Q5.out]; exact Kz.out) w.heap.size _ w5 HS.out (Below.size HB.out))
     replace um : af (Calls Try.prog 77 #[bu p1] w5 _) := ⟨by have h9 := um.out; rw [ZU.out] at h9; exact h9⟩
     go_wp2_with (first | (go_at_call 77; (with_reducible refine (um.out).mono ?_); rintro e w7 ⟨vo, pgs, rfl, he, hs3, hb3⟩; obtain ⟨Ao, co, rfl⟩ := iD (hs3.ok (nI vo pgs) (List.mem_append_right _ List.mem_cons_self)); have fw := A_ (hs3.cell (T := 29) (p := g6) (cs := #[.slice none 0 0]) (List.mem_append_right _ (List.mem_append_right _ List.mem_cons_self))); have zJ := A_ hs3; have HE := A_ he; have ah := A_ (HB.out.trans hb3); clear HB; have HB := ah; clear ah hs3 hb3 he; have vR := (au fw.out 0).trans rfl; have wH := aV fw.out 0))
     refine bodyPost_ret (df rfl _ _ g6 29 #[.slice Ao pgs.length co] (0, 0) _ rfl (dP (cs := #[.slice none 0 0]) fw.out 0 _ rfl) Try.underlying29 rfl (by kernel_rfl)) rfl ?_;refine ⟨_, rfl, ?_, (qN HB.out qV.out)⟩;exact ⟨Ao, co, pgs, rfl, by rw [HE.out, Q5.out], nU zJ.out⟩
 ·rw [if_neg hok] at h
  cases h
def jq.f (k : Nat) (aW : List bC) (a1 : ByteArray) : Option (List bC × Bool) := if kM aW = true then (mK k aW).bind fun o => (match o with | none => some ([], false) | some t => (vT k k t a1).bind fun _ => some (uj (some t) a1)) else none
theorem jq.oZ (k : Nat) (bL : Option Addr) (bM : Nat) (aW : List (bC)) (a1 : ByteArray) (r1 : List bC) (r2 : Bool) (w : World) (iO : Kd.C j4 w bL aW.length aW) (mg : aW.length <= bM) (h : jq.f k aW a1 = some (r1, r2)) :
  Calls Try.prog 40 #[.agg #[.slice bL aW.length bM], .string a1] w fun e w' => ∃ ja : Value, e = .returned (.tuple #[.agg #[ja], .bool r2]) /\ iZ w' w.heap.size ja r1 /\ Below w.heap.size w w' := by
 unfold jq.f at h;have HP := A_ iO;clear iO mg
 by_cases hok : kM aW = true
 ·rw [if_pos hok] at h
  obtain ⟨hok1, hP⟩ := jo hok;have nA := A_ (dN hok1).1;have HM := A_ (dN hok1).2;obtain ⟨o, hrs, h⟩ := Option.bind_eq_some_iff.mp h;have hof : mq aW = o := IG hP hrs;have jP := A_ hrs;clear hok hok1 hrs
  cases o with
  | none =>
   have h := Option.some.inj h;have h : (([] : List bC), false) = (r1, r2) := h
   injection h with e1 e2
   subst e1;subst e2;clear hof hP;go_enter Try.func40, Try.ntmps40
   go_wp2_with (first | (refine jl 2 #[.slice bL aW.length bM] 29 ?_; intro b3 hg w1 aA hb; have HB := A_ hb; have hz3 : w1.cell? ⟨b3, 0, none⟩ = some (.slice bL aW.length bM) := (au aA 0).trans rfl; clear hg aA hb) | (refine jl 4 #[.slice none 0 0] 29 ?_; intro g6 hg w2 aA hb; have kF := (hb.cell (World.block_lt_of_cell? w1 _ hz3)).trans hz3; clear hz3; have hz3 := kF; clear kF; have qV := A_ (show w.heap.size <= g6 from by rw [hg]; exact Below.size HB.out); have ah := A_ (ay HB.out hb); clear HB; have HB := ah; have fw := A_ aA; clear ah hg aA hb) | (go_at_call 59; (with_reducible refine (iP.calls k aW nA.out bL bM _ (Kd.aN HP.out HB.out) HM.out _ jP.out).mono ?_); rintro e w3 ⟨hb, hr⟩; obtain ⟨-, rfl⟩ := hr.resolve_right (by rintro ⟨_, h, _⟩; cases h); have ah := A_ (ay HB.out hb); have bT := A_ (bG fw.out hb); clear HB fw; have HB := ah; have fw := bT; clear ah bT hb hr hz3; have vR := (au fw.out 0).trans rfl; have wH := aV fw.out 0))
   refine bodyPost_ret (df rfl _ _ g6 29 #[.slice none 0 0] (0, 0) _ rfl (by (with_reducible repeat (first | refine di ?_ _ | refine dK ?_ )); refine dP (cs := #[.slice none 0 0]) ?_ 0 _ rfl; (with_reducible repeat (first | refine di ?_ _ | refine dK ?_)); exact fw.out) Try.underlying29 rfl (by kernel_rfl)) rfl ?_;exact ⟨_, rfl, iZ.nil _ _, (qN HB.out qV.out)⟩
  | some t =>
   have yG := A_ (jX hP hof);clear hof hP;obtain ⟨g, hg0, h⟩ := Option.bind_eq_some_iff.mp h;have h := Option.some.inj h;have hg := EW yG.out.1 hg0;have h : (if (dQ a1 (aX t)).2 = true then (match mP t.big t a1 with | none => ([], false) | some r => (iM (lq r) 0, true)) else (([] : List bC), false)) = (r1, r2) := h;rw [<- hg] at h
   have MP : g.2 = true -> Has a1 (aX t) := fun e => l9.1 (by rw [<- hg]; exact e)
   obtain ⟨gv, gb⟩ := g;have HX := A_ hg0;clear hg hg0;have CV := A_ (bA yG.out.1.bnd)
   cases gb with
   | false =>
    have h : (([] : List bC), false) = (r1, r2) := h
    injection h with e1 e2
    subst e1;subst e2;clear MP;go_enter Try.func40, Try.ntmps40
    go_wp2_with (first | (refine jl 2 #[.slice bL aW.length bM] 29 ?_; intro b3 hg w1 aA hb; have HB := A_ hb; have hz3 : w1.cell? ⟨b3, 0, none⟩ = some (.slice bL aW.length bM) := (au aA 0).trans rfl; clear hg aA hb) | (refine jl 4 #[.slice none 0 0] 29 ?_; intro g6 hg w2 aA hb; have kF := (hb.cell (World.block_lt_of_cell? w1 _ hz3)).trans hz3; clear hz3; have hz3 := kF; clear kF; have qV := A_ (show w.heap.size <= g6 from by rw [hg]; exact Below.size HB.out); have ah := A_ (ay HB.out hb); clear HB; have HB := ah; have fw := A_ aA; clear ah hg aA hb) | (go_at_call 59; (with_reducible refine (iP.calls k aW nA.out bL bM _ (Kd.aN HP.out HB.out) HM.out _ jP.out).mono ?_); rintro e w3 ⟨hb, hr⟩; obtain ⟨nt, h9, rfl, hs⟩ := hr.resolve_left (by rintro ⟨h, _⟩; cases h); injection h9 with h9; subst h9; have ah := A_ (ay HB.out hb); have bT := A_ (bG fw.out hb); have HS := A_ (((Sat.one (c := .box 29 g6 #[.slice none 0 0]) ⟨qV.out, fw.out⟩).behind hb (Below.size HB.out) hs).perm List.perm_append_comm); clear HB fw; have HB := ah; have fw := bT; clear ah bT hb hr hs hz3; have vR := (au fw.out 0).trans rfl; have wH := aV fw.out 0) | (go_at_call 64; (with_reducible refine (BG.calls k k nt.erase a1 gv _ HX.out _ ?az).mono ?_); (case az => repeat (first | exact jc HS.out.left | (with_reducible refine Rd.drewN ?_ _) | (with_reducible refine Rd.drew ?_))); rintro e w' ⟨rfl, ⟨nd, rfl⟩⟩))
    refine bodyPost_ret (df rfl _ _ g6 29 #[.slice none 0 0] (0, 0) _ rfl (by (with_reducible repeat (first | refine di ?_ _ | refine dK ?_ )); refine dP (cs := #[.slice none 0 0]) ?_ 0 _ rfl; (with_reducible repeat (first | refine di ?_ _ | refine dK ?_)); exact fw.out) Try.underlying29 rfl (by kernel_rfl)) rfl ?_;exact ⟨_, rfl, iZ.nil _ _, (qN HB.out qV.out)⟩
   | true =>
    have MP := MP rfl;obtain ⟨r, hr, hro, hra⟩ := uJ yG.out.1 MP;obtain ⟨hgd, hkd⟩ := yG.out.1.kid;have h : (match mP t.big t a1 with | none => ([], false) | some r => (iM (lq r) 0, true)) = (r1, r2) := h;rw [hr] at h;have h : (iM (lq r) 0, true) = (r1, r2) := h
    injection h with e1 e2
    subst e1;subst e2;have TF := A_ MP;have HRR := A_ hr;have Ya := A_ hro;have Fw := A_ hkd
    have hsm : (lq r).big <= 100000 := by
     have h1 := hro.small;rw [hra] at h1;have h2 := E9 (key := a1) (l := aX t);have h3 := yG.out.2;omega
    have Kz := A_ hsm;clear MP hr hro hra hkd hsm;go_enter Try.func40, Try.ntmps40
    go_upto_region 7 with (first | (refine jl 2 #[.slice bL aW.length bM] 29 ?_; intro b3 hg w1 aA hb; have HB := A_ hb; have hz3 : w1.cell? ⟨b3, 0, none⟩ = some (.slice bL aW.length bM) := (au aA 0).trans rfl; clear hg aA hb) | (refine jl 4 #[.slice none 0 0] 29 ?_; intro g6 hg w2 aA hb; have kF := (hb.cell (World.block_lt_of_cell? w1 _ hz3)).trans hz3; clear hz3; have hz3 := kF; clear kF; have qV := A_ (show w.heap.size <= g6 from by rw [hg]; exact Below.size HB.out); have ah := A_ (ay HB.out hb); clear HB; have HB := ah; have fw := A_ aA; clear ah hg aA hb) | (go_at_call 59; (with_reducible refine (iP.calls k aW nA.out bL bM _ (Kd.aN HP.out HB.out) HM.out _ jP.out).mono ?_); rintro e w3 ⟨hb, hr⟩; obtain ⟨nt, h9, rfl, hs⟩ := hr.resolve_left (by rintro ⟨h, _⟩; cases h); injection h9 with h9; subst h9; have ah := A_ (ay HB.out hb); have bT := A_ (bG fw.out hb); have HS := A_ (((Sat.one (c := .box 29 g6 #[.slice none 0 0]) ⟨qV.out, fw.out⟩).behind hb (Below.size HB.out) hs).perm List.perm_append_comm); clear HB fw; have HB := ah; have fw := bT; clear ah bT hb hr hs hz3; have vR := (au fw.out 0).trans rfl; have wH := aV fw.out 0) | (go_at_call 64; (with_reducible refine (BG.calls k k nt.erase a1 gv _ HX.out _ ?az).mono ?_); (case az => repeat (first | exact jc HS.out.left | (with_reducible refine Rd.drewN ?_ _) | (with_reducible refine Rd.drew ?_))); rintro e w' ⟨rfl, ⟨nd, rfl⟩⟩))
    generalize hW : World.drewN w3 _ = w4;have ah := A_ (show Below w.heap.size w w4 by rw [<- hW]; exact aj HB.out _);have bT := A_ (show Sat w4 w.heap.size (nt.dH 101 74 ++ [.box 29 g6 #[.slice none 0 0]]) by rw [<- hW]; exact Sat.drewN HS.out _);clear HB HS fw vR wH hW;have HB := ah;have HS := bT;clear ah bT;have Aa := A_ (Gi.calls nt a1 _ Fw.out (fun e => by have := yG.out.1.root (fun c => e (by rw [<- bE, c]; rfl)); rw [aU] at this; exact this) yG.out.1.AL TF.out w.heap.size _ w4 HS.out (Below.size HB.out))
    go_wp2_with (first | (go_at_call 85; (with_reducible refine (Aa.out).mono ?_); rintro e w5 ⟨r', hr', t1, rfl, ht1, ht2, ht3⟩; obtain rfl : r = r' := (by rw [EK yG.out.1 TF.out, HRR.out] at hr'; exact Option.some.inj hr'); have um := A_ (ET.calls t1 (by rw [ht1]; exact Ya.out.bnd) (by rw [ht1]; exact Kz.out) w.heap.size _ w5 ht2 (Below.size (HB.out.trans ht3))); have HT1 := A_ ht1; have ah := A_ (HB.out.trans ht3); clear HB; have HB := ah; clear ah hr' ht1 ht2 ht3) | (go_at_call 81; (with_reducible refine (um.out).mono ?_); rintro e w7 ⟨vo, pgs, rfl, he, hs3, hb3⟩; obtain ⟨Ao, co, rfl⟩ := iD (hs3.ok (nI vo pgs) (List.mem_append_right _ List.mem_cons_self)); have fw := A_ (hs3.cell (T := 29) (p := g6) (cs := #[.slice none 0 0]) (List.mem_append_right _ (List.mem_append_right _ List.mem_cons_self))); have zJ := A_ hs3; have HE := A_ he; have ah := A_ (HB.out.trans hb3); clear HB; have HB := ah; clear ah hs3 hb3 he; have vR := (au fw.out 0).trans rfl; have wH := aV fw.out 0))
    refine bodyPost_ret (df rfl _ _ g6 29 #[.slice Ao pgs.length co] (0, 0) _ rfl (dP (cs := #[.slice none 0 0]) fw.out 0 _ rfl) Try.underlying29 rfl (by kernel_rfl)) rfl ?_;refine ⟨_, rfl, ?_, (qN HB.out qV.out)⟩;exact ⟨Ao, co, pgs, rfl, by rw [HE.out, HT1.out], nU zJ.out⟩
 ·rw [if_neg hok] at h
  cases h
def aK (w0 W : World) (g : Nat) (f0 : List Int) (f1 : Int) (f2 : Int) : Prop := ∃ A0 c0, W.heap[g]? = some (.cells #[.slice A0 f0.length c0, .int .i64 f1, .int .u64 f2] 105 (0, 0)) /\ w0.heap.size <= g /\ Kd.C (Kd.int .u8) w0 A0 f0.length f0
theorem aK.grown {w0 W : World} {g : Nat} {f0 : List Int} {f1 : Int} {f2 : Int} {W1 : World} {row : Option Nat} (h : aK w0 W g f0 f1 f2) (hw : W.grownBy W1 row) (hne : some g ≠ row) : aK w0 W1 g f0 f1 f2 := by
 obtain ⟨A0, c0, hb, hg, hr0⟩ := h;exact ⟨A0, c0, Nw hb hw hne, hg, hr0⟩
theorem aK.kept {w0 W : World} {g : Nat} {f0 : List Int} {f1 : Int} {f2 : Int} {W1 : World} {S : Nat -> Prop} (h : aK w0 W g f0 f1 f2) (hk : Kept W W1 S) (hne : ¬ S g) : aK w0 W1 g f0 f1 f2 := by
 obtain ⟨A0, c0, hb, hg, hr0⟩ := h;exact ⟨A0, c0, uD hb hk hne, hg, hr0⟩
theorem aK.below {w0 W : World} {g : Nat} {f0 : List Int} {f1 : Int} {f2 : Int} {W1 : World} (h : aK w0 W g f0 f1 f2) (hw : Below W.heap.size W W1) : aK w0 W1 g f0 f1 f2 := h.grown (Co hw none) (by simp)
theorem aK.alloc {w0 W : World} {g : Nat} {f0 : List Int} {f1 : Int} {f2 : Int} (h : aK w0 W g f0 f1 f2) (o : Obj) : aK w0 (W.alloc o) g f0 f1 f2 := h.below (bz (Below.refl _ _) o)
theorem aK.drewN {w0 W : World} {g : Nat} {f0 : List Int} {f1 : Int} {f2 : Int} (h : aK w0 W g f0 f1 f2) (m : Nat) : aK w0 (W.drewN m) g f0 f1 f2 := h
theorem aK.drew {w0 W : World} {g : Nat} {f0 : List Int} {f1 : Int} {f2 : Int} (h : aK w0 W g f0 f1 f2) : aK w0 W.drew g f0 f1 f2 := h
theorem aK.ge {w0 W : World} {g : Nat} {f0 : List Int} {f1 : Int} {f2 : Int} (h : aK w0 W g f0 f1 f2) : w0.heap.size <= g := by
 obtain ⟨A0, c0, hb, hg, hr0⟩ := h;exact hg
theorem tL {W : World} {g : Nat} {A0 : Option Addr} {c0 : Nat} {f0 : List Int} {f1 : Int} {f2 : Int} (h : W.heap[g]? = some (.cells #[.slice A0 f0.length c0, .int .i64 f1, .int .u64 f2] 105 (0, 0))) : W.cell? ⟨g, 0, none⟩ = some (.slice A0 f0.length c0) := (au h 0).trans rfl
theorem tN {W : World} {g : Nat} {A0 : Option Addr} {c0 : Nat} {f0 : List Int} {f1 : Int} {f2 : Int} (h : W.heap[g]? = some (.cells #[.slice A0 f0.length c0, .int .i64 f1, .int .u64 f2] 105 (0, 0))) : W.cell? ⟨g, 1, none⟩ = some (.int .i64 f1) := (au h 1).trans rfl
theorem aK.qo {w0 W : World} {g : Nat} {f0 : List Int} {f1 : Int} {f2 : Int} (h : aK w0 W g f0 f1 f2) (x : Int) : aK w0 (W.setCell ⟨g, 1, none⟩ (.int .i64 x)) g f0 x f2 := by
 obtain ⟨A0, c0, hb, hg, hr0⟩ := h;exact ⟨A0, c0, by simpa using AU hb 1 (.int .i64 x), hg, hr0⟩
theorem tO {W : World} {g : Nat} {A0 : Option Addr} {c0 : Nat} {f0 : List Int} {f1 : Int} {f2 : Int} (h : W.heap[g]? = some (.cells #[.slice A0 f0.length c0, .int .i64 f1, .int .u64 f2] 105 (0, 0))) : W.cell? ⟨g, 2, none⟩ = some (.int .u64 f2) := (au h 2).trans rfl
theorem aK.qp {w0 W : World} {g : Nat} {f0 : List Int} {f1 : Int} {f2 : Int} (h : aK w0 W g f0 f1 f2) (x : Int) : aK w0 (W.setCell ⟨g, 2, none⟩ (.int .u64 x)) g f0 f1 x := by
 obtain ⟨A0, c0, hb, hg, hr0⟩ := h;exact ⟨A0, c0, by simpa using AU hb 2 (.int .u64 x), hg, hr0⟩
def dJ.f (fE : List Int) (dW : Int) (jb : Int) : Option (Int × Int × Int) := if dW < (fE.length : Int) then (if 0 <= dW then (if (wrap64 (dW + 1)) <= (fE.length : Int) then (some (wrap64 (rd fE dW), wrap64 (dW + 1), IntKind.u64.wrap ((IntKind.u64.wrap ((IntKind.u64.wrap (jb * 6364136223846793005)) + (IntKind.u64.wrap (wrap64 (rd fE dW))))) + 1442695040888963407))) else (some (wrap64 (Go.bits .and .u64 ((IntKind.u64.wrap ((IntKind.u64.wrap ((IntKind.u64.wrap (jb * 6364136223846793005)) + (IntKind.u64.wrap (wrap64 (rd fE dW))))) + 1442695040888963407)) / 1099511627776) 255), wrap64 (dW + 1), IntKind.u64.wrap ((IntKind.u64.wrap ((IntKind.u64.wrap (jb * 6364136223846793005)) + (IntKind.u64.wrap (wrap64 (rd fE dW))))) + 1442695040888963407)))) else (none)) else (if (wrap64 (dW + 1)) <= (fE.length : Int) then (some (0, wrap64 (dW + 1), IntKind.u64.wrap ((IntKind.u64.wrap (IntKind.u64.wrap (jb * 6364136223846793005))) + 1442695040888963407))) else (some (wrap64 (Go.bits .and .u64 ((IntKind.u64.wrap ((IntKind.u64.wrap (IntKind.u64.wrap (jb * 6364136223846793005))) + 1442695040888963407)) / 1099511627776) 255), wrap64 (dW + 1), IntKind.u64.wrap ((IntKind.u64.wrap (IntKind.u64.wrap (jb * 6364136223846793005))) + 1442695040888963407))))
theorem dJ.calls (g : Nat) (fE : List Int) (dW : Int) (jb : Int) (r1 : Int) (r2 : Int) (r3 : Int) (w0 w : World) (hI : aK w0 w g fE dW jb) (hB : Below w0.heap.size w0 w) (h : dJ.f fE dW jb = some (r1, r2, r3)) :
  Calls Try.prog 118 #[.pointer (some ⟨g, 0, none⟩)] w fun e w' => e = .returned (.int .i64 r1) /\ aK w0 w' g fE r2 r3 /\ Below w0.heap.size w0 w' /\ bg w w' g none := by
 have HI0 := A_ hI;have HK := A_ (bg.refl w g none);have HL := A_ hB.size;clear hI;have HW0 := A_ hB.size;have HB := A_ hB;clear hB;have H : (if dW < (fE.length : Int) then (if 0 <= dW then (if (wrap64 (dW + 1)) <= (fE.length : Int) then (some (wrap64 (rd fE dW), wrap64 (dW + 1), IntKind.u64.wrap ((IntKind.u64.wrap ((IntKind.u64.wrap (jb * 6364136223846793005)) + (IntKind.u64.wrap (wrap64 (rd fE dW))))) + 1442695040888963407))) else (some (wrap64 (Go.bits .and .u64 ((IntKind.u64.wrap ((IntKind.u64.wrap ((IntKind.u64.wrap (jb * 6364136223846793005)) + (IntKind.u64.wrap (wrap64 (rd fE dW))))) + 1442695040888963407)) / 1099511627776) 255), wrap64 (dW + 1), IntKind.u64.wrap ((IntKind.u64.wrap ((IntKind.u64.wrap (jb * 6364136223846793005)) + (IntKind.u64.wrap (wrap64 (rd fE dW))))) + 1442695040888963407)))) else (none)) else (if (wrap64 (dW + 1)) <= (fE.length : Int) then (some (0, wrap64 (dW + 1), IntKind.u64.wrap ((IntKind.u64.wrap (IntKind.u64.wrap (jb * 6364136223846793005))) + 1442695040888963407))) else (some (wrap64 (Go.bits .and .u64 ((IntKind.u64.wrap ((IntKind.u64.wrap (IntKind.u64.wrap (jb * 6364136223846793005))) + 1442695040888963407)) / 1099511627776) 255), wrap64 (dW + 1), IntKind.u64.wrap ((IntKind.u64.wrap (IntKind.u64.wrap (jb * 6364136223846793005))) + 1442695040888963407))))) = some (r1, r2, r3) := h;clear h
 by_cases c2 : dW < (fE.length : Int)
 ·rw [if_pos c2] at H
  have UH : decide (dW < (fE.length : Int)) = true := decide_eq_true c2;clear c2
  by_cases c3 : 0 <= dW
  ·rw [if_pos c3] at H
   have tT : decide (0 <= dW) = true := decide_eq_true c3;clear c3
   by_cases c4 : (wrap64 (dW + 1)) <= (fE.length : Int)
   ·rw [if_pos c4] at H
    have tV : decide ((wrap64 (dW + 1)) <= (fE.length : Int)) = true := decide_eq_true c4;clear c4;simp only [Option.some.injEq, Prod.mk.injEq] at H;obtain ⟨rfl, rfl, rfl⟩ := H;obtain ⟨ASz5_0, cSz5_0, Od, hgz5, HSz5_0⟩ := HI0.out;have hcz5_0 := tL Od;have hcz5_1 := tN Od;have hcz5_2 := tO Od;have hfz5_1 := aV Od 1;have hfz5_2 := aV Od 2;clear Od hgz5;have K8 : 0 <= (dW : Int) := of_decide_eq_true jh;have K9 : dW < (fE.length : Int) := of_decide_eq_true jh;obtain ⟨ad372, VT, yt⟩ := Kd.qY HSz5_0 dW K8 K9
    cases VT
    replace yt := lZ HB.out yt;replace K8 := eq_true K8;replace K9 := eq_true K9;go_enter Try.func118, Try.ntmps118;go_wp2
    repeat (go_quiet (fail); try go_wp2)
    go_ret;exact ⟨Lx, by repeat (first | (with_reducible first | exact HI0.out | apply aK.alloc | apply aK.drewN | apply aK.drew | apply aK.qo | apply aK.qp) | exact HI0.out), by repeat (first | (with_reducible first | exact HB.out | apply bz | apply aj | apply bD | refine bF ?_ (aK.ge HI0.out)) | exact HB.out), by repeat (first | (with_reducible first | exact HK.out | apply bg.wI | apply fU | apply gT | apply fV) | exact HK.out)⟩
   ·rw [if_neg c4] at H
    have tV : decide ((wrap64 (dW + 1)) <= (fE.length : Int)) = false := decide_eq_false c4;clear c4;simp only [Option.some.injEq, Prod.mk.injEq] at H;obtain ⟨rfl, rfl, rfl⟩ := H;obtain ⟨ASz6_0, cSz6_0, Oe, hgz6, HSz6_0⟩ := HI0.out;have hcz6_0 := tL Oe;have hcz6_1 := tN Oe;have hcz6_2 := tO Oe;have hfz6_1 := aV Oe 1;have hfz6_2 := aV Oe 2;clear Oe hgz6;have K8 : 0 <= (dW : Int) := of_decide_eq_true jh;have K9 : dW < (fE.length : Int) := of_decide_eq_true jh;obtain ⟨ad372, VT, yt⟩ := Kd.qY HSz6_0 dW K8 K9
    cases VT
    replace yt := lZ HB.out yt;replace K8 := eq_true K8;replace K9 := eq_true K9;go_enter Try.func118, Try.ntmps118;go_wp2
    repeat (go_quiet (fail); try go_wp2)
    go_ret;exact ⟨Lx, by repeat (first | (with_reducible first | exact HI0.out | apply aK.alloc | apply aK.drewN | apply aK.drew | apply aK.qo | apply aK.qp) | exact HI0.out), by repeat (first | (with_reducible first | exact HB.out | apply bz | apply aj | apply bD | refine bF ?_ (aK.ge HI0.out)) | exact HB.out), by repeat (first | (with_reducible first | exact HK.out | apply bg.wI | apply fU | apply gT | apply fV) | exact HK.out)⟩
  ·rw [if_neg c3] at H
   exact absurd H (by simp)
 ·rw [if_neg c2] at H
  have UH : decide (dW < (fE.length : Int)) = false := decide_eq_false c2;clear c2
  by_cases c7 : (wrap64 (dW + 1)) <= (fE.length : Int)
  ·rw [if_pos c7] at H
   have Ja : decide ((wrap64 (dW + 1)) <= (fE.length : Int)) = true := decide_eq_true c7;clear c7;simp only [Option.some.injEq, Prod.mk.injEq] at H;obtain ⟨rfl, rfl, rfl⟩ := H;obtain ⟨ASz8_0, cSz8_0, Og, hgz8, HSz8_0⟩ := HI0.out;have hcz8_0 := tL Og;have hcz8_1 := tN Og;have hcz8_2 := tO Og;have hfz8_1 := aV Og 1;have hfz8_2 := aV Og 2;clear Og hgz8;go_enter Try.func118, Try.ntmps118;go_wp2
   repeat (go_quiet (fail); try go_wp2)
   go_ret;exact ⟨Lx, by repeat (first | (with_reducible first | exact HI0.out | apply aK.alloc | apply aK.drewN | apply aK.drew | apply aK.qo | apply aK.qp) | exact HI0.out), by repeat (first | (with_reducible first | exact HB.out | apply bz | apply aj | apply bD | refine bF ?_ (aK.ge HI0.out)) | exact HB.out), by repeat (first | (with_reducible first | exact HK.out | apply bg.wI | apply fU | apply gT | apply fV) | exact HK.out)⟩
  ·rw [if_neg c7] at H
   have Ja : decide ((wrap64 (dW + 1)) <= (fE.length : Int)) = false := decide_eq_false c7;clear c7;simp only [Option.some.injEq, Prod.mk.injEq] at H;obtain ⟨rfl, rfl, rfl⟩ := H;obtain ⟨ASz9_0, cSz9_0, Oh, hgz9, HSz9_0⟩ := HI0.out;have hcz9_0 := tL Oh;have hcz9_1 := tN Oh;have hcz9_2 := tO Oh;have hfz9_1 := aV Oh 1;have hfz9_2 := aV Oh 2;clear Oh hgz9;go_enter Try.func118, Try.ntmps118;go_wp2
   repeat (go_quiet (fail); try go_wp2)
   go_ret;exact ⟨Lx, by repeat (first | (with_reducible first | exact HI0.out | apply aK.alloc | apply aK.drewN | apply aK.drew | apply aK.qo | apply aK.qp) | exact HI0.out), by repeat (first | (with_reducible first | exact HB.out | apply bz | apply aj | apply bD | refine bF ?_ (aK.ge HI0.out)) | exact HB.out), by repeat (first | (with_reducible first | exact HK.out | apply bg.wI | apply fU | apply gT | apply fV) | exact HK.out)⟩
theorem PD {p0 q : Prop} (h0 : p0) (h : p0 -> q := by intro uu; repeat (first | (with_reducible first | exact uu | apply aK.alloc | apply aK.drewN | apply aK.drew | apply aK.qo | apply aK.qp) | exact uu)) : q := h h0
theorem PE {p0 p1 q : Prop} (h0 : p0) (h1 : p1) (h : p0 -> p1 -> q := by intro uu XT; repeat (first | (with_reducible first | exact uu | apply bz | apply aj | apply bD | refine bF ?_ (aK.ge XT)) | exact uu)) : q := h h0 h1
theorem PG {p0 q : Prop} (h0 : p0) (h : p0 -> q := by intro uu; repeat (first | (with_reducible first | exact uu | apply bg.wI | apply fU | apply gT | apply fV) | exact uu)) : q := h h0
def dn.f (fE : List Int) (dW : Int) (jb : Int) (a1 : Int) : Option (Int × Int × Int) := if a1 <= 1 then (some (0, dW, jb)) else ((dJ.f fE dW jb).bind fun sG => (if a1 > 200 then ((dJ.f fE sG.2.1 sG.2.2).bind fun uZ => (if a1 = 0 then (none) else (some (Int.tmod (wrap64 ((wrap64 (sG.1 * 256)) + uZ.1)) a1, uZ.2.1, uZ.2.2)))) else (if a1 = 0 then (none) else (some (Int.tmod sG.1 a1, sG.2.1, sG.2.2)))))
theorem dn.calls (g : Nat) (fE : List Int) (dW : Int) (jb : Int) (a1 : Int) (r1 : Int) (r2 : Int) (r3 : Int) (w0 w : World) (hI : aK w0 w g fE dW jb) (hB : Below w0.heap.size w0 w) (h : dn.f fE dW jb a1 = some (r1, r2, r3)) :
  Calls Try.prog 92 #[.pointer (some ⟨g, 0, none⟩), .int .i64 a1] w fun e w' => e = .returned (.int .i64 r1) /\ aK w0 w' g fE r2 r3 /\ Below w0.heap.size w0 w' /\ bg w w' g none := by
 have HI0 := A_ hI;have HK := A_ (bg.refl w g none);have HL := A_ hB.size;clear hI;have HW0 := A_ hB.size;have HB := A_ hB;clear hB;have H : (if a1 <= 1 then (some (0, dW, jb)) else ((dJ.f fE dW jb).bind fun sG => (if a1 > 200 then ((dJ.f fE sG.2.1 sG.2.2).bind fun uZ => (if a1 = 0 then (none) else (some (Int.tmod (wrap64 ((wrap64 (sG.1 * 256)) + uZ.1)) a1, uZ.2.1, uZ.2.2)))) else (if a1 = 0 then (none) else (some (Int.tmod sG.1 a1, sG.2.1, sG.2.2)))))) = some (r1, r2, r3) := h;clear h
 by_cases c3 : a1 <= 1
 ·rw [if_pos c3] at H
  have tT : decide (a1 <= 1) = true := decide_eq_true c3;clear c3;simp only [Option.some.injEq, Prod.mk.injEq] at H;obtain ⟨rfl, rfl, rfl⟩ := H;go_enter Try.func92, Try.ntmps92;go_wp2;go_ret;exact ⟨Lx, by repeat (first | (with_reducible first | exact HI0.out | apply aK.alloc | apply aK.drewN | apply aK.drew | apply aK.qo | apply aK.qp) | exact HI0.out), by repeat (first | (with_reducible first | exact HB.out | apply bz | apply aj | apply bD | refine bF ?_ (aK.ge HI0.out)) | exact HB.out), by repeat (first | (with_reducible first | exact HK.out | apply bg.wI | apply fU | apply gT | apply fV) | exact HK.out)⟩
 ·rw [if_neg c3] at H
  have tT : decide (a1 <= 1) = false := decide_eq_false c3;clear c3;replace H := Option.bind_eq_some_iff.mp H;obtain ⟨⟨Q6, Q7, Q8⟩, Rp, H⟩ := H;replace H : (if a1 > 200 then ((dJ.f fE Q7 Q8).bind fun uZ => (if a1 = 0 then (none) else (some (Int.tmod (wrap64 ((wrap64 (Q6 * 256)) + uZ.1)) a1, uZ.2.1, uZ.2.2)))) else (if a1 = 0 then (none) else (some (Int.tmod Q6 a1, Q7, Q8)))) = some (r1, r2, r3) := H;have A4 := A_ Rp;clear Rp
  by_cases c5 : a1 > 200
  ·rw [if_pos c5] at H
   have DY : decide (200 < a1) = true := decide_eq_true c5;clear c5;replace H := Option.bind_eq_some_iff.mp H;obtain ⟨⟨t376, t377, t378⟩, Xw, H⟩ := H;replace H : (if a1 = 0 then (none) else (some (Int.tmod (wrap64 ((wrap64 (Q6 * 256)) + t376)) a1, t377, t378))) = some (r1, r2, r3) := H;have A6 := A_ Xw;clear Xw
   by_cases c7 : a1 = 0
   ·rw [if_pos c7] at H
    exact absurd H (by simp)
   ·rw [if_neg c7] at H
    have Ja : (a1 == 0) = false := beq_eq_false_iff_ne.mpr c7;have c7b1 : (a1 != 0) = true := bne_iff_ne.mpr c7;simp only [Option.some.injEq, Prod.mk.injEq] at H;obtain ⟨rfl, rfl, rfl⟩ := H;go_enter Try.func92, Try.ntmps92
    go_wp2_with (first | ((with_reducible refine cB (f := 118) rfl ?_); refine jf (some 9) rfl rfl Try.func118 (by kernel_rfl) rfl #[.pointer (some ⟨g, 0, none⟩)] rfl (Dv) ?_; (with_reducible refine (dJ.calls g fE dW jb Q6 Q7 Q8 w0 _ ?az ?bW A4.out).mono ?_); (case az => exact PD HI0.out); (case bW => exact PE HB.out HI0.out); rintro e w8 ⟨rfl, hi, hb, hk⟩; refine ⟨_, rfl, ?_⟩; replace HK := A_ (bg.trans (PG HK.out) hk (.inl rfl)); replace HB := A_ (hb); replace HI0 := A_ (hi); (try clear hb); (try clear hb2); (try clear hk); (try clear hi)) | ((with_reducible refine cB (f := 118) rfl ?_); refine jf (some 15) rfl rfl Try.func118 (by kernel_rfl) rfl #[.pointer (some ⟨g, 0, none⟩)] rfl (Dv) ?_; (with_reducible refine (dJ.calls g fE Q7 Q8 t376 t377 t378 w0 _ ?az ?bW A6.out).mono ?_); (case az => exact PD HI0.out); (case bW => exact PE HB.out HI0.out); rintro e w9 ⟨rfl, hi, hb, hk⟩; refine ⟨_, rfl, ?_⟩; replace HK := A_ (bg.trans (PG HK.out) hk (.inl rfl)); replace HB := A_ (hb); replace HI0 := A_ (hi); (try clear hb); (try clear hb2); (try clear hk); (try clear hi)))
    go_ret;exact ⟨Lx, by repeat (first | (with_reducible first | exact HI0.out | apply aK.alloc | apply aK.drewN | apply aK.drew | apply aK.qo | apply aK.qp) | exact HI0.out), by repeat (first | (with_reducible first | exact HB.out | apply bz | apply aj | apply bD | refine bF ?_ (aK.ge HI0.out)) | exact HB.out), by repeat (first | (with_reducible first | exact HK.out | apply bg.wI | apply fU | apply gT | apply fV) | exact HK.out)⟩
  ·rw [if_neg c5] at H
   have DY : decide (200 < a1) = false := decide_eq_false c5;clear c5
   by_cases c10 : a1 = 0
   ·rw [if_pos c10] at H
    exact absurd H (by simp)
   ·rw [if_neg c10] at H
    have c10b0 : (a1 == 0) = false := beq_eq_false_iff_ne.mpr c10;have c10b1 : (a1 != 0) = true := bne_iff_ne.mpr c10;simp only [Option.some.injEq, Prod.mk.injEq] at H;obtain ⟨rfl, rfl, rfl⟩ := H;go_enter Try.func92, Try.ntmps92
    go_wp2_with (first | ((with_reducible refine cB (f := 118) rfl ?_); refine jf (some 9) rfl rfl Try.func118 (by kernel_rfl) rfl #[.pointer (some ⟨g, 0, none⟩)] rfl (Dv) ?_; (with_reducible refine (dJ.calls g fE dW jb Q6 Q7 Q8 w0 _ ?az ?bW A4.out).mono ?_); (case az => exact PD HI0.out); (case bW => exact PE HB.out HI0.out); rintro e Ab ⟨rfl, hi, hb, hk⟩; refine ⟨_, rfl, ?_⟩; replace HK := A_ (bg.trans (PG HK.out) hk (.inl rfl)); replace HB := A_ (hb); replace HI0 := A_ (hi); (try clear hb); (try clear hb2); (try clear hk); (try clear hi)))
    go_ret;exact ⟨Lx, by repeat (first | (with_reducible first | exact HI0.out | apply aK.alloc | apply aK.drewN | apply aK.drew | apply aK.qo | apply aK.qp) | exact HI0.out), by repeat (first | (with_reducible first | exact HB.out | apply bz | apply aj | apply bD | refine bF ?_ (aK.ge HI0.out)) | exact HB.out), by repeat (first | (with_reducible first | exact HK.out | apply bg.wI | apply fU | apply gT | apply fV) | exact HK.out)⟩
theorem PH {p0 q : Prop} (h0 : p0) (h : p0 -> q := by intro uu; repeat (first | (with_reducible first | exact uu | apply bg.wI | apply fU | apply gT | apply fV) | exact uu)) : q := h h0
def kC.f (fE : List Int) (dW : Int) (jb : Int) : Option (ByteArray × Int × Int) := (dn.f fE dW jb 30).bind fun yu => (some (strOfNums (([(wrap64 (97 + (wrap64 (Int.tdiv yu.1 6)))) % 256, (wrap64 (97 + (Int.tmod yu.1 6))) % 256] : List Int)), yu.2.1, yu.2.2))
theorem kC.calls (g : Nat) (fE : List Int) (dW : Int) (jb : Int) (r1 : ByteArray) (r2 : Int) (r3 : Int) (w0 w : World) (hI : aK w0 w g fE dW jb) (hB : Below w0.heap.size w0 w) (h : kC.f fE dW jb = some (r1, r2, r3)) :
  Calls Try.prog 89 #[.pointer (some ⟨g, 0, none⟩)] w fun e w' => e = .returned (.string r1) /\ aK w0 w' g fE r2 r3 /\ Below w0.heap.size w0 w' /\ bg w w' g none := by
 have HI0 := A_ hI;have HK := A_ (bg.refl w g none);have HL := A_ hB.size;clear hI;have HW0 := A_ hB.size;have HB := A_ hB;clear hB;have H : ((dn.f fE dW jb 30).bind fun yu => (some (strOfNums (([(wrap64 (97 + (wrap64 (Int.tdiv yu.1 6)))) % 256, (wrap64 (97 + (Int.tmod yu.1 6))) % 256] : List Int)), yu.2.1, yu.2.2))) = some (r1, r2, r3) := h;clear h;replace H := Option.bind_eq_some_iff.mp H;obtain ⟨⟨zn, VU, VV⟩, zI, H⟩ := H;replace H : (some (strOfNums (([(wrap64 (97 + (wrap64 (Int.tdiv zn 6)))) % 256, (wrap64 (97 + (Int.tmod zn 6))) % 256] : List Int)), VU, VV)) = some (r1, r2, r3) := H;have A2 := A_ zI;clear zI
 obtain ⟨y386, JJ⟩ : ∃ y_ : List Int, y_ = (([(wrap64 (97 + (wrap64 (Int.tdiv zn 6)))) % 256, (wrap64 (97 + (Int.tmod zn 6))) % 256] : List Int)) := ⟨_, rfl⟩
 replace H : (some (strOfNums y386, VU, VV)) = some (r1, r2, r3) := by first | (rw [JJ]; with_reducible exact H) | (have kN := (Option.bind_some _ _).symm.trans H; rw [JJ]; with_reducible exact kN) | (have kN := (Option.bind_some _ _).symm.trans H; with_reducible exact kN) | with_reducible exact H | (rw [JJ]; exact H) | exact H
 have Ny386 := A_ JJ;clear JJ;simp only [Option.some.injEq, Prod.mk.injEq] at H;obtain ⟨rfl, rfl, rfl⟩ := H;go_enter Try.func89, Try.ntmps89
 go_wp2_with (first | ((with_reducible refine cB (f := 92) rfl ?_); refine jf (some 5) rfl rfl Try.func92 (by kernel_rfl) rfl #[.pointer (some ⟨g, 0, none⟩), .int .i64 30] rfl (Dv) ?_; (with_reducible refine (dn.calls g fE dW jb 30 zn VU VV w0 _ ?az ?bW A2.out).mono ?_); (case az => repeat (first | (with_reducible first | exact HI0.out | apply aK.alloc | apply aK.drewN | apply aK.drew | apply aK.qo | apply aK.qp) | exact HI0.out)); (case bW => repeat (first | (with_reducible first | exact HB.out | apply bz | apply aj | apply bD | refine bF ?_ (aK.ge HI0.out)) | exact HB.out)); rintro e w3 ⟨rfl, hi, hb, hk⟩; refine ⟨_, rfl, ?_⟩; replace HK := A_ (bg.trans (PH HK.out) hk (.inl rfl)); replace HB := A_ (hb); replace HI0 := A_ (hi); (try clear hb); (try clear hb2); (try clear hk); (try clear hi)) | ((with_reducible refine iK (N := 14) rfl ?_); refine Kd.Bf (Kd.int .u8) _ 5 ?hg (N := 14) ?hd (xs := ([(wrap64 (97 + (wrap64 (Int.tdiv zn 6)))) % 256, (wrap64 (97 + (Int.tmod zn 6))) % 256] : List Int)) (inner := [.int .u8 ((wrap64 (97 + (wrap64 (Int.tdiv zn 6)))) % 256), .int .u8 ((wrap64 (97 + (Int.tmod zn 6))) % 256)]) (ok := fun _ => True) (okp := fun _ => True) ?hr ?hp (fun _ hk => hk) trivial (Below.refl _ _) (Nat.le_refl _) (by simp) ?_; (case hd => rfl); (case hg => rfl); (case hr => first | (go_simp; done) | (go_simp; rfl)); (case hp => exact (gm.one (show Kd.M (Kd.int .u8) _ _ _ ((wrap64 (97 + (wrap64 (Int.tdiv zn 6)))) % 256) [.int .u8 ((wrap64 (97 + (wrap64 (Int.tdiv zn 6)))) % 256)] from rfl) (gm.one (show Kd.M (Kd.int .u8) _ _ _ ((wrap64 (97 + (Int.tmod zn 6))) % 256) [.int .u8 ((wrap64 (97 + (Int.tmod zn 6))) % 256)] from rfl) (gm.none _ _)))); intro v387 w4 Yb hb NM sF; clear NM sF; (first | rw [<- Ny386.out] at Yb | (simp only [Int.reduceToNat] at Yb; rw [<- Ny386.out] at Yb)); have HO388 := A_ (Kd.gW Yb (Ny (w := w) (g := g) (row := none) (PH HK.out))); replace HK := A_ (bg.trans (PH HK.out) (bg.of_below hb g none) (.inl rfl)); replace HB := A_ (ay (by repeat (first | (with_reducible first | exact HB.out | apply bz | apply aj | apply bD | refine bF ?_ (aK.ge HI0.out)) | exact HB.out)) hb); replace HI0 := A_ (aK.below (by repeat (first | (with_reducible first | exact HI0.out | apply aK.alloc | apply aK.drewN | apply aK.drew | apply aK.qo | apply aK.qp) | exact HI0.out)) hb); clear hb Yb; have hcv6 := Ko (P := Try.prog) Try.underlying56 Try.underlying5 Try.underlying9 (Kd.uB HO388.out)))
 go_ret;exact ⟨Lx, by repeat (first | (with_reducible first | exact HI0.out | apply aK.alloc | apply aK.drewN | apply aK.drew | apply aK.qo | apply aK.qp) | exact HI0.out), by repeat (first | (with_reducible first | exact HB.out | apply bz | apply aj | apply bD | refine bF ?_ (aK.ge HI0.out)) | exact HB.out), by repeat (first | (with_reducible first | exact HK.out | apply bg.wI | apply fU | apply gT | apply fV) | exact HK.out)⟩
end Go.Proofs.Ytoddejmlcnbdmaa.Fn
namespace Go.Proofs.Ytoddejmlcnbdmaa.Tree
theorem aa.keep {w w1 : World} {base g : Nat} {gs : List (List Ck)} (h : aa w base gs) (hk : bg w w1 g none) (hg : g < base) : aa w1 base gs :=
 Sat.Tf (S := fun k => k = g) h ((Kept.refl w _).R7 hk (.inl rfl)) (fun k e => e ▸ hg)
structure Cu (w0 w W : World) (g : Nat) (s : List Int) (p q : Int) (gs : List (List Ck)) : Prop where
 I : aK w0 W g s p q
 B : Below w0.heap.size w0 W
 K : bg w W g none
 S : aa W w.heap.size gs
 lt : g < w.heap.size
section
variable {w0 w W W1 : World} {g : Nat} {s : List Int} {p q p1 q1 : Int} {gs gs1 : List (List Ck)}
theorem Cu.size (h : Cu w0 w W g s p q gs) : w.heap.size <= W.heap.size := h.K.1
theorem Cu.cur (h : Cu w0 w W g s p q gs) (h1 : aK w0 W1 g s p1 q1) (h2 : Below w0.heap.size w0 W1) (h3 : bg W W1 g none) : Cu w0 w W1 g s p1 q1 gs :=
 ⟨h1, h2, h.K.trans h3 (.inl rfl), h.S.keep h3 h.lt, h.lt⟩
theorem Cu.under (h : Cu w0 w W g s p q gs) (hb : Below W.heap.size W W1) : Cu w0 w W1 g s p q gs :=
 ⟨h.I.below hb, ay h.B hb, h.K.trans (bg.of_below hb g none) (.inl rfl), h.S.under hb, h.lt⟩
theorem Cu.drew (h : Cu w0 w W g s p q gs) : Cu w0 w W.drew g s p q gs := h.under (aG (Below.refl _ _))
theorem Cu.box (h : Cu w0 w W g s p q gs) {T b : Nat} {cs : Array Value} (hg : b = W.heap.size) (aA : W1.heap[b]? = some (.cells cs T (0, 0))) (hb : Below W.heap.size W W1) : Cu w0 w W1 g s p q (gs ++ [[.box T b cs]]) :=
 ⟨(h.under hb).I, (h.under hb).B, (h.under hb).K, h.S.je hg aA hb h.size, h.lt⟩
theorem Cu.put (h : Cu w0 w W g s p q gs) (i : Nat) {T b : Nat} {cs cs' : Array Value} (hi : gs[i]? = some [.box T b cs]) (j : Nat) (u : Value) (e : cs.setIfInBounds j u = cs') : Cu w0 w (W.setCell ⟨b, j, none⟩ u) g s p q (gs.set i [.box T b cs']) := by
 have h1 : w.heap.size <= b := ((h.S.at i hi).ok _ List.mem_cons_self).1;have hk : Kept W (W.setCell ⟨b, j, none⟩ u) (fun k => k = b) := (Kept.refl W (fun k => k = b)).setCell (p := ⟨b, j, none⟩) (.inl rfl) u
 have hK : bg W (W.setCell ⟨b, j, none⟩ u) b none := ⟨hk.1, fun i hi hn _ => hk.2 i hi hn⟩
 have h2 : w0.heap.size <= b := Nat.le_trans (by have := h.I; obtain ⟨_, _, _, h5, _⟩ := this; exact Nat.le_trans h5 (Nat.le_of_lt h.lt)) h1;refine ⟨h.I.kept hk (fun e => by have := h.lt; omega), bF h.B h2, ?_, h.S.put i hi j u e, h.lt⟩;exact Kept.keep (S2 := fun k => k = b) h.K hk (fun k e => by rw [e]; exact h1)
theorem Cu.to (h : Cu w0 w W g s p q gs) (hs : aa W w.heap.size gs1) : Cu w0 w W g s p q gs1 := ⟨h.I, h.B, h.K, hs, h.lt⟩
end
end Go.Proofs.Ytoddejmlcnbdmaa.Tree
namespace Go.Proofs.Ytoddejmlcnbdmaa.Fn
open Go.Proofs.Ytoddejmlcnbdmaa.Pure (jJ lM)
def R8 (key val : ByteArray) : List bC × Bool := if oF key val = true then ([⟨[key], [val], []⟩], true) else ([], false)
theorem R9 {W : World} {base g gp : Nat} {v0 v1 : Value} {key val : ByteArray} (h : aa W base [[.box 29 g #[.slice none 0 0]], [txt v0 [key]], [txt v1 [val]], [.row 110 3 (.slice (some ⟨gp, 0, none⟩) 1 1) 1 [v0, v1, .slice none 0 0]]]) :
  iZ (W.setCell ⟨g, 0, none⟩ (.slice (some ⟨gp, 0, none⟩) 1 1)) base (.slice (some ⟨gp, 0, none⟩) 1 1) [⟨[key], [val], []⟩] := by
 refine ⟨some ⟨gp, 0, none⟩, 1, [⟨v0, v1, .slice none 0 0, [key], [val], []⟩], rfl, rfl, ?_⟩;have h2 := (h.yZ 3).gJ [3, 1, 2, 4, 0] (by decide);exact nU (X := []) (n := 1) h2
theorem Gj.oZ (a1 a2 : ByteArray) (w : World) :
  Calls Try.prog 55 #[.string a1, .string a2] w fun e w' => ∃ ja : Value, e = .returned (.tuple #[.agg #[ja], .bool (R8 a1 a2).2]) /\ iZ w' w.heap.size ja (R8 a1 a2).1 /\ Below w.heap.size w w' := by
 unfold R8
 cases hpr : oF a1 a2 with
 | false =>
  have NV := A_ ((sQ a1 a2).trans (congrArg some hpr));clear hpr;rw [if_neg (by decide)];go_enter Try.func55, Try.ntmps55
  go_wp2_with (first | (refine jl 4 #[.slice none 0 0] 29 ?_; intro g6 hg w2 aA hb; have HB := A_ (Below.refl w.heap.size w); have qV := A_ (show w.heap.size <= g6 from by rw [hg]; exact Below.size HB.out); have ah := A_ (ay HB.out hb); clear HB; have HB := ah; have fw := A_ aA; clear ah hg aA hb; have vR := (au fw.out 0).trans rfl; have wH := aV fw.out 0) | (go_at_call 75; (with_reducible refine (eP.calls a1 a2 false _ NV.out).mono ?_); rintro e w' ⟨rfl, ⟨nd, rfl⟩⟩))
  refine bodyPost_ret (df rfl _ _ g6 29 #[.slice none 0 0] (0, 0) _ rfl (by (with_reducible repeat (first | refine di ?_ _ | refine dK ?_ )); refine dP (cs := #[.slice none 0 0]) ?_ 0 _ rfl; (with_reducible repeat (first | refine di ?_ _ | refine dK ?_)); exact fw.out) Try.underlying29 rfl (by kernel_rfl)) rfl ?_;exact ⟨_, rfl, iZ.nil _ _, (by repeat (first | (with_reducible first | exact HB.out | apply aj | apply bD | refine bF ?_ qV.out) | exact HB.out))⟩
 | true =>
  have NV := A_ ((sQ a1 a2).trans (congrArg some hpr));clear hpr;rw [if_pos rfl];go_enter Try.func55, Try.ntmps55
  go_upto_region 3 with (first | (refine jl 4 #[.slice none 0 0] 29 ?_; intro g6 hg w2 aA hb; have HB := A_ (Below.refl w.heap.size w); have qV := A_ (show w.heap.size <= g6 from by rw [hg]; exact Below.size HB.out); have ah := A_ (ay HB.out hb); clear HB; have HB := ah; have fw := A_ aA; clear ah hg aA hb; have vR := (au fw.out 0).trans rfl; have wH := aV fw.out 0) | (go_at_call 75; (with_reducible refine (eP.calls a1 a2 true _ NV.out).mono ?_); rintro e w' ⟨rfl, ⟨nd, rfl⟩⟩))
  generalize hW : World.drewN w2 _ = w3;have ah := A_ (show Below w.heap.size w w3 by rw [<- hW]; exact (by repeat (first | (with_reducible first | exact HB.out | apply aj | apply bD | refine bF ?_ qV.out) | exact HB.out)))
  have bT : af (aa w3 w.heap.size [[.box 29 g6 #[.slice none 0 0]]]) := ⟨by rw [<- hW]; exact Sat.drewN (Sat.one (c := .box 29 g6 #[.slice none 0 0]) ⟨qV.out, fw.out⟩) _⟩
  clear HB fw vR wH hW;have HB := ah;have HS := bT;clear ah bT
  go_wp2_with (first | ((with_reducible refine iK (N := 12) rfl ?_); refine Rt Kd.string 9 12 [a1] [.string a1] (Kd.aY (enc := Value.string) [a1]) HB.out (Nat.le_trans (Nat.le_refl _) (Below.size HB.out)) ?_; intro v1 w4 ho hb hg hn; obtain ⟨vO, rD, rfl⟩ : ∃ A c, v1 = .slice A 1 c := Kd.ak ho; have ah : af (aa w4 w.heap.size [[.box 29 g6 #[.slice none 0 0]], [txt (.slice vO 1 rD) [a1]]]) := ⟨aa.lit HS.out ho hg hn⟩; replace HB : af (Below w.heap.size w w4) := ⟨hb⟩; replace HS := ah; clear ah ho hb hg hn) | ((with_reducible refine iK (N := 14) rfl ?_); refine Rt Kd.string 9 14 [a2] [.string a2] (Kd.aY (enc := Value.string) [a2]) HB.out (Nat.le_trans (Nat.le_refl _) (Below.size HB.out)) ?_; intro v2 w5 ho hb hg hn; obtain ⟨YH, Ri, rfl⟩ : ∃ A c, v2 = .slice A 1 c := Kd.ak ho; have ah : af (aa w5 w.heap.size [[.box 29 g6 #[.slice none 0 0]], [txt (.slice vO 1 rD) [a1]], [txt (.slice YH 1 Ri) [a2]]]) := ⟨aa.lit HS.out ho hg hn⟩; replace HB : af (Below w.heap.size w w5) := ⟨hb⟩; replace HS := ah; clear ah ho hb hg hn) | ((with_reducible refine iK (N := 16) rfl ?_); refine RP 110 3 [.slice vO 1 rD, .slice YH 1 Ri, .slice none 0 0] rfl ?hg (N := 16) ?hd ?hr ?_; (case hd => rfl); (case hg => rfl); (case hr => first | (go_simp; done) | (go_simp; rfl)); intro gp w6 hg ho hb; have ah : af (aa w6 w.heap.size [[.box 29 g6 #[.slice none 0 0]], [txt (.slice vO 1 rD) [a1]], [txt (.slice YH 1 Ri) [a2]], [.row 110 3 (.slice (some ⟨gp, 0, none⟩) 1 1) 1 [.slice vO 1 rD, .slice YH 1 Ri, .slice none 0 0]]]) := ⟨aa.newRow HS.out hb (Nat.le_trans (Nat.le_refl _) (Below.size HB.out)) (by rw [<- hg] at *; exact ho)⟩; replace HB : af (Below w.heap.size w w6) := ⟨HB.out.trans (hb.mono (Nat.le_trans (Nat.le_refl _) (Below.size HB.out)))⟩; replace HS := ah; clear ah hg ho hb; have vR := (aa.z HS.out 0 rfl 0).trans rfl; have wH := aa.f HS.out 0 rfl 0))
  refine bodyPost_ret (df rfl _ _ g6 29 #[.slice (some ⟨gp, 0, none⟩) 1 1] (0, 0) _ rfl (dP (cs := #[.slice none 0 0]) (aa.blk HS.out 0 rfl) 0 _ rfl) Try.underlying29 rfl (by kernel_rfl)) rfl ?_;exact ⟨_, rfl, R9 HS.out, bF HB.out qV.out⟩
def inB (a b k : ByteArray) : Bool := !(Op.bytesLess k.toList a.toList) && Op.bytesLess k.toList b.toList
def YR (a b : ByteArray) (K : List ByteArray) : List ByteArray := K.filter (inB a b)
def Ug (a b : ByteArray) : List ByteArray -> List ByteArray -> List ByteArray
 | k :: K, v :: V => if inB a b k = true then v :: Ug a b K V else Ug a b K V
 | _, _ => []
theorem qc {l : List ByteArray} (h : l.length < 8796093022208) : bf.f l = some l := by
 unfold bf.f;simp only [Option.bind_some, List.length_nil, Nat.zero_add];rw [if_pos h];rfl
end Go.Proofs.Ytoddejmlcnbdmaa.Fn
namespace Go.Proofs.Ytoddejmlcnbdmaa.Pure
def Sa (a b : ByteArray) : Bool := jJ a && (jJ b && yK a b)
def Uh (t : PT) (a b : ByteArray) : List ByteArray × List ByteArray × Bool := if Sa a b = true then (YR a b (bB t), Ug a b (bB t) (eD t), true) else ([], [], false)
def YS (P : List bC) (a b : ByteArray) : List ByteArray × List ByteArray × Bool := match mq P with | none => ([], [], false) | some t => Uh t a b
def Cq (P : List bC) : List ByteArray × Bool := match mq P with | none => ([], false) | some t => (bB t, true)
theorem Gl {P : List bC} (hok : zP P = true) : mO.f P = some (Cq P) := by
 unfold mO.f Cq;rw [if_pos hok]
 cases mq P <;> rfl
end Go.Proofs.Ytoddejmlcnbdmaa.Pure
namespace Go.Proofs.Ytoddejmlcnbdmaa.Fn
end Go.Proofs.Ytoddejmlcnbdmaa.Fn
namespace Go.Proofs.Ytoddejmlcnbdmaa.Pure
mutual
theorem Cr : ∀ (t : PT) (a : Nat), kV t -> ∀ p ∈ iM t a, p.f0.length <= 4 /\ p.f1.length <= 4 /\ p.f2.length <= 5
 | .mk ks vs cs, a, hb, p, hp => by
  obtain ⟨⟨h1, h2, h3⟩, h4⟩ := bJ.1 hb;rw [iM] at hp
  rcases List.mem_cons.1 hp with rfl | hp
  ·have h1 : vs.length = ks.length := h1
   have h2 : ks.length <= 4 := h2;have h3 : cs.length = 0 \/ cs.length = ks.length + 1 := h3;exact ⟨h2, by show vs.length <= 4; omega, by show (starts cs (a + 1)).length <= 5; rw [ql]; omega⟩
  ·exact zB cs (a + 1) h4 p hp
theorem zB : ∀ (l : List PT) (a : Nat), (∀ s ∈ l, kV s) -> ∀ p ∈ oM l a, p.f0.length <= 4 /\ p.f1.length <= 4 /\ p.f2.length <= 5
 | [], _, _, p, hp => by cases hp
 | c :: cs, a, hb, p, hp => by
  rw [oM] at hp
  rcases List.mem_append.1 hp with hp | hp
  ·exact Cr c a (hb c List.mem_cons_self) p hp
  ·exact zB cs (a + c.big) (fun s hs => hb s (List.mem_cons_of_mem _ hs)) p hp
end
theorem Mj {t : PT} (h : EG t) (hl : (aX t).length <= 41) : (iM t 0).length <= 1000 /\ ∀ p ∈ iM t 0, p.f0.length <= 4 /\ p.f1.length <= 4 /\ p.f2.length <= 5 := by
 refine ⟨?_, Cr t 0 h.bnd⟩;rw [uK];have := h.small;omega
theorem Cs (n : Int) : IntKind.u64.wrap n = n % 18446744073709551616 := by simp [IntKind.wrap, IntKind.bits, IntKind.signed]
theorem Sb (y : Int) (h0 : 0 <= y) (h1 : y < 18446744073709551616) : 0 <= Go.bits .and .u64 y 255 /\ Go.bits .and .u64 y 255 <= 255 := by
 have e : Go.bits .and .u64 y (2 ^ 8 - 1) = y % 2 ^ 8 := bits_mask .u64 64 (by decide) (fun n h0 h1 => by rw [Cs]; omega) 8 (by decide) y h0 h1;have e2 : ((2 : Int) ^ 8 - 1) = 255 := by decide
 rw [e2] at e;rw [e];omega
def Code (c : List Int) : Prop := ∀ y ∈ c, 0 <= y /\ y <= 255
theorem Fb (c : List Int) (hc : Code c) (a s : Int) (h0 : 0 <= a) (h1 : a <= 2305843009213693952) : ∃ x s' : Int, dJ.f c a s = some (x, a + 1, s') /\ 0 <= x /\ x <= 255 := by
 have ea : wrap64 (a + 1) = a + 1 := gP (by omega) (by omega)
 have hm : ∀ z : Int, 0 <= wrap64 (Go.bits .and .u64 (IntKind.u64.wrap z / 1099511627776) 255) /\ wrap64 (Go.bits .and .u64 (IntKind.u64.wrap z / 1099511627776) 255) <= 255 := by
  intro z;have h := Sb (IntKind.u64.wrap z / 1099511627776) (by rw [Cs]; omega) (by rw [Cs]; omega);rw [gP (by omega) (by omega)];exact h
 have hr : a < (c.length : Int) -> 0 <= wrap64 (rd c a) /\ wrap64 (rd c a) <= 255 := by
  intro h;have hx : c[a.toNat]? = some c[a.toNat] := List.getElem?_eq_getElem (by omega)
  have e : rd c a = c[a.toNat] := by
   have := WX hx;rw [show ((a.toNat : Nat) : Int) = a by omega] at this;exact this
  have hy := hc _ (List.mem_of_getElem? hx);rw [e, gP (by omega) (by omega)];exact hy
 simp only [dJ.f, ea]
 by_cases h : a < (c.length : Int)
 ·rw [if_pos h, if_pos h0]
  by_cases h2 : a + 1 <= (c.length : Int)
  ·rw [if_pos h2]
   exact ⟨_, _, rfl, (hr h).1, (hr h).2⟩
  ·rw [if_neg h2]
   exact ⟨_, _, rfl, (hm _).1, (hm _).2⟩
 ·rw [if_neg h]
  by_cases h2 : a + 1 <= (c.length : Int)
  ·rw [if_pos h2]
   exact ⟨_, _, rfl, by omega, by omega⟩
  ·rw [if_neg h2]
   exact ⟨_, _, rfl, (hm _).1, (hm _).2⟩
theorem Ct (x n : Int) (h0 : 0 <= x) (h1 : 0 < n) : 0 <= Int.tmod x n /\ Int.tmod x n < n := by
 rw [Int.tmod_eq_emod_of_nonneg h0];exact ⟨Int.emod_nonneg _ (by omega), Int.emod_lt_of_pos _ h1⟩
theorem sw (c : List Int) (hc : Code c) (a s : Int) (h0 : 0 <= a) (h1 : a <= 1152921504606846976) (n : Int) :
  ∃ x a' s' : Int, dn.f c a s n = some (x, a', s') /\ a <= a' /\ a' <= a + 2 /\ 0 <= x /\ (0 < n -> x < n) /\ (n <= 0 -> x = 0) := by
 simp only [dn.f]
 by_cases hn : n <= 1
 ·rw [if_pos hn]
  exact ⟨0, a, s, rfl, by omega, by omega, by omega, fun h => h, fun _ => rfl⟩
 ·obtain ⟨x, s1, e1, b1, b2⟩ := Fb c hc a s h0 (by omega)
  rw [if_neg hn, e1, Option.bind_some]
  by_cases h2 : n > 200
  ·obtain ⟨y, s2, e2, c1, c2⟩ := Fb c hc (a + 1) s1 (by omega) (by omega)
   have ew : wrap64 (wrap64 (x * 256) + y) = x * 256 + y := by rw [gP (n := x * 256) (by omega) (by omega), gP (by omega) (by omega)]
   have hr := Ct (x * 256 + y) n (by omega) (by omega);simp only [if_pos h2, e2, Option.bind_some, if_neg (show ¬ n = 0 by omega), ew];exact ⟨_, _, _, rfl, by omega, by omega, hr.1, fun _ => hr.2, fun h => by omega⟩
  ·have hr := Ct x n (by omega) (by omega)
   simp only [if_neg h2, if_neg (show ¬ n = 0 by omega)];exact ⟨_, _, _, rfl, by omega, by omega, hr.1, fun _ => hr.2, fun h => by omega⟩
end Go.Proofs.Ytoddejmlcnbdmaa.Pure
namespace Go.Proofs.Ytoddejmlcnbdmaa.Fn
def ma.f (fE : List Int) (dW : Int) (jb : Int) (l1 : List ByteArray) : Option (ByteArray × Int × Int) := (dn.f fE dW jb (l1.length : Int)).bind fun u7 => (if 0 <= u7.1 then (if u7.1 < (l1.length : Int) then (some (bO ByteArray.empty l1 u7.1, u7.2.1, u7.2.2)) else (none)) else (none))
theorem ma.calls (g : Nat) (fE : List Int) (dW : Int) (jb : Int) (A1 : Option Addr) (c1 : Nat) (l1 : List ByteArray) (r1 : ByteArray) (r2 : Int) (r3 : Int) (w0 w : World) (hI : aK w0 w g fE dW jb) (hB : Below w0.heap.size w0 w) (hr1 : Kd.C Kd.string w A1 l1.length l1) (hc1 : l1.length <= c1) (hf1 : ∀ ad, A1 = some ad -> 0 < l1.length -> ad.block ≠ g) (h : ma.f fE dW jb l1 = some (r1, r2, r3)) :
  Calls Try.prog 88 #[.pointer (some ⟨g, 0, none⟩), .slice A1 l1.length c1] w fun e w' => e = .returned (.string r1) /\ aK w0 w' g fE r2 r3 /\ Below w0.heap.size w0 w' /\ bg w w' g none := by
 have HR1 := A_ hr1;have Aa := A_ hc1;clear hr1 hc1;have HI0 := A_ hI;have HK := A_ (bg.refl w g none);have HL := A_ hB.size;clear hI;have HW0 := A_ hB.size;have HB := A_ hB;clear hB;have H : ((dn.f fE dW jb (l1.length : Int)).bind fun u7 => (if 0 <= u7.1 then (if u7.1 < (l1.length : Int) then (some (bO ByteArray.empty l1 u7.1, u7.2.1, u7.2.2)) else (none)) else (none))) = some (r1, r2, r3) := h;clear h;replace H := Option.bind_eq_some_iff.mp H;obtain ⟨⟨Dr, t380, t381⟩, xx, H⟩ := H;replace H : (if 0 <= Dr then (if Dr < (l1.length : Int) then (some (bO ByteArray.empty l1 Dr, t380, t381)) else (none)) else (none)) = some (r1, r2, r3) := H;have A3 := A_ xx;clear xx
 by_cases c4 : 0 <= Dr
 ·rw [if_pos c4] at H
  have tV : decide (0 <= Dr) = true := decide_eq_true c4;clear c4
  by_cases c5 : Dr < (l1.length : Int)
  ·rw [if_pos c5] at H
   have DY : decide (Dr < (l1.length : Int)) = true := decide_eq_true c5;clear c5;simp only [Option.some.injEq, Prod.mk.injEq] at H;obtain ⟨rfl, rfl, rfl⟩ := H;go_enter Try.func88, Try.ntmps88
   go_wp2_with (first | ((with_reducible refine cB (f := 92) rfl ?_); refine jf (some 9) rfl rfl Try.func92 (by kernel_rfl) rfl #[.pointer (some ⟨g, 0, none⟩), .int .i64 (l1.length : Int)] rfl (Dv) ?_; (with_reducible refine (dn.calls g fE dW jb (l1.length : Int) Dr t380 t381 w0 _ ?az ?bW A3.out).mono ?_); (case az => repeat (first | (with_reducible first | exact HI0.out | apply aK.alloc | apply aK.drewN | apply aK.drew | apply aK.qo | apply aK.qp) | exact HI0.out)); (case bW => repeat (first | (with_reducible first | exact HB.out | apply bz | apply aj | apply bD | refine bF ?_ (aK.ge HI0.out)) | exact HB.out)); rintro e w6 ⟨rfl, hi, hb, hk⟩; refine ⟨_, rfl, ?_⟩; replace HK := A_ (bg.trans (by repeat (first | (with_reducible first | exact HK.out | apply bg.wI | apply fU | apply gT | apply fV) | exact HK.out)) hk (.inl rfl)); replace HB := A_ (hb); replace HI0 := A_ (hi); (try clear hb); (try clear hb2); (try clear hk); (try clear hi); have VW : 0 <= (Dr : Int) := of_decide_eq_true jh; have VX : Dr < (l1.length : Int) := of_decide_eq_true jh; obtain ⟨ad382, e382, hx382_0⟩ := Kd.bH HR1.out Dr VW VX; cases e382; replace hx382_0 := Nz HK.out hx382_0 (by first | (rw [add_block]; exact hf1 _ rfl (by omega)) | exact hf1 _ rfl (by omega) | exact hf1 ad382 rfl (by omega)); replace VW := eq_true VW; replace VX := eq_true VX))
   go_ret;exact ⟨Lx, by repeat (first | (with_reducible first | exact HI0.out | apply aK.alloc | apply aK.drewN | apply aK.drew | apply aK.qo | apply aK.qp) | exact HI0.out), by repeat (first | (with_reducible first | exact HB.out | apply bz | apply aj | apply bD | refine bF ?_ (aK.ge HI0.out)) | exact HB.out), by repeat (first | (with_reducible first | exact HK.out | apply bg.wI | apply fU | apply gT | apply fV) | exact HK.out)⟩
  ·rw [if_neg c5] at H
   exact absurd H (by simp)
 ·rw [if_neg c4] at H
  exact absurd H (by simp)
def lF.f (fE : List Int) (dW : Int) (jb : Int) (a1 : Int) : Option (Bool × Int × Int) := (dn.f fE dW jb a1).bind fun Dt => (some ((Dt.1 == 0), Dt.2.1, Dt.2.2))
theorem lF.calls (g : Nat) (fE : List Int) (dW : Int) (jb : Int) (a1 : Int) (r1 : Bool) (r2 : Int) (r3 : Int) (w0 w : World) (hI : aK w0 w g fE dW jb) (hB : Below w0.heap.size w0 w) (h : lF.f fE dW jb a1 = some (r1, r2, r3)) :
  Calls Try.prog 91 #[.pointer (some ⟨g, 0, none⟩), .int .i64 a1] w fun e w' => e = .returned (.bool r1) /\ aK w0 w' g fE r2 r3 /\ Below w0.heap.size w0 w' /\ bg w w' g none := by
 have HI0 := A_ hI;have HK := A_ (bg.refl w g none);have HL := A_ hB.size;clear hI;have HW0 := A_ hB.size;have HB := A_ hB;clear hB;have H : ((dn.f fE dW jb a1).bind fun Dt => (some ((Dt.1 == 0), Dt.2.1, Dt.2.2))) = some (r1, r2, r3) := h;clear h;replace H := Option.bind_eq_some_iff.mp H;obtain ⟨⟨t389, t390, t391⟩, xx, H⟩ := H;replace H : (some ((t389 == 0), t390, t391)) = some (r1, r2, r3) := H;have A3 := A_ xx;clear xx;simp only [Option.some.injEq, Prod.mk.injEq] at H;obtain ⟨rfl, rfl, rfl⟩ := H;go_enter Try.func91, Try.ntmps91
 go_wp2_with (first | ((with_reducible refine cB (f := 92) rfl ?_); refine jf (some 7) rfl rfl Try.func92 (by kernel_rfl) rfl #[.pointer (some ⟨g, 0, none⟩), .int .i64 a1] rfl (Dv) ?_; (with_reducible refine (dn.calls g fE dW jb a1 t389 t390 t391 w0 _ ?az ?bW A3.out).mono ?_); (case az => repeat (first | (with_reducible first | exact HI0.out | apply aK.alloc | apply aK.drewN | apply aK.drew | apply aK.qo | apply aK.qp) | exact HI0.out)); (case bW => repeat (first | (with_reducible first | exact HB.out | apply bz | apply aj | apply bD | refine bF ?_ (aK.ge HI0.out)) | exact HB.out)); rintro e w4 ⟨rfl, hi, hb, hk⟩; refine ⟨_, rfl, ?_⟩; replace HK := A_ (bg.trans (by repeat (first | (with_reducible first | exact HK.out | apply bg.wI | apply fU | apply gT | apply fV) | exact HK.out)) hk (.inl rfl)); replace HB := A_ (hb); replace HI0 := A_ (hi); (try clear hb); (try clear hb2); (try clear hk); (try clear hi)))
 go_ret;exact ⟨Lx, by repeat (first | (with_reducible first | exact HI0.out | apply aK.alloc | apply aK.drewN | apply aK.drew | apply aK.qo | apply aK.qp) | exact HI0.out), by repeat (first | (with_reducible first | exact HB.out | apply bz | apply aj | apply bD | refine bF ?_ (aK.ge HI0.out)) | exact HB.out), by repeat (first | (with_reducible first | exact HK.out | apply bg.wI | apply fU | apply gT | apply fV) | exact HK.out)⟩
end Go.Proofs.Ytoddejmlcnbdmaa.Fn
namespace Go.Proofs.Ytoddejmlcnbdmaa.Pure
theorem IM (c : List Int) (hc : Code c) (a s : Int) (h0 : 0 <= a) (h1 : a <= 1152921504606846976) (n : Int) :
  ∃ (x : Bool) (a' s' : Int), lF.f c a s n = some (x, a', s') /\ a <= a' /\ a' <= a + 2 := by
 obtain ⟨x, a', s', e, b1, b2, _⟩ := sw c hc a s h0 h1 n;simp only [lF.f, e, Option.bind_some];exact ⟨_, _, _, rfl, b1, b2⟩
theorem Mk (c : List Int) (hc : Code c) (a s : Int) (h0 : 0 <= a) (h1 : a <= 1152921504606846976) (l : List ByteArray) (hl : 0 < l.length) :
  ∃ (x : ByteArray) (a' s' : Int), ma.f c a s l = some (x, a', s') /\ a <= a' /\ a' <= a + 2 := by
 obtain ⟨x, a', s', e, b1, b2, b3, b4, _⟩ := sw c hc a s h0 h1 (l.length : Int);have b4 := b4 (by omega);simp only [ma.f, e, Option.bind_some, if_pos b3, if_pos b4];exact ⟨_, _, _, rfl, b1, b2⟩
theorem Fe (c : List Int) (hc : Code c) (a s : Int) (h0 : 0 <= a) (h1 : a <= 1152921504606846976) :
  ∃ (x : ByteArray) (a' s' : Int), kC.f c a s = some (x, a', s') /\ a <= a' /\ a' <= a + 2 /\ jJ x = true := by
 obtain ⟨x, a', s', e, b1, b2, _⟩ := sw c hc a s h0 h1 30;simp only [kC.f, e, Option.bind_some];refine ⟨_, _, _, rfl, b1, b2, ?_⟩;unfold jJ;rw [<- Em, nm, strOfNums_data];simp
def vU (r : List bC) : Prop := r ≠ [] /\ r.length <= 1000 /\ ∀ p ∈ r, p.f0.length <= 4 /\ p.f1.length <= 4 /\ p.f2.length <= 5
theorem pV {r : List bC} (h1 : r.length <= 1000) (h2 : ∀ p ∈ r, p.f0.length <= 4 /\ p.f1.length <= 4 /\ p.f2.length <= 5) : kM r = true := by
 unfold kM zP;simp only [Bool.and_eq_true, decide_eq_true_eq, List.all_eq_true];exact ⟨⟨by omega, fun p hp => by have := h2 p hp; omega⟩, by omega⟩
theorem Ff {t : PT} (h : EG t) (hl : (aX t).length <= 41) : vU (iM t 0) := by
 obtain ⟨a, b⟩ := Mj h hl;refine ⟨fun e => ?_, a, b⟩;have := uK t 0;rw [e] at this;have := t.fB;simp at *;omega
theorem IP {P : List bC} {a b : ByteArray} (hP : P.length <= 1000) (h : (zS (mq P) a b).2 = true) : vU (zS (mq P) a b).1 := by
 cases ho : mq P with
 | none => rw [ho] at h; cases h
 | some t =>
  rw [ho] at h;obtain ⟨h1, h2⟩ := jX (by omega) ho;obtain ⟨q1, q2⟩ := tH h1 a b;unfold zS at h ⊢;simp only at h ⊢
  split at h
  ·rename_i c
   rw [if_pos c]
   split at h
   ·cases h
   ·rename_i c2
    rw [if_neg c2];refine Ff q1 ?_;rw [q2];have := nT (k := a) (v := b) (aX t);omega
  ·cases h
theorem Fg {P : List bC} {a : ByteArray} (hP : P.length <= 1000) (h : (uj (mq P) a).2 = true) : vU (uj (mq P) a).1 := by
 cases ho : mq P with
 | none => rw [ho] at h; cases h
 | some t =>
  rw [ho] at h;obtain ⟨h1, h2⟩ := jX (by omega) ho;unfold uj at h ⊢;simp only at h ⊢
  split at h
  ·rename_i c
   rw [if_pos c];obtain ⟨r, e1, q1, q2⟩ := uJ h1 (l9.1 c);rw [e1] at h ⊢;refine Ff q1 ?_;rw [q2];have : (kz a (aX t)).length <= (aX t).length := List.length_filter_le _ _;omega
  ·cases h
end Go.Proofs.Ytoddejmlcnbdmaa.Pure
namespace Go.Proofs.Ytoddejmlcnbdmaa.Tree
open Go.Proofs.Ytoddejmlcnbdmaa.Pure (vU pV IP Fg Fe Mk IM sw jJ)
def Cv (w0 w W : World) (g : Nat) (s : List Int) (m : Int) (gs : List (List Ck)) : Prop := Pure.Code s /\ ∃ p q, 0 <= p /\ p <= m /\ Cu w0 w W g s p q gs
section
variable {w0 w W W1 : World} {g : Nat} {s : List Int} {m : Int} {gs gs1 : List (List Ck)}
theorem Cv.S (h : Cv w0 w W g s m gs) : aa W w.heap.size gs := by
 obtain ⟨_, p, q, _, _, h⟩ := h;exact h.S
theorem Cv.via (h : Cv w0 w W g s m gs) (f : ∀ {p q : Int}, Cu w0 w W g s p q gs -> Cu w0 w W1 g s p q gs1) : Cv w0 w W1 g s m gs1 := by
 obtain ⟨hc, p, q, h1, h2, h⟩ := h;exact ⟨hc, p, q, h1, h2, f h⟩
theorem Cv.to (h : Cv w0 w W g s m gs) (hs : aa W w.heap.size gs1) : Cv w0 w W g s m gs1 := h.via fun h => h.to hs
theorem Cv.gJ (h : Cv w0 w W g s m gs) (is : List Nat) (hn : is.Nodup) : Cv w0 w W g s m (gJ gs is) := h.to (h.S.gJ is hn)
theorem Cv.under (h : Cv w0 w W g s m gs) (hb : Below W.heap.size W W1) : Cv w0 w W1 g s m gs := h.via fun h => h.under hb
theorem Cv.drew (h : Cv w0 w W g s m gs) : Cv w0 w W.drew g s m gs := h.via fun h => h.drew
theorem Cv.size (h : Cv w0 w W g s m gs) : w.heap.size <= W.heap.size := by
 obtain ⟨_, p, q, _, _, h⟩ := h;exact h.size
theorem Cv.box (h : Cv w0 w W g s m gs) {T b : Nat} {cs : Array Value} (hg : b = W.heap.size) (aA : W1.heap[b]? = some (.cells cs T (0, 0))) (hb : Below W.heap.size W W1) : Cv w0 w W1 g s m (gs ++ [[.box T b cs]]) := h.via fun h => h.box hg aA hb
theorem Cv.put (h : Cv w0 w W g s m gs) (i : Nat) {T b : Nat} {cs : Array Value} (hi : gs[i]? = some [.box T b cs]) (j : Nat) (u : Value) : Cv w0 w (W.setCell ⟨b, j, none⟩ u) g s m (gs.set i [.box T b (cs.setIfInBounds j u)]) := h.via fun h => h.put i hi j u rfl
theorem Cv.lit (h : Cv w0 w W g s m gs) {v : Value} {l : List ByteArray} (hb : Below W.heap.size W W1) (ho : Kd.string.R 9 W1 W.heap.size (fun _ => True) v l) : Cv w0 w W1 g s m (gs ++ [[txt v l]]) :=
 (h.under hb).to (h.S.eG hb h.size ho)
theorem Cv.z (h : Cv w0 w W g s m gs) (i : Nat) {T b : Nat} {v : Value} (hi : gs[i]? = some [.box T b #[v]]) : W.cell? ⟨b, 0, none⟩ = some v := (h.S.z i hi 0).trans rfl
theorem Cv.f (h : Cv w0 w W g s m gs) (i : Nat) {T b : Nat} {v : Value} (hi : gs[i]? = some [.box T b #[v]]) : W.frozen? ⟨b, 0, none⟩ = false := h.S.f i hi 0
theorem Cv.made (h : Cv w0 w W g s m gs) (hb : Below W.heap.size W W1) {v : Value} {r : List bC} (ho : iZ W1 W.heap.size v r) : ∃ A c pgs, v = .slice A (List.length pgs) c /\ List.map Pg.erase pgs = r /\ Cv w0 w W1 g s m (gs ++ [bK v pgs]) := by
 obtain ⟨A, c, pgs, h1, h2, h3⟩ := ho;exact ⟨A, c, pgs, h1, h2, (h.under hb).to (h.S.new hb h.size h3)⟩
theorem Cv.uO (h : Cv w0 w W g s m gs) (hm : m <= 1000000) : Calls Try.prog 89 #[.pointer (some ⟨g, 0, none⟩)] W fun e W1 => ∃ x, e = .returned (.string x) /\ jJ x = true /\ Cv w0 w W1 g s (m + 2) gs := by
 obtain ⟨hc, p, q, h1, h2, h⟩ := h;obtain ⟨x, p', q', e, b1, b2, b3⟩ := Fe s hc p q h1 (by omega)
 exact (kC.calls g s p q x p' q' w0 W h.I h.B e).mono fun e W1 ⟨e1, i, b, k⟩ => ⟨x, e1, b3, hc, p', q', by omega, by omega, h.cur i b k⟩
theorem Cv.one (h : Cv w0 w W g s m gs) (hm : m <= 1000000) (n : Int) : Calls Try.prog 91 #[.pointer (some ⟨g, 0, none⟩), .int .i64 n] W fun e W1 => ∃ x, e = .returned (.bool x) /\ Cv w0 w W1 g s (m + 2) gs := by
 obtain ⟨hc, p, q, h1, h2, h⟩ := h;obtain ⟨x, p', q', e, b1, b2⟩ := IM s hc p q h1 (by omega) n
 exact (lF.calls g s p q n x p' q' w0 W h.I h.B e).mono fun e W1 ⟨e1, i, b, k⟩ => ⟨x, e1, hc, p', q', by omega, by omega, h.cur i b k⟩
theorem Cv.pick (h : Cv w0 w W g s m gs) (hm : m <= 1000000) (n : Int) (hn : 0 < n) : Calls Try.prog 92 #[.pointer (some ⟨g, 0, none⟩), .int .i64 n] W fun e W1 => ∃ x : Nat, e = .returned (.int .i64 (x : Int)) /\ (x : Int) < n /\ Cv w0 w W1 g s (m + 2) gs := by
 obtain ⟨hc, p, q, h1, h2, h⟩ := h;obtain ⟨x, p', q', e, b1, b2, b3, b4, _⟩ := sw s hc p q h1 (by omega) n;have hx : ((x.toNat : Nat) : Int) = x := by omega
 exact (dn.calls g s p q n x p' q' w0 W h.I h.B e).mono fun e W1 ⟨e1, i, b, k⟩ => ⟨x.toNat, by rw [hx]; exact e1, by rw [hx]; exact b4 hn, hc, p', q', by omega, by omega, h.cur i b k⟩
theorem Cv.of (h : Cv w0 w W g s m gs) (hm : m <= 1000000) (i : Nat) {A : Option Addr} {n c : Nat} {l : List ByteArray} (hi : gs[i]? = some [txt (.slice A n c) l]) (hl : 0 < l.length) : Calls Try.prog 88 #[.pointer (some ⟨g, 0, none⟩), .slice A n c] W fun e W1 => ∃ x, e = .returned (.string x) /\ Cv w0 w W1 g s (m + 2) gs := by
 obtain ⟨hc, p, q, h1, h2, h⟩ := h;obtain ⟨x, p', q', e, b1, b2⟩ := Mk s hc p q h1 (by omega) l hl;obtain ⟨rfl, hn, hC⟩ := h.S.row i hi
 have hge : ∀ ad, A = some ad -> 0 < l.length -> ad.block ≠ g := by
  intro ad e _ eb;subst e;have ho : W.ownsRow w.heap.size 9 1 (.slice (some ad) l.length c) (encs Value.string l).length (encs Value.string l) := (h.S.at i hi).ok _ List.mem_cons_self;rw [bY] at ho;obtain ⟨g', e'⟩ := si ho hl;have hb := (h.S.at i hi).ge (k := g') ⟨_, List.mem_singleton_self _, by rw [e']; simp [Ck.blk, Value.ownBlock]⟩;have := h.lt
  injection e' with e'
  subst e';have eb : g' = g := eb;omega
 exact (ma.calls g s p q A c l x p' q' w0 W h.I h.B hC hn hge e).mono fun e W1 ⟨e1, i, b, k⟩ => ⟨x, e1, hc, p', q', by omega, by omega, h.cur i b k⟩
end
section
variable {P : Program} {ops : Array Oper} {Q : Exit -> Act -> World -> Prop} {o : Oper} {a : Act} {W : World} {Kc : Act -> World -> Prop}
theorem zT (N n : Nat) (xs : List ByteArray) (h : ∀ A c w1, Kd.string.R 9 w1 W.heap.size (fun _ => True) (.slice A n c) xs -> Below W.heap.size W w1 -> Kc (a.put o.dst (.slice A n c)) w1)
  (hn : xs.length = n := by rfl) (hl : n <= 1000 := by decide) (hw : Region.wanted o (yielded ops a.tmps) = true := by rfl) (hd : o.dst = some N := by rfl)
  (hrun : (execOp a.eval o).run P W = .ok (.value (.slice (some ⟨W.heap.size, 0, none⟩) xs.length xs.length)) (W.alloc (.cells (xs.map Value.string).toArray 9)) := by first | (go_simp; done) | (go_simp; rfl)) : if Region.wanted o (yielded ops a.tmps) = true then Oper.wp P o a W Kc Q else Kc (a.put o.dst undef) W := by
 subst hn
 exact Kd.dO Kd.string (w0 := W) W.heap.size 9 hw hd (inner := xs.map Value.string) (ok := fun _ => True) (okp := fun _ => False) hrun (Kd.aY (enc := Value.string) xs) (fun _ h => h.elim) trivial (Below.refl _ _) (Nat.le_refl _) (by omega) fun v1 w1 ho hb _ _ => by
  obtain ⟨A, c, rfl⟩ := Kd.ak ho;exact h A c w1 ho hb
end
section
variable {w0 w W W1 : World} {g : Nat} {s : List Int} {m : Int} {gs gs1 : List (List Ck)}
theorem Cw {v : Value} {pgs : List Pg} {A : Option Addr} {c base : Nat} (h : Sat W base (bK (.slice A pgs.length c) pgs)) : Kd.C j4 W A (pgs.map Pg.erase).length (pgs.map Pg.erase) /\ (pgs.map Pg.erase).length <= c := by
 have h1 := Kd.PI (RU h);obtain ⟨e1, e2, e3⟩ := h1;exact ⟨e3, by rw [List.length_map]; exact e2⟩
theorem Cv.putKey (h : Cv w0 w W g s m gs) (i : Nat) {A : Option Addr} {c : Nat} {pgs : List Pg} (hi : gs[i]? = some (bK (.slice A pgs.length c) pgs)) (hn : vU (pgs.map Pg.erase)) (k v : ByteArray) :
  Calls Try.prog 36 #[.agg #[.slice A pgs.length c], .string k, .string v] W fun e W1 => ∃ A2 c2 dY ok, e = .returned (.tuple #[.agg #[.slice A2 (List.length dY) c2], .bool ok]) /\ (ok = true -> vU (dY.map Pg.erase)) /\ Cv w0 w W1 g s m (gs ++ [bK (.slice A2 dY.length c2) dY]) := by
 obtain ⟨q1, q2⟩ := Cw (v := .slice none 0 0) (h.S.at i hi);have hf : iN.f (pgs.map Pg.erase) k v = some ((zS (mq (pgs.map Pg.erase)) k v).1, (zS (mq (pgs.map Pg.erase)) k v).2) := by unfold iN.f; rw [if_pos (pV hn.2.1 hn.2.2)]
 have hC := iN.oZ A c _ k v _ _ W q1 q2 hf;rw [List.length_map] at hC
 refine hC.mono fun e W1 ⟨v0, e1, ho, hb⟩ => ?_
 obtain ⟨A2, c2, dY, rfl, e3, h3⟩ := h.made hb ho;exact ⟨A2, c2, dY, _, e1, fun he => by rw [e3]; exact IP hn.2.1 he, h3⟩
theorem Cv.dropKey (h : Cv w0 w W g s m gs) (i : Nat) {A : Option Addr} {c : Nat} {pgs : List Pg} (hi : gs[i]? = some (bK (.slice A pgs.length c) pgs)) (hn : vU (pgs.map Pg.erase)) (k : ByteArray) :
  Calls Try.prog 39 #[.agg #[.slice A pgs.length c], .string k] W fun e W1 => ∃ A2 c2 dY ok, e = .returned (.tuple #[.agg #[.slice A2 (List.length dY) c2], .bool ok]) /\ (ok = true -> vU (dY.map Pg.erase)) /\ Cv w0 w W1 g s m (gs ++ [bK (.slice A2 dY.length c2) dY]) := by
 obtain ⟨q1, q2⟩ := Cw (v := .slice none 0 0) (h.S.at i hi);have hf : gY.f (pgs.map Pg.erase) k = some ((uj (mq (pgs.map Pg.erase)) k).1, (uj (mq (pgs.map Pg.erase)) k).2) := by unfold gY.f; rw [if_pos (pV hn.2.1 hn.2.2)]
 have hC := gY.oZ A c _ k _ _ W q1 q2 hf;rw [List.length_map] at hC
 refine hC.mono fun e W1 ⟨v0, e1, ho, hb⟩ => ?_
 obtain ⟨A2, c2, dY, rfl, e3, h3⟩ := h.made hb ho;exact ⟨A2, c2, dY, _, e1, fun he => by rw [e3]; exact Fg hn.2.1 he, h3⟩
theorem Cv.Sc (h : Cv w0 w W g s m gs) (k v : ByteArray) (hk : jJ k = true) (hv : v.size <= 12) :
  Calls Try.prog 55 #[.string k, .string v] W fun e W1 => ∃ A2 c2 dY, e = .returned (.tuple #[.agg #[.slice A2 (List.length dY) c2], .bool true]) /\ vU (dY.map Pg.erase) /\ Cv w0 w W1 g s m (gs ++ [bK (.slice A2 dY.length c2) dY]) := by
 have hp : oF k v = true := by rw [Pure.rP, hk]; exact decide_eq_true hv
 have hC := Gj.oZ k v W;unfold R8 at hC;rw [if_pos hp] at hC
 refine hC.mono fun e W1 ⟨v0, e1, ho, hb⟩ => ?_
 obtain ⟨A2, c2, dY, rfl, e3, h3⟩ := h.made hb ho;exact ⟨A2, c2, dY, e1, by rw [e3]; exact ⟨by simp, by simp, fun p hp => by rw [List.mem_singleton.1 hp]; simp⟩, h3⟩
end
open Go.Proofs.Ytoddejmlcnbdmaa.Pure (vU pV)
def YT (w : World) (base : Nat) (A : Option Addr) (r : List bC) : Prop := ∀ W : World, (∀ k, base <= k -> k < w.heap.size -> W.heap[k]? = w.heap[k]?) -> Kd.C j4 W A r.length r
theorem YT.C {w : World} {base : Nat} {A : Option Addr} {r : List bC} (h : YT w base A r) : Kd.C j4 w A r.length r := h w fun _ _ _ => rfl
def AV (w0 w : World) (g : Nat) (s : List Int) (e : Ending) (w' : World) : Prop := ∃ A c pgs n, e = .returned (.agg #[.slice A n c]) /\ n <= List.length pgs /\ pgs.length <= 1000 /\ (∀ p ∈ pgs.map Pg.erase, p.f0.length <= 4 /\ p.f1.length <= 4 /\ p.f2.length <= 5) /\ Cv w0 w w' g s 200000 [bK (.slice A pgs.length c) pgs]
abbrev t3 (b2 b3 : Nat) (A : Option Addr) (c : Nat) (pgs : List Pg) (X : List (List Ck)) : List (List Ck) := [.box 29 b2 #[.slice none 0 0]] :: [.box 29 b3 #[.slice A pgs.length c]] :: bK (.slice A pgs.length c) pgs :: X
abbrev tb (b : Nat) : List Ck := [.box 29 b #[.slice none 0 0]]
abbrev tl (v : Value) : List Ck := [txt v [⟨#[]⟩, ⟨#[49]⟩, ⟨#[50, 50]⟩]]
section
variable {w0 w W : World} {g b2 b3 : Nat} {s : List Int} {m m1 : Int} {gs : List (List Ck)} {A : Option Addr} {c : Nat}
theorem Cv.le (h : Cv w0 w W g s m gs) (e : m <= m1) : Cv w0 w W g s m1 gs := by
 obtain ⟨hc, p, q, h1, h2, h⟩ := h;exact ⟨hc, p, q, h1, by omega, h⟩
theorem Cv.pages {v : Value} {p : Pg} {B : List Pg} {X : List (List Ck)} (h : Cv w0 w W g s m (X ++ [bK v (p :: B)])) : Cv w0 w W g s m (X ++ [[nI v (p :: B)], [txt p.kv p.ks], [txt p.vv p.vs], [ints p.cv p.cs], iY B]) := h.to (by
 have h := h.S;unfold aa at *;simp only [List.flatten_append, List.flatten_cons, List.flatten_nil, List.append_nil] at h ⊢
 exact h)
theorem Cv.whole {v : Value} {p : Pg} {B : List Pg} {X : List (List Ck)} (h : Cv w0 w W g s m (X ++ [[nI v (p :: B)], [txt p.kv p.ks], [txt p.vv p.vs], [ints p.cv p.cs], iY B])) : Cv w0 w W g s m (X ++ [bK v (p :: B)]) := h.to (by
 have h := h.S;unfold aa at *;simp only [List.flatten_append, List.flatten_cons, List.flatten_nil, List.append_nil] at h ⊢
 exact h)
theorem Cu.set {p q : Int} {gs1 : List (List Ck)} (h : Cu w0 w W g s p q gs) {b j : Nat} (u : Value) (h1 : w.heap.size <= b) (hs : aa (W.setCell ⟨b, j, none⟩ u) w.heap.size gs1) : Cu w0 w (W.setCell ⟨b, j, none⟩ u) g s p q gs1 := by
 have hk : Kept W (W.setCell ⟨b, j, none⟩ u) (fun k => k = b) := (Kept.refl W (fun k => k = b)).setCell (p := ⟨b, j, none⟩) (.inl rfl) u;have h2 : w0.heap.size <= b := Nat.le_trans (by have := h.I; obtain ⟨_, _, _, h5, _⟩ := this; exact Nat.le_trans h5 (Nat.le_of_lt h.lt)) h1;refine ⟨h.I.kept hk (fun e => by have := h.lt; omega), bF h.B h2, ?_, hs, h.lt⟩;exact Kept.keep (S2 := fun k => k = b) h.K hk (fun k e => by rw [e]; exact h1)
theorem Cv.nM (h : Cv w0 w W g s m gs) (i : Nat) {g1 n c : Nat} {l : List ByteArray} (hi : gs[i]? = some [txt (.slice (some ⟨g1, 0, none⟩) n c) l]) (x : ByteArray) (hl : 0 < l.length) : Cv w0 w (W.setCell ⟨g1, 0, none⟩ (.string x)) g s m (gs.set i [txt (.slice (some ⟨g1, 0, none⟩) n c) (l.set 0 x)]) := by
 obtain ⟨hc, p, q, h1, h2, h⟩ := h;refine ⟨hc, p, q, h1, h2, h.set _ ((h.S.at i hi).ge (k := g1) ⟨_, List.mem_singleton_self _, by simp [Ck.blk, Value.ownBlock]⟩) (h.S.nM i hi 0 x rfl)⟩
theorem IQ {pgs : List Pg} (h : Cv w0 w W g s m gs) (i : Nat) (hi : gs[i]? = some (bK (.slice A pgs.length c) pgs)) (hm : m <= 200000) (h1 : pgs.length <= 1000) (h2 : ∀ p ∈ pgs.map Pg.erase, p.f0.length <= 4 /\ p.f1.length <= 4 /\ p.f2.length <= 5) (n : Nat) (hn : n <= pgs.length) : AV w0 w g s (.returned (.agg #[.slice A n c])) W :=
 ⟨A, c, pgs, n, rfl, hn, h1, h2, (h.to (gs1 := [bK (.slice A pgs.length c) pgs]) (by have := h.S.at i hi; unfold aa; simpa using this)).le hm⟩
theorem Cx {pgs : List Pg} (h : Cv w0 w W g s m gs) (i : Nat) (hi : gs[i]? = some (bK (.slice A pgs.length c) pgs)) (hm : m <= 200000) (h1 : pgs.length <= 1000) (h2 : ∀ p ∈ pgs.map Pg.erase, p.f0.length <= 4 /\ p.f1.length <= 4 /\ p.f2.length <= 5) : AV w0 w g s (.returned (.agg #[.slice A pgs.length c])) W := IQ h i hi hm h1 h2 _ (Nat.le_refl _)
theorem Ml {pgs : List Pg} {base n : Nat} (h : Sat W base (bK (.slice A pgs.length c) pgs)) (hn : n <= pgs.length) : YT W base A ((pgs.map Pg.erase).take n) := fun W' hk => Kd.Ui (Cw (v := .slice none 0 0) (h.move (w1 := W') fun k hb hl => hk k (h.ge hb) hl)).1 (by rw [List.length_map]; exact hn)
end
theorem zU.runs (s : List Int) (hc : Pure.Code s) (g : Nat) (p q : Int) (h0 : 0 <= p) (h1 : p <= 100000) (w0 w : World) (hI : aK w0 w g s p q) (hB : Below w0.heap.size w0 w) :
  Calls Try.prog 87 #[.pointer (some ⟨g, 0, none⟩)] w (AV w0 w g s) := by
 have hlt : g < w.heap.size := by
  obtain ⟨_, _, hb, _⟩ := hI;exact gU hb
 have HC : af (Cv w0 w w g s 100000 []) := ⟨hc, p, q, h0, h1, hI, hB, bg.refl w g none, Sat.nil _ _, hlt⟩
 clear hc h0 h1 hI hB hlt;go_enter Try.func87, Try.ntmps87
 go_upto_region 2 with (first | (refine jl 2 #[.slice none 0 0] 29 ?_; intro b2 hg w1 aA hb; have ah : af (Cv w0 w w1 g s 100000 [tb b2]) := ⟨HC.out.box hg aA hb⟩; clear HC hg aA hb; have HC := ah; clear ah) | (go_at_call 89; (with_reducible refine (HC.out.uO (by omega)).mono ?_); rintro e w2 ⟨k0, rfl, hk0, hc⟩; have ah : af (Cv w0 w w2 g s 100002 [tb b2]) := ⟨hc⟩; clear HC hc; have HC := ah; clear ah; have GG := A_ hk0; clear hk0) | (go_at_call 55; (with_reducible refine (HC.out.Sc k0 ⟨#[118]⟩ GG.out (by decide)).mono ?_); rintro e w3 ⟨A, c, pgs, rfl, hn, hc⟩; have ah : af (Cv w0 w w3 g s 100002 [tb b2, bK (.slice A pgs.length c) pgs]) := ⟨hc⟩; clear HC hc; have HC := ah; clear ah; have HN := A_ hn; clear hn GG) | (refine jl 3 #[.slice none 0 0] 29 ?_; intro b3 hg w4 aA hb; have ah : af (Cv w0 w w4 g s 100002 [tb b2, bK (.slice A pgs.length c) pgs, tb b3]) := ⟨HC.out.box hg aA hb⟩; clear HC hg aA hb; have HC := ah; clear ah; have hz3 := HC.out.z 2 rfl; have hf3 := HC.out.f 2 rfl))
 have ah : af (Cv w0 w (World.setCell w4 ⟨b3, 0, none⟩ (.slice A pgs.length c)) g s 100002 (t3 b2 b3 A c pgs [])) := ⟨(HC.out.put 2 rfl 0 _).gJ [0, 2, 1] (by decide)⟩
 generalize World.setCell w4 ⟨b3, 0, none⟩ (.slice A pgs.length c) = w5 at ah ⊢;clear HC hz3 hf3;have HC := ah;clear ah
 go_upto_if 19 with (first | (go_at_call 92; (with_reducible refine (HC.out.pick (by omega) 20 (by omega)).mono ?_); rintro e w6 ⟨n, rfl, hn, hc⟩; have ah : af (Cv w0 w w6 g s 100004 (t3 b2 b3 A c pgs [])) := ⟨hc⟩; clear HC hc; have HC := ah; clear ah; have HX := A_ hn; clear hn) | (go_at_call 91; (with_reducible refine (HC.out.one (by omega) 6).mono ?_); rintro e w7 ⟨o, rfl, hc⟩; have ah : af (Cv w0 w w7 g s 100006 (t3 b2 b3 A c pgs [])) := ⟨hc⟩; clear HC hc; have HC := ah; clear ah))
 go_cut [5] (fun v5 wc => ∃ n : Nat, v5 = .int .i64 (n : Int) /\ af (n <= 40) /\ af (Cv w0 w wc g s 100006 (t3 b2 b3 A c pgs [])))
 case first =>
  cases o with
  | true =>
   go_wp2
   go_meet
   case rel => exact ⟨40, rfl, ⟨by omega⟩, HC⟩
  | false =>
   go_wp2
   go_meet
   case rel => exact ⟨n, rfl, ⟨by have := HX.out; omega⟩, HC⟩
 case rest =>
  clear HC HX;obtain ⟨n, rfl, HX, HC⟩ := hcut;go_wp2
  go_loopg [5] n (fun kq v5 w' => ∃ (i : Nat) (A : Option Addr) (c : Nat) (pgs : List Pg), v5 = .int .i64 (i : Int) /\ af (i = kq /\ i <= 40) /\ af (vU (pgs.map Pg.erase)) /\ af (Cv w0 w w' g s (100006 + 8 * (40 - (i : Int))) (t3 b2 b3 A c pgs [])))
  case atStart => exact ⟨n, A, c, pgs, by first | rfl | (simp; done), ⟨rfl, HX.out⟩, HN, ⟨HC.out.le (by have := HX.out; omega)⟩⟩
  case round =>
   clear HC HN HX;obtain ⟨i, A, c, pgs, rfl, HI, HN, HC⟩ := hrel
   by_cases hi : 0 < i
   ·have c_ := lQ (0 < (i : Int))
    have K4 : (0 < i) = True := eq_true hi
    obtain ⟨m, hm⟩ : ∃ m : Int, m = (100006 + 8 * (40 - (i : Int))) := ⟨_, rfl⟩
    rw [<- hm] at HC
    have HM : af (m = (100006 + 8 * (40 - (i : Int))) /\ m <= 100400) := ⟨hm, by omega⟩
    have HP := A_ hi;clear hm hi
    go_upto_region 7 with fail
    replace HC := A_ (HC.out.drew);refine bS (n := 13) (S := fun w' => w'.cell? ⟨b3, 0, none⟩ = some (.slice A pgs.length c)) (ds := [11]) (bt 13 0) (by kernel_rfl) rfl rfl (HC.out.z 1 rfl) (fun hHeld => ?_);generalize World.drew _ = wd at HC hHeld ⊢;refine aH 1 26 2 ?_;refine aH 3 28 10 ?_;refine fq 0 25 11 hHeld ?_;refine gQ (σ := ByteArray × Value × ByteArray × Value × Bool × Nat) 2 (bt 13 2047) (fun s_ => [(27, .string s_.1), (29, s_.2.1), (30, .string s_.2.2.1), (31, .tuple #[.agg #[s_.2.2.2.1], .bool s_.2.2.2.2.1]), (24, .tuple #[.agg #[s_.2.2.2.1], .bool s_.2.2.2.2.1]), (32, .agg #[s_.2.2.2.1]), (33, .bool s_.2.2.2.2.1), (6, .pointer (some ⟨s_.2.2.2.2.2, 0, none⟩))]) (fun s_ w' => ∃ A2 c2 dY, s_.2.2.2.1 = .slice A2 (List.length dY) c2 /\ (s_.2.2.2.2.1 = true -> vU (dY.map Pg.erase)) /\ Cv w0 w w' g s (m + 2 + 2) (t3 b2 b3 A c pgs [tb s_.2.2.2.2.2, bK (.slice A2 dY.length c2) dY])) ?_ ?_;rotate_left
    ·intro hJ2_4_5_6_10
     refine gQ (σ := ByteArray × Value × ByteArray × Value × Bool) 3 (bt 13 1023) (fun s_ => [(27, .string s_.1), (29, s_.2.1), (30, .string s_.2.2.1), (31, .tuple #[.agg #[s_.2.2.2.1], .bool s_.2.2.2.2]), (24, .tuple #[.agg #[s_.2.2.2.1], .bool s_.2.2.2.2]), (32, .agg #[s_.2.2.2.1]), (33, .bool s_.2.2.2.2)]) (fun s_ w' => ∃ A2 c2 dY, s_.2.2.2.1 = .slice A2 (List.length dY) c2 /\ (s_.2.2.2.2 = true -> vU (dY.map Pg.erase)) /\ Cv w0 w w' g s (m + 2 + 2) (t3 b2 b3 A c pgs [bK (.slice A2 dY.length c2) dY])) ?_ ?_;rotate_left
     ·intro hJ2_4_5_6
      refine gQ (σ := ByteArray × Value × ByteArray × Nat) 6 (bt 13 1087) (fun s_ => [(27, .string s_.1), (29, s_.2.1), (30, .string s_.2.2.1), (6, .pointer (some ⟨s_.2.2.2, 0, none⟩))]) (fun s_ w' => Cv w0 w w' g s (m + 2 + 2) (t3 b2 b3 A c pgs [tl s_.2.1, tb s_.2.2.2])) ?_ ?_;rotate_left
      ·intro hJ2_4_5_10
       refine gQ (σ := ByteArray × Value × ByteArray) 7 (bt 13 63) (fun s_ => [(27, .string s_.1), (29, s_.2.1), (30, .string s_.2.2)]) (fun s_ w' => Cv w0 w w' g s (m + 2 + 2) (t3 b2 b3 A c pgs [tl s_.2.1])) ?_ ?_;rotate_left
       ·intro hJ2_4_5
        refine gQ (σ := ByteArray × Value × Nat) 7 (bt 13 1055) (fun s_ => [(27, .string s_.1), (29, s_.2.1), (6, .pointer (some ⟨s_.2.2, 0, none⟩))]) (fun s_ w' => (∃ A1 c1, s_.2.1 = .slice A1 3 c1) /\ Cv w0 w w' g s (m + 2) (t3 b2 b3 A c pgs [tl s_.2.1, tb s_.2.2])) ?_ ?_;rotate_left
        ·intro Du
         refine gQ (σ := ByteArray × Value) 8 (bt 13 31) (fun s_ => [(27, .string s_.1), (29, s_.2)]) (fun s_ w' => (∃ A1 c1, s_.2 = .slice A1 3 c1) /\ Cv w0 w w' g s (m + 2) (t3 b2 b3 A c pgs [tl s_.2])) ?_ ?_;rotate_left
         ·intro hJ2_4
          refine gQ (σ := ByteArray × Nat) 8 (bt 13 1039) (fun s_ => [(27, .string s_.1), (6, .pointer (some ⟨s_.2, 0, none⟩))]) (fun s_ w' => Cv w0 w w' g s (m + 2) (t3 b2 b3 A c pgs [tb s_.2])) ?_ ?_;rotate_left
          ·intro hJ2_10
           refine gQ (σ := Value × Nat) 8 (bt 13 1051) (fun s_ => [(29, s_.1), (6, .pointer (some ⟨s_.2, 0, none⟩))]) (fun s_ w' => (∃ A1 c1, s_.1 = .slice A1 3 c1) /\ Cv w0 w w' g s m (t3 b2 b3 A c pgs [tl s_.1, tb s_.2])) ?_ ?_;rotate_left
           ·intro hJ4_10
            refine gQ (σ := ByteArray) 9 (bt 13 15) (fun s_ => [(27, .string s_)]) (fun s_ w' => Cv w0 w w' g s (m + 2) (t3 b2 b3 A c pgs [])) ?_ ?_;rotate_left
            ·intro hJ2
             refine gQ (σ := Value) 9 (bt 13 27) (fun s_ => [(29, s_)]) (fun s_ w' => (∃ A1 c1, s_ = .slice A1 3 c1) /\ Cv w0 w w' g s m (t3 b2 b3 A c pgs [tl s_])) ?_ ?_;rotate_left
             ·intro hJ4
              refine gQ (σ := Nat) 9 (bt 13 1035) (fun s_ => [(6, .pointer (some ⟨s_, 0, none⟩))]) (fun s_ w' => Cv w0 w w' g s m (t3 b2 b3 A c pgs [tb s_])) ?_ ?_;rotate_left
              ·intro hJ10
               refine Uj (i := 2) (j := 4) (k := 10) (Ni := some 27) (Nj := some 29) (Nk := some 6) (bt 13 15) (bt 13 27) (bt 13 1035) rfl rfl rfl rfl rfl rfl (by kernel_rfl) (by decide) (by decide) (by decide) (fun K hK => ?_) (fun K hK => ?_) (fun K hK => ?_)
               ·skip
                refine lI Try.func89 #[.pointer (some ⟨g, 0, none⟩)] ?_
                with_reducible refine (HC.out.uO (by have := HM.out; omega)).mono ?_
                rintro e w9 ⟨kx, rfl, -, hc⟩;refine ⟨_, rfl, ?_⟩;replace HC := A_ (hc);clear hc;refine dh 27 hK (HC.out.z 1 rfl) (fun hHeld => ?_);exact qC (hJ2 kx _ HC.out)
               ·skip
                refine zT 29 3 [⟨#[]⟩, ⟨#[49]⟩, ⟨#[50, 50]⟩] ?_;intro A1 c1 w9 ho hb;replace HC := A_ (HC.out.lit hb ho);clear ho hb;refine dh 29 hK (HC.out.z 1 rfl) (fun hHeld => ?_);exact qC (hJ4 (.slice A1 3 c1) _ ⟨⟨A1, c1, rfl⟩, HC.out⟩)
               ·skip
                refine wK 6 #[.slice none 0 0] 29 ?_;intro bx hg w9 aA hb;replace HC := A_ (HC.out.box hg aA hb);clear hg aA hb;refine dh 6 hK (HC.out.z 1 rfl) (fun hHeld => ?_);exact qC (hJ10 bx _ HC.out)
              ·skip
               rintro bx wj hc;have HC := A_ hc;have hHeld := hc.z 1 rfl;clear hc;refine uq ?_;refine ve 2 4 (some 27) (some 29) 1039 1051 (fun K hK => ?_) (fun K hK => ?_)
               ·skip
                refine lI Try.func89 #[.pointer (some ⟨g, 0, none⟩)] ?_
                with_reducible refine (HC.out.uO (by have := HM.out; omega)).mono ?_
                rintro e w9 ⟨kx, rfl, -, hc⟩;refine ⟨_, rfl, ?_⟩;replace HC := A_ (hc);clear hc;refine dh 27 hK (HC.out.z 1 rfl) (fun hHeld => ?_);exact qC (hJ2_10 (⟨kx, bx⟩) _ HC.out)
               ·skip
                refine zT 29 3 [⟨#[]⟩, ⟨#[49]⟩, ⟨#[50, 50]⟩] ?_;intro A1 c1 w9 ho hb;replace HC := A_ ((HC.out.lit hb ho).gJ [0, 1, 2, 4, 3] (by decide));clear ho hb;refine dh 29 hK (HC.out.z 1 rfl) (fun hHeld => ?_);exact qC (hJ4_10 (⟨(.slice A1 3 c1), bx⟩) _ ⟨⟨A1, c1, rfl⟩, HC.out⟩)
             ·skip
              rintro lv wj ⟨⟨A1, c1, rfl⟩, hc⟩;have HC := A_ hc;have hHeld := hc.z 1 rfl;clear hc;refine uq ?_;refine ve 2 10 (some 27) (some 6) 31 1051 (fun K hK => ?_) (fun K hK => ?_)
              ·skip
               refine lI Try.func89 #[.pointer (some ⟨g, 0, none⟩)] ?_
               with_reducible refine (HC.out.uO (by have := HM.out; omega)).mono ?_
               rintro e w9 ⟨kx, rfl, -, hc⟩;refine ⟨_, rfl, ?_⟩;replace HC := A_ (hc);clear hc;refine dh 27 hK (HC.out.z 1 rfl) (fun hHeld => ?_);exact qC (hJ2_4 (⟨kx, (.slice A1 3 c1)⟩) _ ⟨⟨A1, c1, rfl⟩, HC.out⟩)
              ·skip
               refine wK 6 #[.slice none 0 0] 29 ?_;intro bx hg w9 aA hb;replace HC := A_ (HC.out.box hg aA hb);clear hg aA hb;refine dh 6 hK (HC.out.z 1 rfl) (fun hHeld => ?_);exact qC (hJ4_10 (⟨(.slice A1 3 c1), bx⟩) _ ⟨⟨A1, c1, rfl⟩, HC.out⟩)
            ·skip
             rintro kx wj hc;have HC := A_ hc;have hHeld := hc.z 1 rfl;clear hc;refine uq ?_;refine ve 4 10 (some 29) (some 6) 31 1039 (fun K hK => ?_) (fun K hK => ?_)
             ·skip
              refine zT 29 3 [⟨#[]⟩, ⟨#[49]⟩, ⟨#[50, 50]⟩] ?_;intro A1 c1 w9 ho hb;replace HC := A_ (HC.out.lit hb ho);clear ho hb;refine dh 29 hK (HC.out.z 1 rfl) (fun hHeld => ?_);exact qC (hJ2_4 (⟨kx, (.slice A1 3 c1)⟩) _ ⟨⟨A1, c1, rfl⟩, HC.out⟩)
             ·skip
              refine wK 6 #[.slice none 0 0] 29 ?_;intro bx hg w9 aA hb;replace HC := A_ (HC.out.box hg aA hb);clear hg aA hb;refine dh 6 hK (HC.out.z 1 rfl) (fun hHeld => ?_);exact qC (hJ2_10 (⟨kx, bx⟩) _ HC.out)
           ·skip
            rintro ⟨lv, bx⟩ wj ⟨⟨A1, c1, rfl⟩, hc⟩;have HC := A_ hc;have hHeld := hc.z 1 rfl;clear hc;refine uq ?_;refine gG 2 (some 27) 1055 (fun K hK => ?_);refine lI Try.func89 #[.pointer (some ⟨g, 0, none⟩)] ?_
            with_reducible refine (HC.out.uO (by have := HM.out; omega)).mono ?_
            rintro e w9 ⟨kx, rfl, -, hc⟩;refine ⟨_, rfl, ?_⟩;replace HC := A_ (hc);clear hc;refine dh 27 hK (HC.out.z 1 rfl) (fun hHeld => ?_);exact qC (Du (⟨kx, (.slice A1 3 c1), bx⟩) _ ⟨⟨A1, c1, rfl⟩, HC.out⟩)
          ·skip
           rintro ⟨kx, bx⟩ wj hc;have HC := A_ hc;have hHeld := hc.z 1 rfl;clear hc;refine uq ?_;refine gG 4 (some 29) 1055 (fun K hK => ?_);refine zT 29 3 [⟨#[]⟩, ⟨#[49]⟩, ⟨#[50, 50]⟩] ?_;intro A1 c1 w9 ho hb;replace HC := A_ ((HC.out.lit hb ho).gJ [0, 1, 2, 4, 3] (by decide));clear ho hb;refine dh 29 hK (HC.out.z 1 rfl) (fun hHeld => ?_);exact qC (Du (⟨kx, (.slice A1 3 c1), bx⟩) _ ⟨⟨A1, c1, rfl⟩, HC.out⟩)
         ·skip
          rintro ⟨kx, lv⟩ wj ⟨⟨A1, c1, rfl⟩, hc⟩;have HC := A_ hc;have hHeld := hc.z 1 rfl;clear hc;refine uq ?_;refine ve 5 10 (some 30) (some 6) 63 1055 (fun K hK => ?_) (fun K hK => ?_)
          ·skip
           refine lI Try.func88 #[.pointer (some ⟨g, 0, none⟩), .slice A1 3 c1] ?_
           with_reducible refine (HC.out.of (by have := HM.out; omega) 3 rfl (by decide)).mono ?_
           rintro e w9 ⟨vx, rfl, hc⟩;refine ⟨_, rfl, ?_⟩;replace HC := A_ (hc);clear hc;refine dh 30 hK (HC.out.z 1 rfl) (fun hHeld => ?_);exact qC (hJ2_4_5 (⟨kx, (.slice A1 3 c1), vx⟩) _ HC.out)
          ·skip
           refine wK 6 #[.slice none 0 0] 29 ?_;intro bx hg w9 aA hb;replace HC := A_ (HC.out.box hg aA hb);clear hg aA hb;refine dh 6 hK (HC.out.z 1 rfl) (fun hHeld => ?_);exact qC (Du (⟨kx, (.slice A1 3 c1), bx⟩) _ ⟨⟨A1, c1, rfl⟩, HC.out⟩)
        ·skip
         rintro ⟨kx, lv, bx⟩ wj ⟨⟨A1, c1, rfl⟩, hc⟩;have HC := A_ hc;have hHeld := hc.z 1 rfl;clear hc;refine uq ?_;refine gG 5 (some 30) 1087 (fun K hK => ?_);refine lI Try.func88 #[.pointer (some ⟨g, 0, none⟩), .slice A1 3 c1] ?_
         with_reducible refine (HC.out.of (by have := HM.out; omega) 3 rfl (by decide)).mono ?_
         rintro e w9 ⟨vx, rfl, hc⟩;refine ⟨_, rfl, ?_⟩;replace HC := A_ (hc);clear hc;refine dh 30 hK (HC.out.z 1 rfl) (fun hHeld => ?_);exact qC (hJ2_4_5_10 (⟨kx, (.slice A1 3 c1), vx, bx⟩) _ HC.out)
       ·skip
        rintro ⟨kx, lv, vx⟩ wj hc;have HC := A_ hc;have hHeld := hc.z 1 rfl;clear hc;refine uq ?_;refine ve 6 10 (some 31) (some 6) 127 1087 (fun K hK => ?_) (fun K hK => ?_)
        ·skip
         refine lI Try.func36 #[.agg #[.slice A pgs.length c], .string kx, .string vx] ?_
         with_reducible refine (HC.out.putKey 2 rfl HN.out kx vx).mono ?_
         rintro e w9 ⟨A2, c2, dY, ok, rfl, hn2, hc⟩;refine ⟨_, rfl, ?_⟩;have JP := A_ hn2;clear hn2;replace HC := A_ (hc.gJ [0, 1, 2, 4] (by decide));clear hc;refine dh 31 hK (HC.out.z 1 rfl) (fun hHeld => ?_);refine aH 7 24 255 ?_;refine aH 8 32 511 ?_;refine aH 9 33 1023 ?_;exact qC (hJ2_4_5_6 (⟨kx, lv, vx, (.slice A2 dY.length c2), ok⟩) _ ⟨A2, c2, dY, rfl, JP.out, HC.out⟩)
        ·skip
         refine wK 6 #[.slice none 0 0] 29 ?_;intro bx hg w9 aA hb;replace HC := A_ (HC.out.box hg aA hb);clear hg aA hb;refine dh 6 hK (HC.out.z 1 rfl) (fun hHeld => ?_);exact qC (hJ2_4_5_10 (⟨kx, lv, vx, bx⟩) _ HC.out)
      ·skip
       rintro ⟨kx, lv, vx, bx⟩ wj hc;have HC := A_ hc;have hHeld := hc.z 1 rfl;clear hc;refine uq ?_;refine gG 6 (some 31) 1151 (fun K hK => ?_);refine lI Try.func36 #[.agg #[.slice A pgs.length c], .string kx, .string vx] ?_
       with_reducible refine (HC.out.putKey 2 rfl HN.out kx vx).mono ?_
       rintro e w9 ⟨A2, c2, dY, ok, rfl, hn2, hc⟩;refine ⟨_, rfl, ?_⟩;have JP := A_ hn2;clear hn2;replace HC := A_ (hc.gJ [0, 1, 2, 4, 5] (by decide));clear hc;refine dh 31 hK (HC.out.z 1 rfl) (fun hHeld => ?_);refine aH 7 24 1279 ?_;refine aH 8 32 1535 ?_;refine aH 9 33 2047 ?_;exact qC (hJ2_4_5_6_10 (⟨kx, lv, vx, (.slice A2 dY.length c2), ok, bx⟩) _ ⟨A2, c2, dY, rfl, JP.out, HC.out⟩)
     ·skip
      rintro ⟨kx, lv, vx, rv, ok⟩ wj ⟨A2, c2, dY, rfl, hn2, hc⟩;have JP := A_ hn2;clear hn2;have HC := A_ hc;have hHeld := hc.z 1 rfl;clear hc;refine uq ?_;refine gG 10 (some 6) 2047 (fun K hK => ?_);refine wK 6 #[.slice none 0 0] 29 ?_;intro bx hg w9 aA hb;replace HC := A_ ((HC.out.box hg aA hb).gJ [0, 1, 2, 4, 3] (by decide));clear hg aA hb;refine dh 6 hK (HC.out.z 1 rfl) (fun hHeld => ?_);exact qC (hJ2_4_5_6_10 (⟨kx, lv, vx, (.slice A2 dY.length c2), ok, bx⟩) _ ⟨A2, c2, dY, rfl, JP.out, HC.out⟩)
    rintro ⟨kx, lv, vx, rv, ok, bx⟩ wj ⟨A2, c2, dY, rfl, hn2, hc⟩;have JP := A_ hn2;clear hn2;have HC := A_ hc;have hHeld := hc.z 1 rfl;clear hc;refine uq ?_;refine qz 11 none 4095 (fun K hK => ?_);have hzx := HC.out.z 3 rfl;have hfx := HC.out.f 3 rfl;refine fA (w1 := ?_) (by rfl) rfl ?_ ?_;rotate_left
    ·go_simp
     rfl
    clear hzx hfx;refine hK.out _ _ ?_;clear hK K;refine aH 12 7 8191 ?_;refine dL (by kernel_rfl) ?_
    have ah : af (Cv w0 w (World.setCell wj ⟨bx, 0, none⟩ (.slice A2 dY.length c2)) g s (m + 2 + 2) (t3 b2 b3 A c pgs [[.box 29 bx #[.slice A2 dY.length c2]], bK (.slice A2 dY.length c2) dY])) := ⟨HC.out.put 3 rfl 0 _⟩
    generalize World.setCell wj ⟨bx, 0, none⟩ (.slice A2 dY.length c2) = wa at ah ⊢;clear HC hHeld;have HC := ah;clear ah
    go_upto_if 34 with fail
    go_cut [] (fun wc => ∃ (A : Option Addr) (c : Nat) (pgs : List Pg), af (vU (pgs.map Pg.erase)) /\ af (Cv w0 w wc g s (m + 2 + 2) (t3 b2 b3 A c pgs [])))
    case first =>
     cases ok with
     | true =>
      have hzx := HC.out.z 3 rfl;have hz3 := HC.out.z 1 rfl;have hf3 := HC.out.f 1 rfl;go_wp2
      go_meet
      case rel => exact ⟨A2, c2, dY, ⟨JP.out (by first | rfl | trivial)⟩, ⟨(HC.out.put 1 rfl 0 _).gJ [0, 1, 4] (by decide)⟩⟩
     | false =>
      go_wp2
      go_meet
      case rel => exact ⟨A, c, pgs, HN, ⟨HC.out.gJ [0, 1, 2] (by decide)⟩⟩
    case rest =>
     clear HC HN JP;obtain ⟨A, c, pgs, HN, HC⟩ := hcut
     go_upto_if 37 with (first | (go_at_call 91; (with_reducible refine (HC.out.one (by have := HM.out; omega) 4).mono ?_); rintro e SC ⟨o, rfl, hc⟩; have ah : af (Cv w0 w SC g s (m + 6) (t3 b2 b3 A c pgs [])) := ⟨hc.le (by omega)⟩; clear HC hc; have HC := ah; clear ah))
     obtain ⟨m1, hm1⟩ : ∃ m1 : Int, m1 = m + 6 := ⟨_, rfl⟩
     have ah : af (Cv w0 w SC g s m1 (t3 b2 b3 A c pgs [])) := ⟨by rw [hm1]; exact HC.out⟩
     have Yc : af (m1 + 2 = (100006 + 8 * (40 - (i : Int))) + 8 /\ m1 <= 100500) := ⟨by have := HM.out; omega⟩
     clear HC HM hm1;have HC := ah;clear ah
     cases o with
     | false =>
      go_wp2
      go_roundg (i - 1)
      case measure => have := HI.out; have := HP.out; omega
      case rel => exact ⟨i - 1, A, c, pgs, by have := HI.out; have := HP.out; rw [Pure.gP (by omega) (by omega)]; congr 1; omega, ⟨by have := HI.out; omega⟩, HN, ⟨HC.out.le (by have := Yc.out; have := HI.out; have := HP.out; omega)⟩⟩
     | true =>
      have HM : af (m1 <= 100500) := ⟨Yc.out.2⟩
      obtain ⟨m, hm⟩ : ∃ m, m = m1 := ⟨_, rfl⟩
      rw [<- hm] at HC HM Yc;clear hm
      go_upto_region 11 with fail
      replace HC := A_ (HC.out.drew);refine bS (n := 10) (S := fun w' => w'.cell? ⟨b3, 0, none⟩ = some (.slice A pgs.length c)) (ds := [8]) (bt 10 0) (by kernel_rfl) rfl rfl (HC.out.z 1 rfl) (fun hHeld => ?_);generalize World.drew _ = wd at HC hHeld ⊢;refine aH 1 40 2 ?_;refine fq 0 39 3 hHeld ?_;refine gQ (σ := ByteArray × Value × Bool × Nat) 2 (bt 10 255) (fun s_ => [(41, .string s_.1), (42, .tuple #[.agg #[s_.2.1], .bool s_.2.2.1]), (38, .tuple #[.agg #[s_.2.1], .bool s_.2.2.1]), (43, .agg #[s_.2.1]), (44, .bool s_.2.2.1), (8, .pointer (some ⟨s_.2.2.2, 0, none⟩))]) (fun s_ w' => ∃ A2 c2 dY, s_.2.1 = .slice A2 (List.length dY) c2 /\ (s_.2.2.1 = true -> vU (dY.map Pg.erase)) /\ Cv w0 w w' g s (m + 2) (t3 b2 b3 A c pgs [tb s_.2.2.2, bK (.slice A2 dY.length c2) dY])) ?_ ?_;rotate_left
      ·intro hJ2_3_7
       refine gQ (σ := ByteArray × Value × Bool) 3 (bt 10 127) (fun s_ => [(41, .string s_.1), (42, .tuple #[.agg #[s_.2.1], .bool s_.2.2]), (38, .tuple #[.agg #[s_.2.1], .bool s_.2.2]), (43, .agg #[s_.2.1]), (44, .bool s_.2.2)]) (fun s_ w' => ∃ A2 c2 dY, s_.2.1 = .slice A2 (List.length dY) c2 /\ (s_.2.2 = true -> vU (dY.map Pg.erase)) /\ Cv w0 w w' g s (m + 2) (t3 b2 b3 A c pgs [bK (.slice A2 dY.length c2) dY])) ?_ ?_;rotate_left
       ·intro hJ2_3
        refine gQ (σ := ByteArray × Nat) 6 (bt 10 135) (fun s_ => [(41, .string s_.1), (8, .pointer (some ⟨s_.2, 0, none⟩))]) (fun s_ w' => Cv w0 w w' g s (m + 2) (t3 b2 b3 A c pgs [tb s_.2])) ?_ ?_;rotate_left
        ·intro hJ2_7
         refine gQ (σ := ByteArray) 7 (bt 10 7) (fun s_ => [(41, .string s_)]) (fun s_ w' => Cv w0 w w' g s (m + 2) (t3 b2 b3 A c pgs [])) ?_ ?_;rotate_left
         ·intro hJ2
          refine gQ (σ := Nat) 7 (bt 10 131) (fun s_ => [(8, .pointer (some ⟨s_, 0, none⟩))]) (fun s_ w' => Cv w0 w w' g s m (t3 b2 b3 A c pgs [tb s_])) ?_ ?_;rotate_left
          ·intro ZV
           refine ve 2 7 (some 41) (some 8) 7 131 (fun K hK => ?_) (fun K hK => ?_)
           ·skip
            refine lI Try.func89 #[.pointer (some ⟨g, 0, none⟩)] ?_
            with_reducible refine (HC.out.uO (by have := HM.out; omega)).mono ?_
            rintro e w9 ⟨kx, rfl, -, hc⟩;refine ⟨_, rfl, ?_⟩;replace HC := A_ (hc);clear hc;refine dh 41 hK (HC.out.z 1 rfl) (fun hHeld => ?_);exact qC (hJ2 kx _ HC.out)
           ·skip
            refine wK 8 #[.slice none 0 0] 29 ?_;intro bx hg w9 aA hb;replace HC := A_ (HC.out.box hg aA hb);clear hg aA hb;refine dh 8 hK (HC.out.z 1 rfl) (fun hHeld => ?_);exact qC (ZV bx _ HC.out)
          ·skip
           rintro bx wj hc;have HC := A_ hc;have hHeld := hc.z 1 rfl;clear hc;refine uq ?_;refine gG 2 (some 41) 135 (fun K hK => ?_);refine lI Try.func89 #[.pointer (some ⟨g, 0, none⟩)] ?_
           with_reducible refine (HC.out.uO (by have := HM.out; omega)).mono ?_
           rintro e w9 ⟨kx, rfl, -, hc⟩;refine ⟨_, rfl, ?_⟩;replace HC := A_ (hc);clear hc;refine dh 41 hK (HC.out.z 1 rfl) (fun hHeld => ?_);exact qC (hJ2_7 (⟨kx, bx⟩) _ HC.out)
         ·skip
          rintro kx wj hc;have HC := A_ hc;have hHeld := hc.z 1 rfl;clear hc;refine uq ?_;refine ve 3 7 (some 42) (some 8) 15 135 (fun K hK => ?_) (fun K hK => ?_)
          ·skip
           refine lI Try.func39 #[.agg #[.slice A pgs.length c], .string kx] ?_
           with_reducible refine (HC.out.dropKey 2 rfl HN.out kx).mono ?_
           rintro e w9 ⟨A2, c2, dY, ok, rfl, hn2, hc⟩;refine ⟨_, rfl, ?_⟩;have JP := A_ hn2;clear hn2;replace HC := A_ (hc);clear hc;refine dh 42 hK (HC.out.z 1 rfl) (fun hHeld => ?_);refine aH 4 38 31 ?_;refine aH 5 43 63 ?_;refine aH 6 44 127 ?_;exact qC (hJ2_3 (⟨kx, (.slice A2 dY.length c2), ok⟩) _ ⟨A2, c2, dY, rfl, JP.out, HC.out⟩)
          ·skip
           refine wK 8 #[.slice none 0 0] 29 ?_;intro bx hg w9 aA hb;replace HC := A_ (HC.out.box hg aA hb);clear hg aA hb;refine dh 8 hK (HC.out.z 1 rfl) (fun hHeld => ?_);exact qC (hJ2_7 (⟨kx, bx⟩) _ HC.out)
        ·skip
         rintro ⟨kx, bx⟩ wj hc;have HC := A_ hc;have hHeld := hc.z 1 rfl;clear hc;refine uq ?_;refine gG 3 (some 42) 143 (fun K hK => ?_);refine lI Try.func39 #[.agg #[.slice A pgs.length c], .string kx] ?_
         with_reducible refine (HC.out.dropKey 2 rfl HN.out kx).mono ?_
         rintro e w9 ⟨A2, c2, dY, ok, rfl, hn2, hc⟩;refine ⟨_, rfl, ?_⟩;have JP := A_ hn2;clear hn2;replace HC := A_ (hc);clear hc;refine dh 42 hK (HC.out.z 1 rfl) (fun hHeld => ?_);refine aH 4 38 159 ?_;refine aH 5 43 191 ?_;refine aH 6 44 255 ?_;exact qC (hJ2_3_7 (⟨kx, (.slice A2 dY.length c2), ok, bx⟩) _ ⟨A2, c2, dY, rfl, JP.out, HC.out⟩)
       ·skip
        rintro ⟨kx, rv, ok⟩ wj ⟨A2, c2, dY, rfl, hn2, hc⟩;have JP := A_ hn2;clear hn2;have HC := A_ hc;have hHeld := hc.z 1 rfl;clear hc;refine uq ?_;refine gG 7 (some 8) 255 (fun K hK => ?_);refine wK 8 #[.slice none 0 0] 29 ?_;intro bx hg w9 aA hb;replace HC := A_ ((HC.out.box hg aA hb).gJ [0, 1, 2, 4, 3] (by decide));clear hg aA hb;refine dh 8 hK (HC.out.z 1 rfl) (fun hHeld => ?_);exact qC (hJ2_3_7 (⟨kx, (.slice A2 dY.length c2), ok, bx⟩) _ ⟨A2, c2, dY, rfl, JP.out, HC.out⟩)
      rintro ⟨kx, rv, ok, bx⟩ wj ⟨A2, c2, dY, rfl, hn2, hc⟩;have JP := A_ hn2;clear hn2;have HC := A_ hc;have hHeld := hc.z 1 rfl;clear hc;refine uq ?_;refine qz 8 none 511 (fun K hK => ?_);have hzx := HC.out.z 3 rfl;have hfx := HC.out.f 3 rfl;refine fA (w1 := ?_) (by rfl) rfl ?_ ?_;rotate_left
      ·go_simp
       rfl
      clear hzx hfx;refine hK.out _ _ ?_;clear hK K;refine aH 9 9 1023 ?_;refine dL (by kernel_rfl) ?_
      have ah : af (Cv w0 w (World.setCell wj ⟨bx, 0, none⟩ (.slice A2 dY.length c2)) g s (m + 2) (t3 b2 b3 A c pgs [[.box 29 bx #[.slice A2 dY.length c2]], bK (.slice A2 dY.length c2) dY])) := ⟨HC.out.put 3 rfl 0 _⟩
      generalize World.setCell wj ⟨bx, 0, none⟩ (.slice A2 dY.length c2) = wb at ah ⊢;clear HC hHeld;have HC := ah;clear ah
      cases ok with
      | true =>
       have hzx := HC.out.z 3 rfl;have hz3 := HC.out.z 1 rfl;have hf3 := HC.out.f 1 rfl;go_wp2
       go_roundg (i - 1)
       case measure => have := HI.out; have := HP.out; omega
       case rel => exact ⟨i - 1, A2, c2, dY, by have := HI.out; have := HP.out; rw [Pure.gP (by omega) (by omega)]; congr 1; omega, ⟨by have := HI.out; omega⟩, ⟨JP.out (by first | rfl | trivial)⟩, ⟨((HC.out.put 1 rfl 0 _).gJ [0, 1, 4] (by decide)).le (by have := Yc.out; have := HI.out; have := HP.out; omega)⟩⟩
      | false =>
       go_wp2
       go_roundg (i - 1)
       case measure => have := HI.out; have := HP.out; omega
       case rel => exact ⟨i - 1, A, c, pgs, by have := HI.out; have := HP.out; rw [Pure.gP (by omega) (by omega)]; congr 1; omega, ⟨by have := HI.out; omega⟩, HN, ⟨(HC.out.gJ [0, 1, 2] (by decide)).le (by have := Yc.out; have := HI.out; have := HP.out; omega)⟩⟩
   ·have c_ := kS (0 < (i : Int))
    have K4 : (0 < i) = False := eq_false hi;have ah := A_ (HC.out.le (m1 := 100400) (by omega));clear HC hi HI;have HC := ah;clear ah
    go_upto_region 15 with (first | (go_at_call 92; (with_reducible refine (HC.out.pick (by omega) 30 (by omega)).mono ?_); rintro e Ov ⟨x, rfl, hn, hc⟩; have ah : af (Cv w0 w Ov g s 100402 (t3 b2 b3 A c pgs [])) := ⟨hc⟩; clear HC hc; have HC := ah; clear ah))
    have ZW := A_ (show pgs ≠ [] from fun e => HN.out.1 (by rw [e]; rfl))
    have Yd : af (pgs.length <= 1000) := ⟨by have := HN.out.2.1; rw [List.length_map] at this; exact this⟩
    by_cases hx0 : x = 0
    ·subst hx0
     cases pgs with
     | nil => exact absurd rfl ZW.out
     | cons pg B =>
      have nA := A_ HN.out.2.2
      have ah : af (Cv w0 w Ov g s 100402 ([tb b2, [.box 29 b3 #[.slice A (pg :: B).length c]]] ++ [[nI (.slice A (pg :: B).length c) (pg :: B)], [txt pg.kv pg.ks], [txt pg.vv pg.vs], [ints pg.cv pg.cs], iY B])) := ⟨Cv.pages (X := [tb b2, [.box 29 b3 #[.slice A (pg :: B).length c]]]) HC.out⟩
      clear HC HN;have HC := ah;clear ah ZW;obtain ⟨gr, rfl⟩ := si (HC.out.S.rowOk 2 rfl) (Nat.succ_pos _);obtain ⟨kv, vv, cv, ks, vs, cs⟩ := pg
      obtain ⟨n, hn1⟩ : ∃ n, (Pg.mk kv vv cv ks vs cs :: B).length = n := ⟨_, rfl⟩
      have hn0 : 0 < n := by rw [<- hn1]; exact Nat.succ_pos _
      have NZ := HC.out.z 1 rfl;rw [hn1] at NZ HC;have P8 := A_ hn1;have cn_ := lQ ((0 : Int) < (n : Int));have cn2_ : (0 < n) = True := eq_true hn0;clear hn0 hn1
      by_cases hk0 : 0 < ks.length
      ·have ZX := lQ ((0 : Int) < (ks.length : Int))
       have VY : (0 < ks.length) = True := eq_true hk0;obtain ⟨gk, ck, ek, _⟩ := Kd.rq (HC.out.S.sr 3 rfl) hk0;have ek : kv = .slice (some ⟨gk, 0, none⟩) ks.length ck := ek;subst ek;have GG := A_ hk0;have ZY : Ov.cell? ⟨gr, 0, none⟩ = some (.slice (some ⟨gk, 0, none⟩) ks.length ck) := BX (A := []) (a := 0) HC.out.S 2 rfl rfl;have zk_ := iH (HC.out.S.sr 3 rfl) ⟨hk0, rfl⟩;have fk_ := fZ (HC.out.S.sr 3 rfl) hk0 0;clear hk0
       go_upto_region 20 with fail
       have ah : af (Cv w0 w (World.setCell Ov ⟨gk, 0, none⟩ (.string ⟨#[122, 122]⟩)) g s 100402 ([tb b2, [.box 29 b3 #[.slice (some ⟨gr, 0, none⟩) n c]]] ++ [[nI (.slice (some ⟨gr, 0, none⟩) n c) (⟨(.slice (some ⟨gk, 0, none⟩) ks.length ck), vv, cv, (ks.set 0 ⟨#[122, 122]⟩), vs, cs⟩ :: B)], [txt ((.slice (some ⟨gk, 0, none⟩) ks.length ck)) ((ks.set 0 ⟨#[122, 122]⟩))], [txt vv vs], [ints cv cs], iY B])) := ⟨HC.out.nM 3 rfl _ GG.out⟩
       generalize World.setCell Ov ⟨gk, 0, none⟩ (.string ⟨#[122, 122]⟩) = ZZ at ah ⊢;clear HC NZ ZY zk_ fk_;have HC := A_ (Cv.whole ah.out);clear ah;have NZ := HC.out.z 1 rfl;have wG := HC.out.z 0 rfl;have Z0 := HC.out.f 0 rfl;go_wp2
       have HE : af (Cv w0 w (World.setCell ZZ ⟨b2, 0, none⟩ (Value.slice (some ⟨gr, 0, none⟩) n c)) g s 100402 [[.box 29 b2 #[Value.slice (some ⟨gr, 0, none⟩) n c]], [.box 29 b3 #[Value.slice (some ⟨gr, 0, none⟩) n c]], bK (Value.slice (some ⟨gr, 0, none⟩) n c) (Pg.mk (.slice (some ⟨gk, 0, none⟩) ks.length ck) vv cv (ks.set 0 ⟨#[122, 122]⟩) vs cs :: B)]) := ⟨HC.out.put 0 rfl 0 _⟩
       refine bodyPost_ret (results_cell_row rfl _ _ b2 29 #[Value.slice (some ⟨gr, 0, none⟩) n c] (0, 0) _ rfl (aa.blk HE.out.S 0 rfl) Try.underlying29 rfl (by kernel_rfl)) rfl ?_;have e_ := P8.out;subst e_
       exact Cx (pgs := (Pg.mk (.slice (some ⟨gk, 0, none⟩) ks.length ck) vv cv (ks.set 0 ⟨#[122, 122]⟩) vs cs :: B)) HE.out 2 rfl (by decide) Yd.out (fun p hp => by
         rcases List.mem_cons.1 hp with rfl | hp
         ·have := nA.out _ List.mem_cons_self
          show (ks.set 0 _).length <= 4 /\ _;rw [List.length_set];exact this
         ·exact nA.out p (List.mem_cons_of_mem _ hp))
      ·have ZX := kS ((0 : Int) < (ks.length : Int))
       have VY : (0 < ks.length) = False := eq_false hk0;obtain ⟨Ak, ck, ek⟩ := Kd.ak (HC.out.S.sr 3 rfl);have ek : kv = .slice Ak ks.length ck := ek;subst ek;have ZY : Ov.cell? ⟨gr, 0, none⟩ = some (.slice Ak ks.length ck) := BX (A := []) (a := 0) HC.out.S 2 rfl rfl
       go_upto_region 20 with fail
       have ah := HC;clear HC NZ ZY;have HC := A_ (Cv.whole ah.out);clear ah;have NZ := HC.out.z 1 rfl;have wG := HC.out.z 0 rfl;have Z0 := HC.out.f 0 rfl;go_wp2
       have HE : af (Cv w0 w (World.setCell Ov ⟨b2, 0, none⟩ (Value.slice (some ⟨gr, 0, none⟩) n c)) g s 100402 [[.box 29 b2 #[Value.slice (some ⟨gr, 0, none⟩) n c]], [.box 29 b3 #[Value.slice (some ⟨gr, 0, none⟩) n c]], bK (Value.slice (some ⟨gr, 0, none⟩) n c) (Pg.mk (.slice Ak ks.length ck) vv cv ks vs cs :: B)]) := ⟨HC.out.put 0 rfl 0 _⟩
       refine bodyPost_ret (results_cell_row rfl _ _ b2 29 #[Value.slice (some ⟨gr, 0, none⟩) n c] (0, 0) _ rfl (aa.blk HE.out.S 0 rfl) Try.underlying29 rfl (by kernel_rfl)) rfl ?_;have e_ := P8.out;subst e_;exact Cx HE.out 2 rfl (by decide) Yd.out nA.out
    have nA := A_ HN.out.2.2
    obtain ⟨n, hn1⟩ : ∃ n, pgs.length = n := ⟨_, rfl⟩
    have hn0 : 0 < n := by rw [<- hn1]; exact List.length_pos_iff.2 ZW.out
    have hnc := (Cw (v := .slice none 0 0) (HC.out.S.at 2 rfl)).2;rw [List.length_map, hn1] at hnc;unfold t3 at HC;rw [hn1] at HC;have P8 := A_ hn1;have NZ := HC.out.z 1 rfl;have hn2 : n <= 1000 := by rw [<- hn1]; exact Yd.out
    clear hn1;have d0 : ((x : Int) == 0) = false := by simp; omega
    have d0b := kS ((x : Int) = 0);have d0c : (x = 0) = False := eq_false hx0
    by_cases hx1 : x = 1
    ·subst hx1
     have f3_ := HC.out.f 1 rfl;have q_ : wrap64 ((n : Int) - 1) = (n : Int) - 1 := Pure.gP (by omega) (by omega);obtain ⟨QR, lH, _, nZ, _⟩ := info_parts FE;have hcut_ := nS (P := Try.prog) 27 110 .i64 Try.underlying27 lH A n c ((n : Int) - 1) (by omega) (by omega) hnc;simp only [show ((n : Int) - 1).toNat = n - 1 from by omega] at hcut_;clear lH nZ
     go_upto_region 20 with fail
     have ah : af (Cv w0 w (World.setCell Ov ⟨b3, 0, none⟩ (.slice A (n - 1) c)) g s 100402 [tb b2, [.box 29 b3 #[.slice A (n - 1) c]], bK (.slice A n c) pgs]) := ⟨HC.out.put 1 rfl 0 _⟩
     generalize World.setCell Ov ⟨b3, 0, none⟩ (.slice A (n - 1) c) = ZZ at ah ⊢;clear HC NZ f3_ hcut_ q_;have HC := ah;clear ah;have NZ := HC.out.z 1 rfl;have wG := HC.out.z 0 rfl;have Z0 := HC.out.f 0 rfl;go_wp2
     have HE : af (Cv w0 w (World.setCell ZZ ⟨b2, 0, none⟩ (Value.slice A (n - 1) c)) g s 100402 [[.box 29 b2 #[Value.slice A (n - 1) c]], [.box 29 b3 #[Value.slice A (n - 1) c]], bK (.slice A n c) pgs]) := ⟨HC.out.put 0 rfl 0 _⟩
     refine bodyPost_ret (results_cell_row rfl _ _ b2 29 #[Value.slice A (n - 1) c] (0, 0) _ rfl (aa.blk HE.out.S 0 rfl) Try.underlying29 rfl (by kernel_rfl)) rfl ?_;have e_ := P8.out;subst e_;exact IQ HE.out 2 rfl (by decide) Yd.out nA.out _ (Nat.sub_le _ _)
    ·have d1 : ((x : Int) == 1) = false := by simp; omega
     have d1b := kS ((x : Int) = 1);have d1c : (x = 1) = False := eq_false hx1
     go_upto_region 20 with fail
     clear NZ;have NZ := HC.out.z 1 rfl;have wG := HC.out.z 0 rfl;have Z0 := HC.out.f 0 rfl;go_wp2
     have HE : af (Cv w0 w (World.setCell Ov ⟨b2, 0, none⟩ (Value.slice A n c)) g s 100402 [[.box 29 b2 #[Value.slice A n c]], [.box 29 b3 #[Value.slice A n c]], bK (.slice A n c) pgs]) := ⟨HC.out.put 0 rfl 0 _⟩
     refine bodyPost_ret (results_cell_row rfl _ _ b2 29 #[Value.slice A n c] (0, 0) _ rfl (aa.blk HE.out.S 0 rfl) Try.underlying29 rfl (by kernel_rfl)) rfl ?_;have e_ := P8.out;subst e_;exact Cx HE.out 2 rfl (by decide) Yd.out nA.out
open Go.Proofs.Ytoddejmlcnbdmaa.Pure (Cq Gl AO)
section
variable {w0 w W W1 : World} {g : Nat} {s : List Int} {m : Int} {gs : List (List Ck)}
theorem Cv.start {w1 w2 : World} {A0 : Option Addr} {c0 : Nat} (hcd : Pure.Code s) (hr0 : Kd.C (Kd.int .u8) w A0 s.length s) (hb1 : Below w.heap.size w w1) (hg : g = w1.heap.size) (aA : w2.heap[g]? = some (.cells #[.slice A0 s.length c0, .int .i64 0, .int .u64 0] 105 (0, 0))) (hb : Below w1.heap.size w1 w2) : Cv w w2 w2 g s 0 [] :=
 ⟨hcd, 0, 0, Int.le_refl _, Int.le_refl _, ⟨A0, c0, aA, by rw [hg]; exact hb1.size, hr0⟩, ay hb1 hb, bg.refl _ _ _, Sat.nil _ _, gU aA⟩
theorem Cv.PK (h : Cv w0 w W g s m gs) (hm : m <= 100000) : Calls Try.prog 87 #[.pointer (some ⟨g, 0, none⟩)] W (AV w0 W g s) := by
 obtain ⟨hc, p, q, h1, h2, h⟩ := h;exact zU.runs s hc g p q h1 (by omega) w0 W h.I h.B
theorem Cv.K (h : Cv w0 w W g s m gs) : bg w W g none := by
 obtain ⟨_, p, q, _, _, h⟩ := h;exact h.K
theorem Cv.B (h : Cv w0 w W g s m gs) : Below w0.heap.size w0 W := by
 obtain ⟨_, p, q, _, _, h⟩ := h;exact h.B
theorem Cv.blk (h : Cv w0 w W g s m gs) {b : Nat} {o : Obj} (hb : w.heap[b]? = some o) (hne : b ≠ g) : W.heap[b]? = some o := (h.K.2 b (gU hb) hne (by simp)).trans hb
end
theorem tQ {P : List bC} (h : kM P = true) : zP P = true /\ P.length <= 1048576 := jo h
theorem PL {P : List bC} (h : P.length <= 1048576) : (Cq P).1.length <= 40 := by
 unfold Cq
 cases hof : mq P with
 | none => simp
 | some t => exact (AO h hof).few
end Go.Proofs.Ytoddejmlcnbdmaa.Tree
namespace Go.Proofs.Ytoddejmlcnbdmaa.Fn
def dw.l0 : Nat -> List ByteArray -> List ByteArray -> Int -> Int -> Option (Bool)
 | 0, _, _, _, _ => none
 | k + 1, x0, x1, Ye, La => if La < Ye then (if 0 <= La then (if La < (x0.length : Int) then (if La < (x1.length : Int) then (if (bO ByteArray.empty x0 La).toList = (bO ByteArray.empty x1 La).toList then (dw.l0 k x0 x1 Ye (wrap64 (La + 1))) else (some false)) else (none)) else (none)) else (none)) else (some true)
def dw.f (k : Nat) (l0 : List ByteArray) (l1 : List ByteArray) : Option (Bool) := if (l0.length : Int) = (l1.length : Int) then (dw.l0 k l0 l1 (l0.length : Int) 0) else (some false)
theorem dw.calls (k : Nat) (A0 : Option Addr) (c0 : Nat) (l0 : List ByteArray) (A1 : Option Addr) (c1 : Nat) (l1 : List ByteArray) (r : Bool) (w : World) (hr0 : Kd.C Kd.string w A0 l0.length l0) (hc0 : l0.length <= c0) (hr1 : Kd.C Kd.string w A1 l1.length l1) (hc1 : l1.length <= c1) (h : dw.f k l0 l1 = some r) :
  Calls Try.prog 51 #[.slice A0 l0.length c0, .slice A1 l1.length c1] w fun e w' => e = .returned (.bool r) /\ av w w' := by
 have nJ := A_ hr0;have qP := A_ hc0;clear hr0 hc0;have HR1 := A_ hr1;have Aa := A_ hc1;clear hr1 hc1;have H : (if (l0.length : Int) = (l1.length : Int) then (dw.l0 k l0 l1 (l0.length : Int) 0) else (some false)) = some r := h;clear h
 by_cases c3 : (l0.length : Int) = (l1.length : Int)
 ·rw [if_pos c3] at H
  have tT : ((l0.length : Int) == (l1.length : Int)) = true := beq_iff_eq.mpr c3;have GI : ((l0.length : Int) != (l1.length : Int)) = false := bne_eq_false_iff_eq.mpr c3
  have Q9 : (l0.length == l1.length) = true := by first | simpa using c3 | (simp at c3 ⊢; omega)
  clear c3;have H' := A_ H;clear H;go_enter Try.func51, Try.ntmps51;go_wp2
  repeat (go_quiet (fail); try go_wp2)
  go_loopg [13] k (fun kq v13 w' => ∃ (bU : Int), v13 = .int .i64 bU /\ af (dw.l0 kq l0 l1 (l0.length : Int) bU = some r) /\ af (kq <= k) /\ av w w')
  case atStart => exact ⟨(0), (by first | rfl | (simp; done) | (simp [*]; done)), H', ⟨Nat.le_refl _⟩, by repeat (first | exact av.refl _ | apply av.step)⟩
  case round =>
   clear H';(try clear c1); (try clear p2); (try clear c3); (try clear tT); (try clear GI); (try clear Q9);obtain ⟨bU, rfl, HA, wE, ⟨m1, rfl⟩⟩ := hrel
   cases gk with
   | zero => exact absurd HA.out (by simp [dw.l0])
   | succ k1 =>
    have H := HA.out;clear HA;simp only [dw.l0] at H
    by_cases c4 : bU < (l0.length : Int)
    ·rw [if_pos c4] at H
     have tV : decide (bU < (l0.length : Int)) = true := decide_eq_true c4;clear c4
     by_cases c5 : 0 <= bU
     ·rw [if_pos c5] at H
      have DY : decide (0 <= bU) = true := decide_eq_true c5;clear c5
      by_cases c6 : bU < (l0.length : Int)
      ·rw [if_pos c6] at H
       have Sv : decide (bU < (l0.length : Int)) = true := decide_eq_true c6;clear c6
       by_cases c7 : bU < (l1.length : Int)
       ·rw [if_pos c7] at H
        have Ja : decide (bU < (l1.length : Int)) = true := decide_eq_true c7;clear c7
        by_cases c8 : (bO ByteArray.empty l0 bU).toList = (bO ByteArray.empty l1 bU).toList
        ·rw [if_pos c8] at H
         have KP : ((bO ByteArray.empty l0 bU).toList == (bO ByteArray.empty l1 bU).toList) = true := beq_iff_eq.mpr c8;have Qr : ((bO ByteArray.empty l0 bU).toList != (bO ByteArray.empty l1 bU).toList) = false := bne_eq_false_iff_eq.mpr c8;clear c8;have H' := A_ H;clear H;have Lb : 0 <= (bU : Int) := of_decide_eq_true jh;have Lc : bU < (l0.length : Int) := of_decide_eq_true jh;obtain ⟨ad439, VZ, hx439_0⟩ := Kd.bH nJ.out bU Lb Lc
         cases VZ
         replace Lb := eq_true Lb;replace Lc := eq_true Lc;have Ld : 0 <= (bU : Int) := of_decide_eq_true jh;have Le : bU < (l1.length : Int) := of_decide_eq_true jh;obtain ⟨ad440, V3, hx440_0⟩ := Kd.bH HR1.out bU Ld Le
         cases V3
         replace Ld := eq_true Ld;replace Le := eq_true Le;go_wp2
         repeat (go_quiet (fail); try go_wp2)
         go_roundg k1
         case measure => have := wE.out; omega
         case rel => exact ⟨(wrap64 (bU + 1)), (by first | rfl | (simp; done) | (simp [*]; done)), H', ⟨by have := wE.out; omega⟩, by repeat (first | exact av.refl _ | apply av.step)⟩
        ·rw [if_neg c8] at H
         have KP : ((bO ByteArray.empty l0 bU).toList == (bO ByteArray.empty l1 bU).toList) = false := beq_eq_false_iff_ne.mpr c8;have Qr : ((bO ByteArray.empty l0 bU).toList != (bO ByteArray.empty l1 bU).toList) = true := bne_iff_ne.mpr c8;obtain rfl := Option.some.inj H;have Lb : 0 <= (bU : Int) := of_decide_eq_true jh;have Lc : bU < (l0.length : Int) := of_decide_eq_true jh;obtain ⟨ad439, VZ, hx439_0⟩ := Kd.bH nJ.out bU Lb Lc
         cases VZ
         replace Lb := eq_true Lb;replace Lc := eq_true Lc;have Ld : 0 <= (bU : Int) := of_decide_eq_true jh;have Le : bU < (l1.length : Int) := of_decide_eq_true jh;obtain ⟨ad440, V3, hx440_0⟩ := Kd.bH HR1.out bU Ld Le
         cases V3
         replace Ld := eq_true Ld;replace Le := eq_true Le;go_wp2
         repeat (go_quiet (fail); try go_wp2)
         go_ret;exact ⟨by first | rfl | (simp; done) | (simp [*]; done), by repeat (first | exact av.refl _ | apply av.step)⟩
       ·rw [if_neg c7] at H
        exact absurd H (by simp)
      ·rw [if_neg c6] at H
       exact absurd H (by simp)
     ·rw [if_neg c5] at H
      exact absurd H (by simp)
    ·rw [if_neg c4] at H
     have tV : decide (bU < (l0.length : Int)) = false := decide_eq_false c4;clear c4;obtain rfl := Option.some.inj H;go_wp2
     repeat (go_quiet (fail); try go_wp2)
     go_ret;exact ⟨by first | rfl | (simp; done) | (simp [*]; done), by repeat (first | exact av.refl _ | apply av.step)⟩
 ·rw [if_neg c3] at H
  have tT : ((l0.length : Int) == (l1.length : Int)) = false := beq_eq_false_iff_ne.mpr c3;have GI : ((l0.length : Int) != (l1.length : Int)) = true := bne_iff_ne.mpr c3
  have Q9 : (l0.length == l1.length) = false := by first | simpa using c3 | (simp at c3 ⊢; omega)
  obtain rfl := Option.some.inj H;go_enter Try.func51, Try.ntmps51;go_wp2
  repeat (go_quiet (fail); try go_wp2)
  go_ret;exact ⟨by first | rfl | (simp; done) | (simp [*]; done), by repeat (first | exact av.refl _ | apply av.step)⟩
def dE.l0 : Nat -> List Int -> List Int -> Int -> Int -> Option (Bool)
 | 0, _, _, _, _ => none
 | k + 1, x0, x1, Ye, La => if La < Ye then (if 0 <= La then (if La < (x0.length : Int) then (if La < (x1.length : Int) then (if (rd x0 La) = (rd x1 La) then (dE.l0 k x0 x1 Ye (wrap64 (La + 1))) else (some false)) else (none)) else (none)) else (none)) else (some true)
def dE.f (k : Nat) (l0 : List Int) (l1 : List Int) : Option (Bool) := if (l0.length : Int) = (l1.length : Int) then (dE.l0 k l0 l1 (l0.length : Int) 0) else (some false)
theorem dE.calls (k : Nat) (A0 : Option Addr) (c0 : Nat) (l0 : List Int) (A1 : Option Addr) (c1 : Nat) (l1 : List Int) (r : Bool) (w : World) (hr0 : Kd.C (Kd.int .i64) w A0 l0.length l0) (hc0 : l0.length <= c0) (hr1 : Kd.C (Kd.int .i64) w A1 l1.length l1) (hc1 : l1.length <= c1) (h : dE.f k l0 l1 = some r) :
  Calls Try.prog 90 #[.slice A0 l0.length c0, .slice A1 l1.length c1] w fun e w' => e = .returned (.bool r) /\ av w w' := by
 have nJ := A_ hr0;have qP := A_ hc0;clear hr0 hc0;have HR1 := A_ hr1;have Aa := A_ hc1;clear hr1 hc1;have H : (if (l0.length : Int) = (l1.length : Int) then (dE.l0 k l0 l1 (l0.length : Int) 0) else (some false)) = some r := h;clear h
 by_cases c3 : (l0.length : Int) = (l1.length : Int)
 ·rw [if_pos c3] at H
  have tT : ((l0.length : Int) == (l1.length : Int)) = true := beq_iff_eq.mpr c3;have GI : ((l0.length : Int) != (l1.length : Int)) = false := bne_eq_false_iff_eq.mpr c3
  have Q9 : (l0.length == l1.length) = true := by first | simpa using c3 | (simp at c3 ⊢; omega)
  clear c3;have H' := A_ H;clear H;go_enter Try.func90, Try.ntmps90;go_wp2
  repeat (go_quiet (fail); try go_wp2)
  go_loopg [13] k (fun kq v13 w' => ∃ (bU : Int), v13 = .int .i64 bU /\ af (dE.l0 kq l0 l1 (l0.length : Int) bU = some r) /\ af (kq <= k) /\ av w w')
  case atStart => exact ⟨(0), (by first | rfl | (simp; done) | (simp [*]; done)), H', ⟨Nat.le_refl _⟩, by repeat (first | exact av.refl _ | apply av.step)⟩
  case round =>
   clear H';(try clear c1); (try clear p2); (try clear c3); (try clear tT); (try clear GI); (try clear Q9);obtain ⟨bU, rfl, HA, wE, ⟨m1, rfl⟩⟩ := hrel
   cases gk with
   | zero => exact absurd HA.out (by simp [dE.l0])
   | succ k1 =>
    have H := HA.out;clear HA;simp only [dE.l0] at H
    by_cases c4 : bU < (l0.length : Int)
    ·rw [if_pos c4] at H
     have tV : decide (bU < (l0.length : Int)) = true := decide_eq_true c4;clear c4
     by_cases c5 : 0 <= bU
     ·rw [if_pos c5] at H
      have DY : decide (0 <= bU) = true := decide_eq_true c5;clear c5
      by_cases c6 : bU < (l0.length : Int)
      ·rw [if_pos c6] at H
       have Sv : decide (bU < (l0.length : Int)) = true := decide_eq_true c6;clear c6
       by_cases c7 : bU < (l1.length : Int)
       ·rw [if_pos c7] at H
        have Ja : decide (bU < (l1.length : Int)) = true := decide_eq_true c7;clear c7
        by_cases c8 : (rd l0 bU) = (rd l1 bU)
        ·rw [if_pos c8] at H
         have KP : ((rd l0 bU) == (rd l1 bU)) = true := beq_iff_eq.mpr c8;have Qr : ((rd l0 bU) != (rd l1 bU)) = false := bne_eq_false_iff_eq.mpr c8;clear c8;have H' := A_ H;clear H;have Lf : 0 <= (bU : Int) := of_decide_eq_true jh;have Lg : bU < (l0.length : Int) := of_decide_eq_true jh;obtain ⟨ad441, V4, hx441_0⟩ := Kd.qY nJ.out bU Lf Lg
         cases V4
         replace Lf := eq_true Lf;replace Lg := eq_true Lg;have Lh : 0 <= (bU : Int) := of_decide_eq_true jh;have Li : bU < (l1.length : Int) := of_decide_eq_true jh;obtain ⟨ad442, V5, hx442_0⟩ := Kd.qY HR1.out bU Lh Li
         cases V5
         replace Lh := eq_true Lh;replace Li := eq_true Li;go_wp2
         repeat (go_quiet (fail); try go_wp2)
         go_roundg k1
         case measure => have := wE.out; omega
         case rel => exact ⟨(wrap64 (bU + 1)), (by first | rfl | (simp; done) | (simp [*]; done)), H', ⟨by have := wE.out; omega⟩, by repeat (first | exact av.refl _ | apply av.step)⟩
        ·rw [if_neg c8] at H
         have KP : ((rd l0 bU) == (rd l1 bU)) = false := beq_eq_false_iff_ne.mpr c8;have Qr : ((rd l0 bU) != (rd l1 bU)) = true := bne_iff_ne.mpr c8;obtain rfl := Option.some.inj H;have Lf : 0 <= (bU : Int) := of_decide_eq_true jh;have Lg : bU < (l0.length : Int) := of_decide_eq_true jh;obtain ⟨ad441, V4, hx441_0⟩ := Kd.qY nJ.out bU Lf Lg
         cases V4
         replace Lf := eq_true Lf;replace Lg := eq_true Lg;have Lh : 0 <= (bU : Int) := of_decide_eq_true jh;have Li : bU < (l1.length : Int) := of_decide_eq_true jh;obtain ⟨ad442, V5, hx442_0⟩ := Kd.qY HR1.out bU Lh Li
         cases V5
         replace Lh := eq_true Lh;replace Li := eq_true Li;go_wp2
         repeat (go_quiet (fail); try go_wp2)
         go_ret;exact ⟨by first | rfl | (simp; done) | (simp [*]; done), by repeat (first | exact av.refl _ | apply av.step)⟩
       ·rw [if_neg c7] at H
        exact absurd H (by simp)
      ·rw [if_neg c6] at H
       exact absurd H (by simp)
     ·rw [if_neg c5] at H
      exact absurd H (by simp)
    ·rw [if_neg c4] at H
     have tV : decide (bU < (l0.length : Int)) = false := decide_eq_false c4;clear c4;obtain rfl := Option.some.inj H;go_wp2
     repeat (go_quiet (fail); try go_wp2)
     go_ret;exact ⟨by first | rfl | (simp; done) | (simp [*]; done), by repeat (first | exact av.refl _ | apply av.step)⟩
 ·rw [if_neg c3] at H
  have tT : ((l0.length : Int) == (l1.length : Int)) = false := beq_eq_false_iff_ne.mpr c3;have GI : ((l0.length : Int) != (l1.length : Int)) = true := bne_iff_ne.mpr c3
  have Q9 : (l0.length == l1.length) = false := by first | simpa using c3 | (simp at c3 ⊢; omega)
  obtain rfl := Option.some.inj H;go_enter Try.func90, Try.ntmps90;go_wp2
  repeat (go_quiet (fail); try go_wp2)
  go_ret;exact ⟨by first | rfl | (simp; done) | (simp [*]; done), by repeat (first | exact av.refl _ | apply av.step)⟩
end Go.Proofs.Ytoddejmlcnbdmaa.Fn
namespace Go.Proofs.Ytoddejmlcnbdmaa.Pure
theorem IU (l : List Int) (hl : l.length <= 1048576) : Ev (fun k => dE.f k l l) true := by
 have h := OX (fun k i => dE.l0 k l l l.length i) l.length true ?_ ?_
 ·simp only [dE.f]
  (repeat (first | with_reducible refine Ev.jO ?_ | (with_reducible refine Ev.wT ?_ ?_; (· exact iy)) | (with_reducible refine Ev.xw ?_ ?_; (· exact iy))))
  exact h
 ·intro k
  simp only [dE.l0];rw [if_neg (by omega)]
 ·intro i hi
  refine ⟨0, fun k _ => ?_⟩;simp only [dE.l0];rw [if_pos (by omega), if_pos (by omega), if_pos (by omega), if_pos (by omega), if_pos trivial, nP (by omega)]
theorem Gm (l : List ByteArray) (hl : l.length <= 1048576) : Ev (fun k => dw.f k l l) true := by
 have h := OX (fun k i => dw.l0 k l l l.length i) l.length true ?_ ?_
 ·simp only [dw.f]
  (repeat (first | with_reducible refine Ev.jO ?_ | (with_reducible refine Ev.wT ?_ ?_; (· exact iy)) | (with_reducible refine Ev.xw ?_ ?_; (· exact iy))))
  exact h
 ·intro k
  simp only [dw.l0];rw [if_neg (by omega)]
 ·intro i hi
  refine ⟨0, fun k _ => ?_⟩;simp only [dw.l0];rw [if_pos (by omega), if_pos (by omega), if_pos (by omega), if_pos (by omega), if_pos trivial, nP (by omega)]
end Go.Proofs.Ytoddejmlcnbdmaa.Pure
namespace Go.Proofs.Ytoddejmlcnbdmaa.Tree
theorem Cy {A0 A1 : Option Addr} {c0 c1 : Nat} {l : List ByteArray} {w : World} (hl : l.length <= 1048576) (hr0 : Kd.C Kd.string w A0 l.length l) (hc0 : l.length <= c0) (hr1 : Kd.C Kd.string w A1 l.length l) (hc1 : l.length <= c1) : Calls Try.prog 51 #[.slice A0 l.length c0, .slice A1 l.length c1] w fun e w' => e = .returned (.bool true) /\ av w w' := by
 obtain ⟨k, hk⟩ := Pure.Gm l hl;exact dw.calls k A0 c0 l A1 c1 l true w hr0 hc0 hr1 hc1 (hk k (Nat.le_refl _))
theorem NA {A0 A1 : Option Addr} {c0 c1 : Nat} {l : List Int} {w : World} (hl : l.length <= 1048576) (hr0 : Kd.C (Kd.int .i64) w A0 l.length l) (hc0 : l.length <= c0) (hr1 : Kd.C (Kd.int .i64) w A1 l.length l) (hc1 : l.length <= c1) : Calls Try.prog 90 #[.slice A0 l.length c0, .slice A1 l.length c1] w fun e w' => e = .returned (.bool true) /\ av w w' := by
 obtain ⟨k, hk⟩ := Pure.IU l hl;exact dE.calls k A0 c0 l A1 c1 l true w hr0 hc0 hr1 hc1 (hk k (Nat.le_refl _))
structure Gn (w : World) (ad : Addr) (i : Nat) (v0 v1 v2 : Value) (y : bC) : Prop where
 x0 : w.cell? (ad.add (i * 3)) = some v0
 x1 : w.cell? ⟨(ad.add (i * 3)).block, (ad.add (i * 3)).off + 1, none⟩ = some v1
 x2 : w.cell? ⟨(ad.add (i * 3)).block, (ad.add (i * 3)).off + 2, none⟩ = some v2
theorem Mm {w : World} {A : Option Addr} {xs : List bC} {i : Nat} {y : bC} (h : Kd.C j4 w A xs.length xs) (hi : xs[i]? = some y) : ∃ ad A0 c0 A1 c1 A2 c2, A = some ad /\ Gn w ad i (.slice A0 y.f0.length c0) (.slice A1 y.f1.length c1) (.slice A2 y.f2.length c2) y /\ (y.f0.length <= c0 /\ Kd.string.C w A0 y.f0.length y.f0) /\ (y.f1.length <= c1 /\ Kd.string.C w A1 y.f1.length y.f1) /\ (y.f2.length <= c2 /\ (Kd.int .i64).C w A2 y.f2.length y.f2) := by
 have hlt := (List.getElem?_eq_some_iff.1 hi).1;have hy : gB xs (i : Int) = y := by unfold gB; rw [Int.toNat_natCast, List.getD_eq_getElem?_getD, hi]; rfl
 obtain ⟨ad, A0, c0, A1, c1, A2, c2, e, x0, x1, x2, l0, i0, l1, i1, l2, i2⟩ := FH h (i : Int) (by omega) (by omega);rw [hy] at x0 x1 x2 l0 i0 l1 i1 l2 i2;rw [Int.toNat_natCast] at x0 x1 x2;exact ⟨ad, A0, c0, A1, c1, A2, c2, e, ⟨x0, x1, x2⟩, ⟨l0, i0⟩, ⟨l1, i1⟩, ⟨l2, i2⟩⟩
theorem Gn.below {w w1 : World} {ad : Addr} {i : Nat} {v0 v1 v2 : Value} {y : bC} (h : Gn w ad i v0 v1 v2 y) (hb : Below w.heap.size w w1) : Gn w1 ad i v0 v1 v2 y :=
 ⟨(hb.cell (World.block_lt_of_cell? w _ h.x0)).trans h.x0, (hb.cell (World.block_lt_of_cell? w _ h.x1)).trans h.x1, (hb.cell (World.block_lt_of_cell? w _ h.x2)).trans h.x2⟩
theorem Fh {w W : World} {g : Nat} (h : Below w.heap.size w W) (hg : w.heap.size <= g) (u0 u1 u2 : Value) : Below w.heap.size w (((W.setCell ⟨g, 0, none⟩ u0).setCell ⟨g, 1, none⟩ u1).setCell ⟨g, 2, none⟩ u2) := bF (bF (bF h hg) hg) hg
theorem Cz (A0 A1 : Option Addr) (c0 c1 : Nat) (l : List bC) (w : World) (hl : l.length <= 1048576) (hs : ∀ p ∈ l, p.f0.length <= 1048576 /\ p.f1.length <= 1048576 /\ p.f2.length <= 1048576) (hr0 : Kd.C j4 w A0 l.length l) (hc0 : l.length <= c0) (hr1 : Kd.C j4 w A1 l.length l) (hc1 : l.length <= c1) :
  Calls Try.prog 46 #[.agg #[.slice A0 l.length c0], .agg #[.slice A1 l.length c1]] w fun e w' => e = .returned (.bool true) /\ Below w.heap.size w w' := by
 have HL := A_ hl;have HM := A_ hs;have nJ := A_ hr0;have HR1 := A_ hr1
 have HS : af (aa w w.heap.size []) := ⟨Sat.nil _ _⟩
 have HB := A_ (Below.refl w.heap.size w);clear hl hs hr0 hr1 hc0 hc1;have cq : ((l.length : Int) != (l.length : Int)) = false := by simp
 go_enter Try.func46, Try.ntmps46
 go_wp2_with (first | (refine jl 2 #[.slice A0 l.length c0] 29 ?_; intro g2 hg w1 aA hb; have ah : af (aa w1 w.heap.size [[.box 29 g2 #[.slice A0 l.length c0]]]) := ⟨HS.out.je hg aA hb HB.out.size⟩; replace HB := A_ (ay HB.out hb); replace HS := ah; clear ah hg aA hb) | (refine jl 3 #[.slice A1 l.length c1] 29 ?_; intro g3 hg w2 aA hb; have ah : af (aa w2 w.heap.size [[.box 29 g2 #[.slice A0 l.length c0]], [.box 29 g3 #[.slice A1 l.length c1]]]) := ⟨HS.out.je hg aA hb HB.out.size⟩; replace HB := A_ (ay HB.out hb); replace HS := ah; clear ah hg aA hb; have hz2 := (HS.out.z 0 rfl 0).trans rfl; have hz3 := (HS.out.z 1 rfl 0).trans rfl))
 go_loopg [18] l.length (fun kq v18 w' => ∃ i : Nat, v18 = .int .i64 (i : Int) /\ af (i <= l.length /\ kq + i = l.length) /\ af (aa w' w.heap.size [[.box 29 g2 #[.slice A0 l.length c0]], [.box 29 g3 #[.slice A1 l.length c1]]]) /\ af (Below w.heap.size w w'))
 case atStart => exact ⟨0, by first | rfl | (simp; done), ⟨Nat.zero_le _, by first | rfl | omega⟩, HS, HB⟩
 case round =>
  clear HS HB hz2 hz3 cq;obtain ⟨i, rfl, HI, HS, HB⟩ := hrel
  by_cases hi : i < l.length
  ·have c_ := lQ ((i : Int) < (l.length : Int))
   have K4 : (i < l.length) = True := eq_true hi;have QB := bV (0 <= (i : Int));have QC := bV ((i : Int) < (l.length : Int));have HP := A_ hi;have hx : l[i]? = some l[i] := List.getElem?_eq_getElem hi;have HY := A_ (HM.out l[i] (List.getElem_mem hi));generalize l[i] = y at hx HY;obtain ⟨ad, P0, d0, P1, d1, P2, d2, e, hp, hi0, hi1, hi2⟩ := Mm nJ.out hx;subst e;obtain ⟨ae, Q0, e0, Q1, e1, Q2, e2, e, hq, hj0, hj1, hj2⟩ := Mm HR1.out hx;subst e;have HPG := A_ hp;have HQG := A_ hq;have HI0 := A_ (And.intro hi0 hj0);have HI1 := A_ (And.intro hi1 hj1);have HI2 := A_ (And.intro hi2 hj2);clear hi hx hp hq hi0 hi1 hi2 hj0 hj1 hj2;obtain ⟨Z4, Z5, Z6⟩ := HPG.out.below HB.out;have hz2 := (HS.out.z 0 rfl 0).trans rfl
   go_upto_region 6 with (first | (refine jl 6 #[.slice none 0 0, .slice none 0 0, .slice none 0 0] 110 ?_; intro g6 hg w5 aA hb; have ah : af (aa w5 w.heap.size [[.box 29 g2 #[.slice (some ad) l.length c0]], [.box 29 g3 #[.slice (some ae) l.length c1]], jM 110 g6 none 0 0 none 0 0 none 0 0]) := ⟨HS.out.je hg aA hb HB.out.size⟩; replace HB := A_ (ay HB.out hb); replace HS := ah; clear ah hg aA hb; have V6 := aa.z0 HS.out 2 rfl; have V7 := aa.z1 HS.out 2 rfl; have V8 := aa.z2 HS.out 2 rfl; have V9 := aa.f HS.out 2 rfl 0; have Wd := aa.f HS.out 2 rfl 1; have We := aa.f HS.out 2 rfl 2))
   have ah : af (aa (World.setCell (World.setCell (World.setCell w5 ⟨g6, 0, none⟩ (.slice P0 y.f0.length d0)) ⟨g6, 1, none⟩ (.slice P1 y.f1.length d1)) ⟨g6, 2, none⟩ (.slice P2 y.f2.length d2)) w.heap.size [[.box 29 g2 #[.slice (some ad) l.length c0]], [.box 29 g3 #[.slice (some ae) l.length c1]], jM 110 g6 P0 y.f0.length d0 P1 y.f1.length d1 P2 y.f2.length d2]) := ⟨aa.rW (aa.xU (aa.xS HS.out 2 rfl (.slice P0 y.f0.length d0)) 2 rfl (.slice P1 y.f1.length d1)) 2 rfl (.slice P2 y.f2.length d2)⟩
   replace HB := A_ (Fh HB.out (aa.ge HS.out 2 rfl) (.slice P0 y.f0.length d0) (.slice P1 y.f1.length d1) (.slice P2 y.f2.length d2));generalize World.setCell (World.setCell (World.setCell w5 ⟨g6, 0, none⟩ (.slice P0 y.f0.length d0)) ⟨g6, 1, none⟩ (.slice P1 y.f1.length d1)) ⟨g6, 2, none⟩ (.slice P2 y.f2.length d2) = w6 at ah HB ⊢;replace HS := ah; clear ah V6 V7 V8 V9 Wd We;clear Z4 Z5 Z6 hz2;obtain ⟨Z4, Z5, Z6⟩ := HQG.out.below HB.out;have hz3 := (HS.out.z 1 rfl 0).trans rfl
   go_upto_region 7 with (first | (refine jl 7 #[.slice none 0 0, .slice none 0 0, .slice none 0 0] 110 ?_; intro g7 hg w7 aA hb; have ah : af (aa w7 w.heap.size [[.box 29 g2 #[.slice (some ad) l.length c0]], [.box 29 g3 #[.slice (some ae) l.length c1]], jM 110 g6 P0 y.f0.length d0 P1 y.f1.length d1 P2 y.f2.length d2, jM 110 g7 none 0 0 none 0 0 none 0 0]) := ⟨HS.out.je hg aA hb HB.out.size⟩; replace HB := A_ (ay HB.out hb); replace HS := ah; clear ah hg aA hb; have V6 := aa.z0 HS.out 3 rfl; have V7 := aa.z1 HS.out 3 rfl; have V8 := aa.z2 HS.out 3 rfl; have V9 := aa.f HS.out 3 rfl 0; have Wd := aa.f HS.out 3 rfl 1; have We := aa.f HS.out 3 rfl 2))
   have ah : af (aa (World.setCell (World.setCell (World.setCell w7 ⟨g7, 0, none⟩ (.slice Q0 y.f0.length e0)) ⟨g7, 1, none⟩ (.slice Q1 y.f1.length e1)) ⟨g7, 2, none⟩ (.slice Q2 y.f2.length e2)) w.heap.size [[.box 29 g2 #[.slice (some ad) l.length c0]], [.box 29 g3 #[.slice (some ae) l.length c1]], jM 110 g6 P0 y.f0.length d0 P1 y.f1.length d1 P2 y.f2.length d2, jM 110 g7 Q0 y.f0.length e0 Q1 y.f1.length e1 Q2 y.f2.length e2]) := ⟨aa.rW (aa.xU (aa.xS HS.out 3 rfl (.slice Q0 y.f0.length e0)) 3 rfl (.slice Q1 y.f1.length e1)) 3 rfl (.slice Q2 y.f2.length e2)⟩
   replace HB := A_ (Fh HB.out (aa.ge HS.out 3 rfl) (.slice Q0 y.f0.length e0) (.slice Q1 y.f1.length e1) (.slice Q2 y.f2.length e2));generalize World.setCell (World.setCell (World.setCell w7 ⟨g7, 0, none⟩ (.slice Q0 y.f0.length e0)) ⟨g7, 1, none⟩ (.slice Q1 y.f1.length e1)) ⟨g7, 2, none⟩ (.slice Q2 y.f2.length e2) = w8 at ah HB ⊢;replace HS := ah; clear ah V6 V7 V8 V9 Wd We;clear Z4 Z5 Z6 hz3;have zp0_ := aa.z0 HS.out 2 rfl;have zp1_ := aa.z1 HS.out 2 rfl;have zp2_ := aa.z2 HS.out 2 rfl;have zq0_ := aa.z0 HS.out 3 rfl;have Oa := aa.z1 HS.out 3 rfl;have zq2_ := aa.z2 HS.out 3 rfl
   go_wp2_with (first | (go_at_call 51; (with_reducible refine (Cy (l := y.f0) HY.out.1 ?s1 HI0.out.1.1 ?s2 HI0.out.2.1).mono ?_); (case s1 => repeat (first | exact Kd.aN HI0.out.1.2 HB.out | (with_reducible refine Kd.dB ?_ _))); (case s2 => repeat (first | exact Kd.aN HI0.out.2.2 HB.out | (with_reducible refine Kd.dB ?_ _))); rintro e w' ⟨rfl, ⟨nd, rfl⟩⟩) | (go_at_call 51; (with_reducible refine (Cy (l := y.f1) HY.out.2.1 ?s1 HI1.out.1.1 ?s2 HI1.out.2.1).mono ?_); (case s1 => repeat (first | exact Kd.aN HI1.out.1.2 HB.out | (with_reducible refine Kd.dB ?_ _))); (case s2 => repeat (first | exact Kd.aN HI1.out.2.2 HB.out | (with_reducible refine Kd.dB ?_ _))); rintro e w' ⟨rfl, ⟨nd, rfl⟩⟩) | (go_at_call 90; (with_reducible refine (NA (l := y.f2) HY.out.2.2 ?s1 HI2.out.1.1 ?s2 HI2.out.2.1).mono ?_); (case s1 => repeat (first | exact Kd.aN HI2.out.1.2 HB.out | (with_reducible refine Kd.dB ?_ _))); (case s2 => repeat (first | exact Kd.aN HI2.out.2.2 HB.out | (with_reducible refine Kd.dB ?_ _))); rintro e w' ⟨rfl, ⟨nd, rfl⟩⟩))
   go_roundg (l.length - (i + 1))
   case measure => have := HI.out; have := HP.out; omega
   case rel => exact ⟨i + 1, by have := HL.out; have := HP.out; rw [Pure.gP (by omega) (by omega)]; congr 1, ⟨by have := HP.out; omega, by have := HP.out; omega⟩, ⟨by (with_reducible repeat refine aa.drewN ?_ _); exact HS.out.gJ [0, 1] (by decide)⟩, ⟨by (with_reducible repeat apply aj); exact HB.out⟩⟩
  ·have c_ := kS ((i : Int) < (l.length : Int))
   have K4 : (i < l.length) = False := eq_false hi;clear hi;go_wp2;go_ret;exact ⟨rfl, HB.out⟩
end Go.Proofs.Ytoddejmlcnbdmaa.Tree
namespace Go.Proofs.Ytoddejmlcnbdmaa.Fn
open Go.Proofs.Ytoddejmlcnbdmaa.Pure (EG tH jX aX jJ lM fD nT ko bA vD)
end Go.Proofs.Ytoddejmlcnbdmaa.Fn

