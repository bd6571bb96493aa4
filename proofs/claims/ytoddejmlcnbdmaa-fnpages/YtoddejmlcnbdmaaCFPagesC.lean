/- The law FnPages holds of the given program: at every input it answers true and leaves its arguments as they were; no condition. This text: part 3 of what its proof reaches. -/
import Derived.Deep.QuietTactic
import Derived.BigQuiet
import Derived.Laws.IdiomCopy
import Derived.Lib.AppendZerosOnto
import Derived.Lib.Overlaps
import Derived.Laws.Externs
import Derived.Shelf.Spec.SlicesInsert
import Derived.Lib.SliceRun
import Derived.Lib.AppendZeros
import Derived.Test.YtoddejmlcnbdmaaCFPagesA
import Derived.Test.YtoddejmlcnbdmaaCFPagesB
set_option maxHeartbeats 8000000
set_option maxRecDepth 100000
set_option linter.unusedVariables false
set_option linter.unusedSimpArgs false
open Go.Lib
open Go.RowKit Go.Proofs.YtoddejmlcnbdmaaW.PrintWords Go.Proofs.YtoddejmlcnbdmaaW.PrintLast Go.Proofs.YtoddejmlcnbdmaaW.PrintMore Go.Proofs.Ytoddejmlcnbdmaa.Gen Go.Proofs.Ytoddejmlcnbdmaa.Fn Go.Proofs.Ytoddejmlcnbdmaa.Tree
namespace Go.Proofs.Ytoddejmlcnbdmaa.Tree
def jV (T E : Nat) (t : NT) (L : List Ck) : List (List Ck) :=
 [[.box T t.p #[t.kv, t.vv, t.cv]], [txt t.kv t.keys], [txt t.vv t.vals], [.jL E t.cv (ptrs t.kids)], NT.aZ T E t.kids, L]
theorem zz {T E : Nat} {t : NT} {L : List Ck} : (jV T E t L).flatten = t.dH T E ++ L := by
 rw [NT.kJ];unfold jV NT.head;simp only [List.flatten_cons, List.flatten_nil, List.append_assoc, List.cons_append, List.nil_append, List.append_nil]
theorem fF {w : World} {base T E : Nat} {t : NT} {L : List Ck} (hs : Sat w base (t.dH T E ++ L)) : aa w base (jV T E t L) := by
 unfold aa;rw [zz];exact hs
theorem gV {w : World} {base T E : Nat} {t : NT} {L : List Ck} (hs : aa w base (jV T E t L)) : Sat w base (t.dH T E ++ L) := by
 unfold aa at hs;rw [zz] at hs;exact hs
theorem fZ {w : World} {base g n c : Nat} {l : List ByteArray} (h : SR w base (.slice (some ⟨g, 0, none⟩) n c) l) (hl : 0 < l.length) (j : Nat) : w.frozen? ⟨g, j, none⟩ = false := by
 obtain ⟨g', c', e, _, _, cells, hc⟩ := Kd.rq h hl
 injection e with e1 e2 e3
 injection e1 with e1
 injection e1 with e1
 subst e1;exact aV hc j
theorem BN {w : World} {base g n c : Nat} {l : List ByteArray} (h : SR w base (.slice (some ⟨g, 0, none⟩) n c) l) (i : Nat) (hi : i < l.length) : w.cell? ⟨g, i, none⟩ = some (.string (bO ByteArray.empty l (i : Int))) := by
 obtain ⟨h1, h2, h3⟩ := Kd.dS h;obtain ⟨Yq, e, hz⟩ := Kd.bH h3 (i : Int) (by omega) (by omega)
 injection e with e
 subst e;rw [Int.toNat_natCast] at hz;have : (⟨g, 0, none⟩ : Addr).add i = ⟨g, i, none⟩ := by simp only [Addr.add]; split <;> simp_all
 rw [this] at hz;exact hz
theorem aU (t : NT) : t.erase.keys = t.keys := by cases t; rfl
theorem mD (t : NT) : t.erase.vals = t.vals := by cases t; rfl
theorem qi (t : NT) : t.erase.kids = t.kids.map NT.erase := by cases t; exact aC _
theorem bE (t : NT) : t.erase.kids.length = t.kids.length := by rw [qi, List.length_map]
theorem BO (ks vs : List ByteArray) (cs : List PT) (i : Nat) (x k : PT) : splitK (.mk ks vs (cs.set i x)) k i = splitK (.mk ks vs cs) k i := by
 unfold splitK;simp only [PT.keys, PT.vals, PT.kids, List.set_set]
theorem O4.calls (key val : ByteArray) : ∀ (n : Nat) (t : NT), t.erase.big <= n -> kV t.erase -> ∀ (base : Nat) (L : List Ck) (w : World), Sat w base (t.dH 96 70 ++ L) -> base <= w.heap.size ->
  Calls Try.prog 105 #[bu t.p, .string key, .string val] w (WR w base 96 70 t L (lT n t.erase key val)) := by
 intro n
 induction n with
 | zero =>
  intro t hb;exact absurd t.erase.fB (by omega)
 | succ n ih =>
  intro t hbig hbd base L w hs hbs;have hrd := jc hs.left;obtain ⟨⟨ho1, ho2, ho3⟩, oO⟩ := bJ.1 hbd;have h0 := fF hs
  obtain ⟨R, hR⟩ : ∃ R, R = lT (n + 1) t.erase key val := ⟨_, rfl⟩
  rw [<- hR]
  cases t with | mk tp yC yD yE tks tvs aJ =>
  have e0 : (NT.mk tp yC yD yE tks tvs aJ).erase = .mk tks tvs (NT.ax aJ) := rfl;rw [e0] at hrd hbig hbd ho1 ho2 ho3 oO hR;replace hrd : Rd 96 w tp (PT.mk tks tvs (NT.ax aJ)) := hrd;unfold jV at h0;simp only [NT.keys, NT.vals, NT.kids, NT.p, NT.kv, NT.vv, NT.cv] at h0 ⊢;simp only [PT.keys, PT.vals, PT.kids] at ho1 ho2 ho3 oO
  obtain ⟨i, hi⟩ : ∃ i, dG key tks = i := ⟨_, rfl⟩
  rw [lT] at hR;simp only [PT.keys, PT.vals, PT.kids] at hR;simp only [hi] at hR;have hle : i <= tks.length := by rw [<- hi]; exact lS key tks
  have HM := A_ (show (PT.mk tks tvs (NT.ax aJ)).keys.length <= 1000000000000 by show tks.length <= _; omega);have HI := A_ (show dG key (PT.mk tks tvs (NT.ax aJ)).keys = i from hi);have vQ := A_ hrd;have bQ := A_ hbs;have Fv : tvs.length <= 4 := by omega
  have Dy := A_ ho1;have hi4 : i <= 4 := by omega
  obtain ⟨jF, fG, rfl⟩ := Kd.ak (h0.sr 1 rfl);obtain ⟨jK, fM, rfl⟩ := Kd.ak (h0.sr 2 rfl);obtain ⟨qB, fK, rfl, hlc, hC⟩ := dz (h0.q 3 rfl)
  obtain ⟨GC, U5⟩ : ∃ G, G = NT.aZ 96 70 aJ := ⟨_, rfl⟩
  rw [<- U5] at h0;have HS := A_ h0;have SF := A_ U5;clear h0 U5 hrd hs hi hbs
  cases hb : jg tks i key with
  | true =>
   have zK := A_ (show jg (PT.mk tks tvs (NT.ax aJ)).keys i key = true from hb);rw [if_pos hb] at hR;have HR := A_ hR;have hlt : i < tvs.length := by have := jQ hb; omega
   obtain ⟨gv, _, ev, hgv, _, _⟩ := Kd.rq (HS.out.sr 2 rfl) (by omega);obtain rfl : jK = some ⟨gv, 0, none⟩ := by injection ev
   have Zm := A_ hgv;have hz1 := HS.out.z 0 rfl 1;have hcv := BN (HS.out.sr 2 rfl) i hlt;have hfv := fZ (HS.out.sr 2 rfl) (by omega) i;have QB := bV (0 <= (i : Int));have QC := bV ((i : Int) < (tvs.length : Int));have Rh : (i < tvs.length) = True := eq_true hlt;clear hb hR ev hgv ho1 ho3 oO hlc hC hbig hbd e0;go_enter Try.func105, Try.ntmps105
   go_wp2_with (first | (go_at_call 100; (with_reducible refine (qF.calls (PT.mk tks tvs (NT.ax aJ)) HM.out key i true HI.out zK.out _ vQ.out).mono ?_); rintro e w1 ⟨rfl, ⟨nd, rfl⟩⟩))
   go_end0
   refine ⟨rfl, NT.mk tp (.slice jF tks.length fG) (.slice (some ⟨gv, 0, none⟩) tvs.length fM) (.slice qB aJ.length fK) tks (tvs.set i val) aJ, rfl, ?_, ?_, ?_⟩
   ·rw [HR.out]
    rfl
   ·have hS0 := aa.BI (aa.drewN HS.out nd) 2 rfl i val
    rw [List.length_set] at hS0;refine gV ?_;unfold jV;simp only [NT.keys, NT.vals, NT.kids, NT.p, NT.kv, NT.vv, NT.cv];rw [<- SF.out];exact hS0
   ·exact (aj (Below.refl base w) _).setCell (p := ⟨gv, i, none⟩) Zm.out _
  | false =>
   have zK := A_ (show jg (PT.mk tks tvs (NT.ax aJ)).keys i key = false from hb);rw [if_neg (by rw [hb]; decide)] at hR
   by_cases h0 : aJ.length = 0
   ·rw [if_pos (by rw [aC, List.length_map]; exact h0)] at hR
    have HR := A_ hR;have hbl := A_ (show decide ((((PT.mk tks tvs (NT.ax aJ)).kids.length : Nat) : Int) = 0) = true from decide_eq_true (by show ((NT.ax aJ).length : Int) = 0; rw [aC, List.length_map]; omega));have DV := A_ (show i <= tks.length /\ tks.length <= 1000000000000 by omega);have HL2 := A_ (show i <= tvs.length /\ tvs.length <= 1000000000000 by omega);clear hb hR ho1 ho3 oO hlc hC hbig hbd e0 h0;go_enter Try.func105, Try.ntmps105
    go_upto_region 7 with (first | (go_at_call 100; (with_reducible refine (qF.calls (PT.mk tks tvs (NT.ax aJ)) HM.out key i false HI.out zK.out _ vQ.out).mono ?_); rintro e w1 ⟨rfl, ⟨nd, rfl⟩⟩) | (go_at_call 84; (with_reducible refine (dm.cK true hbl.out _ ?az).mono ?_); (case az => repeat (first | exact vQ.out | (with_reducible refine Rd.drewN ?_ _) | (with_reducible refine Rd.drew ?_))); rintro e w' ⟨rfl, ⟨nd, rfl⟩⟩))
    generalize hW : World.drewN _ _ = w2
    have ah : af (aa w2 base [jM 96 tp jF tks.length fG jK tvs.length fM qB aJ.length fK, gK jF fG tks, gK jK fM tvs, lX 70 qB fK aJ, GC, L]) := ⟨by rw [<- hW]; exact aa.drewN HS.out _⟩
    have bT : af (Below base w w2) := ⟨by rw [<- hW]; exact aj (Below.refl base w) _⟩
    clear HS hW;have HS := ah;have HB := bT;clear ah bT;have hzs := HS.out.z 0 rfl 0;have hfs := HS.out.f 0 rfl 0
    go_upto_region 8 with (first | (go_at_call 124; (with_reducible refine (fI.calls jF fG tks (i : Int) key (aI tks i key) _ ?az ?bW (mr key DV.out.1 DV.out.2)).mono ?_); (case az => exact (aa.row HS.out 1 rfl).2.2); (case bW => exact (aa.row HS.out 1 rfl).2.1); rintro e w3 ⟨v0, rfl, ho, hb⟩; obtain ⟨GX, GY, rfl⟩ := Kd.ak ho; have ah := jN (aa.eG HS.out hb (cO bQ HB) ho); replace HB : af (Below base w w3) := ⟨HB.out.trans (hb.mono (cO bQ HB))⟩; replace HS := ah; clear ah ho hb hzs hfs; have hzs := HS.out.z 0 rfl 0; have hfs := HS.out.f 0 rfl 0))
    have ah := gq (World.setCell w3 ⟨tp, 0, none⟩ (.slice GX (aI tks i key).length GY)) (aa.gJ (aa.put HS.out 0 rfl 0 (.slice GX (aI tks i key).length GY) rfl) [0, 6, 2, 3, 4, 5] (by decide))
    replace HB : af (Below base w (World.setCell w3 ⟨tp, 0, none⟩ (.slice GX (aI tks i key).length GY))) := ⟨HB.out.setCell (p := ⟨tp, 0, none⟩) (aa.ge HS.out 0 rfl) _⟩
    generalize World.setCell w3 ⟨tp, 0, none⟩ (.slice GX (aI tks i key).length GY) = w4 at ah HB ⊢;replace HS := ah; clear ah hzs hfs;have hzs := HS.out.z 0 rfl 1;have hfs := HS.out.f 0 rfl 1
    go_wp2_with (first | (go_at_call 124; (with_reducible refine (fI.calls jK fM tvs (i : Int) val (aI tvs i val) _ ?az ?bW (mr val HL2.out.1 HL2.out.2)).mono ?_); (case az => exact (aa.row HS.out 2 rfl).2.2); (case bW => exact (aa.row HS.out 2 rfl).2.1); rintro e w5 ⟨v0, rfl, ho, hb⟩; obtain ⟨GZ, G5, rfl⟩ := Kd.ak ho; have ah := jN (aa.eG HS.out hb (cO bQ HB) ho); replace HB : af (Below base w w5) := ⟨HB.out.trans (hb.mono (cO bQ HB))⟩; replace HS := ah; clear ah ho hb hzs hfs; have hzs := HS.out.z 0 rfl 1; have hfs := HS.out.f 0 rfl 1))
    have ah := gq (World.setCell w5 ⟨tp, 1, none⟩ (.slice GZ (aI tvs i val).length G5)) (aa.gJ (aa.put HS.out 0 rfl 1 (.slice GZ (aI tvs i val).length G5) rfl) [0, 1, 6, 3, 4, 5] (by decide))
    replace HB : af (Below base w (World.setCell w5 ⟨tp, 1, none⟩ (.slice GZ (aI tvs i val).length G5))) := ⟨HB.out.setCell (p := ⟨tp, 1, none⟩) (aa.ge HS.out 0 rfl) _⟩
    generalize World.setCell w5 ⟨tp, 1, none⟩ (.slice GZ (aI tvs i val).length G5) = w6 at ah HB ⊢;replace HS := ah; clear ah hzs hfs
    go_end0
    refine ⟨rfl, NT.mk tp (.slice GX (aI tks i key).length GY) (.slice GZ (aI tvs i val).length G5) (.slice qB aJ.length fK) (aI tks i key) (aI tvs i val) aJ, rfl, ?_, ?_, HB.out⟩
    ·rw [HR.out]
     rfl
    ·refine gV ?_
     unfold jV;simp only [NT.keys, NT.vals, NT.kids, NT.p, NT.kv, NT.vv, NT.cv];rw [<- SF.out];exact HS.out
   ·have hkl : aJ.length = tks.length + 1 := by
     rcases ho3 with h | h
     ·rw [aC, List.length_map] at h; exact absurd h h0
     ·rw [aC, List.length_map] at h; exact h
    obtain ⟨s, hsx⟩ : ∃ s, aJ[i]? = some s := ⟨aJ[i], List.getElem?_eq_getElem (by omega)⟩
    have hse : (NT.ax aJ)[i]? = some s.erase := by rw [aC, List.getElem?_map, hsx]; rfl
    rw [if_neg (by rw [aC, List.length_map]; exact h0)] at hR;simp only [hse] at hR;have hsb : kV s.erase := oO _ (List.mem_of_getElem? hse)
    have hsg : s.erase.big <= n := by
     have := PT.gH (t := PT.mk tks tvs (NT.ax aJ)) hse;omega
    have hbl := A_ (show decide ((((PT.mk tks tvs (NT.ax aJ)).kids.length : Nat) : Int) = 0) = false from decide_eq_false (by show ((NT.ax aJ).length : Int) ≠ 0; rw [aC, List.length_map]; omega));have HR := A_ hR
    obtain ⟨SE, Zn⟩ : ∃ x, x = s.erase := ⟨_, rfl⟩
    have Fx := A_ hsb;have Zo := A_ hsg;have rE := A_ hsx;have KT := A_ oO;have hil : i < aJ.length := (List.getElem?_eq_some_iff.1 hsx).1;have hcl : aJ.length <= 5 := by omega
    have xu := A_ hkl;have Yx := A_ (show i <= tks.length /\ tks.length <= 4 by omega);clear hb hR ho1 ho3 oO hlc hC hbig hbd e0 h0 hse hsb hsg hkl Zn;go_enter Try.func105, Try.ntmps105
    go_upto_region 1 with (first | (go_at_call 100; (with_reducible refine (qF.calls (PT.mk tks tvs (NT.ax aJ)) HM.out key i false HI.out zK.out _ vQ.out).mono ?_); rintro e w1 ⟨rfl, ⟨nd, rfl⟩⟩) | (go_at_call 84; (with_reducible refine (dm.cK false hbl.out _ ?az).mono ?_); (case az => repeat (first | exact vQ.out | (with_reducible refine Rd.drewN ?_ _) | (with_reducible refine Rd.drew ?_))); rintro e w' ⟨rfl, ⟨nd, rfl⟩⟩))
    generalize hW : World.drewN _ _ = w2
    have ah : af (aa w2 base [jM 96 tp jF tks.length fG jK tvs.length fM qB aJ.length fK, gK jF fG tks, gK jK fM tvs, lX 70 qB fK aJ, GC, L]) := ⟨by rw [<- hW]; exact aa.drewN HS.out _⟩
    have bT : af (Below base w w2) := ⟨by rw [<- hW]; exact aj (Below.refl base w) _⟩
    clear HS hW vQ hbl;have HS := ah;have HB := bT;clear ah bT;obtain ⟨iB, rfl, Rf⟩ := wO (aa.fH HS.out 3 rfl).2.2 (i : Int) (by omega) (by omega);rw [show bO 0 (aJ.map NT.p) (i : Int) = s.p by unfold bO; rw [Int.toNat_natCast, List.getD_eq_getElem?_getD, List.getElem?_map, hsx]; rfl, Int.toNat_natCast] at Rf;have hz2 := HS.out.z 0 rfl 2;have QB := bV (0 <= (i : Int));have QC := bV ((i : Int) < (aJ.length : Int));have Rh : (i < aJ.length) = True := eq_true hil
    have HT : af (Sat w2 base ((NT.mk tp (.slice jF tks.length fG) (.slice jK tvs.length fM) (.slice (some iB) aJ.length fK) tks tvs aJ).dH 96 70 ++ L)) := ⟨by
     refine gV ?_;unfold jV;simp only [NT.keys, NT.vals, NT.kids, NT.p, NT.kv, NT.vv, NT.cv];rw [<- SF.out]
     exact HS.out⟩
    clear HS SF hsx
    obtain ⟨t0, ht0⟩ : ∃ t0, t0 = NT.mk tp (.slice jF tks.length fG) (.slice jK tvs.length fM) (.slice (some iB) aJ.length fK) tks tvs aJ := ⟨_, rfl⟩
    have HT0 := A_ ht0;rw [<- ht0] at HT
    have MH : af (t0.kids[i]? = some s) := ⟨by rw [ht0]; exact rE.out⟩
    clear ht0
    go_upto_region 2 with (first | (go_at_call 105; (with_reducible refine (ih s Zo.out Fx.out base (t0.hole 96 70 i L) _ (HT.out.perm (sU L MH.out)) (cO bQ HB)).mono ?_); rintro e w3 ⟨rfl, s', hsp, o7, hs', hb'⟩))
    have Dc := mY n s.erase key val Fx.out;rw [<- o7] at Dc
    cases s' with | mk sp TC Ww Wx SG Wy Wz =>
    obtain rfl : sp = s.p := hsp
    obtain ⟨s', hs0⟩ : ∃ s', s' = NT.mk s.p TC Ww Wx SG Wy Wz := ⟨_, rfl⟩
    rw [<- hs0] at o7 hs' Dc;have hsp : s'.p = s.p := by rw [hs0]; rfl
    have NY := A_ hs0;have hT1 : Sat w3 base ((t0.eQ i s').dH 96 70 ++ L) := hs'.perm (BH L MH.out hsp);have hK1 : (t0.eQ i s').kids[i]? = some s' := by rw [HT0.out]; exact (qG rE.out).1
    have hE1 : (t0.eQ i s').erase = .mk tks tvs ((NT.ax aJ).set i s'.erase) := by rw [mX, HT0.out]; rfl
    have HB1 := A_ (HB.out.trans hb');have hbs1 : base <= w3.heap.size := Nat.le_trans bQ.out (Below.size HB1.out)
    have XF : Sat w3 base ((NT.mk tp (.slice jF tks.length fG) (.slice jK tvs.length fM) (.slice (some iB) aJ.length fK) tks tvs (aJ.set i s')).dH 96 70 ++ L) := by
     rw [HT0.out] at hT1;exact hT1
    have hG := rO (t := NT.mk tp (.slice jF tks.length fG) (.slice jK tvs.length fM) (.slice (some iB) aJ.length fK) tks tvs (aJ.set i s')) (k := s') (i := i) (qG rE.out).1 XF;rw [hs0] at hG;unfold xL at hG;simp only [NT.keys, NT.vals, NT.kids, NT.p, NT.kv, NT.vv, NT.cv] at hG;have hz2' := hG.z 0 rfl 2;have Rc : w3.cell? ⟨s.p, 0, none⟩ = some TC := hG.z 5 rfl 0;have hQ := (aa.fH hG 3 rfl).2.2;rw [List.map_set, vG rE.out] at hQ;obtain ⟨adt', eadt, U6⟩ := wO hQ (i : Int) (by omega) (by omega);obtain rfl : iB = adt' := Option.some.inj eadt;rw [show bO 0 (aJ.map NT.p) (i : Int) = s.p by unfold bO; rw [Int.toNat_natCast, List.getD_eq_getElem?_getD, List.getElem?_map, rE.out]; rfl, Int.toNat_natCast] at U6;obtain ⟨Ask, csk, XG⟩ := Kd.ak (aa.sr hG 6 rfl);rw [XG] at Rc
    obtain ⟨lk, hlk⟩ : ∃ l, l = SG.length := ⟨_, rfl⟩
    rw [<- hlk] at Rc
    have hl5 : lk <= 5 := by
     have := Dc.1.2.1;rw [hs0] at this;rw [hlk];exact this
    have HE := A_ (And.intro o7 (And.intro hsp (And.intro Dc (And.intro hT1 (And.intro hK1 (And.intro hE1 hlk))))));clear hG hQ eadt XG hs0 Dc hT1 XF hK1 hE1 o7 hs' hb' hlk HT hz2 Rf
    by_cases h5 : 4 < lk
    ·have ct := lQ ((4 : Int) < (lk : Int))
     go_upto_region 3 with fail
     have U7 := HE.out.2.2.1.1;unfold One at U7;rw [aU, mD, bE] at U7;have hll := HE.out.2.2.2.2.2.2;have hsl : lk = s'.keys.length := by rw [hll, NY.out]; rfl
     have hC := BM.calls (t0.eQ i s') s' i HE.out.2.2.2.2.1 (by omega) (by omega) U7.1 (by omega) (by omega) (by rw [HT0.out]; exact Yx.out.1) (by rw [HT0.out]; show tks.length <= _; omega) (by rw [HT0.out]; exact Dy.out) (by rw [HT0.out]; show (aJ.set i s').length <= _; rw [List.length_set]; omega) base L w3 HE.out.2.2.2.1 (cO bQ HB1);rw [show (t0.eQ i s').p = tp by rw [HT0.out]; rfl] at hC
     go_wp2_with (first | (go_at_call 106; (with_reducible refine hC.mono ?_); rintro e w4 ⟨rfl, t2, ht1, ht2, ht3, Fy⟩))
     go_end0
     refine ⟨rfl, t2, ?_, ?_, ht3, HB1.out.trans Fy⟩
     ·rw [ht1, HT0.out]
      rfl
     ·rw [ht2, HE.out.2.2.2.2.2.1, BO, HR.out, <- HE.out.1, if_pos (by show 4 < s'.erase.keys.length; rw [aU]; omega)]
    ·have ct := kS ((4 : Int) < (lk : Int))
     have hll := HE.out.2.2.2.2.2.2;have hsl : lk = s'.keys.length := by rw [hll, NY.out]; rfl
     go_wp2_with fail
     go_end0
     refine ⟨rfl, t0.eQ i s', by rw [HT0.out]; rfl, ?_, HE.out.2.2.2.1, HB1.out⟩;rw [HE.out.2.2.2.2.2.1, HR.out, <- HE.out.1, if_neg (by show ¬ 4 < s'.erase.keys.length; rw [aU]; omega)]
def kL (T E : Nat) (t l r : NT) (P Q : List NT) (L : List Ck) : List (List Ck) :=
 [[.box T t.p #[t.kv, t.vv, t.cv]], [txt t.kv t.keys], [txt t.vv t.vals], [.jL E t.cv (ptrs t.kids)],
   [.box T l.p #[l.kv, l.vv, l.cv]], [txt l.kv l.keys], [txt l.vv l.vals], [.jL E l.cv (ptrs l.kids)], NT.aZ T E l.kids,
   [.box T r.p #[r.kv, r.vv, r.cv]], [txt r.kv r.keys], [txt r.vv r.vals], [.jL E r.cv (ptrs r.kids)], NT.aZ T E r.kids, NT.aZ T E P, NT.aZ T E Q ++ L]
theorem W9 (X A B Z : List Ck) : (X ++ (A ++ (B ++ Z))).Perm (A ++ (B ++ (X ++ Z))) := (List.perm_append_comm_assoc X A _).trans (.append_left A (List.perm_append_comm_assoc X B Z))
theorem Ez {T E : Nat} {t l r : NT} {P Q : List NT} {L : List Ck} (h : t.kids = P ++ l :: r :: Q) : (t.dH T E ++ L).Perm (kL T E t l r P Q L).flatten := by
 rw [NT.kJ, h, gZ, NT.aZ, NT.aZ, NT.kJ T E l, NT.kJ T E r];unfold kL NT.head;rw [h];simp only [List.flatten_cons, List.flatten_nil, List.append_assoc, List.cons_append, List.nil_append, List.append_nil];refine .cons _ (.cons _ (.cons _ (.cons _ ?_)));exact W9 (NT.aZ T E P) (.box T l.p #[l.kv, l.vv, l.cv] :: txt l.kv l.keys :: txt l.vv l.vals :: .jL E l.cv (ptrs l.kids) :: NT.aZ T E l.kids) (.box T r.p #[r.kv, r.vv, r.cv] :: txt r.kv r.keys :: txt r.vv r.vals :: .jL E r.cv (ptrs r.kids) :: NT.aZ T E r.kids) (NT.aZ T E Q ++ L)
theorem open_pair {w : World} {base T E : Nat} {t l r : NT} {P Q : List NT} {L : List Ck} (h : t.kids = P ++ l :: r :: Q) (hs : Sat w base (t.dH T E ++ L)) : aa w base (kL T E t l r P Q L) := Sat.perm hs (Ez h)
theorem shut_pair {w : World} {base T E : Nat} {t l r : NT} {P Q : List NT} {L : List Ck} (h : t.kids = P ++ l :: r :: Q) (hs : aa w base (kL T E t l r P Q L)) : Sat w base (t.dH T E ++ L) := Sat.perm hs (Ez h).symm
def Io (T E : Nat) (t l : NT) (P Q : List NT) (L : List Ck) : List (List Ck) :=
 [[.box T t.p #[t.kv, t.vv, t.cv]], [txt t.kv t.keys], [txt t.vv t.vals], [.jL E t.cv (ptrs t.kids)],
   [.box T l.p #[l.kv, l.vv, l.cv]], [txt l.kv l.keys], [txt l.vv l.vals], [.jL E l.cv (ptrs l.kids)], NT.aZ T E l.kids, NT.aZ T E P, NT.aZ T E Q ++ L]
theorem O5 {T E : Nat} {t l : NT} {P Q : List NT} {L : List Ck} (h : t.kids = P ++ l :: Q) : (t.dH T E ++ L).Perm (Io T E t l P Q L).flatten := by
 rw [NT.kJ, h, gZ, NT.aZ, NT.kJ T E l];unfold Io NT.head;rw [h];simp only [List.flatten_cons, List.flatten_nil, List.append_assoc, List.cons_append, List.nil_append, List.append_nil];refine .cons _ (.cons _ (.cons _ (.cons _ ?_)));exact List.perm_append_comm_assoc (NT.aZ T E P) (.box T l.p #[l.kv, l.vv, l.cv] :: txt l.kv l.keys :: txt l.vv l.vals :: .jL E l.cv (ptrs l.kids) :: NT.aZ T E l.kids) (NT.aZ T E Q ++ L)
theorem Ip {w : World} {base T E : Nat} {t l : NT} {P Q : List NT} {L : List Ck} (h : t.kids = P ++ l :: Q) (hs : aa w base (Io T E t l P Q L)) : Sat w base (t.dH T E ++ L) := Sat.perm hs (O5 h).symm
section
variable {w w1 W : World} {base T p : Nat} {gs : List (List Ck)} {a b c : Value}
theorem aa.xS (h : aa w base gs) (i : Nat) (hi : gs[i]? = some [.box T p #[a, b, c]]) (u : Value) : aa (w.setCell ⟨p, 0, none⟩ u) base (gs.set i [.box T p #[u, b, c]]) := h.put i hi 0 u rfl
theorem aa.xU (h : aa w base gs) (i : Nat) (hi : gs[i]? = some [.box T p #[a, b, c]]) (u : Value) : aa (w.setCell ⟨p, 1, none⟩ u) base (gs.set i [.box T p #[a, u, c]]) := h.put i hi 1 u rfl
theorem aa.rW (h : aa w base gs) (i : Nat) (hi : gs[i]? = some [.box T p #[a, b, c]]) (u : Value) : aa (w.setCell ⟨p, 2, none⟩ u) base (gs.set i [.box T p #[a, b, u]]) := h.put i hi 2 u rfl
theorem aa.z0 (h : aa w base gs) (i : Nat) (hi : gs[i]? = some [.box T p #[a, b, c]]) : w.cell? ⟨p, 0, none⟩ = some a := h.z i hi 0
theorem aa.z1 (h : aa w base gs) (i : Nat) (hi : gs[i]? = some [.box T p #[a, b, c]]) : w.cell? ⟨p, 1, none⟩ = some b := h.z i hi 1
theorem aa.z2 (h : aa w base gs) (i : Nat) (hi : gs[i]? = some [.box T p #[a, b, c]]) : w.cell? ⟨p, 2, none⟩ = some c := h.z i hi 2
theorem iH {g n c i : Nat} {l : List ByteArray} {x : ByteArray} (h : SR w base (.slice (some ⟨g, 0, none⟩) n c) l) (hx : i < l.length /\ bq l i = x) : w.cell? ⟨g, i, none⟩ = some (.string x) := by
 rw [BN h i hx.1];unfold bO;rw [Int.toNat_natCast, <- hx.2];rfl
theorem ik {ad : Addr} {n c i p : Nat} {l : List NT} {k : NT} (h : n = l.length /\ n <= c /\ dZ.C w (some ad) n (l.map NT.p)) (hk : l[i]? = some k /\ k.p = p) : w.cell? (ad.add i) = some (bu p) := by
 have hi : i < l.length := (List.getElem?_eq_some_iff.1 hk.1).1;obtain ⟨Yq, e, hz⟩ := wO h.2.2 (i : Int) (by omega) (by omega);obtain rfl : ad = Yq := Option.some.inj e;rw [Int.toNat_natCast] at hz;rw [hz];unfold bO;rw [Int.toNat_natCast, List.getD_eq_getElem?_getD, List.getElem?_map, hk.1, <- hk.2];rfl
theorem fJ {E n c : Nat} {Ad : Option Addr} {l : List NT} (h : PQ E w base (.slice Ad n c) (l.map NT.p)) (hl : 0 < l.length) : ∃ ad, Ad = some ad := by
 obtain ⟨h1, h2, h3⟩ := Kd.uE h;rw [List.length_map] at h1 h3;obtain ⟨ad, e, _⟩ := wO h3 0 (by omega) (by omega);exact ⟨ad, e⟩
theorem dA {n c : Nat} {Ad : Option Addr} {l : List ByteArray} (h : SR w base (.slice Ad n c) l) (hl : 0 < l.length) : ∃ g, Ad = some ⟨g, 0, none⟩ := by
 obtain ⟨g, _, e, _, _, _⟩ := Kd.rq h hl
 injection e with e
 exact ⟨g, e⟩
end
section
variable {P : Program} {ops : Array Oper} {rest : List Oper} {o : Oper} {a : Act} {Q' : Exit -> Act -> World -> Prop} {Kc : Act -> World -> Prop}
theorem TS {w0 W : World} (base : Nat) (t ty e : TypeId) (ht : P.underlying t = some (.slice e)) (hinfo : (P.info? e).map (fun i => (i.zero, i.size, i.bytes)) = some (some (.pointer none), 1, 8))
  (v : Value) (xs ys : List Nat) (A : Option Addr) (m c : Nat) (HO : PQ e W base v xs) (HR : dZ.C W A m ys) (hbase : base <= W.heap.size) (hl : (xs.length + m) * 8 <= 140737488355328) :
  ∃ v1 w1, (Builtin.append_ #[t, t] ty #[v, .slice A m c]).run P W = .ok v1 w1 /\ PQ e w1 base v1 (xs ++ ys) /\ W.grownBy w1 v.ownBlock /\ (v1.ownBlock = v.ownBlock \/ ∃ b, v1.ownBlock = some b /\ W.heap.size <= b) := by
 obtain ⟨i0, hi, hzz⟩ := Option.map_eq_some_iff.1 hinfo;simp only [Prod.mk.injEq] at hzz;obtain ⟨hz0, hz1, hz2⟩ := hzz;have hm : ys.length = m := HR.1;have hq := HO;obtain ⟨_, inner, ho, hr⟩ := HO;have e1 := Bv (n := 0) (enc := bu) hr;subst e1
 rcases Nat.eq_zero_or_pos m with h0 | h0
 ·subst h0
  obtain rfl : ys = [] := List.eq_nil_of_length_eq_zero hm;refine ⟨v, W, ?_, by rw [List.append_nil]; exact hq, World.grownBy.refl W _, .inl rfl⟩
  rcases ho.2 with ⟨h1, B, rfl, _⟩ | ⟨g, off, cap, cur, rfl, _, _, hnc, _⟩
  ·rw [show xs.length = 0 from h1] at *
   cases A <;> cases B <;> simp [Builtin.append_, run_underlying ht, sizeOf, typeInfo, hi, Builtin.lenOf, Builtin.firstCells, storeCells, loadCells, loadCellsFrom, hz1]
  ·cases A <;> simp [Builtin.append_, run_underlying ht, sizeOf, typeInfo, hi, Builtin.lenOf, Builtin.firstCells, hnc, storeCells, loadCells, loadCellsFrom, hz1]
 ·obtain ⟨ad, e2, _⟩ := HR.2.2 h0
  subst e2;obtain ⟨news, hnr, hnc⟩ := il.J5 HR;have e3 := Bv (n := 0) (enc := bu) hnr;subst e3
  obtain ⟨v1, w1, hrun, hq1, hg, hat⟩ := BP (P := P) W base t ty e i0 (.pointer none) 1 8 ht hi hz0 hz1 hz2 rfl (by decide) v xs.length _ ho ad m c _ (by rw [bY, hm, Nat.mul_one]) hnc (fun u hu => by
   obtain ⟨x, _, rfl⟩ := List.mem_map.1 hu
   rfl) h0 (by simp only [maxLen]; omega) hl hbase
  refine ⟨v1, w1, hrun, ?_, hg, hat⟩;have e4 : encs bu xs ++ encs bu ys = encs bu (xs ++ ys) := by unfold encs; rw [List.map_append]
  rw [e4] at hq1;refine Bw ?_;show kX w1 base e 1 v1 (encs bu (xs ++ ys)).length (encs bu (xs ++ ys));rw [bY, List.length_append, hm];exact hq1
theorem RJ {W : World} {base e : Nat} {v : Value} {xs : List Nat} (HO : PQ e W base v xs) : ∀ k, v.ownBlock = some k -> base <= k := by
 obtain ⟨_, inner, ho, _⟩ := HO
 exact fun k hk => (Ar ho k hk).1
theorem lU {w0 W : World} (base : Nat) (hw : Region.wanted o (yielded ops a.tmps) = true) (s x : Operand) (t e : TypeId) (ho : o.op = .call { callee := .builtin .append, args := #[s, x], argTypes := #[t, t] })
  (ht : P.underlying t = some (.slice e)) (hinfo : (P.info? e).map (fun i => (i.zero, i.size, i.bytes)) = some (some (.pointer none), 1, 8))
  (v : Value) (xs ys : List Nat) (A : Option Addr) (m c : Nat) (hs : a.eval s = v) (hx : a.eval x = .slice A m c) (HO : PQ e W base v xs) (HR : dZ.C W A m ys) (HB : Below base w0 W) (hbase : base <= W.heap.size) (hl : (xs.length + m) * 8 <= 140737488355328)
  (h : ∀ v1 w1, PQ e w1 base v1 (xs ++ ys) -> Below base w0 w1 -> W.grownBy w1 v.ownBlock -> (v1.ownBlock = v.ownBlock \/ ∃ b, v1.ownBlock = some b /\ W.heap.size <= b) -> Kc (a.put o.dst v1) w1) :
  if Region.wanted o (yielded ops a.tmps) = true then Oper.wp P o a W Kc Q' else Kc (a.put o.dst undef) W := by
 obtain ⟨v1, w1, hr, h1, h3, h4⟩ := TS (P := P) (w0 := w0) base t o.type e ht hinfo v xs ys A m c HO HR hbase hl;rw [if_pos hw];unfold Oper.wp execOp;simp only [ho, resolve, invoke, builtin, Sem.run_bind, Sem.run_pure, Result.andThen_ok, List.map_toArray, List.map_cons, List.map_nil, hs, hx, hr];exact h v1 w1 h1 (HB.grown h3 hbase (RJ HO)) h3 h4
end
section
variable {w w1 W : World} {base : Nat} {gs : List (List Ck)}
theorem aa.O6 {E : Nat} {x y : List NT} {u u1 : Value} (i : Nat) (h : aa W base gs) (hi : gs[i]? = some [.jL E u (ptrs x)]) (ho : PQ E w1 base u1 (y.map NT.p)) (hg : W.grownBy w1 u.ownBlock) (hat : u1.ownBlock = u.ownBlock \/ ∃ b, u1.ownBlock = some b /\ W.heap.size <= b) : aa w1 base (gs.set i [.jL E u1 (ptrs y)]) := by
 have h3 := zu ho;rw [<- dM] at h3;exact h.turn i hi (Sat.one h3) ⟨hg.size, fun k hk hnot => hg.block k hk fun he => hnot ⟨_, List.mem_singleton_self _, he.symm⟩⟩ (pM hat)
theorem aa.nM (h : aa w base gs) (i : Nat) {g n c : Nat} {l l' : List ByteArray} (hi : gs[i]? = some [txt (.slice (some ⟨g, 0, none⟩) n c) l]) (j : Nat) (x : ByteArray) (hl : l' = l.set j x) :
  aa (w.setCell ⟨g, j, none⟩ (.string x)) base (gs.set i [txt (.slice (some ⟨g, 0, none⟩) n c) l']) := by
 obtain ⟨rfl, _, _⟩ := h.row i hi;subst hl;have := h.BI i hi j x;rw [List.length_set] at this;exact this
theorem rX (h : aa w base gs) (i : Nat) {g n c j : Nat} {l : List ByteArray} {x : ByteArray} (hi : gs[i]? = some [txt (.slice (some ⟨g, 0, none⟩) n c) l]) (hx : j < l.length /\ bq l j = x) : base <= g := by
 obtain ⟨g', c', e, hb, _, _⟩ := Kd.rq (h.sr i hi) (by omega)
 injection e with e1 e2 e3
 injection e1 with e1
 injection e1 with e1
 subst e1;exact hb
theorem wV {ad : Addr} {n c i p : Nat} {l : List NT} {k : NT} (h : n = l.length /\ n <= c /\ dZ.C w (some ad) n (l.map NT.p)) (hk : l[i]? = some k /\ k.p = p) (hi : 0 < i) : w.cell? ⟨ad.block, ad.off + i, none⟩ = some (bu p) := by
 have := ik h hk;unfold Addr.add at this;rw [if_neg (by omega)] at this;exact this
theorem uI {ad : Addr} {n c p : Nat} {l : List NT} {k : NT} (h : n = l.length /\ n <= c /\ dZ.C w (some ad) n (l.map NT.p)) (hk : l[0]? = some k /\ k.p = p) : w.cell? ad = some (bu p) := by
 have := ik h hk;unfold Addr.add at this;rw [if_pos rfl] at this;exact this
theorem EA {α β : Type} (f : α -> β) (l : List α) (i : Nat) : (l.eraseIdx i).map f = (l.map f).eraseIdx i := by
 rw [List.eraseIdx_eq_take_drop_succ, List.eraseIdx_eq_take_drop_succ, List.map_append, List.map_take, List.map_drop]
theorem BQ {α : Type} {l r : α} {Q : List α} : ∀ P : List α, (P ++ l :: r :: Q).eraseIdx (P.length + 1) = P ++ l :: Q
 | [] => rfl
 | p :: P => by
  show p :: (P ++ l :: r :: Q).eraseIdx (P.length + 1) = _;rw [BQ P];rfl
theorem EB {P Q : List NT} {l r m : NT} (hm : m.p = l.p) : ptrs ((P ++ l :: r :: Q).eraseIdx (P.length + 1)) = ptrs (P ++ m :: Q) := by
 rw [BQ];simp only [ptrs, List.map_append, List.map_cons, hm]
def Iq (l : List NT) (i p : Nat) : Prop := ∃ s : NT, l[i]? = some s /\ s.p = p
theorem aa.Xa {A B : List Ck} (h : aa w base gs) (i : Nat) (hi : gs[i]? = some (A ++ B)) : aa w base (gs.set i B ++ [A]) := by
 have hl : i < gs.length := (List.getElem?_eq_some_iff.1 hi).1
 have h1 : aa w base (gs.set i (B ++ A)) := by
  obtain ⟨h1, h2⟩ := qd hi (B ++ A);exact Sat.perm (Sat.perm h h1) ((List.perm_append_comm.append_right _).trans h2.symm)
 have := h1.cut i (by rw [List.getElem?_set_self hl]);rw [List.set_set] at this;exact this
theorem oJ {T E i : Nat} {t s : NT} {L : List Ck} (hs : Sat w base (t.dH T E ++ L)) (h : t.kids[i]? = some s) : ∃ A c, w.cell? ⟨s.p, 0, none⟩ = some (.slice A s.keys.length c) := by
 have h1 := fF (hs.perm (sU L h));obtain ⟨A, c, e⟩ := Kd.ak (h1.sr 1 rfl);have h2 := h1.z 0 rfl 0;rw [e] at h2;exact ⟨A, c, h2⟩
theorem Xb (h : aa w base gs) (i : Nat) {E : Nat} {Ad : Option Addr} {n c : Nat} {l : List NT} (hi : gs[i]? = some [.jL E (.slice Ad n c) (ptrs l)]) : dZ.C w Ad n (l.map NT.p) := (h.fH i hi).2.2
theorem Xc (h : aa w base gs) (i : Nat) {E : Nat} {Ad : Option Addr} {n c : Nat} {l : List Nat} (hi : gs[i]? = some [.own E (.slice Ad n c) (encs bu l)]) : dZ.C w Ad n l := by
 obtain ⟨rfl, _, h3⟩ := Kd.dS (h.TM i hi);exact h3
theorem DD (h : aa w base gs) (i : Nat) {Ad : Option Addr} {n c : Nat} {l : List ByteArray} (hi : gs[i]? = some [txt (.slice Ad n c) l]) : Kd.C Kd.string w Ad n l := by
 obtain ⟨rfl, _, h3⟩ := h.row i hi;exact h3
theorem AJ {Ad : Option Addr} {n c m : Nat} {l l' : List ByteArray} (h : aa w base gs) (i : Nat) (hi : gs[i]? = some [txt (.slice Ad n c) l]) (hl : l' = l.take m) (hm : m <= n) : aa w base (gs.set i [txt (.slice Ad m c) l']) := by
 obtain ⟨rfl, _, _⟩ := h.row i hi;subst hl;exact h.xJ i hi m hm
theorem FW {E : Nat} {Ad : Option Addr} {n c m : Nat} {l l' : List NT} (h : aa w base gs) (i : Nat) (hi : gs[i]? = some [.jL E (.slice Ad n c) (ptrs l)]) (hl : l' = l.take m) (hm : m <= n) : aa w base (gs.set i [.jL E (.slice Ad m c) (ptrs l')]) := by
 have h1 := (h.fH i hi).1;subst hl;exact h.Tk i hi m (by omega)
theorem Xd {E : Nat} {Ad A' : Option Addr} {n c k n' c' : Nat} {l l' : List NT} (h : aa w base gs) (i : Nat) (hi : gs[i]? = some [.jL E (.slice Ad n c) (ptrs l)]) (hl : l' = l.drop k) (hk : k <= n) (hA : A' = if c = k then Ad else Ad.map (·.add (k * 1))) (hn : n' = n - k) (hc : c' = c - k) : aa w base (gs.set i [.jL E (.slice A' n' c') (ptrs l')]) := by
 have h0 := (h.fH i hi).1;have h1 := h.q i hi;have h2 := Kd.TT (d := dZ) h1 (k := k) (by rw [List.length_map]; omega);rw [<- List.map_drop] at h2;have h3 := zu (E := E) (ps := (l.drop k).map NT.p) h2;rw [<- dM] at h3;subst hl;subst hA;subst hn;subst hc;refine h.turn i hi (Sat.one h3) (Kept.refl _ _) ?_;rintro b ⟨d, hd, hb⟩;rw [List.mem_singleton.1 hd] at hb;refine .inl ⟨_, List.mem_singleton_self _, ?_⟩;rw [<- hb];show Value.ownBlock _ = Value.ownBlock _
 split
 ·cases Ad <;> rfl
 ·cases Ad with
  | none => rfl
  | some a => simp [Value.ownBlock, Ru]; unfold Addr.add; split <;> rfl
end
theorem jW {n m : Int} (h : n = m /\ -9223372036854775808 <= n /\ n <= 9223372036854775807) : wrap64 n = m := by unfold wrap64; omega
section
variable {tks tvs : List ByteArray} {P Q : List PT} {l r : PT} {j : Nat}
theorem O7 (hP : P.length = j) : gy (.mk tks tvs (P ++ l :: r :: Q)) j = l := by
 unfold gy;subst hP;show (P ++ l :: r :: Q).getD P.length _ = l;rw [List.getD_eq_getElem?_getD, List.getElem?_append_right (Nat.le_refl _), Nat.sub_self];rfl
theorem O8 (hP : P.length = j) : gy (.mk tks tvs (P ++ l :: r :: Q)) (j + 1) = r := by
 unfold gy;subst hP;show (P ++ l :: r :: Q).getD (P.length + 1) _ = r;rw [List.getD_eq_getElem?_getD, List.getElem?_append_right (by omega), Nat.add_sub_cancel_left];rfl
theorem yP (hP : P.length = j) : (P ++ l :: r :: Q).take j = P := by subst hP; exact List.take_left
theorem yQ (hP : P.length = j) : (P ++ l :: r :: Q).drop (j + 2) = Q := by
 subst hP;rw [List.drop_append, Nat.add_sub_cancel_left, List.drop_eq_nil_of_le (by omega)];rfl
theorem xV (hP : P.length = j) : BK (.mk tks tvs (P ++ l :: r :: Q)) j = .mk (tks.set j (bq l.keys (l.keys.length - 1))) (tvs.set j (bq l.vals (l.keys.length - 1))) (P ++ uf l :: ug l r (bq tks j) (bq tvs j) :: Q) := by
 unfold BK;rw [O7 hP, O8 hP];show PT.mk _ _ ((P ++ l :: r :: Q).take j ++ _ :: _ :: (P ++ l :: r :: Q).drop (j + 2)) = _;rw [yP hP, yQ hP];rfl
theorem xW (hP : P.length = j) : BL (.mk tks tvs (P ++ l :: r :: Q)) j = .mk (tks.set j (bq r.keys 0)) (tvs.set j (bq r.vals 0)) (P ++ rU l r (bq tks j) (bq tvs j) :: uh r :: Q) := by
 unfold BL;rw [O7 hP, O8 hP];show PT.mk _ _ ((P ++ l :: r :: Q).take j ++ _ :: _ :: (P ++ l :: r :: Q).drop (j + 2)) = _;rw [yP hP, yQ hP];rfl
theorem xX (hP : P.length = j) : wy (.mk tks tvs (P ++ l :: r :: Q)) j = .mk (tks.eraseIdx j) (tvs.eraseIdx j) (P ++ zy l r (bq tks j) (bq tvs j) :: Q) := by
 unfold wy;rw [O7 hP, O8 hP];show PT.mk _ _ ((P ++ l :: r :: Q).take j ++ _ :: (P ++ l :: r :: Q).drop (j + 2)) = _;rw [yP hP, yQ hP];rfl
theorem M9 {α : Type} {P Q : List α} {l r : α} (hP : P.length = j) : (P ++ l :: r :: Q)[j]? = some l := by
 subst hP;rw [List.getElem?_append_right (Nat.le_refl _), Nat.sub_self];rfl
theorem Na {α : Type} {P Q : List α} {l r : α} (hP : P.length = j) : (P ++ l :: r :: Q)[j + 1]? = some r := by
 subst hP;rw [List.getElem?_append_right (by omega), Nat.add_sub_cancel_left];rfl
def FX (ks vs : List ByteArray) (cs : Nat) : Prop := ks.length <= 1000 /\ vs.length = ks.length /\ (cs = 0 \/ cs = ks.length + 1)
end
section
variable {A : Option Addr} {n c : Nat} {w : World}
theorem Tm {l r : List ByteArray} (i : Nat) (iv : Int) (x : ByteArray) (hv : iv = (i : Int)) (hr : r = aI l i x) (h : n = l.length /\ n <= c /\ Kd.C Kd.string w A l.length l) (hi : i <= n /\ n <= 1000000) :
  Calls Try.prog 124 #[.slice A n c, .int .i64 iv, .string x] w fun e w' => ∃ ja : Value, e = .returned ja /\ Kd.string.R 9 w' w.heap.size (fun _ => True) ja r /\ Below w.heap.size w w' := by
 obtain ⟨rfl, h2, h3⟩ := h;subst hv;subst hr;exact fI.calls A c l (i : Int) x _ w h3 h2 (mr x hi.1 (by omega))
theorem Xe {l r : List NT} (i : Nat) (iv : Int) (k : NT) (p : Nat) (hp : k.p = p) (hv : iv = (i : Int)) (hr : r.map NT.p = aI (l.map NT.p) i p) (h : n = l.length /\ n <= c /\ dZ.C w A n (l.map NT.p)) (hi : i <= n /\ n <= 1000000) :
  Calls Try.prog 125 #[.slice A n c, .int .i64 iv, bu p] w fun e w' => ∃ ja : Value, e = .returned ja /\ dZ.R 70 w' w.heap.size (fun _ => True) ja (r.map NT.p) /\ Below w.heap.size w w' := by
 obtain ⟨rfl, h2, h3⟩ := h;subst hv;have hl : (l.map NT.p).length = l.length := List.length_map _;have := iQ.calls A c (l.map NT.p) (i : Int) p _ w (by rw [hl]; exact h3) (by rw [hl]; exact h2) (wu p (by omega) (by omega));rw [hl, <- hr] at this;exact this
theorem Ir {l : List ByteArray} {i : Nat} (h : i < l.length) (hl : l.length <= 1000000000000) : dD.f l (i : Int) = some (l.eraseIdx i) := by
 unfold dD.f;rw [List.eraseIdx_eq_take_drop_succ];have e1 : wrap64 ((i : Int) + 1) = ((i + 1 : Nat) : Int) := by unfold wrap64; omega
 simp only [Option.bind_some, Int.toNat_natCast, List.length_nil, List.nil_append, List.length_take, List.length_drop, List.length_append, e1];rw [if_pos (by omega), if_pos (by omega), if_pos (by omega), if_pos (by omega), if_pos (by omega), if_pos (by omega)]
theorem Nb {l r : List ByteArray} (i : Nat) (iv : Int) (hv : iv = (i : Int)) (hr : r = l.eraseIdx i) (h : n = l.length /\ n <= c /\ Kd.C Kd.string w A l.length l) (hi : i < n /\ n <= 1000000) :
  Calls Try.prog 112 #[.slice A n c, .int .i64 iv] w fun e w' => ∃ ja : Value, e = .returned ja /\ Kd.string.R 9 w' w.heap.size (fun _ => True) ja r /\ Below w.heap.size w w' := by
 obtain ⟨rfl, h2, h3⟩ := h;subst hv;subst hr;exact dD.calls A c l (i : Int) _ w h3 h2 (Ir hi.1 (by omega))
theorem BR {l : List Nat} {i : Nat} (h : i < l.length) (hl : l.length <= 1000000000000) : bR.f l (i : Int) = some (l.eraseIdx i) := by
 unfold bR.f;rw [List.eraseIdx_eq_take_drop_succ];have e1 : wrap64 ((i : Int) + 1) = ((i + 1 : Nat) : Int) := by unfold wrap64; omega
 simp only [Option.bind_some, Int.toNat_natCast, List.length_nil, List.nil_append, List.length_take, List.length_drop, List.length_append, e1];rw [if_pos (by omega), if_pos (by omega), if_pos (by omega), if_pos (by omega), if_pos (by omega), if_pos (by omega)]
theorem Xf {l r : List NT} (i : Nat) (iv : Int) (hv : iv = (i : Int)) (hr : r.map NT.p = (l.map NT.p).eraseIdx i) (h : n = l.length /\ n <= c /\ dZ.C w A n (l.map NT.p)) (hi : i < n /\ n <= 1000000) :
  Calls Try.prog 129 #[.slice A n c, .int .i64 iv] w fun e w' => ∃ ja : Value, e = .returned ja /\ dZ.R 70 w' w.heap.size (fun _ => True) ja (r.map NT.p) /\ Below w.heap.size w w' := by
 obtain ⟨rfl, h2, h3⟩ := h;subst hv;have hl : (l.map NT.p).length = l.length := List.length_map _;have := bR.calls A c (l.map NT.p) (i : Int) _ w (by rw [hl]; exact h3) (by rw [hl]; exact h2) (BR (by omega) (by omega));rw [hl, <- hr] at this;exact this
end
end Go.Proofs.Ytoddejmlcnbdmaa.Tree
namespace Go.Proofs.Ytoddejmlcnbdmaa.Pure
section
variable {h j : Nat} {ks vs : List ByteArray} {P Q : List PT} {l r l' r' m : PT} {x y : ByteArray}
theorem LX (hP : P.length = j) (hj : j < ks.length) (h1 : vs.length = ks.length) (h2 : ks.length <= 4) (h3 : (P ++ l :: r :: Q).length = ks.length + 1) (ho : ∀ s, s ∈ P \/ s ∈ Q -> qD h s /\ 2 <= s.keys.length) (hl : qD h l' /\ 2 <= l'.keys.length) (hr : qD h r' /\ 2 <= r'.keys.length)
  (he : aX l' ++ (x, y) :: aX r' = aX l ++ (bq ks j, bq vs j) :: aX r) :
  kV (.mk (ks.set j x) (vs.set j y) (P ++ l' :: r' :: Q)) /\ q9 (h + 1) (.mk (ks.set j x) (vs.set j y) (P ++ l' :: r' :: Q)) /\ aX (.mk (ks.set j x) (vs.set j y) (P ++ l' :: r' :: Q)) = bN ((P ++ l :: r :: Q).map aX) (ks.zip vs) := by
 have hm : ∀ s ∈ P ++ l' :: r' :: Q, qD h s /\ 2 <= s.keys.length := fun s hs => by
  rcases List.mem_append.1 hs with hs | hs
  ·exact ho s (.inl hs)
  ·rcases List.mem_cons.1 hs with rfl | hs
   ·exact hl
   ·rcases List.mem_cons.1 hs with rfl | hs
    ·exact hr
    ·exact ho s (.inr hs)
 have hlen : (P ++ l' :: r' :: Q).length = ks.length + 1 := by
  rw [<- h3];simp only [List.length_append, List.length_cons]
 have hb : kV (.mk (ks.set j x) (vs.set j y) (P ++ l' :: r' :: Q)) := nR (by rw [List.length_set, List.length_set]; exact h1) (by rw [List.length_set]; exact h2) (.inr (by rw [List.length_set]; exact hlen)) fun s hs => (hm s hs).1.b
 refine ⟨hb, oI (by have := AB hl.1.l; omega) (by show 0 < (P ++ l' :: r' :: Q).length; omega) fun s hs => ⟨(hm s hs).1.l, (hm s hs).2⟩, ?_⟩;have hI : P.length = ((ks.zip vs).take j).length := by rw [List.length_take, vE h1]; omega
 rw [dV (bA hb)];show bN ((P ++ l' :: r' :: Q).map aX) ((ks.set j x).zip (vs.set j y)) = _;rw [FV _ _ hj h1, xO hI]
 conv => rhs; rw [rf hj h1]
 rw [xO hI, <- List.cons_append, <- List.append_assoc (aX l'), he, List.append_assoc, List.cons_append]
theorem LY (hP : P.length = j) (hj : j < ks.length) (h1 : vs.length = ks.length) (h2 : ks.length <= 4) (h3 : (P ++ l :: r :: Q).length = ks.length + 1) (ho : ∀ s, s ∈ P \/ s ∈ Q -> qD h s /\ 2 <= s.keys.length) (hl : qD h m /\ 2 <= m.keys.length)
  (he : aX m = aX l ++ (bq ks j, bq vs j) :: aX r) :
  kV (.mk (ks.eraseIdx j) (vs.eraseIdx j) (P ++ m :: Q)) /\ q9 (h + 1) (.mk (ks.eraseIdx j) (vs.eraseIdx j) (P ++ m :: Q)) /\ aX (.mk (ks.eraseIdx j) (vs.eraseIdx j) (P ++ m :: Q)) = bN ((P ++ l :: r :: Q).map aX) (ks.zip vs) := by
 have hm : ∀ s ∈ P ++ m :: Q, qD h s /\ 2 <= s.keys.length := fun s hs => by
  rcases List.mem_append.1 hs with hs | hs
  ·exact ho s (.inl hs)
  ·rcases List.mem_cons.1 hs with rfl | hs
   ·exact hl
   ·exact ho s (.inr hs)
 have hlen : (P ++ m :: Q).length = ks.length := by
  simp only [List.length_append, List.length_cons] at h3 ⊢;omega
 have el : ∀ (k : List ByteArray), k.length = ks.length -> (k.eraseIdx j).length = ks.length - 1 := fun k hk => by rw [List.length_eraseIdx_of_lt (by omega)]; omega
 have hb : kV (.mk (ks.eraseIdx j) (vs.eraseIdx j) (P ++ m :: Q)) := nR (by rw [el _ h1, el _ rfl]) (by rw [el _ rfl]; omega) (.inr (by rw [el _ rfl]; omega)) fun s hs => (hm s hs).1.b
 refine ⟨hb, oI (by have := AB hl.1.l; omega) (by show 0 < (P ++ m :: Q).length; omega) fun s hs => ⟨(hm s hs).1.l, (hm s hs).2⟩, ?_⟩;have hI : P.length = ((ks.zip vs).take j).length := by rw [List.length_take, vE h1]; omega
 rw [dV (bA hb)];show bN ((P ++ m :: Q).map aX) ((ks.eraseIdx j).zip (vs.eraseIdx j)) = _;rw [Ew h1, tq hI]
 conv => rhs; rw [rf hj h1]
 rw [xO hI, he, List.append_assoc, List.cons_append]
end
theorem ky {t s : PT} {j : Nat} (h : t.kids[j]? = some s) : gy t j = s := by
 unfold gy;rw [List.getD_eq_getElem?_getD, h];rfl
theorem O9 {α : Type} {l : List α} {j : Nat} {a b : α} (ha : l[j]? = some a) (hb : l[j + 1]? = some b) : l = l.take j ++ a :: b :: l.drop (j + 2) := by
 rw [<- fO hb, <- fO ha, List.take_append_drop]
theorem FY {α : Type} {l : List α} {j : Nat} {s : α} (h : s ∈ l.take j) : ∃ i, i < j /\ l[i]? = some s := by
 obtain ⟨i, hi⟩ := List.getElem?_of_mem h;have hlt := (List.getElem?_eq_some_iff.1 hi).1;rw [List.length_take] at hlt;refine ⟨i, by omega, ?_⟩;rw [List.getElem?_take_of_lt (by omega)] at hi;exact hi
theorem FZ {α : Type} {l : List α} {j : Nat} {s : α} (h : s ∈ l.drop j) : ∃ i, j <= i /\ l[i]? = some s := by
 obtain ⟨i, hi⟩ := List.getElem?_of_mem h;rw [List.getElem?_drop] at hi;exact ⟨j + i, by omega, hi⟩
theorem TU {h i : Nat} {ks vs : List ByteArray} {cs : List PT} (h1 : vs.length = ks.length) (h2 : ks.length <= 4) (h0 : 0 < ks.length) (h3 : cs.length = ks.length + 1) (hi : i < cs.length)
  (hk : ∀ (j : Nat) (s : PT), cs[j]? = some s -> qD h s /\ (j ≠ i -> 2 <= s.keys.length) /\ 1 <= s.keys.length) :
  kV (tu (.mk ks vs cs) i) /\ q9 (h + 1) (tu (.mk ks vs cs) i) /\ ks.length <= (tu (.mk ks vs cs) i).keys.length + 1 /\ aX (tu (.mk ks vs cs) i) = bN (cs.map aX) (ks.zip vs) := by
 have get : ∀ j, j < cs.length -> ∃ s, cs[j]? = some s /\ gy (.mk ks vs cs) j = s := fun j hj => ⟨_, List.getElem?_eq_getElem hj, ky (t := .mk ks vs cs) (List.getElem?_eq_getElem hj)⟩
 obtain ⟨k, ck, ek⟩ := get i hi;have kk := hk i k ck;have hh : h ≠ 0 := by have := AB kk.1.l; omega
 unfold tu;rw [ek]
 by_cases hlt : k.keys.length < 2
 ·rw [if_pos hlt]
  have others : ∀ j l r, j + 1 < cs.length -> cs[j]? = some l -> cs[j + 1]? = some r -> (j = i \/ j + 1 = i) -> ∀ s, s ∈ cs.take j \/ s ∈ cs.drop (j + 2) -> qD h s /\ 2 <= s.keys.length := by
   intro j l r hj hl hr hor s hs
   rcases hs with hs | hs
   ·obtain ⟨n, hn, e⟩ := FY hs
    exact ⟨(hk n s e).1, (hk n s e).2.1 (by omega)⟩
   ·obtain ⟨n, hn, e⟩ := FZ hs
    exact ⟨(hk n s e).1, (hk n s e).2.1 (by omega)⟩
  obtain ⟨g, rfl⟩ : ∃ g, h = g + 1 := ⟨h - 1, by omega⟩
  unfold Ik
  by_cases hA : 0 < i /\ 2 < (gy (.mk ks vs cs) (i - 1)).keys.length
  ·rw [if_pos hA]
   obtain ⟨l, cl, el⟩ := get (i - 1) (by omega);rw [el] at hA;have e1 : i - 1 + 1 = i := by omega
   have Jy : cs[i - 1 + 1]? = some k := by rw [e1]; exact ck
   have hp := O9 cl Jy;have hl := (hk (i - 1) l cl).1;have Db : (cs.take (i - 1)).length = i - 1 := by rw [List.length_take]; omega
   have pp := M7 hl kk.1 hA.2 (by omega) (bq ks (i - 1)) (bq vs (i - 1));have ok := LX (ks := ks) (vs := vs) Db (by omega) h1 h2 (by rw [<- hp]; exact h3) (others (i - 1) l k (by omega) cl Jy (.inr e1)) pp.1 ⟨pp.2.1.1, by have := pp.2.1.2; omega⟩ pp.2.2;have e2 := xV (tks := ks) (tvs := vs) (P := cs.take (i - 1)) (l := l) (r := k) (Q := cs.drop (i - 1 + 2)) Db;rw [<- hp] at e2;rw [e2];refine ⟨ok.1, ok.2.1, ?_, ?_⟩
   ·show ks.length <= (ks.set _ _).length + 1
    rw [List.length_set];omega
   ·rw [ok.2.2, <- hp]
  ·rw [if_neg hA]
   by_cases hB : i < ks.length
   ·obtain ⟨r, cr, er⟩ := get (i + 1) (by omega)
    have hp := O9 ck cr;have hr := (hk (i + 1) r cr).1;have Db : (cs.take i).length = i := by rw [List.length_take]; omega
    by_cases hC : 2 < r.keys.length
    ·rw [if_pos ⟨hB, by rw [er]; exact hC⟩]
     have pp := M8 kk.1 hr hC (by omega) (bq ks i) (bq vs i);have ok := LX (ks := ks) (vs := vs) Db hB h1 h2 (by rw [<- hp]; exact h3) (others i k r (by omega) ck cr (.inl rfl)) ⟨pp.1.1, by have := pp.1.2; omega⟩ pp.2.1 pp.2.2;have e2 := xW (tks := ks) (tvs := vs) (P := cs.take i) (l := k) (r := r) (Q := cs.drop (i + 2)) Db;rw [<- hp] at e2;rw [e2];refine ⟨ok.1, ok.2.1, ?_, ?_⟩
     ·show ks.length <= (ks.set _ _).length + 1
      rw [List.length_set];omega
     ·rw [ok.2.2, <- hp]
    ·rw [if_neg (by rw [er]; omega), if_pos (show i < (PT.mk ks vs cs).keys.length from hB)]
     have pp := Ey kk.1 hr (by omega) (bq ks i) (bq vs i);have hr2 := (hk (i + 1) r cr).2.1 (by omega);have ok := LY (ks := ks) (vs := vs) Db hB h1 h2 (by rw [<- hp]; exact h3) (others i k r (by omega) ck cr (.inl rfl)) ⟨pp.1, by have := pp.2.1; omega⟩ pp.2.2;have e2 := xX (tks := ks) (tvs := vs) (P := cs.take i) (l := k) (r := r) (Q := cs.drop (i + 2)) Db;rw [<- hp] at e2;rw [e2];refine ⟨ok.1, ok.2.1, ?_, ?_⟩
     ·show ks.length <= (ks.eraseIdx _).length + 1
      rw [List.length_eraseIdx_of_lt hB];omega
     ·rw [ok.2.2, <- hp]
   ·rw [if_neg (fun c => hB c.1), if_neg (show ¬ i < (PT.mk ks vs cs).keys.length from hB)]
    obtain ⟨l, cl, el⟩ := get (i - 1) (by omega);have e1 : i - 1 + 1 = i := by omega
    have Jy : cs[i - 1 + 1]? = some k := by rw [e1]; exact ck
    have hp := O9 cl Jy;have hl := hk (i - 1) l cl;have Db : (cs.take (i - 1)).length = i - 1 := by rw [List.length_take]; omega
    have hle : ¬ 2 < l.keys.length := fun c => hA ⟨by omega, by rw [el]; exact c⟩
    have pp := Ey hl.1 kk.1 (by omega) (bq ks (i - 1)) (bq vs (i - 1));have hl2 := hl.2.1 (by omega);have ok := LY (ks := ks) (vs := vs) Db (by omega) h1 h2 (by rw [<- hp]; exact h3) (others (i - 1) l k (by omega) cl Jy (.inr e1)) ⟨pp.1, by have := pp.2.1; omega⟩ pp.2.2;have e2 := xX (tks := ks) (tvs := vs) (P := cs.take (i - 1)) (l := l) (r := k) (Q := cs.drop (i - 1 + 2)) Db;rw [<- hp] at e2;rw [e2];refine ⟨ok.1, ok.2.1, ?_, ?_⟩
    ·show ks.length <= (ks.eraseIdx _).length + 1
     rw [List.length_eraseIdx_of_lt (by omega)];omega
    ·rw [ok.2.2, <- hp]
 ·rw [if_neg hlt]
  have hm : ∀ s ∈ cs, qD h s /\ 2 <= s.keys.length := fun s hs => by
   obtain ⟨n, hn⟩ := List.getElem?_of_mem hs
   by_cases e : n = i
   ·subst e
    rw [ck] at hn;obtain rfl := Option.some.inj hn;exact ⟨kk.1, by omega⟩
   ·exact ⟨(hk n s hn).1, (hk n s hn).2.1 e⟩
  have hb : kV (.mk ks vs cs) := nR h1 h2 (.inr h3) fun s hs => (hm s hs).1.b
  exact ⟨hb, oI hh (by show 0 < cs.length; omega) fun s hs => ⟨(hm s hs).1.l, (hm s hs).2⟩, Nat.le_succ _, dV (bA hb)⟩
def kz (key : ByteArray) (l : List KV) : List KV := l.filter fun x => !(x.1.toList == key.toList)
theorem tC {key : ByteArray} {l : List KV} (h : ∀ x ∈ l, (x.1.toList == key.toList) = false) : kz key l = l := by
 unfold kz;rw [List.filter_eq_self.2];intro x hx;rw [h x hx];rfl
theorem yR (key : ByteArray) (a b : List KV) : kz key (a ++ b) = kz key a ++ kz key b := List.filter_append _ _
theorem xY {a b : ByteArray} (h : qZ a b) : (a.toList == b.toList) = false := by
 cases hh : (a.toList == b.toList) with
 | false => rfl
 | true =>
  unfold qZ at h;rw [eq_of_beq hh] at h;exact absurd h (List.lt_irrefl _)
theorem vH {key : ByteArray} {A B : List KV} {x : KV} (hs : kK (A ++ x :: B)) (he : (x.1.toList == key.toList) = true) : kz key (A ++ x :: B) = A ++ B := by
 obtain ⟨h1, h2, h3⟩ := List.pairwise_append.1 hs;have e := eq_of_beq he
 have ha : ∀ a ∈ A, (a.1.toList == key.toList) = false := fun a ha => by rw [<- e]; exact xY (h3 a ha x List.mem_cons_self)
 have hb : ∀ b ∈ B, (b.1.toList == key.toList) = false := fun b hb => by rw [<- e]; exact xP ((List.pairwise_cons.1 h2).1 b hb)
 have hx : kz key (x :: B) = kz key B := by
  unfold kz;rw [List.filter_cons, if_neg (by rw [he]; decide)]
 rw [yR, hx, tC ha, tC hb]
def Has (key : ByteArray) (l : List KV) : Prop := ∃ x ∈ l, (x.1.toList == key.toList) = true
theorem rY {t s : PT} {i : Nat} (hb : kV t) (hx : t.kids[i]? = some s) (hi : i <= t.keys.length) : aX t = rR ((t.kids.take i).map aX) ((bI t).take i) ++ (aX s ++ tailW ((t.kids.drop (i + 1)).map aX) ((bI t).drop i)) /\ (t.kids.take i).length = ((bI t).take i).length := by
 obtain ⟨⟨h1, h2, h3⟩, h4⟩ := bJ.1 hb;have hl := (List.getElem?_eq_some_iff.1 hx).1;have Db : (t.kids.take i).length = ((bI t).take i).length := by rw [List.length_take, List.length_take, rT h1]; omega
 refine ⟨?_, Db⟩;rw [dV (bA hb)]
 conv => lhs; rw [rV hx, <- List.take_append_drop i (bI t)]
 exact tq Db
theorem lC {t s : PT} {i : Nat} (hb : kV t) (hs : kK (aX t)) (hx : t.kids[i]? = some s) (hi : i <= t.keys.length) : kK (aX s) := by
 rw [(rY hb hx hi).1] at hs;exact (List.pairwise_append.1 (List.pairwise_append.1 hs).2.1).1
theorem qL {t s : PT} {key : ByteArray} (hb : kV t) (hs : kK (aX t)) (hn : jg t.keys (dG key t.keys) key = false) (hx : t.kids[dG key t.keys]? = some s) :
  (∀ x ∈ rR ((t.kids.take (dG key t.keys)).map aX) ((bI t).take (dG key t.keys)), qZ x.1 key) /\ (∀ x ∈ tailW ((t.kids.drop (dG key t.keys + 1)).map aX) ((bI t).drop (dG key t.keys)), qZ key x.1) /\ (Has key (aX t) -> Has key (aX s)) := by
 obtain ⟨⟨h1, h2, h3⟩, h4⟩ := bJ.1 hb;obtain ⟨e, Db⟩ := rY hb hx (lS key t.keys);have hsk : DC t.keys := oG ((ku (bA hb)).2 hs);have hah := qJ (key := key) h1;have hbe := pO (t := t) (key := key) hsk hn;have hpre := O3 (P := (t.kids.take (dG key t.keys)).map aX) (I := (bI t).take (dG key t.keys)) (key := key) (by rw [List.length_map]; exact Db) (by rw [e] at hs; exact hs) hah;have zL := LQ (Q := (t.kids.drop (dG key t.keys + 1)).map aX) (J := (bI t).drop (dG key t.keys)) (key := key) (L := rR ((t.kids.take (dG key t.keys)).map aX) ((bI t).take (dG key t.keys)) ++ aX s) (by rw [e] at hs; rw [List.append_assoc]; exact hs) hbe;refine ⟨hpre, zL, ?_⟩;rintro ⟨x, hm, he⟩;rw [e] at hm
 rcases List.mem_append.1 hm with hm | hm
 ·rw [xY (hpre x hm)] at he; cases he
 ·rcases List.mem_append.1 hm with hm | hm
  ·exact ⟨x, hm, he⟩
  ·rw [xP (zL x hm)] at he; cases he
theorem qj {t : PT} {key : ByteArray} (hb : kV t) (h0 : t.kids = []) (hs : kK (aX t)) (hh : Has key (aX t)) : jg t.keys (dG key t.keys) key = true := by
 cases hn : jg t.keys (dG key t.keys) key with
 | true => rfl
 | false =>
  obtain ⟨⟨h1, h2, h3⟩, h4⟩ := bJ.1 hb;have hsk : DC t.keys := oG ((ku (bA hb)).2 hs);obtain ⟨x, hm, he⟩ := hh;rw [iR (bA hb) h0, <- List.take_append_drop (dG key t.keys) (bI t)] at hm
  rcases List.mem_append.1 hm with hm | hm
  ·rw [xY (qJ h1 x hm)] at he; cases he
  ·rw [xP (pO hsk hn x hm)] at he; cases he
theorem oK : ∀ (n : Nat) (t : PT) (h : Nat), t.big <= n -> qD h t -> 0 < t.keys.length -> ∃ X, aX t = X ++ [(kT n t, oW n t)]
 | 0, t, h, hb, _, _ => absurd t.fB (by omega)
 | n + 1, t, 0, hb, hk, h0 => hk.l.elim
 | n + 1, t, h + 1, hb, hk, h0 => by
  obtain ⟨⟨h1, h2, h3⟩, h4⟩ := bJ.1 hk.b
  rcases jU hk.b hk.l with ⟨_, hc⟩ | ⟨hh, hc, ha⟩
  ·have e : jC (n + 1) t = t := by rw [jC, if_pos (by rw [hc]; rfl)]
   unfold kT oW;rw [e, iR (bA hk.b) hc];exact ⟨_, Im h1 h0⟩
  ·obtain ⟨s, hx⟩ : ∃ s, t.kids[t.keys.length]? = some s := ⟨t.kids[t.keys.length]'(by omega), List.getElem?_eq_getElem (by omega)⟩
   have hm := List.mem_of_getElem? hx
   have e : jC (n + 1) t = jC n s := by
    rw [jC, if_neg (by omega), show t.kids.length - 1 = t.keys.length by omega, ky hx]
   obtain ⟨X, eX⟩ := oK n s h (by have := PT.gH hx; omega) ⟨h4 s hm, (ha s hm).1⟩ (by have := (ha s hm).2; omega);obtain ⟨ev, _⟩ := rY hk.b hx (Nat.le_refl _);have hd : (bI t).drop t.keys.length = [] := List.drop_eq_nil_of_le (by rw [rT h1]; exact Nat.le_refl _);unfold kT oW at eX ⊢;rw [e, ev, hd, eX];exact ⟨_, by rw [tailW, List.append_nil, <- List.append_assoc]⟩
theorem LZ {key : ByteArray} : ∀ {K : List ByteArray}, (∀ x ∈ K, qZ x key) -> dG key K = K.length
 | [], _ => rfl
 | k :: ks, h => by
  rw [dG, if_pos ((jT _ _).2 (h k List.mem_cons_self)), LZ fun x hx => h x (List.mem_cons_of_mem _ hx)];rfl
theorem L6 {key x : ByteArray} : ∀ {K : List ByteArray}, (∀ y ∈ K, qZ y key) -> yK x key = false -> dG key (K ++ [x]) = K.length
 | [], _, hx => by rw [List.nil_append, dG, if_neg (by rw [hx]; decide)]; rfl
 | k :: ks, h, hx => by
  rw [List.cons_append, dG, if_pos ((jT _ _).2 (h k List.mem_cons_self)), L6 (fun x hx => h x (List.mem_cons_of_mem _ hx)) hx];rfl
theorem Pb (a : ByteArray) : yK a a = false := by
 cases h : yK a a with
 | false => rfl
 | true => exact absurd ((jT a a).1 h) (lt_irrefl a)
theorem Pf {K : List ByteArray} {key : ByteArray} : jg K K.length key = false := by
 unfold jg;rw [List.getElem?_eq_none (Nat.le_refl _)]
theorem TV (n : Nat) {t : PT} {h : Nat} (hb : t.big <= n + 1) (hk : qD (h + 1) t) (h0 : 0 < t.keys.length) (hs : kK (aX t)) :
  (t.kids = [] -> kT (n + 1) t = bq t.keys (t.keys.length - 1) /\ dG (kT (n + 1) t) t.keys = t.keys.length - 1) /\ (t.kids ≠ [] -> kT (n + 1) t = kT n (gy t t.keys.length) /\ oW (n + 1) t = oW n (gy t t.keys.length) /\ dG (kT (n + 1) t) t.keys = t.keys.length) := by
 obtain ⟨⟨h1, h2, h3⟩, h4⟩ := bJ.1 hk.b;have hsk : DC t.keys := oG ((ku (bA hk.b)).2 hs);constructor
 ·intro hc
  have e : jC (n + 1) t = t := by rw [jC, if_pos (by rw [hc]; rfl)]
  have e2 : kT (n + 1) t = bq t.keys (t.keys.length - 1) := by unfold kT; rw [e]
  refine ⟨e2, ?_⟩;rw [e2];have hsp := rV (pQ (l := t.keys) (i := t.keys.length - 1) (by omega));rw [List.drop_eq_nil_of_le (by omega)] at hsp;have ht : (t.keys.take (t.keys.length - 1)).length = t.keys.length - 1 := by rw [List.length_take]; omega
  have : dG (bq t.keys (t.keys.length - 1)) (t.keys.take (t.keys.length - 1) ++ [bq t.keys (t.keys.length - 1)]) = (t.keys.take (t.keys.length - 1)).length := by
   refine L6 (fun y hy => ?_) (Pb _);rw [hsp] at hsk;exact (List.pairwise_append.1 hsk).2.2 y hy _ (List.mem_singleton_self _)
  rw [<- hsp, ht] at this;exact this
 ·intro hc
  rcases jU hk.b hk.l with ⟨_, hc'⟩ | ⟨hh, hcl, ha⟩
  ·exact absurd hc' hc
  ·have hx : t.kids[t.keys.length]? = some (gy t t.keys.length) := by
    have : t.kids[t.keys.length]? = some (t.kids[t.keys.length]'(by omega)) := List.getElem?_eq_getElem (by omega);rw [this, ky this]
   have e : jC (n + 1) t = jC n (gy t t.keys.length) := by rw [jC, if_neg (by omega), show t.kids.length - 1 = t.keys.length by omega]
   have e2 : kT (n + 1) t = kT n (gy t t.keys.length) := by unfold kT; rw [e]
   have e3 : oW (n + 1) t = oW n (gy t t.keys.length) := by unfold oW; rw [e]
   refine ⟨e2, e3, ?_⟩;have hm := List.mem_of_getElem? hx;obtain ⟨X, eX⟩ := oK n _ h (by have := PT.gH hx; omega) ⟨h4 _ hm, (ha _ hm).1⟩ (by have := (ha _ hm).2; omega);obtain ⟨ev, Db⟩ := rY hk.b hx (Nat.le_refl _);rw [e2]
   refine LZ fun x hxk => ?_
   -- the node's own keys stand ahead of the last kid
   obtain ⟨i, hi⟩ := List.getElem?_of_mem hxk;have hil := (List.getElem?_eq_some_iff.1 hi).1;obtain ⟨v, _, Xx⟩ := M5 h1 hi
   have hmem : (x, v) ∈ rR ((t.kids.take t.keys.length).map aX) ((bI t).take t.keys.length) := by
    have : ∀ (P : List (List KV)) (I : List KV), P.length = I.length -> ∀ y ∈ I, y ∈ rR P I := by
     intro P
     induction P with
     | nil => intro I hl y hy; cases I with | nil => cases hy | cons _ _ => simp at hl
     | cons p P ih =>
      intro I hl y hy
      cases I with
      | nil => cases hy
      | cons z I =>
       rw [rR]
       rcases List.mem_cons.1 hy with rfl | hy
       ·exact List.mem_append_right _ List.mem_cons_self
       ·exact List.mem_append_right _ (List.mem_cons_of_mem _ (ih I (by simpa using hl) y hy))
    refine this _ _ (by rw [List.length_map]; exact Db) _ ?_;rw [List.take_of_length_le (by rw [rT h1]; exact Nat.le_refl _)];exact List.mem_of_getElem? Xx
   rw [ev, eX] at hs;exact (List.pairwise_append.1 hs).2.2 _ hmem (kT n (gy t t.keys.length), oW n (gy t t.keys.length)) (List.mem_append_left _ (List.mem_append_right _ (List.mem_singleton_self _)))
theorem RL {cs : List PT} {i j : Nat} {s' c : PT} (h : (cs.set i s')[j]? = some c) : (j = i /\ c = s') \/ (j ≠ i /\ cs[j]? = some c) := by
 rw [List.getElem?_set] at h
 split at h
 ·split at h
  ·exact .inl ⟨by omega, (Option.some.inj h).symm⟩
  ·cases h
 ·exact .inr ⟨by omega, h⟩
theorem mZ : ∀ (n : Nat) (t : PT) (key : ByteArray) (h : Nat), t.big <= n -> qD h t -> (t.kids ≠ [] -> 0 < t.keys.length) -> kK (aX t) -> Has key (aX t) ->
  ∃ r, mP n t key = some r /\ qD h r /\ t.keys.length <= r.keys.length + 1 /\ aX r = kz key (aX t)
 | 0, t, key, h, hb, _, _, _, _ => absurd t.fB (by omega)
 | n + 1, t, key, 0, hb, hk, _, _, _ => hk.l.elim
 | n + 1, t, key, h + 1, hb, hk, h0, hs, hh => by
  obtain ⟨⟨h1, h2, h3⟩, h4⟩ := bJ.1 hk.b;have hle := lS key t.keys;rw [mP]
  rcases jU hk.b hk.l with ⟨rfl, hc⟩ | ⟨hne, hcl, ha⟩
  ·have hS := qj hk.b hc hs hh
   have hlt := jQ hS;rw [if_pos (by rw [hc]; rfl), if_pos hlt]
   have el : ∀ (k : List ByteArray), k.length = t.keys.length -> (k.eraseIdx (dG key t.keys)).length = t.keys.length - 1 := fun k hk => by rw [List.length_eraseIdx_of_lt (by omega)]; omega
   have hb' : kV (.mk (t.keys.eraseIdx (dG key t.keys)) (t.vals.eraseIdx (dG key t.keys)) t.kids) := nR (by rw [el _ h1, el _ rfl]) (by rw [el _ rfl]; omega) (.inl (by rw [hc]; rfl)) h4;refine ⟨_, rfl, ⟨hb', vF hc⟩, by show t.keys.length <= (t.keys.eraseIdx _).length + 1; rw [el _ rfl]; omega, ?_⟩
   have e2 : aX t = (bI t).take (dG key t.keys) ++ (bq t.keys (dG key t.keys), bq t.vals (dG key t.keys)) :: (bI t).drop (dG key t.keys + 1) := by
    rw [iR (bA hk.b) hc];exact rf hlt h1
   rw [iR (bA hb') hc];show (t.keys.eraseIdx _).zip (t.vals.eraseIdx _) = _;rw [Ew h1]
   conv => rhs; rw [e2]
   refine (vH (by rw [e2] at hs; exact hs) ?_).symm;unfold jg at hS;rw [pQ hlt] at hS;exact hS
  ·have h0' : 0 < t.keys.length := h0 (fun e => by rw [e] at hcl; simp at hcl)
   obtain ⟨s, hx⟩ : ∃ s, t.kids[dG key t.keys]? = some s := ⟨t.kids[dG key t.keys]'(by omega), List.getElem?_eq_getElem (by omega)⟩
   have hm := List.mem_of_getElem? hx;have hsb : s.big <= n := by have := PT.gH hx; omega
   have hks : qD h s := ⟨h4 s hm, (ha s hm).1⟩
   have hs2 := (ha s hm).2;have hss := lC hk.b hs hx hle;rw [if_neg (by omega)]
   have fix := fun (ks vs : List ByteArray) (s' : PT) (e1 : vs.length = ks.length) (e2 : ks.length = t.keys.length) (hks' : qD h s') (hl' : s.keys.length <= s'.keys.length + 1) =>
    TU (h := h) (i := dG key t.keys) (ks := ks) (vs := vs) (cs := t.kids.set (dG key t.keys) s') e1 (by omega) (by omega) (by rw [List.length_set]; omega) (by rw [List.length_set]; omega) (fun j c hj => by
     rcases RL hj with ⟨e, rfl⟩ | ⟨e, hj⟩
     ·exact ⟨hks', fun e' => absurd e e', by omega⟩
     ·have hcm := List.mem_of_getElem? hj
      exact ⟨⟨h4 c hcm, (ha c hcm).1⟩, fun _ => (ha c hcm).2, by have := (ha c hcm).2; omega⟩)
   rw [ky hx];obtain ⟨ev, Db⟩ := rY hk.b hx hle
   by_cases hS : jg t.keys (dG key t.keys) key = true
   ·rw [if_pos hS]
    have hlt := jQ hS;obtain ⟨X, eX⟩ := oK n s h hsb hks (by omega);obtain ⟨r, e1, hkr, hlr, hall⟩ := mZ n s (kT n s) h hsb hks (fun _ => by omega) hss ⟨(kT n s, oW n s), by rw [eX]; exact List.mem_append_right _ (List.mem_singleton_self _), by simp⟩;rw [e1];have ok := fix (t.keys.set (dG key t.keys) (kT n s)) (t.vals.set (dG key t.keys) (oW n s)) r (by rw [List.length_set, List.length_set]; exact h1) List.length_set hkr hlr;refine ⟨_, rfl, ⟨ok.1, ok.2.1⟩, by have := ok.2.2.1; rw [List.length_set] at this; exact this, ?_⟩;rw [ok.2.2.2, FV _ _ hlt h1, p8 r (by omega)]
    have hrX : aX r = X := by
     rw [hall, eX];have := vH (key := kT n s) (A := X) (B := []) (x := (kT n s, oW n s)) (by rw [<- eX]; exact hss) (by simp);rw [List.append_nil] at this;exact this
    have hI : (t.kids.take (dG key t.keys)).length = ((t.keys.zip t.vals).take (dG key t.keys)).length := Db;rw [tq hI, hrX, tailW]
    have e3 : aX t = (rR ((t.kids.take (dG key t.keys)).map aX) ((bI t).take (dG key t.keys)) ++ (X ++ [(kT n s, oW n s)])) ++ (bq t.keys (dG key t.keys), bq t.vals (dG key t.keys)) :: bN ((t.kids.drop (dG key t.keys + 1)).map aX) ((bI t).drop (dG key t.keys + 1)) := by
     rw [ev, eX]
     have : (bI t).drop (dG key t.keys) = (bq t.keys (dG key t.keys), bq t.vals (dG key t.keys)) :: (bI t).drop (dG key t.keys + 1) := by
      have := fO (l := bI t) (i := dG key t.keys) (s := (bq t.keys (dG key t.keys), bq t.vals (dG key t.keys))) (List.getElem?_zip_eq_some.2 ⟨pQ hlt, pQ (by omega)⟩);exact this
     rw [this, tailW];simp only [List.append_assoc, List.cons_append, List.nil_append]
    conv => rhs; rw [e3]
    rw [vH (by rw [<- e3]; exact hs) (by
     unfold jg at hS;rw [pQ hlt] at hS
     exact hS)]
    simp only [List.append_assoc, List.cons_append, List.nil_append];rfl
   ·have hS' : jg t.keys (dG key t.keys) key = false := by cases hq : jg t.keys (dG key t.keys) key <;> simp_all
    rw [if_neg hS];obtain ⟨hpre, zL, hin⟩ := qL hk.b hs hS' hx;obtain ⟨r, e1, hkr, hlr, hall⟩ := mZ n s key h hsb hks (fun _ => by omega) hss (hin hh);rw [e1];have ok := fix t.keys t.vals r h1 rfl hkr hlr;refine ⟨_, rfl, ⟨ok.1, ok.2.1⟩, ok.2.2.1, ?_⟩;refine ok.2.2.2.trans ?_;rw [p8 r (by omega)]
    conv => lhs; rw [<- List.take_append_drop (dG key t.keys) (t.keys.zip t.vals)]
    rw [tq (show (t.kids.take (dG key t.keys)).length = ((t.keys.zip t.vals).take (dG key t.keys)).length from Db), hall, ev, yR, yR, tC (fun x hx => xY (hpre x hx)), tC (l := tailW _ _) (fun x hx => xP (zL x hx))];rfl
theorem vI : ∀ (n : Nat) (t : PT) (h : Nat), t.big <= n -> qD h t -> 0 < t.keys.length -> kK (aX t) -> mP n t (kT n t) = some (uF n t)
 | 0, t, h, hb, _, _, _ => absurd t.fB (by omega)
 | n + 1, t, 0, hb, hk, _, _ => hk.l.elim
 | n + 1, t, h + 1, hb, hk, h0, hs => by
  obtain ⟨⟨h1, h2, h3⟩, h4⟩ := bJ.1 hk.b;obtain ⟨a1, a2⟩ := TV n hb hk h0 hs;rw [mP, uF]
  rcases jU hk.b hk.l with ⟨rfl, hc⟩ | ⟨hne, hcl, ha⟩
  ·obtain ⟨_, e⟩ := a1 hc
   rw [if_pos (show t.kids.length = 0 by rw [hc]; rfl), if_pos (show t.kids.length = 0 by rw [hc]; rfl), e, if_pos (show t.keys.length - 1 < t.keys.length by omega)]
  ·have hne' : t.kids ≠ [] := fun e => by rw [e] at hcl; simp at hcl
   obtain ⟨e1, e2, e3⟩ := a2 hne';rw [if_neg (show ¬ t.kids.length = 0 by omega), if_neg (show ¬ t.kids.length = 0 by omega), e3, if_neg (show ¬ jg t.keys t.keys.length (kT (n + 1) t) = true by rw [Pf]; decide), e1, show t.kids.length - 1 = t.keys.length by omega];have hx : t.kids[t.keys.length]? = some (t.kids[t.keys.length]'(by omega)) := List.getElem?_eq_getElem (by omega);have hm := List.mem_of_getElem? hx;rw [ky hx];rw [vI n _ h (by have := PT.gH hx; omega) ⟨h4 _ hm, (ha _ hm).1⟩ (by have := (ha _ hm).2; omega) (lC hk.b hs hx (Nat.le_refl _))];rfl
theorem rZ : ∀ (n : Nat) (t : PT) (key : ByteArray) (h : Nat), t.big <= n -> qD h t -> kK (aX t) -> Has key (aX t) -> wz n t key = mP n t key
 | 0, t, key, h, hb, _, _, _ => absurd t.fB (by omega)
 | n + 1, t, key, 0, hb, hk, _, _ => hk.l.elim
 | n + 1, t, key, h + 1, hb, hk, hs, hh => by
  obtain ⟨⟨h1, h2, h3⟩, h4⟩ := bJ.1 hk.b;have hle := lS key t.keys;rw [wz, mP]
  rcases jU hk.b hk.l with ⟨rfl, hc⟩ | ⟨hne, hcl, ha⟩
  ·have hS := qj hk.b hc hs hh
   have hlt := jQ hS;rw [if_pos hS, if_pos (show t.kids.length = 0 by rw [hc]; rfl), if_pos (show t.kids.length = 0 by rw [hc]; rfl), if_pos hlt]
  ·have hkn : ¬ t.kids.length = 0 := by omega
   obtain ⟨s, hx⟩ : ∃ s, t.kids[dG key t.keys]? = some s := ⟨t.kids[dG key t.keys]'(by omega), List.getElem?_eq_getElem (by omega)⟩
   have hm := List.mem_of_getElem? hx;have hsb : s.big <= n := by have := PT.gH hx; omega
   have hks : qD h s := ⟨h4 s hm, (ha s hm).1⟩
   have hss := lC hk.b hs hx hle;rw [ky hx];simp only [if_neg hkn]
   by_cases hS : jg t.keys (dG key t.keys) key = true
   ·rw [if_pos hS, if_pos hS, vI n s h hsb hks (by have := (ha s hm).2; omega) hss]
    rfl
   ·have hS' : jg t.keys (dG key t.keys) key = false := by cases hq : jg t.keys (dG key t.keys) key <;> simp_all
    rw [if_neg hS, if_neg hS, rZ n s key h hsb hks hss ((qL hk.b hs hS' hx).2.2 hh)]
end Go.Proofs.Ytoddejmlcnbdmaa.Pure
namespace Go.Proofs.Ytoddejmlcnbdmaa.Fn
end Go.Proofs.Ytoddejmlcnbdmaa.Fn
namespace Go.Proofs.Ytoddejmlcnbdmaa.Pure
end Go.Proofs.Ytoddejmlcnbdmaa.Pure
namespace Go.Proofs.Ytoddejmlcnbdmaa.Fn
end Go.Proofs.Ytoddejmlcnbdmaa.Fn
namespace Go.Proofs.Ytoddejmlcnbdmaa.Pure
end Go.Proofs.Ytoddejmlcnbdmaa.Pure
namespace Go.Proofs.Ytoddejmlcnbdmaa.Fn
end Go.Proofs.Ytoddejmlcnbdmaa.Fn
namespace Go.Proofs.Ytoddejmlcnbdmaa.Pure
theorem yS {α : Type} : ∀ (cs : List (List α)) (ks : List α), cs.length = ks.length + 1 -> (bN cs ks).length + 1 = (cs.map fun c => c.length + 1).sum
 | [], ks, h => by simp at h
 | [c], [], _ => by simp [bN]
 | c :: d :: cs, [], h => by simp at h
 | c :: cs, k :: ks, h => by
  have := yS cs ks (by simpa using h);simp only [bN, List.length_append, List.length_cons, List.map_cons, List.sum_cons];omega
theorem Ph {α : Type} (f : α -> Nat) (m : Nat) : ∀ l : List α, (∀ x ∈ l, m <= f x) -> l.length * m <= (l.map f).sum
 | [], _ => by simp
 | x :: l, h => by
  have := Ph f m l fun y hy => h y (List.mem_cons_of_mem _ hy)
  have := h x List.mem_cons_self;simp only [List.length_cons, List.map_cons, List.sum_cons, Nat.succ_mul];omega
theorem F6 : ∀ (h : Nat) (t : PT), om t -> q9 (h + 1) t -> (t.keys.length + 1) * 3 ^ h <= (bB t).length + 1
 | h, t, hs, hl => by
  have h1 := hs.one;unfold wN at h1
  rcases hl with ⟨a1, a2⟩ | ⟨a1, a2⟩
  ·subst a2
   rw [pI, a1];simp [bN]
  ·have hkl : t.kids.length = t.keys.length + 1 := h1.2.2.resolve_left (by
    intro h0
    exact a1 (List.length_eq_zero_iff.1 h0))
   cases h with
   | zero =>
    cases hk : t.kids with
    | nil => exact absurd hk a1
    | cons c cs => exact (a2 c (by rw [hk]; exact List.mem_cons_self)).1.elim
   | succ h =>
    rw [pI, yS _ _ (by rw [List.length_map]; exact hkl), List.map_map]
    have := Ph ((fun c : List ByteArray => c.length + 1) ∘ bB) (3 ^ (h + 1)) t.kids fun s hm => by
     obtain ⟨l1, l2⟩ := a2 s hm;obtain ⟨i, hi⟩ := List.getElem?_of_mem hm;have hr := F6 h s (hs.kid hi) l1;show 3 ^ (h + 1) <= (bB s).length + 1;have h3 : 3 * 3 ^ h <= (s.keys.length + 1) * 3 ^ h := Nat.mul_le_mul_right _ (by omega);rw [Nat.pow_succ, Nat.mul_comm];omega
    rw [hkl] at this;exact this
theorem EC {rd : Nat -> Option (PT × Nat)} : ∀ (l : List Int) (next : Nat) (acc ts : List PT) (n : Nat), fu rd l next acc = some (ts, n) -> ∀ x ∈ acc, x ∈ ts
 | [], next, acc, ts, n, h, x, hx => by
  rw [fu] at h
  injection h with h
  injection h with e1 e2
  rw [<- e1];exact hx
 | k :: ks, next, acc, ts, n, h, x, hx => by
  rw [fu] at h
  split at h
  ·cases h
  ·cases hr : rd next with
   | none => rw [hr] at h; cases h
   | some r =>
    rw [hr] at h;exact EC ks r.2 _ ts n h x (List.mem_append_left _ hx)
theorem yT {rd rd' : Nat -> Option (PT × Nat)} {Q : PT -> Prop} (hrd : ∀ a t n, rd a = some (t, n) -> Q t -> rd' a = some (t, n)) : ∀ (l : List Int) (next : Nat) (acc ts : List PT) (n : Nat), fu rd l next acc = some (ts, n) -> (∀ s ∈ ts, Q s) -> fu rd' l next acc = some (ts, n)
 | [], next, acc, ts, n, h, _ => h
 | k :: ks, next, acc, ts, n, h, hq => by
  rw [fu] at h ⊢
  split at h
  ·cases h
  ·rename_i hk
   rw [if_neg hk]
   cases hr : rd next with
   | none => rw [hr] at h; cases h
   | some r =>
    rw [hr] at h;have hm := EC ks r.2 _ ts n h r.1 (List.mem_append_right _ (List.mem_singleton_self _));rw [hrd next r.1 r.2 hr (hq _ hm)];exact yT hrd ks r.2 _ ts n h hq
theorem oL {P : List bC} {f a n : Nat} {t : PT} (h : bZ P (f + 1) a = some (t, n)) : ¬ P.length <= a /\ qX (P.getD a mQ) = false /\ t.keys = (P.getD a mQ).f0 /\ t.vals = (P.getD a mQ).f1 /\ fu (bZ P f) (P.getD a mQ).f2 (a + 1) [] = some (t.kids, n) := by
 rw [bZ] at h
 split at h
 ·cases h
 ·rename_i hl
  split at h
  ·cases h
  ·rename_i hb
   unfold fin at h;obtain ⟨r, hr, e⟩ := Option.map_eq_some_iff.1 h
   injection e with e1 e2
   subst e1;refine ⟨hl, by cases hbb : qX (P.getD a mQ) <;> simp_all, rfl, rfl, ?_⟩;rw [hr, <- e2];rfl
theorem tF {P : List bC} {f a n : Nat} {t : PT} (h1 : ¬ P.length <= a) (h2 : qX (P.getD a mQ) = false) (h3 : t.keys = (P.getD a mQ).f0) (h4 : t.vals = (P.getD a mQ).f1) (h5 : fu (bZ P f) (P.getD a mQ).f2 (a + 1) [] = some (t.kids, n)) : bZ P (f + 1) a = some (t, n) := by
 rw [bZ, if_neg h1, if_neg (by rw [h2]; decide), h5];unfold fin;rw [Option.map_some, <- h3, <- h4, PT.eta]
theorem J6 {P : List bC} : ∀ (f g a : Nat) (t : PT) (n : Nat), f <= g -> bZ P f a = some (t, n) -> bZ P g a = some (t, n)
 | 0, g, a, t, n, _, h => by cases h
 | f + 1, 0, a, t, n, hg, h => by omega
 | f + 1, g + 1, a, t, n, hg, h => by
  obtain ⟨h1, h2, h3, h4, h5⟩ := oL h;exact tF h1 h2 h3 h4 (yT (Q := fun _ => True) (fun a t n h _ => J6 f g a t n (by omega) h) _ _ _ _ _ h5 fun _ _ => trivial)
theorem ED {P : List bC} : ∀ (h f g a : Nat) (t : PT) (n : Nat), h <= g -> q9 h t -> bZ P f a = some (t, n) -> bZ P g a = some (t, n)
 | 0, f, g, a, t, n, _, hl, _ => hl.elim
 | h + 1, 0, g, a, t, n, _, _, hr => by cases hr
 | h + 1, f + 1, 0, a, t, n, hg, _, _ => by omega
 | h + 1, f + 1, g + 1, a, t, n, hg, hl, hr => by
  obtain ⟨h1, h2, h3, h4, h5⟩ := oL hr;refine tF h1 h2 h3 h4 (yT (Q := q9 h) (fun a t n hr hl => ED h f g a t n (by omega) hl hr) _ _ _ _ _ h5 fun s hs => ?_)
  rcases hl with ⟨a1, _⟩ | ⟨_, a2⟩
  ·rw [a1] at hs
   cases hs
  ·exact (a2 s hs).1
theorem ng {P : List bC} : ∀ (f g a : Nat) (t : PT) (n : Nat), P.length < a + g -> bZ P f a = some (t, n) -> bZ P g a = some (t, n)
 | 0, g, a, t, n, _, h => by cases h
 | f + 1, g, a, t, n, hg, h => by
  obtain ⟨h1, h2, h3, h4, h5⟩ := oL h
  cases g with
  | zero => omega
  | succ g =>
   refine tF h1 h2 h3 h4 ?_
   have : ∀ (l : List Int) (next : Nat) (acc ts : List PT) (n : Nat), a + 1 <= next -> fu (bZ P f) l next acc = some (ts, n) -> fu (bZ P g) l next acc = some (ts, n) := by
    intro l
    induction l with
    | nil => intro next acc ts n _ h; exact h
    | cons k ks ih =>
     intro next acc ts n hn h;rw [fu] at h ⊢
     split at h
     ·cases h
     ·rename_i hk
      rw [if_neg hk]
      cases hr : bZ P f next with
      | none => rw [hr] at h; cases h
      | some r =>
       rw [hr] at h;rw [ng f g next r.1 r.2 (by omega) hr];have := j5 f next r.1 r.2 hr;exact ih r.2 _ ts n (by omega) h
   exact this _ _ _ _ _ (Nat.le_refl _) h5
theorem EE {P : List bC} {rd : Nat -> Option (PT × Nat)} (hrd : ∀ a t n, rd a = some (t, n) -> a < n /\ t.big <= n - a) : ∀ (l : List Int) (next : Nat) (acc ts : List PT) (n : Nat), fu rd l next acc = some (ts, n) -> next <= n /\ PT.jA ts <= PT.jA acc + (n - next)
 | [], next, acc, ts, n, h => by
  rw [fu] at h
  injection h with h
  injection h with e1 e2
  subst e1; subst e2;omega
 | k :: ks, next, acc, ts, n, h => by
  rw [fu] at h
  split at h
  ·cases h
  ·cases hr : rd next with
   | none => rw [hr] at h; cases h
   | some r =>
    rw [hr] at h;have h1 := hrd next r.1 r.2 hr;have h2 := EE (P := P) hrd ks r.2 _ ts n h
    have h3 : ∀ (l : List PT) (x : PT), PT.jA (l ++ [x]) = PT.jA l + x.big := by
     intro l x
     induction l with
     | nil => simp [PT.jA]
     | cons y l ih => rw [List.cons_append, PT.jA, PT.jA, ih]; omega
    rw [h3] at h2;omega
theorem yU {P : List bC} : ∀ (f a : Nat) (t : PT) (n : Nat), bZ P f a = some (t, n) -> a < n /\ t.big <= n - a
 | 0, a, t, n, h => by cases h
 | f + 1, a, t, n, h => by
  obtain ⟨h1, h2, h3, h4, h5⟩ := oL h;have := EE (P := P) (fun a t n h => yU f a t n h) _ _ _ _ _ h5
  cases t with | mk keys vals kids =>
  rw [PT.big];simp only [PT.kids, PT.jA] at this;omega
theorem wW (t : PT) : qg t = true ↔ ¬ (t.kids.length ≠ 0 /\ t.keys.length = 0) := by
 unfold qg
 cases hk : t.kids with
 | nil => simp
 | cons c cs =>
  simp only [List.isEmpty_cons, Bool.false_or, decide_eq_true_eq, List.length_cons];omega
theorem vJ (P : List bC) (hP : P.length <= 1048576) : Ev (fun k => mK k P) (mq P) := by
 unfold mK mq
 cases h1 : bZ P (P.length + 1) 0 with
 | none =>
  have h2 : bZ P 10 0 = none := by
   cases h : bZ P 10 0 with
   | none => rfl
   | some r => have := ng 10 (P.length + 1) 0 r.1 r.2 (by omega) h; rw [h1] at this; cases this
  rw [h2];exact Ev.val rfl
 | some r =>
  obtain ⟨t, n⟩ := r;obtain ⟨hlt, hfits⟩ := jS _ 0 t n h1;have hle := j5 _ 0 t n h1;have hbig := yU _ 0 t n h1;have hk := hfits.k;have hv := hfits.v;have hvl := iW hfits.BC;have hap := Ia (bB t) (eD t) (by omega) (by omega);have he := xR _ t (Nat.le_refl _) (by omega);have hd := yO _ t (Nat.le_refl _) (by omega);simp only
  by_cases hn : n = P.length
  ·refine Ev.xw (by simp [hn]) ?_
   have hpc := M0 (bB t) (eD t) hvl
   rcases hd with ⟨h, hl, hdp⟩ | ⟨hno, hdp⟩
   ·-- level h
    by_cases hh : h <= 10
    ·have h2 := ED h (P.length + 1) 10 0 t n hh hl h1
     rw [h2];simp only;rw [if_neg (by simp [hn]), hdp]
     have hev : iJ t = (h : Int) := by
      rcases he with ⟨g, gl, ge⟩ | ⟨hno, _⟩
      ·rw [ge, qf gl hl]
      ·exact absurd hl (hno h)
     cases hro : qg t with
     | false =>
      have : ¬ ¬ (t.kids.length ≠ 0 /\ t.keys.length = 0) := fun h => by rw [(wW t).2 h] at hro; cases hro
      have := Decidable.not_not.1 this;refine Ev.wT rfl (Ev.val ?_)
      split
      ·rfl
      ·rw [if_pos (.inr (.inl this))]
     | true =>
      have hr2 := (wW t).1 hro;refine Ev.xw (by simp) (Ev.bind hap (Ev.val ?_));rw [hpc]
      cases hc : pJ (bB t) (eD t) none with
      | false =>
       rw [if_pos rfl, Bool.and_false];rfl
      | true =>
       rw [Bool.and_true]
       by_cases Ot : (bB t).length <= 40
       ·rw [if_pos (decide_eq_true Ot), if_neg (show ¬ (true = false) by decide), if_neg (by rw [hev]; omega)]
       ·rw [if_neg (show ¬ decide ((bB t).length <= 40) = true by simpa using Ot), if_neg (show ¬ (true = false) by decide), if_pos (.inr (.inr (by omega)))]
    ·-- too deep: too many keys
     have h2 : bZ P 10 0 = none \/ ∃ r, bZ P 10 0 = some r := by
      cases bZ P 10 0 with
      | none => exact .inl rfl
      | some r => exact .inr ⟨r, rfl⟩
     obtain ⟨g, rfl⟩ : ∃ g, h = g + 1 := ⟨h - 1, by omega⟩
     have hcnt := F6 g t hfits.BC hl;have h3 : 3 ^ 10 <= 3 ^ g := Nat.pow_le_pow_right (by omega) (by omega);have h310 : (3 : Nat) ^ 10 = 59049 := by decide
     have hmany : 40 < (bB t).length := by
      have : 1 * 3 ^ g <= (t.keys.length + 1) * 3 ^ g := Nat.mul_le_mul_right _ (by omega);omega
     have hfalse : vD (bB t) (eD t) = false := by rw [hpc, decide_eq_false (by omega), Bool.false_and]
     rcases h2 with h2 | ⟨r, h2⟩
     ·rw [h2]
      cases hro : qg t with
      | false =>
       rw [hdp, hro];exact Ev.wT rfl (Ev.val rfl)
      | true =>
       rw [hdp, hro];refine Ev.xw (by simp) (Ev.bind hap (Ev.val ?_));rw [hfalse];rfl
     ·have h4 := ng 10 (P.length + 1) 0 r.1 r.2 (by omega) h2
      rw [h1] at h4
      injection h4 with h4
      injection h4 with e1 e2
      rw [h2];simp only;rw [<- e1, <- e2, if_neg (by simp [hn])]
      have : (if pJ (bB t) (eD t) none = false then (none : Option PT) else if iJ t < 0 \/ (t.kids.length ≠ 0 /\ t.keys.length = 0) \/ 40 < (bB t).length then none else some t) = none := by
       split
       ·rfl
       ·rw [if_pos (.inr (.inr hmany))]
      rw [this]
      cases hro : qg t with
      | false =>
       rw [hdp, hro];exact Ev.wT rfl (Ev.val rfl)
      | true =>
       rw [hdp, hro];refine Ev.xw (by simp) (Ev.bind hap (Ev.val ?_));rw [hfalse];rfl
   ·rw [hdp]
    refine Ev.wT rfl (Ev.val ?_)
    cases h2 : bZ P 10 0 with
    | none => rfl
    | some r =>
     have h4 := ng 10 (P.length + 1) 0 r.1 r.2 (by omega) h2;rw [h1] at h4
     injection h4 with h4
     injection h4 with e1 e2
     simp only;rw [<- e1, <- e2, if_neg (by simp [hn])]
     have hev : iJ t = -1 := by
      rcases he with ⟨g, gl, _⟩ | ⟨_, h⟩
      ·exact absurd gl (hno g)
      ·exact h
     split
     ·rfl
     ·rw [if_pos (.inl (by rw [hev]; decide))]
  ·refine Ev.wT (by simpa using hn) (Ev.val ?_)
   cases h2 : bZ P 10 0 with
   | none => rfl
   | some r =>
    have h4 := ng 10 (P.length + 1) 0 r.1 r.2 (by omega) h2;rw [h1] at h4
    injection h4 with h4
    injection h4 with e1 e2
    simp only;rw [<- e2, if_pos (by simpa using hn)]
structure Good (t : PT) : Prop where
 BC : om t
 AL : DC (bB t)
 few : (bB t).length <= 40
 big : t.big <= 1048576
 four : t.keys.length <= 4
 Wn : ∃ h, q9 h t /\ iJ t = (h : Int) /\ jy t = ((h : Int), true)
 keys : (bB t).all jJ = true
 vals : (eD t).all lM = true
theorem EF : ∀ (K : List ByteArray) (prev : Option ByteArray), qI K prev = true -> K.all jJ = true
 | [], _, _ => rfl
 | k :: ks, prev, h => by
  rw [qI, Bool.and_eq_true, Bool.and_eq_true] at h;rw [List.all_cons, h.1, EF ks (some k) h.2.2];rfl
theorem AO {P : List bC} {t : PT} (hP : P.length <= 1048576) (h : mq P = some t) : Good t := by
 unfold mq at h
 cases hrs : bZ P 10 0 with
 | none => rw [hrs] at h; cases h
 | some r =>
  rw [hrs] at h;simp only at h;obtain ⟨r1, r2⟩ := r;have hf := (jS 10 0 r1 r2 hrs).2;have hbig := yU 10 0 r1 r2 hrs;have hle := j5 10 0 r1 r2 hrs
  split at h
  ·cases h
  ·split at h
   ·cases h
   ·split at h
    ·cases h
    ·rename_i hc hno
     obtain rfl := Option.some.inj h;have hc' : pJ (bB r1) (eD r1) none = true := by cases hcc : pJ (bB r1) (eD r1) none <;> simp_all
     rw [vC _ _ _ (iW hf.BC).symm, Bool.and_eq_true] at hc'
     have hno' : ¬ iJ r1 < 0 /\ ¬ (r1.kids.length ≠ 0 /\ r1.keys.length = 0) /\ ¬ 40 < (bB r1).length := ⟨fun h => hno (.inl h), fun h => hno (.inr (.inl h)), fun h => hno (.inr (.inr h))⟩
     refine ⟨hf.BC, (Ic _ _ hc'.1).1, by have := hno'.2.2; show (bB r1).length <= 40; omega, by show r1.big <= 1048576; omega, hf.four, ?_, EF _ _ hc'.1, hc'.2⟩
     rcases xR _ r1 (Nat.le_refl _) (by omega) with ⟨g, gl, ge⟩ | ⟨_, ge⟩
     ·refine ⟨g, gl, ge, ?_⟩
      rcases yO _ r1 (Nat.le_refl _) (by omega) with ⟨f, fl, fe⟩ | ⟨hno2, _⟩
      ·rw [fe, qf fl gl, (wW r1).2 hno'.2.1]
      ·exact absurd gl (hno2 g)
     ·omega
structure EG (t : PT) : Prop where
 bnd : kV t
 AL : kK (aX t)
 Wn : ∃ h, q9 h t
 root : t.kids ≠ [] -> 0 < t.keys.length
theorem EH {rd : Nat -> Option (PT × Nat)} {Q : PT -> Prop} (hrd : ∀ a t n, rd a = some (t, n) -> Q t) : ∀ (l : List Int) (next : Nat) (acc ts : List PT) (n : Nat), fu rd l next acc = some (ts, n) -> (∀ s ∈ acc, Q s) -> (∀ s ∈ ts, Q s) /\ ts.length = acc.length + l.length
 | [], next, acc, ts, n, h, hq => by
  rw [fu] at h
  injection h with h
  injection h with e1 e2
  subst e1;exact ⟨hq, by simp⟩
 | k :: ks, next, acc, ts, n, h, hq => by
  rw [fu] at h
  split at h
  ·cases h
  ·cases hr : rd next with
   | none => rw [hr] at h; cases h
   | some r =>
    rw [hr] at h;obtain ⟨t, m⟩ := r
    obtain ⟨h1, h2⟩ := EH hrd ks m (acc ++ [t]) ts n h fun s hs => by
     rcases List.mem_append.1 hs with hs | hs
     ·exact hq s hs
     ·rw [List.mem_singleton.1 hs]; exact hrd next t m hr
    refine ⟨h1, ?_⟩;rw [h2, List.length_append];simp only [List.length_cons, List.length_nil];omega
theorem EI {P : List bC} : ∀ (f a : Nat) (t : PT) (n : Nat), bZ P f a = some (t, n) -> kV t
 | 0, a, t, n, h => by cases h
 | f + 1, a, t, n, h => by
  obtain ⟨h1, h2, h3, h4, h5⟩ := oL h;obtain ⟨g1, g2⟩ := EH (Q := kV) (fun a t n h => EI f a t n h) _ _ _ _ _ h5 (fun s hs => by cases hs);unfold qX at h2;simp only [Bool.or_eq_false_iff, Bool.and_eq_false_iff, decide_eq_false_iff_not, bne_eq_false_iff_eq] at h2;rw [<- h3, <- h4] at h2;rw [List.length_nil, Nat.zero_add] at g2;refine bJ.2 ⟨⟨h2.1.2, by omega, ?_⟩, g1⟩
  rcases h2.2 with e | e
  ·exact .inl (by omega)
  ·exact .inr (by omega)
theorem jX {P : List bC} {t : PT} (hP : P.length <= 1048576) (h : mq P = some t) : EG t /\ (aX t).length <= 40 := by
 have hg := AO hP h;unfold mq at h
 cases hrs : bZ P 10 0 with
 | none => rw [hrs] at h; cases h
 | some r =>
  rw [hrs] at h;simp only at h;obtain ⟨r1, r2⟩ := r;have hb := EI 10 0 r1 r2 hrs
  have e : r1 = t /\ ¬ (r1.kids.length ≠ 0 /\ r1.keys.length = 0) := by
   split at h
   ·cases h
   ·split at h
    ·cases h
    ·split at h
     ·cases h
     ·rename_i hno
      exact ⟨Option.some.inj h, fun h => hno (.inr (.inl h))⟩
  obtain ⟨rfl, hr⟩ := e;obtain ⟨g, gl, _⟩ := hg.Wn;exact ⟨⟨hb, (ku hg.BC).1 hg.AL, ⟨g, gl⟩, fun e => Nat.pos_of_ne_zero fun c => hr ⟨fun e' => e (List.length_eq_zero_iff.1 e'), c⟩⟩, by rw [ko hg.BC]; exact hg.few⟩
theorem Iu : ∀ l : List PT, PT.jA l = (l.map PT.big).sum
 | [] => rfl
 | c :: cs => by rw [PT.jA, Iu cs, List.map_cons, List.sum_cons]
theorem TW (t : PT) : t.big = 1 + (t.kids.map PT.big).sum := by
 cases t with | mk k v c =>
 rw [PT.big, Iu];rfl
theorem EJ : ∀ (h : Nat) (t : PT), kV t -> q9 h t -> t.big <= (bB t).length + 1 /\ (2 <= t.keys.length -> t.big + 1 <= (bB t).length)
 | 0, t, hb, hl => hl.elim
 | h + 1, t, hb, hl => by
  obtain ⟨⟨h1, h2, h3⟩, h4⟩ := bJ.1 hb;rw [TW, pI]
  rcases hl with ⟨a, _⟩ | ⟨a, b⟩
  ·rw [a, List.map_nil, List.map_nil, nQ, List.sum_nil]
   exact ⟨by omega, fun h => by omega⟩
  ·have hkl : t.kids.length = t.keys.length + 1 := h3.resolve_left fun e => a (List.length_eq_zero_iff.1 e)
   have hw := yS (t.kids.map bB) t.keys (by rw [List.length_map]; exact hkl)
   have key : ∀ l : List PT, (∀ s ∈ l, s.big + 1 <= (bB s).length) -> (l.map PT.big).sum + 2 * l.length <= ((l.map bB).map fun c => c.length + 1).sum := by
    intro l
    induction l with
    | nil => intro _; simp
    | cons c cs ih =>
     intro hq
     have h5 := ih fun s hs => hq s (List.mem_cons_of_mem _ hs)
     have h6 := hq c List.mem_cons_self;simp only [List.map_cons, List.sum_cons, List.length_cons];omega
   have h5 := key t.kids fun s hs => (EJ h s (h4 s hs) (b s hs).1).2 (b s hs).2
   exact ⟨by omega, fun h => by omega⟩
theorem EG.small {t : PT} (h : EG t) : t.big <= (aX t).length + 1 := by
 obtain ⟨g, hg⟩ := h.Wn;rw [ko (bA h.bnd)];exact (EJ g t h.bnd hg).1
theorem EG.kid {t : PT} (h : EG t) : ∃ g, qD g t := by
 obtain ⟨g, hg⟩ := h.Wn;exact ⟨g, h.bnd, hg⟩
theorem nT {k v : ByteArray} : ∀ l : List KV, (fD k v l).length <= l.length + 1
 | [] => by simp [fD]
 | x :: l => by
  have := nT (k := k) (v := v) l;rw [fD]
  split
  ·simp only [List.length_cons]; omega
  ·split <;> simp only [List.length_cons] <;> omega
theorem Iw {h : Nat} {p : PT} (hl : q9 h p) (h5 : H8 p) (hk : p.keys.length = 5) (k v : List ByteArray) (b : Bool) : q9 h (.mk k v (if b then p.kids.take 3 else p.kids.drop 3)) := by
 cases h with
 | zero => exact hl.elim
 | succ h =>
  rcases hl with ⟨a, a'⟩ | ⟨a, a'⟩
  ·refine .inl ⟨?_, a'⟩
   show (if b then _ else _) = [];rw [a]
   cases b <;> rfl
  ·have hl6 := h5.1.2.2.resolve_left (fun e => a (List.length_eq_zero_iff.1 e))
   refine .inr ⟨?_, fun c hc => a' c ?_⟩
   ·intro e
    have e' : (if b then p.kids.take 3 else p.kids.drop 3).length = 0 := congrArg List.length e
    cases b
    ·simp only [Bool.false_eq_true, if_false, List.length_drop] at e'; omega
    ·simp only [if_true, List.length_take] at e'; omega
   ·cases b
    ·exact List.mem_of_mem_drop hc
    ·exact List.mem_of_mem_take hc
theorem Pj : ∀ (n : Nat) (t : PT) (key val : ByteArray), t.big <= n -> kV t -> (t.kids ≠ [] -> 0 < t.keys.length) -> (lT n t key val).kids ≠ [] -> 0 < (lT n t key val).keys.length
 | 0, t, key, val, h, _, _ => absurd t.fB (by omega)
 | n + 1, t, key, val, h, hb, h0 => by
  have hle := lS key t.keys;rw [lT]
  split
  ·exact h0
  ·split
   ·rename_i hk
    intro e;exact absurd (List.length_eq_zero_iff.1 hk) e
   ·rename_i hk
    have hk0 : t.kids ≠ [] := fun e => hk (by rw [e]; rfl)
    cases hs : t.kids[dG key t.keys]? with
    | none => exact fun _ => h0 hk0
    | some s =>
     simp only
     split
     ·intro _
      show 0 < (aI _ _ _).length;rw [gu _ hle];omega
     ·exact fun _ => h0 hk0
theorem tH {t : PT} (h : EG t) (k v : ByteArray) : EG (pz t k v) /\ aX (pz t k v) = fD k v (aX t) := by
 have h5 := mY t.big t k v h.bnd;have ha := LV t.big t k v (Nat.le_refl _) h.bnd h.AL;have hr := Pj t.big t k v (Nat.le_refl _) h.bnd h.root;obtain ⟨g, hg⟩ := h.Wn;have hl := (LW t.big t k v g (Nat.le_refl _) h.bnd hg).1;have XH := Eu (k := k) (v := v) h.AL;unfold pz;generalize lT t.big t k v = p at h5 ha hl hr ⊢;obtain ⟨⟨h1, h2, h3⟩, h4⟩ := h5
 by_cases h6 : 4 < p.keys.length
 ·rw [if_pos h6]
  have hk5 : p.keys.length = 5 := by omega
  have hb5 : H8 p := ⟨⟨h1, h2, h3⟩, h4⟩
  have hsp := El (t := .mk [] [] [p]) (k := p) (i := 0) ⟨rfl, (by show 0 <= 4; omega), rfl⟩ (Nat.zero_le _) rfl (fun j c hj hc => by
   cases j with
   | zero => exact absurd rfl hj
   | succ j => simp [PT.kids] at hc) hb5 hk5
  have e : splitK (.mk [] [] [p]) p 0 = .mk [p.keys.getD 2 ByteArray.empty] [p.vals.getD 2 ByteArray.empty] [.mk (p.keys.take 2) (p.vals.take 2) (p.kids.take 3), .mk (p.keys.drop 3) (p.vals.drop 3) (p.kids.drop 3)] := rfl;rw [e] at hsp ⊢;have hbd : kV (.mk [p.keys.getD 2 ByteArray.empty] [p.vals.getD 2 ByteArray.empty] [.mk (p.keys.take 2) (p.vals.take 2) (p.kids.take 3), .mk (p.keys.drop 3) (p.vals.drop 3) (p.kids.drop 3)]) := bJ.2 ⟨⟨rfl, (by show 1 <= 4; omega), .inr rfl⟩, hsp.2⟩
  have hall : aX (.mk [p.keys.getD 2 ByteArray.empty] [p.vals.getD 2 ByteArray.empty] [.mk (p.keys.take 2) (p.vals.take 2) (p.kids.take 3), .mk (p.keys.drop 3) (p.vals.drop 3) (p.kids.drop 3)]) = aX p := by
   rw [dV (bA hbd), Ex hb5 hk5];rfl
  refine ⟨⟨hbd, by rw [hall, ha]; exact XH, ⟨g + 1, (.inr ⟨fun e => (by cases e), fun s hs => ?_⟩)⟩, fun _ => Nat.zero_lt_one⟩, by rw [hall, ha]⟩;have hs : s = .mk (p.keys.take 2) (p.vals.take 2) (p.kids.take 3) \/ s = .mk (p.keys.drop 3) (p.vals.drop 3) (p.kids.drop 3) := by simpa [PT.kids] using hs
  rcases hs with rfl | rfl
  ·exact ⟨Iw hl hb5 hk5 _ _ true, by show 2 <= (p.keys.take 2).length; rw [List.length_take]; omega⟩
  ·exact ⟨Iw hl hb5 hk5 _ _ false, by show 2 <= (p.keys.drop 3).length; rw [List.length_drop]; omega⟩
 ·rw [if_neg h6]
  exact ⟨⟨bJ.2 ⟨⟨h1, by omega, h3⟩, h4⟩, by rw [ha]; exact XH, ⟨g, hl⟩, hr⟩, ha⟩
theorem L8 {key : ByteArray} {l : List KV} (h : kK l) : kK (kz key l) := List.Pairwise.sublist List.filter_sublist h
theorem uJ {t : PT} {key : ByteArray} (h : EG t) (hh : Has key (aX t)) : ∃ r, mP t.big t key = some r /\ EG (lq r) /\ aX (lq r) = kz key (aX t) := by
 obtain ⟨g, hk⟩ := h.kid;obtain ⟨r, e1, kr, _, ha⟩ := mZ t.big t key g (Nat.le_refl _) hk h.root h.AL hh;refine ⟨r, e1, ?_⟩;unfold lq
 by_cases hc : r.keys.length = 0 /\ r.kids.length ≠ 0
 ·rw [if_pos hc]
  obtain ⟨⟨h1, h2, h3⟩, h4⟩ := bJ.1 kr.b;have hkl : r.kids.length = 1 := by omega
  obtain ⟨c, hcs⟩ : ∃ c, r.kids = [c] := List.length_eq_one_iff.1 hkl;have hx : r.kids[0]? = some c := by rw [hcs]; rfl
  rw [ky hx];have hbc : kV c := h4 c (by rw [hcs]; exact List.mem_singleton_self _)
  have hall : aX r = aX c := by
   rw [dV (bA kr.b), hcs];have : bI r = [] := by unfold bI; rw [List.length_eq_zero_iff.1 hc.1]; rfl
   rw [this];simp [bN]
  have hl := kr.l
  cases g with
  | zero => exact hl.elim
  | succ g =>
   rcases hl with ⟨a, _⟩ | ⟨_, a⟩
   ·rw [a] at hcs; cases hcs
   ·have hcl := a c (by rw [hcs]; exact List.mem_singleton_self _)
    exact ⟨⟨hbc, by rw [<- hall, ha]; exact L8 h.AL, ⟨g, hcl.1⟩, fun _ => by have := hcl.2; omega⟩, by rw [<- hall, ha]⟩
 ·rw [if_neg hc]
  exact ⟨⟨kr.b, by rw [ha]; exact L8 h.AL, ⟨g, kr.l⟩, fun e => Nat.pos_of_ne_zero fun c => hc ⟨c, fun e' => e (List.length_eq_zero_iff.1 e')⟩⟩, ha⟩
theorem EK {t : PT} {key : ByteArray} (h : EG t) (hh : Has key (aX t)) : wz t.big t key = mP t.big t key := by
 obtain ⟨g, hk⟩ := h.kid;exact rZ t.big t key g (Nat.le_refl _) hk h.AL hh
end Go.Proofs.Ytoddejmlcnbdmaa.Pure
namespace Go.Proofs.Ytoddejmlcnbdmaa.Fn
def Iy : Kd bC where
  sz := j4.sz
  E := j4.E
  K := j4.K
  M := fun w base ok x cs => ∃ (f : Nat -> Nat) (v0 v1 v2 : Value), cs = [v0, v1, v2] /\ Kd.string.R 9 w base (fun k => ok k /\ f k = 0) v0 x.f0 /\ Kd.string.R 9 w base (fun k => ok k /\ f k = 1) v1 x.f1 /\ (Kd.int .i64).R 3 w base (fun k => ok k /\ f k = 2) v2 x.f2
  kQ := fun h => j4.kQ h
  kR := fun h => j4.kR h
  gX := fun hb h => j4.gX hb h
  gF := by
    rintro w base ok x cs ⟨f, v0, v1, v2, rfl, h0, h1, h2⟩
    exact j4.gF (OH w base ok x (Kd.kW h0 (fun _ h => h.1)) (Kd.kW h1 (fun _ h => h.1)) (Kd.kW h2 (fun _ h => h.1)))
  dU := by
    rintro w base ok ok' x cs hok ⟨f, v0, v1, v2, rfl, h0, h1, h2⟩
    exact ⟨f, v0, v1, v2, rfl, Kd.kW h0 (fun k h => ⟨hok k h.1, h.2⟩), Kd.kW h1 (fun k h => ⟨hok k h.1, h.2⟩), Kd.kW h2 (fun k h => ⟨hok k h.1, h.2⟩)⟩
  eF := by
    rintro w base ok x cs ⟨f, v0, v1, v2, rfl, h0, h1, h2⟩
    have hE : j4.E = [9, 9, 3] := rfl
    refine ⟨f, v0, v1, v2, rfl, Kd.kW (Kd.sK h0) ?_, Kd.kW (Kd.sK h1) ?_, Kd.kW (Kd.sK h2) ?_⟩
    all_goals
      rintro k ⟨⟨a, b⟩, c, d, q, hq, hc⟩
      refine ⟨⟨a, c, d, q, ?_, hc⟩, b⟩
      rw [hE]
      first
        | (have : q = 9 := by simpa [Kd.string, Kd.int, Kd.scalar] using hq
           subst this
           simp)
        | (have : q = 3 := by simpa [Kd.string, Kd.int, Kd.scalar] using hq
           subst this
           simp)
  iI := by
    rintro w w1 base ok x cs hm ⟨f, v0, v1, v2, rfl, h0, h1, h2⟩
    exact ⟨f, v0, v1, v2, rfl, Kd.yV h0 (fun k h => hm k h.1), Kd.yV h1 (fun k h => hm k h.1), Kd.yV h2 (fun k h => hm k h.1)⟩
  iC := by
    rintro w base base' ok x cs hb ⟨f, v0, v1, v2, rfl, h0, h1, h2⟩
    exact ⟨f, v0, v1, v2, rfl, Kd.gW h0 hb, Kd.gW h1 hb, Kd.gW h2 hb⟩
theorem Nc (w : World) (base : Nat) (ok : Nat -> Prop) (x : bC) {v0 v1 v2 : Value} (g0 : Kd.string.R 9 w base ok v0 x.f0) (g1 : Kd.string.R 9 w base ok v1 x.f1) (g2 : (Kd.int .i64).R 3 w base ok v2 x.f2) (hne : ∀ k, v0.ownBlock = some k -> some k ≠ v1.ownBlock) : Iy.M w base ok x [v0, v1, v2] := by
  have ty : ∀ {u : Value} {y : List ByteArray}, Kd.string.R 9 w base ok u y -> ∀ k, u.ownBlock = some k -> some k ≠ v2.ownBlock := fun g k hk h2 => by
    obtain ⟨c1, e1⟩ := Kd.L9 g k hk
    obtain ⟨c2, e2⟩ := Kd.L9 g2 k h2.symm
    rw [e1] at e2
    injection e2 with e2
    injection e2 with _ e2
    cases e2
  refine ⟨fun k => if some k = v1.ownBlock then 1 else if some k = v2.ownBlock then 2 else 0, v0, v1, v2, rfl, Kd.kW (Kd.BS rfl g0) (fun k h => ⟨h.2, ?_⟩), Kd.kW (Kd.BS rfl g1) (fun k h => ⟨h.2, if_pos h.1⟩), Kd.kW (Kd.BS rfl g2) (fun k h => ⟨h.2, ?_⟩)⟩
  · show (if some k = v1.ownBlock then 1 else if some k = v2.ownBlock then 2 else 0) = 0
    rw [if_neg (hne k h.1.symm), if_neg (ty g0 k h.1.symm)]
  · show (if some k = v1.ownBlock then 1 else if some k = v2.ownBlock then 2 else 0) = 2
    rw [if_neg (fun e => ty g1 k e.symm h.1), if_pos h.1]
end Go.Proofs.Ytoddejmlcnbdmaa.Fn
namespace Go.Proofs.Ytoddejmlcnbdmaa.Tree
def starts : List PT -> Nat -> List Int
 | [], _ => []
 | c :: cs, a => (a : Int) :: starts cs (a + c.big)
mutual
def iM : PT -> Nat -> List bC
 | .mk ks vs cs, a => ⟨ks, vs, starts cs (a + 1)⟩ :: oM cs (a + 1)
def oM : List PT -> Nat -> List bC
 | [], _ => []
 | c :: cs, a => iM c a ++ oM cs (a + c.big)
end
mutual
theorem uK : ∀ (t : PT) (a : Nat), (iM t a).length = t.big
 | .mk ks vs cs, a => by rw [iM, PT.big, List.length_cons, p9 cs]; omega
theorem p9 : ∀ (l : List PT) (a : Nat), (oM l a).length = PT.jA l
 | [], a => rfl
 | c :: cs, a => by rw [oM, PT.jA, List.length_append, uK c, p9 cs]
end
theorem ql : ∀ (l : List PT) (a : Nat), (starts l a).length = l.length
 | [], _ => rfl
 | c :: cs, a => by rw [starts, List.length_cons, List.length_cons, ql cs]
theorem uL : ∀ (l : List PT) (c : PT) (a : Nat), starts (l ++ [c]) a = starts l a ++ [((a + PT.jA l : Nat) : Int)]
 | [], c, a => by simp [starts, PT.jA]
 | d :: l, c, a => by
  rw [List.cons_append, starts, starts, uL l c, PT.jA, List.cons_append, Nat.add_assoc]
theorem EL : ∀ (l : List PT) (c : PT), PT.jA (l ++ [c]) = PT.jA l + c.big
 | [], c => by simp [PT.jA]
 | d :: l, c => by rw [List.cons_append, PT.jA, PT.jA, EL l c, Nat.add_assoc]
theorem wX : ∀ (l : List PT) (c : PT) (a : Nat), oM (l ++ [c]) a = oM l a ++ iM c (a + PT.jA l)
 | [], c, a => by simp [oM, PT.jA]
 | d :: l, c, a => by
  rw [List.cons_append, oM, oM, wX l c, PT.jA, List.append_assoc, Nat.add_assoc]
theorem r9 {α : Type} {l : List α} {i : Nat} {x : α} (h : l[i]? = some x) : l.take (i + 1) = l.take i ++ [x] := by
 rw [List.take_add_one, h];rfl
theorem EM {l : List PT} {i : Nat} {x : PT} (h : l[i]? = some x) : PT.jA (l.take (i + 1)) = PT.jA (l.take i) + x.big := by rw [r9 h, EL]
theorem ni : ∀ (l : List PT) (i : Nat), PT.jA (l.take i) <= PT.jA l
 | [], i => by simp
 | c :: cs, 0 => by simp [PT.jA]
 | c :: cs, i + 1 => by
  rw [List.take_succ_cons, PT.jA, PT.jA];have := ni cs i;omega
structure Pg where
 kv : Value
 vv : Value
 cv : Value
 ks : List ByteArray
 vs : List ByteArray
 cs : List Int
def Pg.erase (p : Pg) : bC := ⟨p.ks, p.vs, p.cs⟩
def Pg.cells (p : Pg) : List Value := [p.kv, p.vv, p.cv]
abbrev ints (v : Value) (l : List Int) : Ck := .own 3 v (encs (Value.int .i64) l)
def Pg.dH (p : Pg) : List Ck := [txt p.kv p.ks, txt p.vv p.vs, ints p.cv p.cs]
abbrev nI (v : Value) (l : List Pg) : Ck := .row 110 3 v l.length (l.flatMap Pg.cells)
def iY (l : List Pg) : List Ck := l.flatMap Pg.dH
def bK (v : Value) (l : List Pg) : List Ck := nI v l :: iY l
theorem wY (a b : List Pg) : iY (a ++ b) = iY a ++ iY b := by unfold iY; rw [List.flatMap_append]
theorem BU (p : Pg) (b : List Pg) : iY (p :: b) = p.dH ++ iY b := by unfold iY; rw [List.flatMap_cons]
section
variable {w w1 W : World} {base : Nat} {gs : List (List Ck)}
theorem Xg {v : Value} {l : List Int} (h : Ck.ok w base (ints v l)) : (Kd.int .i64).R 3 w base (fun _ => True) v l :=
 Kd.oz (enc := Value.int .i64) (h1 := fun _ => rfl) (by have h2 : w.ownsRow base 3 1 v (encs (Value.int .i64) l).length (encs (Value.int .i64) l) := h; rw [bY] at h2; exact h2) (fun _ _ => trivial)
theorem Ma {v : Value} {l : List Int} (h : (Kd.int .i64).R 3 w base (fun _ => True) v l) : Ck.ok w base (ints v l) := by
 have h2 := Kd.uB (enc := Value.int .i64) (h1 := fun _ => rfl) h;show w.ownsRow base 3 1 v (encs (Value.int .i64) l).length (encs (Value.int .i64) l);rw [bY];exact h2
theorem aa.ir (h : aa w base gs) (i : Nat) {v : Value} {l : List Int} (hi : gs[i]? = some [ints v l]) : (Kd.int .i64).R 3 w base (fun _ => True) v l := Xg ((h.at i hi).ok _ List.mem_cons_self)
theorem TY (h : aa w base gs) (i : Nat) {Ad : Option Addr} {n c : Nat} {l : List Int} (hi : gs[i]? = some [ints (.slice Ad n c) l]) : (Kd.int .i64).C w Ad n l := by
 obtain ⟨rfl, _, h3⟩ := Kd.dS (h.ir i hi);exact h3
theorem aa.TZ {x y : List Int} {u u1 : Value} (i : Nat) (h : aa W base gs) (hi : gs[i]? = some [ints u x]) (ho : (Kd.int .i64).R 3 w1 base (fun _ => True) u1 y) (hg : W.grownBy w1 u.ownBlock) (hat : u1.ownBlock = u.ownBlock \/ ∃ b, u1.ownBlock = some b /\ W.heap.size <= b) : aa w1 base (gs.set i [ints u1 y]) :=
 h.turn i hi (Sat.one (Ma ho)) ⟨hg.size, fun k hk hnot => hg.block k hk fun he => hnot ⟨_, List.mem_singleton_self _, he.symm⟩⟩ (pM hat)
theorem aa.rowOk (h : aa w base gs) (i : Nat) {e sz n : Nat} {v : Value} {xs : List Value} (hi : gs[i]? = some [.row e sz v n xs]) : w.ownsRow base e sz v n xs := (h.at i hi).ok _ List.mem_cons_self
theorem aa.T9 (h : aa w base gs) (i : Nat) {e sz n m c g j : Nat} {xs : List Value} {u : Value} (hi : gs[i]? = some [.row e sz (.slice (some ⟨g, 0, none⟩) m c) n xs]) (hj : xs[j]? = some u) : w.cell? ⟨g, j, none⟩ = some u := by
 have := (h.rowOk i hi).cells (g := g) (by simp [Value.ownBlock]) j u hj;have e1 : (⟨g, 0, none⟩ : Addr).add j = ⟨g, j, none⟩ := by simp only [Addr.add]; split <;> simp_all
 rw [e1] at this;exact this
theorem yX {e sz n m c g : Nat} {xs : List Value} (h : w.ownsRow base e sz (.slice (some ⟨g, 0, none⟩) m c) n xs) : m = n /\ n <= c /\ base <= g /\ ∃ cur, w.heap[g]? = some (.cells cur e (0, 0)) /\ cur.size = c * sz /\ c <= maxLen /\ cur.toList.take (n * sz) = xs := by
 rcases h.2 with ⟨e1, _⟩ | ⟨g', cap, cur, e1, hb, hh, hnc, hcm, hcs, ht⟩
 ·cases e1
 ·injection e1 with e2 e3 e4
  injection e2 with e2
  injection e2 with e2
  subst e2;subst e3;subst e4;exact ⟨rfl, hnc, hb, cur, hh, hcs, hcm, ht⟩
theorem aa.RN (h : aa w base gs) (i : Nat) {e sz n m c g : Nat} {xs : List Value} (hi : gs[i]? = some [.row e sz (.slice (some ⟨g, 0, none⟩) m c) n xs]) (j : Nat) : w.frozen? ⟨g, j, none⟩ = false := by
 obtain ⟨_, _, _, cur, hh, _⟩ := yX (h.rowOk i hi);exact aV hh j
theorem aa.Mc (h : aa w base gs) (i : Nat) {e sz n m c g : Nat} {xs : List Value} (hi : gs[i]? = some [.row e sz (.slice (some ⟨g, 0, none⟩) m c) n xs]) : base <= g := (yX (h.rowOk i hi)).2.2.1
theorem RO {e sz n m c g j : Nat} {xs : List Value} (h : w.ownsRow base e sz (.slice (some ⟨g, 0, none⟩) m c) n xs) (hj : j < xs.length) (u : Value) : (w.setCell ⟨g, j, none⟩ u).ownsRow base e sz (.slice (some ⟨g, 0, none⟩) m c) n (xs.set j u) := by
 obtain ⟨rfl, h2, h3, cur, h4, h5, h6, h7⟩ := yX h;refine ⟨by rw [List.length_set]; exact h.1, .inr ⟨g, c, cur.setIfInBounds j u, rfl, h3, dP h4 j u rfl, h2, h6, by rw [Array.size_setIfInBounds]; exact h5, ?_⟩⟩;rw [Array.toList_setIfInBounds, List.take_set, h7]
theorem aa.putRow (h : aa w base gs) (i : Nat) {e sz n m c g : Nat} {xs xs' : List Value} (hi : gs[i]? = some [.row e sz (.slice (some ⟨g, 0, none⟩) m c) n xs]) (j : Nat) (u : Value) (hj : j < xs.length) (hx : xs' = xs.set j u) : aa (w.setCell ⟨g, j, none⟩ u) base (gs.set i [.row e sz (.slice (some ⟨g, 0, none⟩) m c) n xs']) := by
 have h1 := h.rowOk i hi;subst hx;refine h.turn i hi (Sat.one (c := .row e sz (.slice (some ⟨g, 0, none⟩) m c) n (xs.set j u)) (RO h1 hj u)) ((Kept.refl w _).setCell (.inl ⟨_, List.mem_singleton_self _, rfl⟩) u) ?_;rintro k ⟨d, hd, hb⟩;rw [List.mem_singleton.1 hd] at hb;exact .inl ⟨_, List.mem_singleton_self _, hb⟩
end
section
variable {P : Program} {ops : Array Oper} {rest : List Oper} {o : Oper} {a : Act} {Q' : Exit -> Act -> World -> Prop} {Kc : Act -> World -> Prop} {w0 W : World} {base : Nat}
theorem Md (e sz : Nat) (cs : List Value) (hsz : cs.length = sz) (hm : 1 <= maxLen) : (W.alloc (.cells cs.toArray e)).ownsRow W.heap.size e sz (.slice (some ⟨W.heap.size, 0, none⟩) 1 1) 1 cs := by
 refine ⟨by rw [hsz, Nat.one_mul], .inr ⟨W.heap.size, 1, cs.toArray, rfl, Nat.le_refl _, F7 W _, Nat.le_refl _, hm, by rw [Nat.one_mul]; exact hsz, ?_⟩⟩;rw [Nat.one_mul];exact List.take_of_length_le (show cs.length <= sz by omega)
theorem RP (e sz : Nat) (cs : List Value) (hsz : cs.length = sz) (hgd : o.guard = none) {N : Tmp} (WA : o.dst = some N) (hrun : (execOp a.eval o).run P W = .ok (.value (.slice (some ⟨W.heap.size, 0, none⟩) 1 1)) (W.alloc (.cells cs.toArray e)))
  (h : ∀ g w1, g = W.heap.size -> w1.ownsRow W.heap.size e sz (.slice (some ⟨g, 0, none⟩) 1 1) 1 cs -> Below W.heap.size W w1 -> wpList P ops Q' rest (a.put o.dst (.slice (some ⟨g, 0, none⟩) 1 1)) w1) : wpList P ops Q' (o :: rest) a W :=
 Kd.yY hgd hrun (h _ _ rfl (Md e sz cs hsz (by decide)) (bz (Below.refl _ _) _))
theorem xZ (e sz : Nat) (cs : List Value) (hsz : cs.length = sz) (hw : Region.wanted o (yielded ops a.tmps) = true) {N : Tmp} (WA : o.dst = some N) (hrun : (execOp a.eval o).run P W = .ok (.value (.slice (some ⟨W.heap.size, 0, none⟩) 1 1)) (W.alloc (.cells cs.toArray e)))
  (h : ∀ g w1, g = W.heap.size -> w1.ownsRow W.heap.size e sz (.slice (some ⟨g, 0, none⟩) 1 1) 1 cs -> Below W.heap.size W w1 -> Kc (a.put o.dst (.slice (some ⟨g, 0, none⟩) 1 1)) w1) : if Region.wanted o (yielded ops a.tmps) = true then Oper.wp P o a W Kc Q' else Kc (a.put o.dst undef) W :=
 tJ hw hrun (h _ _ rfl (Md e sz cs hsz (by decide)) (bz (Below.refl _ _) _))
theorem RQ (t ty e sz bytes : Nat) (z : Value) (ht : P.underlying t = some (.slice e)) (hinfo : (P.info? e).map (fun i => (i.zero, i.size, i.bytes)) = some (some z, sz, bytes)) (hzs : z.cells.size = sz) (hs0 : 0 < sz) (hb0 : 0 < bytes) (v : Value) (n m c g2 : Nat) (xs ys : List Value) (HO : W.ownsRow base e sz v n xs) (HR : W.ownsRow base e sz (.slice (some ⟨g2, 0, none⟩) m c) m ys) (hone : ∀ u ∈ ys, u.oneCell' = true) (hbase : base <= W.heap.size) (hl : (n + m) * bytes <= 140737488355328) :
  ∃ v1 w1, (Builtin.append_ #[t, t] ty #[v, .slice (some ⟨g2, 0, none⟩) m c]).run P W = .ok v1 w1 /\ w1.ownsRow base e sz v1 (n + m) (xs ++ ys) /\ W.grownBy w1 v.ownBlock /\ (v1.ownBlock = v.ownBlock \/ ∃ b, v1.ownBlock = some b /\ W.heap.size <= b) := by
 obtain ⟨i0, hi, hzz⟩ := Option.map_eq_some_iff.1 hinfo;simp only [Prod.mk.injEq] at hzz;obtain ⟨hz0, hz1, hz2⟩ := hzz;have hlen : n + m <= 140737488355328 := Nat.le_trans (Nat.le_mul_of_pos_right _ hb0) hl;obtain ⟨v1, w1, hrun, h2, hg, _, hat⟩ := run_append_own_at (P := P) W base t ty e i0 z sz bytes ht hi hz0 hz1 hz2 hzs hs0 v n xs HO ⟨g2, 0, none⟩ m c ys HR.1 (HR.cells (g := g2) (by simp [Value.ownBlock])) hone (by simp only [maxLen]; omega) hl hbase;refine ⟨v1, w1, hrun, h2, hg, ?_⟩
 rcases hat with hat | hat
 ·exact .inl hat
 ·exact .inr ⟨_, hat, Nat.le_refl _⟩
theorem ui (hw : Region.wanted o (yielded ops a.tmps) = true) (s x : Operand) (t e sz bytes : Nat) (z : Value) (ho : o.op = .call { callee := .builtin .append, args := #[s, x], argTypes := #[t, t] })
  (ht : P.underlying t = some (.slice e)) (hinfo : (P.info? e).map (fun i => (i.zero, i.size, i.bytes)) = some (some z, sz, bytes)) (hzs : z.cells.size = sz) (hs0 : 0 < sz) (hb0 : 0 < bytes) (v : Value) (n m c g2 : Nat) (xs ys : List Value) (hs : a.eval s = v) (hx : a.eval x = .slice (some ⟨g2, 0, none⟩) m c) (HO : W.ownsRow base e sz v n xs) (HR : W.ownsRow base e sz (.slice (some ⟨g2, 0, none⟩) m c) m ys) (hone : ∀ u ∈ ys, u.oneCell' = true) (HB : Below base w0 W) (hbase : base <= W.heap.size) (hl : (n + m) * bytes <= 140737488355328)
  (h : ∀ v1 w1, w1.ownsRow base e sz v1 (n + m) (xs ++ ys) -> Below base w0 w1 -> W.grownBy w1 v.ownBlock -> (v1.ownBlock = v.ownBlock \/ ∃ b, v1.ownBlock = some b /\ W.heap.size <= b) -> Kc (a.put o.dst v1) w1) : if Region.wanted o (yielded ops a.tmps) = true then Oper.wp P o a W Kc Q' else Kc (a.put o.dst undef) W := by
 obtain ⟨v1, w1, hr, h1, h3, h4⟩ := RQ (P := P) t o.type e sz bytes z ht hinfo hzs hs0 hb0 v n m c g2 xs ys HO HR hone hbase hl;rw [if_pos hw];unfold Oper.wp execOp;simp only [ho, resolve, invoke, builtin, Sem.run_bind, Sem.run_pure, Result.andThen_ok, List.map_toArray, List.map_cons, List.map_nil, hs, hx, hr];exact h v1 w1 h1 (HB.grown h3 hbase (fun k hk => qb HO k hk)) h3 h4
end
section
variable {w w1 W : World} {base : Nat} {gs : List (List Ck)}
theorem aa.newRow {e sz n : Nat} {v : Value} {xs : List Value} (h : aa w base gs) (hb : Below w.heap.size w w1) (hbase : base <= w.heap.size) (ho : w1.ownsRow w.heap.size e sz v n xs) : aa w1 base (gs ++ [[.row e sz v n xs]]) :=
 h.new hb hbase (Sat.one (c := .row e sz v n xs) ho)
theorem aa.Pk {e sz n n' : Nat} {x y : List Value} {u u1 : Value} (i : Nat) (h : aa W base gs) (hi : gs[i]? = some [.row e sz u n x]) (ho : w1.ownsRow base e sz u1 n' y) (hg : W.grownBy w1 u.ownBlock) (hat : u1.ownBlock = u.ownBlock \/ ∃ b, u1.ownBlock = some b /\ W.heap.size <= b) : aa w1 base (gs.set i [.row e sz u1 n' y]) :=
 h.turn i hi (Sat.one (c := .row e sz u1 n' y) ho) ⟨hg.size, fun k hk hnot => hg.block k hk fun he => hnot ⟨_, List.mem_singleton_self _, he.symm⟩⟩ (pM hat)
theorem iD {e sz n : Nat} {v : Value} {xs : List Value} (h : w.ownsRow base e sz v n xs) : ∃ A c, v = .slice A n c := by
 rcases h.2 with ⟨rfl, rfl⟩ | ⟨g, cap, cur, rfl, _⟩
 ·exact ⟨none, 0, rfl⟩
 ·exact ⟨_, cap, rfl⟩
theorem si {e sz n c : Nat} {A : Option Addr} {xs : List Value} (h : w.ownsRow base e sz (.slice A n c) n xs) (h0 : 0 < n) : ∃ g, A = some ⟨g, 0, none⟩ := by
 rcases h.2 with ⟨e1, e2⟩ | ⟨g, cap, cur, e1, _⟩
 ·omega
 ·injection e1 with e1
  exact ⟨g, e1⟩
end
theorem lJ : ∀ l : List Pg, (l.flatMap Pg.cells).length = l.length * 3
 | [] => rfl
 | p :: l => by rw [List.flatMap_cons, List.length_append, lJ l, List.length_cons]; show 3 + _ = _; omega
theorem BV (A B : List Pg) (p : Pg) (j : Nat) (hj : j < 3) : ((A ++ p :: B).flatMap Pg.cells)[A.length * 3 + j]? = p.cells[j]? := by
 rw [List.flatMap_append, List.flatMap_cons, List.getElem?_append_right (by rw [lJ]; omega), lJ, Nat.add_sub_cancel_left, List.getElem?_append_left (show j < p.cells.length from hj)]
theorem Nf (A B : List Pg) (p : Pg) (j : Nat) (u : Value) (hj : j < 3) : ((A ++ p :: B).flatMap Pg.cells).set (A.length * 3 + j) u = A.flatMap Pg.cells ++ (p.cells.set j u ++ B.flatMap Pg.cells) := by
 rw [List.flatMap_append, List.flatMap_cons, List.set_append_right _ _ (by rw [lJ]; omega), lJ, Nat.add_sub_cancel_left, List.set_append_left _ _ (show j < p.cells.length from hj)]
section
variable {w w1 W : World} {base : Nat} {gs : List (List Ck)} {g n c a : Nat} {A B : List Pg} {p : Pg}
theorem BX (h : aa w base gs) (i : Nat) (hi : gs[i]? = some [nI (.slice (some ⟨g, 0, none⟩) n c) (A ++ p :: B)]) (ha : A.length = a) : w.cell? ⟨g, a * 3, none⟩ = some p.kv := by
 subst ha;exact h.T9 i hi (BV A B p 0 (by decide))
theorem J7 (h : aa w base gs) (i : Nat) (hi : gs[i]? = some [nI (.slice (some ⟨g, 0, none⟩) n c) (A ++ p :: B)]) (ha : A.length = a) : w.cell? ⟨g, a * 3 + 1, none⟩ = some p.vv := by
 subst ha;exact h.T9 i hi (BV A B p 1 (by decide))
theorem wZ (h : aa w base gs) (i : Nat) (hi : gs[i]? = some [nI (.slice (some ⟨g, 0, none⟩) n c) (A ++ p :: B)]) (ha : A.length = a) : w.cell? ⟨g, a * 3 + 2, none⟩ = some p.cv := by
 subst ha;exact h.T9 i hi (BV A B p 2 (by decide))
theorem aa.AP (h : aa w base gs) (i : Nat) (hi : gs[i]? = some [nI (.slice (some ⟨g, 0, none⟩) n c) (A ++ p :: B)]) (ha : A.length = a) (p' : Pg) (j : Nat) (u : Value) (hj : j < 3) (hp : p'.cells = p.cells.set j u) :
  aa (w.setCell ⟨g, a * 3 + j, none⟩ u) base (gs.set i [nI (.slice (some ⟨g, 0, none⟩) n c) (A ++ p' :: B)]) := by
 subst ha;have e : (A ++ p' :: B).length = (A ++ p :: B).length := by simp only [List.length_append, List.length_cons]
 have := h.putRow i (xs' := (A ++ p' :: B).flatMap Pg.cells) hi (A.length * 3 + j) u (by rw [lJ]; simp only [List.length_append, List.length_cons]; omega) (by rw [Nf A B p j u hj, List.flatMap_append, List.flatMap_cons, hp]);show aa _ base (gs.set i [.row 110 3 _ (A ++ p' :: B).length _]);rw [e];exact this
theorem aa.RS (h : aa w base gs) (i : Nat) (hi : gs[i]? = some [nI (.slice (some ⟨g, 0, none⟩) n c) (A ++ p :: B)]) (ha : A.length = a) (p' : Pg) :
  aa (((w.setCell ⟨g, a * 3, none⟩ p'.kv).setCell ⟨g, a * 3 + 1, none⟩ p'.vv).setCell ⟨g, a * 3 + 2, none⟩ p'.cv) base (gs.set i [nI (.slice (some ⟨g, 0, none⟩) n c) (A ++ p' :: B)]) := by
 have hl : i < gs.length := (List.getElem?_eq_some_iff.1 hi).1;have h1 := h.AP i hi ha ⟨p'.kv, p.vv, p.cv, p.ks, p.vs, p.cs⟩ 0 p'.kv (by decide) rfl;have h2 := h1.AP i (List.getElem?_set_self hl) ha ⟨p'.kv, p'.vv, p.cv, p.ks, p.vs, p.cs⟩ 1 p'.vv (by decide) rfl;rw [List.set_set] at h2;have h3 := h2.AP i (List.getElem?_set_self hl) ha p' 2 p'.cv (by decide) rfl;rw [List.set_set] at h3;exact h3
end
section
variable {w : World} {base : Nat}
theorem Pm {l : List Pg} {j : Nat} {p : Pg} (h : l[j]? = some p) {c : Ck} (hc : c ∈ p.dH) : c ∈ iY l := List.mem_flatMap.2 ⟨p, List.mem_of_getElem? h, hc⟩
theorem Tn {v : Value} {l : List ByteArray} {ok : Nat -> Prop} (h : Ck.ok w base (txt v l)) (hk : ∀ k, v.ownBlock = some k -> ok k) : Kd.string.R 9 w base ok v l :=
 Kd.oz (enc := Value.string) (h1 := fun _ => rfl) (by have h2 : w.ownsRow base 9 1 v (encs Value.string l).length (encs Value.string l) := h; rw [bY] at h2; exact h2) hk
theorem Ua {v : Value} {l : List Int} {ok : Nat -> Prop} (h : Ck.ok w base (ints v l)) (hk : ∀ k, v.ownBlock = some k -> ok k) : (Kd.int .i64).R 3 w base ok v l :=
 Kd.oz (enc := Value.int .i64) (h1 := fun _ => rfl) (by have h2 : w.ownsRow base 3 1 v (encs (Value.int .i64) l).length (encs (Value.int .i64) l) := h; rw [bY] at h2; exact h2) hk
theorem RU {v : Value} {l : List Pg} (h : Sat w base (bK v l)) : Kd.S Iy 110 w base (fun _ => True) v (l.map Pg.erase) := by
 have hrow : w.ownsRow base 110 3 v l.length (l.flatMap Pg.cells) := h.ok (nI v l) List.mem_cons_self;obtain ⟨hp1, hp2⟩ := List.pairwise_cons.1 h.ap;have hp3 := List.pairwise_flatMap.1 hp2
 obtain ⟨f, hr⟩ := Kd.Pn (d := Iy) (w := w) (base := base) (ok := fun k => True /\ some k ≠ v.ownBlock) (xs := l.map Pg.erase) (inner := l.flatMap Pg.cells) (fun j k => ∃ p, l[j]? = some p /\ vS p.dH k) (by
   rintro i j k ⟨p, hp, c, hc, hck⟩ ⟨q, hq, d, hd, hdk⟩;obtain ⟨hi, ei⟩ := List.getElem?_eq_some_iff.1 hp;obtain ⟨hj, ej⟩ := List.getElem?_eq_some_iff.1 hq
   have key : ∀ (i j : Nat) (hi : i < l.length) (hj : j < l.length) (c d : Ck), c ∈ (l[i]).dH -> d ∈ (l[j]).dH -> c.blk = some k -> d.blk = some k -> ¬ i < j := fun i j hi hj c d hc hd h1 h2 hlt => List.pairwise_iff_getElem.1 hp3.2 i j hi hj hlt c hc d hd k h1 h2
   rw [<- ei] at hc;rw [<- ej] at hd;have h1 := key i j hi hj c d hc hd hck hdk;have h2 := key j i hj hi d c hd hc hdk hck
   omega) (by
   rintro j k ⟨p, hp, c, hc, hck⟩
   exact ⟨trivial, fun e => hp1 c (Pm hp hc) k e.symm hck⟩) (by rw [lJ, List.length_map]; rfl) (by
   intro j x hx;rw [List.getElem?_map] at hx;obtain ⟨p, hp, rfl⟩ := Option.map_eq_some_iff.1 hx;have hsp : l = l.take j ++ p :: l.drop (j + 1) := by rw [<- fO hp, List.take_append_drop]
   have hl : (l.take j).length = j := by rw [List.length_take]; have := (List.getElem?_eq_some_iff.1 hp).1; omega
   have hc : ((l.flatMap Pg.cells).drop (j * Iy.sz)).take Iy.sz = p.cells := by
    conv => lhs; rw [hsp]
    show ((List.flatMap Pg.cells _).drop (j * 3)).take 3 = _;rw [List.flatMap_append, List.flatMap_cons, List.drop_append_of_le_length (by rw [lJ, hl]; exact Nat.le_refl _), List.drop_eq_nil_of_le (by rw [lJ, hl]; exact Nat.le_refl _), List.nil_append, List.take_append_of_le_length (show 3 <= p.cells.length from Nat.le_refl _)];exact List.take_of_length_le (show p.cells.length <= 3 from Nat.le_refl _)
   rw [hc]
   have m : ∀ c ∈ p.dH, c.ok w base := fun c hc => h.ok c (List.mem_cons_of_mem _ (Pm hp hc))
   have hb : ∀ c ∈ p.dH, ∀ k, c.blk = some k -> ∃ q, l[j]? = some q /\ vS q.dH k := fun c hc k hk => ⟨p, hp, c, hc, hk⟩
   have m0 : txt p.kv p.ks ∈ p.dH := List.mem_cons_self;have m1 : txt p.vv p.vs ∈ p.dH := List.mem_cons_of_mem _ List.mem_cons_self;have m2 : ints p.cv p.cs ∈ p.dH := List.mem_cons_of_mem _ (List.mem_cons_of_mem _ List.mem_cons_self);refine Nc w base _ p.erase (Tn (m _ m0) fun k hk => hb _ m0 k hk) (Tn (m _ m1) fun k hk => hb _ m1 k hk) (Ua (m _ m2) fun k hk => hb _ m2 k hk) ?_;intro k hk e
   have hap := (hp3.1 p (List.mem_of_getElem? hp))
   exact (List.pairwise_cons.1 hap).1 (txt p.vv p.vs) List.mem_cons_self k hk e.symm)
 exact ⟨f, fun _ _ => trivial, _, by rw [List.length_zipIdx, List.length_map]; exact hrow, hr⟩
end
def PGR (w : World) (base T E : Nat) (t : NT) (L : List Ck) (pgs : List Pg) (e : Ending) (w' : World) : Prop :=
 ∃ (vo : Value) (pgs' : List Pg), e = .returned vo /\ pgs'.map Pg.erase = pgs.map Pg.erase ++ iM t.erase pgs.length /\ Sat w' base (t.dH T E ++ (bK vo pgs' ++ L)) /\ Below base w w'
theorem BZ {w : World} {base T E : Nat} {t : NT} {v : Value} {pgs : List Pg} {L : List Ck} (h : Sat w base (t.dH T E ++ (bK v pgs ++ L))) :
  aa w base [[.box T t.p #[t.kv, t.vv, t.cv]], [txt t.kv t.keys], [txt t.vv t.vals], [.jL E t.cv (ptrs t.kids)], NT.aZ T E t.kids, [nI v pgs], iY pgs, L] := by
 rw [NT.kJ] at h;unfold aa NT.head bK at *;simp only [List.flatten_cons, List.flatten_nil, List.append_assoc, List.cons_append, List.nil_append, List.append_nil] at h ⊢;exact h
theorem aa.yZ {w : World} {base : Nat} {gs : List (List Ck)} (h : aa w base gs) (e : Nat) : aa w base (gs ++ [[.own e (.slice none 0 0) []]]) := by
 have hq : Ck.ok w base (.own e (.slice none 0 0) []) := ⟨by simp, .inl ⟨rfl, rfl⟩⟩
 unfold aa;rw [List.flatten_append, List.flatten_singleton];refine (Sat.add (A := [.own e (.slice none 0 0) []]) h (Kept.refl _ _) (Sat.one hq) ?_).perm List.perm_append_comm;rintro k ⟨c, hc, hb⟩;rw [List.mem_singleton.1 hc] at hb
 cases hb
theorem zA {l : List Pg} {X Z : List bC} {y : bC} (h : l.map Pg.erase = X ++ y :: Z) : ∃ A p B, l = A ++ p :: B /\ A.map Pg.erase = X /\ p.erase = y /\ B.map Pg.erase = Z := by
 obtain ⟨A, C, rfl, hA, hC⟩ := List.map_eq_append_iff.1 h;obtain ⟨p, B, rfl, hp, hB⟩ := List.map_eq_cons_iff.1 hC;exact ⟨A, p, B, rfl, hA, hp, hB⟩
theorem Tp (T S D O R : List Ck) : (T ++ (S ++ (D ++ (O ++ R)))).Perm (S ++ (O ++ (R ++ (T ++ D)))) := by
 refine List.perm_append_comm.trans ?_;rw [List.append_assoc];refine .append_left S ?_;rw [List.append_assoc];refine List.perm_append_comm.trans ?_;simp only [List.append_assoc];exact .refl _
def y5 (T E : Nat) (t : NT) (v : Value) (A B : List Pg) (p : Pg) (L : List Ck) : List (List Ck) :=
 [[.box T t.p #[t.kv, t.vv, t.cv]], [txt t.kv t.keys], [txt t.vv t.vals], [.jL E t.cv (ptrs t.kids)], NT.aZ T E t.kids, [nI v (A ++ p :: B)], [txt p.kv p.ks], [txt p.vv p.vs], [ints p.cv p.cs], iY A, iY B, L]
theorem Ca {w : World} {base T E : Nat} {t : NT} {v : Value} {A B : List Pg} {p : Pg} {L : List Ck} (h : aa w base (y5 T E t v A B p L)) : Sat w base (t.dH T E ++ (bK v (A ++ p :: B) ++ L)) := by
 have h2 : aa w base [[.box T t.p #[t.kv, t.vv, t.cv]], [txt t.kv t.keys], [txt t.vv t.vals], [.jL E t.cv (ptrs t.kids)], NT.aZ T E t.kids, [nI v (A ++ p :: B)], iY A, [txt p.kv p.ks], [txt p.vv p.vs], [ints p.cv p.cs], iY B, L] := aa.gJ h [0, 1, 2, 3, 4, 5, 9, 6, 7, 8, 10, 11] (by decide);rw [NT.kJ];unfold aa at h2;unfold NT.head bK;rw [wY, BU];unfold Pg.dH;simp only [List.flatten_cons, List.flatten_nil, List.append_assoc, List.cons_append, List.nil_append, List.append_nil] at h2 ⊢;exact h2
theorem Cb {w : World} {base T E i : Nat} {t s : NT} {v : Value} {A B : List Pg} {p : Pg} {L : List Ck} (hs : t.kids[i]? = some s) (h : aa w base (y5 T E t v A B p L)) :
  Sat w base (s.dH T E ++ (bK v (A ++ p :: B) ++ ((t.head T E ++ L) ++ (NT.aZ T E (t.kids.take i) ++ NT.aZ T E (t.kids.drop (i + 1)))))) := by
 have h2 : aa w base [NT.aZ T E t.kids, [nI v (A ++ p :: B)], iY A, [txt p.kv p.ks], [txt p.vv p.vs], [ints p.cv p.cs], iY B, [.box T t.p #[t.kv, t.vv, t.cv]], [txt t.kv t.keys], [txt t.vv t.vals], [.jL E t.cv (ptrs t.kids)], L] := aa.gJ h [4, 5, 9, 6, 7, 8, 10, 0, 1, 2, 3, 11] (by decide)
 have h3 : Sat w base (NT.aZ T E (t.kids.take i) ++ (s.dH T E ++ (NT.aZ T E (t.kids.drop (i + 1)) ++ (bK v (A ++ p :: B) ++ (t.head T E ++ L))))) := by
  unfold aa at h2;rw [lW T E hs] at h2;unfold NT.head bK;rw [wY, BU];unfold Pg.dH;simp only [List.flatten_cons, List.flatten_nil, List.append_assoc, List.cons_append, List.nil_append, List.append_nil] at h2 ⊢;exact h2
 exact h3.perm (Tp _ _ _ _ _)
theorem Cc {w : World} {base T E i : Nat} {t s : NT} {v : Value} {A B : List Pg} {p : Pg} {L : List Ck} (hs : t.kids[i]? = some s) (h : Sat w base (s.dH T E ++ (bK v (A ++ p :: B) ++ ((t.head T E ++ L) ++ (NT.aZ T E (t.kids.take i) ++ NT.aZ T E (t.kids.drop (i + 1))))))) :
  aa w base (y5 T E t v A B p L) := by
 have h3 := h.perm (Tp (NT.aZ T E (t.kids.take i)) (s.dH T E) (NT.aZ T E (t.kids.drop (i + 1))) (bK v (A ++ p :: B)) (t.head T E ++ L)).symm
 have h2 : aa w base [NT.aZ T E t.kids, [nI v (A ++ p :: B)], iY A, [txt p.kv p.ks], [txt p.vv p.vs], [ints p.cv p.cs], iY B, [.box T t.p #[t.kv, t.vv, t.cv]], [txt t.kv t.keys], [txt t.vv t.vals], [.jL E t.cv (ptrs t.kids)], L] := by
  unfold aa;rw [lW T E hs];unfold NT.head bK at h3;rw [wY, BU] at h3;unfold Pg.dH at h3;simp only [List.flatten_cons, List.flatten_nil, List.append_assoc, List.cons_append, List.nil_append, List.append_nil] at h3 ⊢;exact h3
 exact aa.gJ h2 [7, 8, 9, 10, 0, 1, 3, 4, 5, 2, 6, 11] (by decide)
theorem J8.calls : ∀ (n : Nat) (t : NT), t.erase.big <= n -> kV t.erase -> ∀ (base : Nat) (vo : Value) (pgs : List Pg) (L : List Ck) (w : World), Sat w base (t.dH 96 70 ++ (bK vo pgs ++ L)) -> base <= w.heap.size -> pgs.length + t.erase.big <= 100000 ->
  Calls Try.prog 107 #[bu t.p, vo] w (PGR w base 96 70 t L pgs) := by
 intro n
 induction n with
 | zero =>
  intro t hb;exact absurd t.erase.fB (by omega)
 | succ n ih =>
  intro t hbig hbd base vo pgs L w hs hbs hpl;have h0 := BZ hs;obtain ⟨⟨ho1, ho2, ho3⟩, oO⟩ := bJ.1 hbd
  cases t with | mk tp yC yD yE tks tvs aJ =>
  have e0 : (NT.mk tp yC yD yE tks tvs aJ).erase = .mk tks tvs (NT.ax aJ) := rfl;rw [e0] at hbig ho1 ho2 ho3 oO hpl;simp only [NT.keys, NT.vals, NT.kids, NT.p, NT.kv, NT.vv, NT.cv] at h0 ⊢;simp only [PT.keys, PT.vals, PT.kids] at ho1 ho2 ho3 oO;obtain ⟨jF, fG, rfl⟩ := Kd.ak (h0.sr 1 rfl);obtain ⟨jK, fM, rfl⟩ := Kd.ak (h0.sr 2 rfl);obtain ⟨qB, fK, rfl, _, _⟩ := dz (h0.q 3 rfl);obtain ⟨Ao, co, rfl⟩ := iD (h0.rowOk 5 rfl);have HS := A_ h0;have HB := A_ (Below.refl base w);have bQ := A_ hbs;have Om := A_ hbig;have XI := A_ hpl;have KT := A_ oO;have hnl : (NT.ax aJ).length = aJ.length := by rw [aC, List.length_map]
  have Fv : tvs.length <= 4 /\ aJ.length <= 5 := by omega
  have hpn : pgs.length + 1 <= 100000 := by have := (PT.mk tks tvs (NT.ax aJ)).fB; omega
  clear h0 hs hbs hbig hpl ho1 ho3 oO hbd hnl e0;go_enter Try.func107, Try.ntmps107
  go_upto_region 2 with fail
  refine bS (n := 17) (S := fun w' => w'.cell? ⟨tp, 0, none⟩ = some (.slice jF tks.length fG) /\ w'.cell? ⟨tp, 1, none⟩ = some (.slice jK tvs.length fM)) (ds := []) (bt 17 0) (by kernel_rfl) rfl rfl ⟨(aa.z0 (aa.drew HS.out) 0 rfl), (aa.z1 (aa.drew HS.out) 0 rfl)⟩ (fun hHeld => ?_);refine aH 0 11 1 ?_;refine aH 2 13 5 ?_;refine aH 3 14 13 ?_;refine aH 4 15 29 ?_;refine aH 8 19 285 ?_;refine aH 9 20 797 ?_;refine aH 10 21 1821 ?_;refine fq 5 16 1853 hHeld ?_;refine fq 11 22 3901 hHeld ?_;refine gQ (σ := Value × Value × Value) 5 (bt 17 4095) (fun z => [(12, z.1), (17, z.2.1), (18, z.2.2)]) (fun z w' => Below base w w' /\ aa w' base [jM 96 tp jF tks.length fG jK tvs.length fM qB aJ.length fK, gK jF fG tks, gK jK fM tvs, lX 70 qB fK aJ, (NT.aZ 96 70 aJ), [nI (.slice Ao pgs.length co) pgs], (iY pgs), L, [txt z.2.1 ([] ++ tks)], [txt z.2.2 []]]) ?_ ?_;rotate_left
  ·intro iE
   refine ve 1 7 (some 12) (some 18) 3903 4029 (fun K hK => ?_) (fun K hK => ?_)
   ·skip
    refine xy Kd.string 9 12 ([] : List ByteArray) [] (gm.none _ _) (aG HB.out) (cO bQ HB) ?_;intro vb1 NJ dx hbb hgb hnb;have lV := A_ hbb;have lN := A_ (aa.lit (aa.drew HS.out) dx hgb hnb);obtain ⟨gL, gM, rfl⟩ : ∃ A c, vb1 = .slice A 0 c := Kd.ak dx;clear dx hbb hgb hnb;refine dh 12 hK ⟨(aa.z0 lN.out 0 rfl), (aa.z1 lN.out 0 rfl)⟩ (fun hHeld => ?_);refine ve 6 7 (some 17) (some 18) 3967 4031 (fun K hK => ?_) (fun K hK => ?_)
    ·skip
     refine Kd.aM Kd.string (w0 := w) base (by rfl) (.tmp 12) (.tmp 16) 38 9 (.string ⟨#[]⟩) 16 rfl Try.underlying38 dC rfl (by decide) (by omega) (.slice gL 0 gM) [] tks jF tks.length fG (fun _ => True) (fun _ => False) rfl rfl (aa.sr lN.out 8 rfl) (DD lN.out 1 rfl) (fun _ _ h => h) (fun _ h => h.elim) (fun _ _ => trivial) lV.out (cO bQ lV) (by simp only [List.length_nil]; omega) ?_;intro u1 DT ho hb hg hat;have jD := A_ hb;have iA := A_ (aa.app 8 lN.out rfl ho hg hat);clear ho hb hg hat;refine dh 17 hK ⟨(aa.z0 iA.out 0 rfl), (aa.z1 iA.out 0 rfl)⟩ (fun hHeld => ?_);refine gG 7 (some 18) 4095 (fun K hK => ?_);refine xy Kd.string 9 18 ([] : List ByteArray) [] (gm.none _ _) jD.out (cO bQ jD) ?_;intro pX AZ dx hbb hgb hnb;have kD := A_ hbb;have iw := A_ (aa.lit iA.out dx hgb hnb);obtain ⟨fQ, fT, rfl⟩ : ∃ A c, pX = .slice A 0 c := Kd.ak dx;clear dx hbb hgb hnb;refine dh 18 hK ⟨(aa.z0 iw.out 0 rfl), (aa.z1 iw.out 0 rfl)⟩ (fun hHeld => ?_);exact yA (iE ⟨.slice gL 0 gM, u1, .slice fQ 0 fT⟩ _ ⟨kD.out, aa.gJ iw.out [0, 1, 2, 3, 4, 5, 6, 7, 8, 9] (by decide)⟩)
    ·skip
     refine xy Kd.string 9 18 ([] : List ByteArray) [] (gm.none _ _) lV.out (cO bQ lV) ?_;intro pX DT dx hbb hgb hnb;have jD := A_ hbb;have iA := A_ (aa.lit lN.out dx hgb hnb);obtain ⟨fQ, fT, rfl⟩ : ∃ A c, pX = .slice A 0 c := Kd.ak dx;clear dx hbb hgb hnb;refine dh 18 hK ⟨(aa.z0 iA.out 0 rfl), (aa.z1 iA.out 0 rfl)⟩ (fun hHeld => ?_);refine gG 6 (some 17) 4095 (fun K hK => ?_);refine Kd.aM Kd.string (w0 := w) base (by rfl) (.tmp 12) (.tmp 16) 38 9 (.string ⟨#[]⟩) 16 rfl Try.underlying38 dC rfl (by decide) (by omega) (.slice gL 0 gM) [] tks jF tks.length fG (fun _ => True) (fun _ => False) rfl rfl (aa.sr iA.out 8 rfl) (DD iA.out 1 rfl) (fun _ _ h => h) (fun _ h => h.elim) (fun _ _ => trivial) jD.out (cO bQ jD) (by simp only [List.length_nil]; omega) ?_;intro u1 AZ ho hb hg hat;have kD := A_ hb;have iw := A_ (aa.app 8 iA.out rfl ho hg hat);clear ho hb hg hat;refine dh 17 hK ⟨(aa.z0 iw.out 0 rfl), (aa.z1 iw.out 0 rfl)⟩ (fun hHeld => ?_);exact yA (iE ⟨.slice gL 0 gM, u1, .slice fQ 0 fT⟩ _ ⟨kD.out, aa.gJ iw.out [0, 1, 2, 3, 4, 5, 6, 7, 8, 9] (by decide)⟩)
   ·skip
    refine xy Kd.string 9 18 ([] : List ByteArray) [] (gm.none _ _) (aG HB.out) (cO bQ HB) ?_;intro pX NJ dx hbb hgb hnb;have lV := A_ hbb;have lN := A_ (aa.lit (aa.drew HS.out) dx hgb hnb);obtain ⟨fQ, fT, rfl⟩ : ∃ A c, pX = .slice A 0 c := Kd.ak dx;clear dx hbb hgb hnb;refine dh 18 hK ⟨(aa.z0 lN.out 0 rfl), (aa.z1 lN.out 0 rfl)⟩ (fun hHeld => ?_);refine gG 1 (some 12) 4031 (fun K hK => ?_);refine xy Kd.string 9 12 ([] : List ByteArray) [] (gm.none _ _) lV.out (cO bQ lV) ?_;intro vb1 DT dx hbb hgb hnb;have jD := A_ hbb;have iA := A_ (aa.lit lN.out dx hgb hnb);obtain ⟨gL, gM, rfl⟩ : ∃ A c, vb1 = .slice A 0 c := Kd.ak dx;clear dx hbb hgb hnb;refine dh 12 hK ⟨(aa.z0 iA.out 0 rfl), (aa.z1 iA.out 0 rfl)⟩ (fun hHeld => ?_);refine gG 6 (some 17) 4095 (fun K hK => ?_);refine Kd.aM Kd.string (w0 := w) base (by rfl) (.tmp 12) (.tmp 16) 38 9 (.string ⟨#[]⟩) 16 rfl Try.underlying38 dC rfl (by decide) (by omega) (.slice gL 0 gM) [] tks jF tks.length fG (fun _ => True) (fun _ => False) rfl rfl (aa.sr iA.out 9 rfl) (DD iA.out 1 rfl) (fun _ _ h => h) (fun _ h => h.elim) (fun _ _ => trivial) jD.out (cO bQ jD) (by simp only [List.length_nil]; omega) ?_;intro u1 AZ ho hb hg hat;have kD := A_ hb;have iw := A_ (aa.app 9 iA.out rfl ho hg hat);clear ho hb hg hat;refine dh 17 hK ⟨(aa.z0 iw.out 0 rfl), (aa.z1 iw.out 0 rfl)⟩ (fun hHeld => ?_);exact yA (iE ⟨.slice gL 0 gM, u1, .slice fQ 0 fT⟩ _ ⟨kD.out, aa.gJ iw.out [0, 1, 2, 3, 4, 5, 6, 7, 9, 8] (by decide)⟩)
  rintro ⟨vb1, u1, pX⟩ w8 ⟨hb, hs⟩;obtain ⟨fQ, fT, rfl⟩ : ∃ A c, pX = .slice A 0 c := Kd.ak (aa.sr hs 9 rfl)
  have hHeld : (w8.cell? ⟨tp, 0, none⟩ = some (.slice jF tks.length fG)) /\ (w8.cell? ⟨tp, 1, none⟩ = some (.slice jK tvs.length fM)) := ⟨aa.z0 hs 0 rfl, aa.z1 hs 0 rfl⟩
  clear HS HB;have HB := A_ hb;have HS := A_ hs;clear hb hs;refine uq ?_;refine gG 12 (some 23) 8191 (fun K hK => ?_);refine Kd.aM Kd.string (w0 := w) base (by rfl) (.tmp 18) (.tmp 22) 38 9 (.string ⟨#[]⟩) 16 rfl Try.underlying38 dC rfl (by decide) (by omega) (.slice fQ 0 fT) [] tvs jK tvs.length fM (fun _ => True) (fun _ => False) rfl rfl (aa.sr HS.out 9 rfl) (DD HS.out 2 rfl) (fun _ _ h => h) (fun _ h => h.elim) (fun _ _ => trivial) HB.out (cO bQ HB) (by simp only [List.length_nil]; omega) ?_;intro u2 w9 ho hb hg hat;have Ty := A_ hb;have TB := A_ (aa.app 9 HS.out rfl ho hg hat);clear ho hb hg hat;clear HS HB;have HS := TB;have HB := Ty;clear TB Ty;obtain ⟨GM, GN, XA⟩ := Kd.ak (aa.sr HS.out 8 rfl);obtain ⟨GU, GV, XB⟩ := Kd.ak (aa.sr HS.out 9 rfl);rw [List.nil_append] at XA XB;subst XA;subst XB;have ah := jN (HS.out);clear HS;have HS := ah;clear ah;refine dh 23 hK ⟨(aa.z0 HS.out 0 rfl), (aa.z1 HS.out 0 rfl)⟩ (fun hHeld => ?_);refine aH 13 24 16383 ?_;refine gG 14 (some 25) 32767 (fun K hK => ?_);refine xZ 110 3 [.slice GM tks.length GN, .slice GU tvs.length GV, .slice none 0 0] rfl (by rfl) (N := 25) rfl ?hr ?_
  (case hr => first | (go_simp; done) | (go_simp; rfl))
  intro gp yn hg ho hb;have ah := jN (aa.newRow HS.out hb (cO bQ HB) (by rw [<- hg] at *; exact ho))
  replace HB : af (Below base w yn) := ⟨HB.out.trans (hb.mono (cO bQ HB))⟩
  replace HS := ah; clear ah hg ho hb;refine dh 25 hK ⟨(aa.z0 HS.out 0 rfl), (aa.z1 HS.out 0 rfl)⟩ (fun hHeld => ?_);refine gG 15 (some 26) 65535 (fun K hK => ?_);refine ui (w0 := w) (base := base) (by rfl) (.tmp 11) (.tmp 25) 27 110 3 72 _ rfl Try.underlying27 FE rfl (by decide) (by decide) (.slice Ao pgs.length co) pgs.length 1 1 gp (pgs.flatMap Pg.cells) [.slice GM tks.length GN, .slice GU tvs.length GV, .slice none 0 0] rfl rfl (aa.rowOk HS.out 5 rfl) (aa.rowOk HS.out 10 rfl) (by intro u hu; simp only [List.mem_cons, List.not_mem_nil, or_false] at hu; rcases hu with rfl | rfl | rfl <;> rfl) HB.out (cO bQ HB) (by omega) ?_;intro vo1 Ab ho hb hg hat;obtain ⟨A1, c1, rfl⟩ := iD ho;have ah := jN (aa.Pk 5 HS.out rfl ho hg hat)
  replace HB : af (Below base w Ab) := ⟨hb⟩
  replace HS := ah; clear ah ho hb hg hat;refine dh 26 hK ⟨(aa.z0 HS.out 0 rfl), (aa.z1 HS.out 0 rfl)⟩ (fun hHeld => ?_);refine aH 16 1 131071 ?_;refine dL (by kernel_rfl) ?_
  obtain ⟨K, hK⟩ : ∃ K, K = NT.ax aJ := ⟨_, rfl⟩
  have HK := A_ hK;have xu := A_ (show K.length = aJ.length by rw [hK, aC, List.length_map]);obtain ⟨go1, rfl⟩ := si (aa.rowOk HS.out 5 rfl) (by omega)
  have ah : af (aa Ab base (y5 96 70 (NT.mk tp (.slice jF tks.length fG) (.slice jK tvs.length fM) (.slice qB aJ.length fK) tks tvs aJ) (.slice (some ⟨go1, 0, none⟩) (pgs.length + 1) c1) pgs [] ⟨.slice GM tks.length GN, .slice GU tvs.length GV, .slice none 0 0, tks, tvs, []⟩ L)) := ⟨by
   have h1 := (aa.OU (aa.yZ HS.out 3)).gJ [0, 1, 2, 3, 4, 5, 8, 9, 11, 6, 12, 7] (by decide);unfold y5;show aa _ _ [_, _, _, _, _, [.row 110 3 (.slice (some ⟨go1, 0, none⟩) (pgs.length + 1) c1) (pgs ++ [_]).length ((pgs ++ [_]).flatMap Pg.cells)], _, _, _, _, _, _];rw [List.length_append, List.flatMap_append, List.flatMap_cons, List.flatMap_nil, List.append_nil]
   exact h1⟩
  clear HS hK;have HS := ah;clear ah
  obtain ⟨t0, ht0⟩ : ∃ t0, t0 = NT.mk tp (.slice jF tks.length fG) (.slice jK tvs.length fM) (.slice qB aJ.length fK) tks tvs aJ := ⟨_, rfl⟩
  have HT0 := A_ ht0;rw [<- ht0] at HS;clear ht0
  go_upto_region 3 with fail
  have wG : Ab.cell? ⟨tp, 2, none⟩ = some (.slice qB aJ.length fK) := by
   have h1 := HS.out;rw [HT0.out] at h1;exact aa.z2 h1 0 rfl
  go_wp2_with fail
  clear wG
  go_loopg [1, 32] aJ.length (fun kq u1 u32 w' => ∃ (i m go co : Nat) (A B : List Pg) (kv vv cv : Value) (cs : List Int), u1 = .slice (some ⟨go, 0, none⟩) m co /\ u32 = .int .i64 (i : Int) /\ af (kq + i = aJ.length) /\ af (cs = starts (K.take i) (pgs.length + 1)) /\ af (A.map Pg.erase = pgs.map Pg.erase) /\ af (B.map Pg.erase = oM (K.take i) (pgs.length + 1)) /\ af (m = pgs.length + 1 + PT.jA (K.take i)) /\ af (aa w' base (y5 96 70 t0 (.slice (some ⟨go, 0, none⟩) m co) A B ⟨kv, vv, cv, tks, tvs, cs⟩ L)) /\ af (Below base w w'))
  case atStart => exact ⟨0, pgs.length + 1, go1, c1, pgs, [], _, _, _, [], by first | rfl | (simp; done), by first | rfl | (simp; done), ⟨Nat.add_zero _⟩, ⟨rfl⟩, ⟨rfl⟩, ⟨rfl⟩, ⟨rfl⟩, HS, HB⟩
  case round =>
   clear HS HB;obtain ⟨i, m, go, Zp, A, B, kv, vv, cv, cs, rfl, rfl, U8, U9, HA, zK, HM, HS, HB⟩ := hrel;have zZ := A_ (show A.length = pgs.length by have := congrArg List.length HA.out; rw [List.length_map, List.length_map] at this; exact this);have hbt : PT.jA (K.take i) + 1 <= (PT.mk tks tvs (NT.ax aJ)).big := by rw [PT.big, <- HK.out]; have := ni K i; omega
   have hm : pgs.length + 1 <= m /\ m <= 100000 := by have := HM.out; have := XI.out; omega
   have ci := bV (0 <= (i : Int));have hcl0 : cs.length <= 5 := by rw [U9.out, ql, List.length_take, xu.out]; omega
   by_cases hi : i < aJ.length
   ·have ce := lQ ((i : Int) < (aJ.length : Int))
    have zg : (i < aJ.length) = True := eq_true hi
    obtain ⟨s, hsx⟩ : ∃ s, aJ[i]? = some s := ⟨aJ[i], List.getElem?_eq_getElem hi⟩
    have Ou := A_ hsx
    have jw : af (K[i]? = some s.erase) := ⟨by rw [HK.out, aC, List.getElem?_map, hsx]; rfl⟩
    have ah := HS.out;rw [HT0.out] at ah;unfold y5 at ah;simp only [NT.keys, NT.vals, NT.kids, NT.p, NT.kv, NT.vv, NT.cv] at ah;obtain ⟨Ac, cc, rfl⟩ := Kd.ak (aa.ir ah 8 rfl);obtain ⟨zG, ck1, rfl⟩ := Kd.ak (aa.sr ah 6 rfl);obtain ⟨vO, rD, rfl⟩ := Kd.ak (aa.sr ah 7 rfl);clear HS;have HS := A_ ah;clear ah hsx;obtain ⟨iB, rfl⟩ := fJ (aa.q HS.out 3 rfl) (by omega);have qU := ik (aa.fH HS.out 3 rfl) (And.intro Ou.out rfl)
    go_upto_region 6 with fail
    clear qU
    obtain ⟨l1, hl1⟩ : ∃ r : List Int, r = ([] : List Int) ++ cs := ⟨_, rfl⟩
    have mF := A_ hl1;clear hl1;have hl1_ : l1.length <= 5 := by rw [mF.out, List.nil_append]; exact hcl0
    obtain ⟨l2, hl2⟩ : ∃ r : List Int, r = l1 ++ [(m : Int)] := ⟨_, rfl⟩
    have qa := A_ hl2;clear hl2;have b3 := bV (0 <= (pgs.length : Int));have b4 := bV ((pgs.length : Int) < (m : Int));have b5 := bV (pgs.length < m)
    have eT := (BX HS.out 5 rfl zZ.out)
    have qU := (J7 HS.out 5 rfl zZ.out)
    have wG := (wZ HS.out 5 rfl zZ.out)
    go_upto_region 7 with (first | (refine jl 8 #[.slice none 0 0, .slice none 0 0, .slice none 0 0] 110 ?_; intro g6 hg Fu aA hb; have ah := jN (aa.je HS.out hg aA hb (cO bQ HB)); replace HB : af (Below base w Fu) := ⟨(HB.out).trans (hb.mono (cO bQ HB))⟩; replace HS := ah; clear ah hg aA hb; clear eT qU wG; have eT := (BX HS.out 5 rfl zZ.out); have qU := (J7 HS.out 5 rfl zZ.out); have wG := (wZ HS.out 5 rfl zZ.out); have QF := aa.z0 HS.out 12 rfl; have QG := aa.f HS.out 12 rfl 0; have QH := aa.z1 HS.out 12 rfl; have QI := aa.f HS.out 12 rfl 1; have Jz := aa.z2 HS.out 12 rfl; have JA := aa.f HS.out 12 rfl 2))
    have ah := gq (World.setCell (World.setCell (World.setCell Fu ⟨g6, 0, none⟩ (.slice zG tks.length ck1)) ⟨g6, 1, none⟩ (.slice vO tvs.length rD)) ⟨g6, 2, none⟩ (.slice Ac cs.length cc)) (aa.rW (aa.xU (aa.xS HS.out 12 rfl (.slice zG tks.length ck1)) 12 rfl (.slice vO tvs.length rD)) 12 rfl (.slice Ac cs.length cc))
    replace HB : af (Below base w (World.setCell (World.setCell (World.setCell Fu ⟨g6, 0, none⟩ (.slice zG tks.length ck1)) ⟨g6, 1, none⟩ (.slice vO tvs.length rD)) ⟨g6, 2, none⟩ (.slice Ac cs.length cc))) := ⟨(((HB.out).setCell (p := ⟨g6, 0, none⟩) (aa.ge HS.out 12 rfl) _).setCell (p := ⟨g6, 1, none⟩) (aa.ge HS.out 12 rfl) _).setCell (p := ⟨g6, 2, none⟩) (aa.ge HS.out 12 rfl) _⟩
    generalize World.setCell (World.setCell (World.setCell Fu ⟨g6, 0, none⟩ (.slice zG tks.length ck1)) ⟨g6, 1, none⟩ (.slice vO tvs.length rD)) ⟨g6, 2, none⟩ (.slice Ac cs.length cc) = yB at ah HB ⊢;replace HS := ah; clear ah eT qU wG QF QG QH QI Jz JA;have sd13 : (([] : List Int).length + cs.length) * 8 <= 140737488355328 := by simp only [List.length_cons, List.length_nil]; omega
    have sd20 : (l1.length + 1) * 8 <= 140737488355328 := by omega
    have eT := (aa.z2 HS.out 12 rfl)
    go_upto_region 8 with (first | ((with_reducible refine iK (N := 40) rfl ?_); refine Rt (Kd.int .i64) 3 40 ([] : List Int) [] (gm.none _ _) HB.out (cO bQ HB) ?_; intro v7 Ji ho hb hg hn; obtain ⟨A8, c9, rfl⟩ : ∃ A c, v7 = .slice A 0 c := Kd.ak ho; have ah := jN (aa.nH HS.out (Ma ho) hg hn); replace HB : af (Below base w Ji) := ⟨hb⟩; replace HS := ah; clear ah ho hb hg hn; clear eT; have eT := (aa.z2 HS.out 12 rfl)) | ((with_reducible refine bP (b := .append) (xs := #[.tmp 40, .tmp 42]) rfl ?_); at_builtin; refine Kd.eY (Kd.int .i64) (w0 := w) base rfl (.tmp 40) (.tmp 42) 108 3 (.int .i64 0) 8 rfl Try.underlying108 info3 rfl (by decide) (by omega) (.slice A8 0 c9) ([] : List Int) cs Ac cs.length cc (fun _ => True) (fun _ => False) rfl rfl (aa.ir HS.out 13 rfl) (TY HS.out 8 rfl) (fun _ _ h => h) (fun _ h => h.elim) (fun _ _ => trivial) HB.out (cO bQ HB) sd13 ?_; intro Ws w16 ho hb hg hat; rw [<- mF.out] at ho; obtain ⟨A11, c12, rfl⟩ := Kd.ak ho; have ah := jN (aa.TZ 13 HS.out rfl ho hg hat); replace HB : af (Below base w w16) := ⟨hb⟩; replace HS := ah; clear ah ho hb hg hat; clear eT; have eT := (aa.z2 HS.out 12 rfl)) | ((with_reducible refine iK (N := 46) rfl ?_); refine Rt (Kd.int .i64) 3 46 [(m : Int)] [.int .i64 (m : Int)] (Kd.aY (enc := (Value.int .i64)) [(m : Int)]) HB.out (cO bQ HB) ?_; intro v14 MC ho hb hg hn; obtain ⟨Za, c16, rfl⟩ : ∃ A c, v14 = .slice A 1 c := Kd.ak ho; have ah := jN (aa.nH HS.out (Ma ho) hg hn); replace HB : af (Below base w MC) := ⟨hb⟩; replace HS := ah; clear ah ho hb hg hn; clear eT; have eT := (aa.z2 HS.out 12 rfl)) | ((with_reducible refine bP (b := .append) (xs := #[.tmp 43, .tmp 46]) rfl ?_); at_builtin; refine Kd.eY (Kd.int .i64) (w0 := w) base rfl (.tmp 43) (.tmp 46) 108 3 (.int .i64 0) 8 rfl Try.underlying108 info3 rfl (by decide) (by omega) (.slice A11 l1.length c12) l1 [(m : Int)] Za 1 c16 (fun _ => True) (fun _ => False) rfl rfl (aa.ir HS.out 13 rfl) (TY HS.out 14 rfl) (fun _ _ h => h) (fun _ h => h.elim) (fun _ _ => trivial) HB.out (cO bQ HB) sd20 ?_; intro u17 MG ho hb hg hat; rw [<- qa.out] at ho; obtain ⟨vX, c19, rfl⟩ := Kd.ak ho; have ah := jN (aa.TZ 13 HS.out rfl ho hg hat); replace HB : af (Below base w MG) := ⟨hb⟩; replace HS := ah; clear ah ho hb hg hat; clear eT; have eT := (aa.z2 HS.out 12 rfl); have zs0 := aa.z2 HS.out 12 rfl; have jE := aa.f HS.out 12 rfl 2))
    have ah := gq (World.setCell MG ⟨g6, 2, none⟩ (.slice vX l2.length c19)) (aa.gJ (aa.rW HS.out 12 rfl (.slice vX l2.length c19)) [0, 1, 2, 3, 4, 5, 6, 7, 13, 9, 10, 11, 12, 14] (by decide))
    replace HB : af (Below base w (World.setCell MG ⟨g6, 2, none⟩ (.slice vX l2.length c19))) := ⟨(HB.out).setCell (p := ⟨g6, 2, none⟩) (aa.ge HS.out 12 rfl) _⟩
    generalize World.setCell MG ⟨g6, 2, none⟩ (.slice vX l2.length c19) = Oo at ah HB ⊢;replace HS := ah; clear ah eT zs0 jE
    have eT := (aa.z0 HS.out 12 rfl)
    have qU := (aa.z1 HS.out 12 rfl)
    have wG := (aa.z2 HS.out 12 rfl)
    have QF := BX HS.out 5 rfl zZ.out;have QG := aa.RN HS.out 5 rfl (pgs.length * 3);have QH := J7 HS.out 5 rfl zZ.out;have QI := aa.RN HS.out 5 rfl (pgs.length * 3 + 1);have Jz := wZ HS.out 5 rfl zZ.out;have JA := aa.RN HS.out 5 rfl (pgs.length * 3 + 2)
    go_upto_region 9 with fail
    have ah := gq (World.setCell (World.setCell (World.setCell Oo ⟨go, pgs.length * 3, none⟩ (.slice zG tks.length ck1)) ⟨go, pgs.length * 3 + 1, none⟩ (.slice vO tvs.length rD)) ⟨go, pgs.length * 3 + 2, none⟩ (.slice vX l2.length c19)) (aa.RS HS.out 5 rfl zZ.out ⟨.slice zG tks.length ck1, .slice vO tvs.length rD, .slice vX l2.length c19, tks, tvs, l2⟩)
    replace HB : af (Below base w (World.setCell (World.setCell (World.setCell Oo ⟨go, pgs.length * 3, none⟩ (.slice zG tks.length ck1)) ⟨go, pgs.length * 3 + 1, none⟩ (.slice vO tvs.length rD)) ⟨go, pgs.length * 3 + 2, none⟩ (.slice vX l2.length c19))) := ⟨(((HB.out).setCell (p := ⟨go, pgs.length * 3, none⟩) (aa.Mc HS.out 5 rfl) _).setCell (p := ⟨go, pgs.length * 3 + 1, none⟩) (aa.Mc HS.out 5 rfl) _).setCell (p := ⟨go, pgs.length * 3 + 2, none⟩) (aa.Mc HS.out 5 rfl) _⟩
    generalize World.setCell (World.setCell (World.setCell Oo ⟨go, pgs.length * 3, none⟩ (.slice zG tks.length ck1)) ⟨go, pgs.length * 3 + 1, none⟩ (.slice vO tvs.length rD)) ⟨go, pgs.length * 3 + 2, none⟩ (.slice vX l2.length c19) = SC at ah HB ⊢;replace HS := ah; clear ah eT qU wG QF QG QH QI Jz JA
    obtain ⟨p', hp'⟩ : ∃ p' : Pg, p' = ⟨.slice zG tks.length ck1, .slice vO tvs.length rD, .slice vX l2.length c19, tks, tvs, l2⟩ := ⟨_, rfl⟩
    have Zq := A_ hp'
    have ah : aa SC base (y5 96 70 (NT.mk tp (.slice jF tks.length fG) (.slice jK tvs.length fM) (.slice (some iB) aJ.length fK) tks tvs aJ) (.slice (some ⟨go, 0, none⟩) m Zp) A B p' L) := by
     rw [hp'];exact aa.gJ HS.out [0, 1, 2, 3, 4, 5, 6, 7, 8, 9, 10, 11] (by decide)
    have hpl : (A ++ p' :: B).length = m := by
     have h1 := congrArg List.length zK.out;rw [List.length_map, p9] at h1;rw [List.length_append, List.length_cons, h1, zZ.out, HM.out];omega
    have Zr := A_ hpl
    have hbs : s.erase.big <= n /\ m + s.erase.big <= 100000 := by
     have h1 := EM jw.out;have h2 := ni K (i + 1);have h3 := Om.out;have h4 := XI.out;rw [PT.big, <- HK.out] at h3 h4;have := HM.out;omega
    have hC := ih s hbs.1 (KT.out _ (by rw [<- HK.out]; exact List.mem_of_getElem? jw.out)) base _ _ _ SC (Cb Ou.out ah) (cO bQ HB) (by rw [hpl]; exact hbs.2);have HC := A_ hC;clear hC ah hp' hpl hbs
    go_upto_region 10 with (first | (go_at_call 107; (with_reducible refine HC.out.mono ?_); rintro e Ov ⟨vo2, dY, rfl, he, hs2, hb2⟩))
    clear HC HS;rw [List.map_append, List.map_cons, List.append_assoc, List.cons_append, Zr.out] at he;obtain ⟨A2, p2, B2, rfl, hA2, hp2, hB2⟩ := zA he;have h5 := Cc Ou.out hs2;obtain ⟨Ao2, Zt, rfl⟩ := iD (aa.rowOk h5 5 rfl);obtain ⟨go2, rfl⟩ := si (aa.rowOk h5 5 rfl) (by rw [List.length_append, List.length_cons]; omega)
    cases p2 with | mk XJ XK Ri Va vs2 cs2 =>
    have e6 : (⟨Va, vs2, cs2⟩ : bC) = ⟨tks, tvs, l2⟩ := by rw [show (⟨Va, vs2, cs2⟩ : bC) = p'.erase from hp2, Zq.out]; rfl
    injection e6 with e7 e8 e9
    subst e7;subst e8;subst e9;have HS := A_ h5;have HB3 := A_ (HB.out.trans hb2);have HA2 := A_ (hA2.trans HA.out);have HB2 := A_ (show B2.map Pg.erase = oM (K.take (i + 1)) (pgs.length + 1) by rw [hB2, zK.out, r9 jw.out, wX, HM.out])
    have Sn := A_ (show (A2 ++ ⟨XJ, XK, Ri, Va, vs2, cs2⟩ :: B2).length = pgs.length + 1 + PT.jA (K.take (i + 1)) by
     have h1 := congrArg List.length HB2.out;have h2 := congrArg List.length HA2.out;rw [List.length_map, p9] at h1;rw [List.length_map, List.length_map] at h2;rw [List.length_append, List.length_cons, h1, h2]
     omega)
    have um := A_ (show cs2 = starts (K.take (i + 1)) (pgs.length + 1) by rw [qa.out, mF.out, List.nil_append, r9 jw.out, uL, <- U9.out, HM.out]);clear he hs2 hb2 hA2 hp2 hB2 h5 HB
    go_wp2_with fail
    go_roundg (aJ.length - (i + 1))
    case measure => have := U8.out; omega
    case rel => exact ⟨i + 1, _, go2, Zt, A2, B2, XJ, XK, Ri, cs2, by first | rfl | (simp; done), by first | rfl | go_num | (simp; done), ⟨by have := U8.out; omega⟩, um, HA2, HB2, Sn, ⟨by rw [HT0.out]; exact HS.out⟩, HB3⟩
   ·have ce := kS ((i : Int) < (aJ.length : Int))
    have zg : (i < aJ.length) = False := eq_false hi;have XL : K.take i = K := List.take_of_length_le (by rw [xu.out]; omega);have rE := A_ XL;clear XL hi
    go_wp2_with fail
    go_ret;refine ⟨_, A ++ ⟨kv, vv, cv, tks, tvs, cs⟩ :: B, rfl, ?_, by rw [<- HT0.out]; exact Ca HS.out, HB.out⟩;rw [List.map_append, List.map_cons, HA.out, zK.out, rE.out];show _ = pgs.map Pg.erase ++ iM (.mk tks tvs (NT.ax aJ)) pgs.length;rw [iM, <- HK.out];show _ ++ (⟨tks, tvs, cs⟩ : bC) :: _ = _;rw [U9.out, rE.out]
def TRR (w : World) (base T E : Nat) (t : NT) (L : List Ck) (e : Ending) (w' : World) : Prop :=
 ∃ (vo : Value) (pgs : List Pg), e = .returned (.agg #[vo]) /\ pgs.map Pg.erase = iM t.erase 0 /\ Sat w' base (t.dH T E ++ (bK vo pgs ++ L)) /\ Below base w w'
theorem Me {w : World} {base : Nat} {A L : List Ck} (h : Sat w base (A ++ L)) : Sat w base (A ++ (bK (.slice none 0 0) [] ++ L)) := by
 have hq : Ck.ok w base (.row 110 3 (.slice none 0 0) 0 []) := ⟨by simp, .inl ⟨rfl, rfl⟩⟩
 refine (Sat.add (A := [.row 110 3 (.slice none 0 0) 0 []]) h (Kept.refl _ _) (Sat.one hq) ?_).perm ?_
 ·rintro k ⟨c, hc, hb⟩
  rw [List.mem_singleton.1 hc] at hb
  cases hb
 ·exact List.perm_append_comm_assoc [Ck.row 110 3 (.slice none 0 0) 0 []] A L
theorem qM.calls (t : NT) (hbd : kV t.erase) (hbig : t.erase.big <= 100000) (base : Nat) (L : List Ck) (w : World) (hs : Sat w base (t.dH 96 70 ++ L)) (hbs : base <= w.heap.size) :
  Calls Try.prog 77 #[bu t.p] w (TRR w base 96 70 t L) := by
 have NY : af (Sat w base (L ++ t.dH 96 70)) := ⟨hs.perm List.perm_append_comm⟩
 have HB := A_ (Below.refl base w);have bQ := A_ hbs;have XM := A_ hbd;clear hs hbs hbd
 obtain ⟨tp, htp⟩ : ∃ p, t.p = p := ⟨_, rfl⟩
 have SH := A_ htp;rw [htp];clear htp;go_enter Try.func77, Try.ntmps77
 go_upto_region 1 with (first | (refine jl 2 #[.slice none 0 0] 29 ?_; intro g hg w2 aA hb; have ah : af (Sat w2 base (t.dH 96 70 ++ (bK (.slice none 0 0) [] ++ (.box 29 g #[.slice none 0 0] :: L)))) := ⟨Me ((Sat.je NY.out hg aA hb bQ.out).perm ((List.perm_append_comm (l₁ := L)).cons _ |>.trans List.perm_middle.symm))⟩; have bT := A_ (HB.out.trans (hb.mono bQ.out)); clear NY HB hg aA hb; have HS := ah; have HB := bT; clear ah bT))
 have hC := J8.calls t.erase.big t (Nat.le_refl _) XM.out base _ [] _ w2 HS.out (cO bQ HB) (by rw [List.length_nil]; omega);rw [SH.out] at hC;have HC := A_ hC;clear hC HS
 go_wp2_with (first | (go_at_call 107; (with_reducible refine HC.out.mono ?_); rintro e w3 ⟨vo, pgs, rfl, he, hs3, hb3⟩; obtain ⟨Ao, co, rfl⟩ := iD (hs3.ok (nI vo pgs) (List.mem_append_right _ List.mem_cons_self)); have HZ := A_ (hs3.cell (T := 29) (p := g) (cs := #[.slice none 0 0]) (List.mem_append_right _ (List.mem_append_right _ List.mem_cons_self))); have hz := hs3.cell (T := 29) (p := g) (cs := #[.slice none 0 0]) (List.mem_append_right _ (List.mem_append_right _ List.mem_cons_self)); have hz1 : w3.cell? ⟨g, 0, none⟩ = some (.slice none 0 0) := (au hz 0).trans rfl; have hf1 := aV hz 0; have HE := A_ he; have zJ := A_ hs3; have HB3 := A_ hb3; clear hz he hs3 hb3))
 refine bodyPost_ret (results_cell_row rfl _ _ g 29 #[.slice Ao pgs.length co] (0, 0) _ rfl (dP (cs := #[.slice none 0 0]) HZ.out 0 _ rfl) Try.underlying29 rfl (by kernel_rfl)) rfl ?_
 have hX : Sat (w3.setCell ⟨g, 0, none⟩ (.slice Ao pgs.length co)) base (.box 29 g #[.slice Ao pgs.length co] :: (t.dH 96 70 ++ (bK (.slice Ao pgs.length co) pgs ++ L))) := Sat.put (cs := #[.slice none 0 0]) (zJ.out.perm (by
  rw [<- List.append_assoc];refine List.perm_middle.trans ?_
  rw [List.append_assoc])) 0 _ rfl
 exact ⟨_, pgs, rfl, by rw [HE.out]; rfl, hX.tail, (HB.out.trans HB3.out).setCell (p := ⟨g, 0, none⟩) (zJ.out.ok (.box 29 g #[.slice none 0 0]) (List.mem_append_right _ (List.mem_append_right _ List.mem_cons_self))).1 _⟩
def WP (w : World) (base T E : Nat) (L : List Ck) (r : PT) (e : Ending) (w' : World) : Prop := ∃ t' : NT, e = .returned (bu t'.p) /\ t'.erase = r /\ Sat w' base (t'.dH T E ++ L) /\ Below base w w'
theorem Sat.Po {w : World} {base : Nat} {c : Ck} {L : List Ck} (h : Sat w base L) (hc : c.ok w base) (hb : c.blk = none) : Sat w base (c :: L) :=
 ⟨fun d hd => by
  rcases List.mem_cons.1 hd with rfl | hd
  ·exact hc
  ·exact h.ok d hd, List.pairwise_cons.2 ⟨fun d _ k hk => (by rw [hb] at hk; cases hk), h.ap⟩⟩
theorem Ce {w : World} {base : Nat} {A B : List Ck} (h : Sat w base (A ++ B)) : aa w base [A, B] := by
 unfold aa;simp only [List.flatten_cons, List.flatten_nil, List.append_nil];exact h
theorem Mf {w : World} {base T E g : Nat} {t : NT} {L : List Ck} {v : Value} (h : aa w base [t.dH T E, L, [.own E v (encs bu [t.p])], [.box T g #[.slice none 0 0, .slice none 0 0, v]]]) :
  Sat w base ((NT.mk g (.slice none 0 0) (.slice none 0 0) v [] [] [t]).dH T E ++ L) := by
 have h1 : aa w base [t.dH T E, L, [.jL E v (ptrs [t])], [.box T g #[.slice none 0 0, .slice none 0 0, v]]] := by
  have hq : PQ E w base v [t.p] := Kd.FQ (h.TM 2 rfl);have h3 := zu hq;refine h.turn 2 rfl (Sat.one h3) (Kept.refl _ _) ?_;rintro k ⟨d, hd, hb⟩;rw [List.mem_singleton.1 hd] at hb;exact .inl ⟨_, List.mem_singleton_self _, hb⟩
 have h2 : aa w base [[.box T g #[.slice none 0 0, .slice none 0 0, v]], [.jL E v (ptrs [t])], t.dH T E, L] := aa.gJ h1 [3, 2, 0, 1] (by decide);unfold aa at h2;simp only [List.flatten_cons, List.flatten_nil, List.append_nil, List.cons_append, List.nil_append] at h2;have hn : Ck.ok w base (txt (.slice none 0 0) []) := wo (Kd.xz _ _ _ _ _);have h3 := (h2.Po hn rfl).Po hn rfl;refine h3.perm ?_;rw [NT.dH, NT.aZ, NT.aZ, List.append_nil];show List.Perm (_ :: _ :: _ :: _ :: _) (_ :: _ :: _ :: _ :: _);exact ((List.Perm.swap _ _ _).cons _).trans (List.Perm.swap _ _ _)
theorem J9.calls (t : NT) (key val : ByteArray) (hbd : kV t.erase) (base : Nat) (L : List Ck) (w : World) (hs : Sat w base (t.dH 96 70 ++ L)) (hbs : base <= w.heap.size) :
  Calls Try.prog 76 #[bu t.p, .string key, .string val] w (WP w base 96 70 L (pz t.erase key val)) := by
 have bQ := A_ hbs;have XM := A_ hbd;have hC := O4.calls key val t.erase.big t (Nat.le_refl _) hbd base L w hs hbs
 obtain ⟨R, hR⟩ : ∃ R, R = pz t.erase key val := ⟨_, rfl⟩
 rw [<- hR];unfold pz at hR;have HR := A_ hR;have QJ := mY t.erase.big t.erase key val hbd;generalize lT t.erase.big t.erase key val = P1 at hC hR QJ HR
 obtain ⟨tp, htp⟩ : ∃ p, t.p = p := ⟨_, rfl⟩
 rw [htp] at hC ⊢;have SH := A_ htp;clear hR hbd hs hbs htp;go_enter Try.func76, Try.ntmps76
 go_upto_region 2 with (first | (go_at_call 105; (with_reducible refine hC.mono ?_); rintro e w1 ⟨rfl, t1, ht1, ht2, ht3, Fy⟩))
 rw [SH.out] at ht1
 cases t1 with | mk p1 Vb SI rD uy vs1 cs1 =>
 have ht1 : p1 = tp := ht1;subst ht1;obtain ⟨zG, ck1, Vd⟩ := Kd.ak ((fF ht3).sr 1 rfl);have Vd : Vb = .slice zG uy.length ck1 := Vd;subst Vd
 obtain ⟨lk, hlk⟩ : ∃ n, uy.length = n := ⟨_, rfl⟩
 have eT : w1.cell? ⟨p1, 0, none⟩ = some (.slice zG lk ck1) := by rw [<- hlk]; exact (fF ht3).z0 0 rfl
 obtain ⟨t1, ht0⟩ : ∃ t1, t1 = NT.mk p1 (.slice zG uy.length ck1) SI rD uy vs1 cs1 := ⟨_, rfl⟩
 rw [<- ht0] at ht2 ht3;have hk1 : t1.keys.length = lk := by rw [ht0]; exact hlk
 have QK : t1.p = p1 := by rw [ht0]; rfl
 have HT := A_ (And.intro ht2 (And.intro hk1 QK));rw [<- ht2] at QJ;have Ve := A_ QJ;have hl5 : lk <= 5 := by have := QJ.1.2.1; rw [aU] at this; omega
 have HB := A_ Fy;have HS := A_ (Ce ht3);have JB := A_ ht3;clear ht0 hk1 QK ht2 ht3 Fy hlk QJ hC
 by_cases h4 : 4 < lk
 ·have ct := lQ ((4 : Int) < (lk : Int))
  go_upto_region 3 with fail
  clear eT JB
  go_upto_region 4 with (first | ((with_reducible refine iK (N := 18) rfl ?_); refine Rt dZ 70 18 [p1] [bu p1] (Kd.aY (enc := bu) [p1]) HB.out (cO bQ HB) ?_; intro v1 w2 ho hb hg hn; obtain ⟨A2, c3, rfl⟩ : ∃ A c, v1 = .slice A 1 c := Kd.ak ho; have ah := jN (aa.nH HS.out (qH ho) hg hn); replace HB : af (Below base w w2) := ⟨hb⟩; replace HS := ah; clear ah ho hb hg hn) | (refine jl 20 #[.slice none 0 0, .slice none 0 0, .slice A2 1 c3] 96 ?_; intro g4 hg w3 aA hb; have ah := jN (aa.je HS.out hg aA hb (cO bQ HB)); replace HB : af (Below base w w3) := ⟨(HB.out).trans (hb.mono (cO bQ HB))⟩; replace HS := ah; clear ah hg aA hb))
  have hT : Sat w3 base ((NT.mk g4 (.slice none 0 0) (.slice none 0 0) (.slice A2 1 c3) [] [] [t1]).dH 96 70 ++ L) := Mf (by rw [HT.out.2.2]; exact HS.out);have HT2 := A_ hT;have hC := BM.calls (NT.mk g4 (.slice none 0 0) (.slice none 0 0) (.slice A2 1 c3) [] [] [t1]) t1 0 rfl (by have := HT.out.2.1; omega) (by have := HT.out.2.1; omega) (by have := Ve.out.1.1; rw [aU, mD] at this; exact this) (by have := Ve.out.1.2.2; rw [aU, bE] at this; have := HT.out.2.1; omega) (by have := Ve.out.1.2.2; rw [aU, bE] at this; have := HT.out.2.1; omega) (Nat.le_refl _) (Nat.zero_le _) rfl (show (1 : Nat) <= 1001 by decide) base L w3 hT (cO bQ HB);clear hT;replace hC : Calls Try.prog 106 #[bu g4, .int .i64 0] w3 (WR w3 base 96 70 _ L _) := hC
  go_wp2_with (first | (go_at_call 106; (with_reducible refine hC.mono ?_); rintro e w9 ⟨rfl, t2, hu1, hu2, hu3, Zu⟩))
  have hu1 : t2.p = g4 := hu1;rw [<- hu1];go_ret;refine ⟨t2, rfl, ?_, hu3, HB.out.trans Zu⟩;rw [hu2, HR.out, <- HT.out.1, aU, HT.out.2.1, if_pos h4];rfl
 ·have ct := kS ((4 : Int) < (lk : Int))
  go_wp2_with fail
  rw [<- HT.out.2.2];go_ret;refine ⟨t1, rfl, ?_, JB.out, HB.out⟩;rw [HR.out, <- HT.out.1, aU, HT.out.2.1, if_neg h4]
theorem Pp {α : Type} {A cs Z : List α} {z x : α} {i : Nat} (hi : i < cs.length) :
  ((((A ++ (cs ++ z :: Z)).take (A.length + (i + 1)) ++ cs.drop i ++ (A ++ (cs ++ z :: Z)).drop (A.length + (i + 1) + (cs.drop i).length)).take (A.length + i) ++ [x] ++
   ((A ++ (cs ++ z :: Z)).take (A.length + (i + 1)) ++ cs.drop i ++ (A ++ (cs ++ z :: Z)).drop (A.length + (i + 1) + (cs.drop i).length)).drop (A.length + i + [x].length)).drop A.length).take (cs.length + 1) = aI cs i x := by
 have e1 : (A ++ (cs ++ z :: Z)).take (A.length + (i + 1)) = A ++ cs.take (i + 1) := by
  rw [List.take_append, Nat.add_sub_cancel_left, List.take_of_length_le (by omega), List.take_append_of_le_length (by omega)]
 have e2 : (A ++ (cs ++ z :: Z)).drop (A.length + (i + 1) + (cs.drop i).length) = Z := by
  rw [List.length_drop, show A.length + (i + 1) + (cs.length - i) = A.length + (cs.length + 1) by omega, List.drop_append, List.drop_eq_nil_of_le (by omega), Nat.add_sub_cancel_left, List.nil_append, List.drop_append, List.drop_eq_nil_of_le (by omega), Nat.add_sub_cancel_left];rfl
 rw [e1, e2];have hl : (A ++ cs.take i).length = A.length + i := by rw [List.length_append, List.length_take]; omega
 have hk : cs[i]? = some (cs[i]) := List.getElem?_eq_getElem hi
 have e3 : (A ++ cs.take (i + 1) ++ cs.drop i ++ Z).take (A.length + i) = A ++ cs.take i := by
  rw [List.take_add_one, hk];show (A ++ (cs.take i ++ [cs[i]]) ++ cs.drop i ++ Z).take (A.length + i) = _;rw [<- hl, show A ++ (cs.take i ++ [cs[i]]) ++ cs.drop i ++ Z = (A ++ cs.take i) ++ ([cs[i]] ++ (cs.drop i ++ Z)) by simp only [List.append_assoc]];exact List.take_left
 have e4 : (A ++ cs.take (i + 1) ++ cs.drop i ++ Z).drop (A.length + i + [x].length) = cs.drop i ++ Z := by
  have h2 : (A ++ cs.take (i + 1)).length = A.length + i + [x].length := by rw [List.length_append, List.length_take]; simp only [List.length_cons, List.length_nil]; omega
  rw [<- h2, show A ++ cs.take (i + 1) ++ cs.drop i ++ Z = (A ++ cs.take (i + 1)) ++ (cs.drop i ++ Z) by simp only [List.append_assoc]];exact List.drop_left
 rw [e3, e4, show A ++ cs.take i ++ [x] ++ (cs.drop i ++ Z) = A ++ (aI cs i x ++ Z) by unfold aI; simp only [List.append_assoc, List.cons_append, List.nil_append], List.drop_left];rw [<- gu x (Nat.le_of_lt hi)];exact List.take_left
theorem Ng {α : Type} {l cs : List α} {off n : Nat} (ht : (l.drop off).take n = cs) (hn : off + n + 1 <= l.length) : ∃ A z Z, l = A ++ (cs ++ z :: Z) /\ A.length = off /\ cs.length = n := by
 have h1 : (l.take off).length = off := by rw [List.length_take]; omega
 have h2 : cs.length = n := by rw [<- ht, List.length_take, List.length_drop]; omega
 have h3 : l.drop off = cs ++ (l.drop off).drop n := by rw [<- ht, List.take_append_drop]
 cases h4 : (l.drop off).drop n with
 | nil =>
  have := congrArg List.length h4;rw [List.length_drop, List.length_drop, List.length_nil] at this;omega
 | cons z Z =>
  refine ⟨l.take off, z, Z, ?_, h1, h2⟩;rw [<- h4, <- h3, List.take_append_drop]
theorem EN {w : World} {b E off n c i : Nat} {cur : Array Value} {cs : List Value} {x : Value} (hb : w.heap[b]? = some (.cells cur E (0, 0))) (hs : cur.size = off + c) (ht : (cur.toList.drop off).take n = cs) (hroom : n + 1 <= c) (hi : i < n) :
  ∃ cur', ((w.setCells b (off + (i + 1)) (cs.drop i)).setCells b (off + i) [x]).heap[b]? = some (.cells cur' E (0, 0)) /\ cur'.size = off + c /\ (cur'.toList.drop off).take (n + 1) = aI cs i x := by
 have hl : cur.toList.length = off + c := by rw [Array.length_toList]; exact hs
 obtain ⟨A, z, Z, e, hA, hcl⟩ := Ng ht (by omega);have hd : (cs.drop i).length = n - i := by rw [List.length_drop]; omega
 obtain ⟨c1, h1, h2, h3⟩ := dX (cs.drop i) (off + (i + 1)) w cur hb (by rw [hd]; omega);obtain ⟨c2, h4, h5, h6⟩ := dX [x] (off + i) _ c1 h1 (by simp only [List.length_cons, List.length_nil]; omega);refine ⟨c2, h4, by omega, ?_⟩;rw [h6, h3, e];subst hA;rw [<- hcl];exact Pp (by omega)
theorem Cf {w : World} {base b E off n c : Nat} {cur : Array Value} {xs : List Value} (hb : w.heap[b]? = some (.cells cur E (0, 0))) (hs : cur.size = off + c) (ht : (cur.toList.drop off).take n = xs) (hn : n <= c) (hm : off + c <= maxLen) (hbase : base <= b) : kX w base E 1 (.slice (some ⟨b, off, none⟩) n c) n xs := by
 refine ⟨?_, .inr ⟨b, off, c, cur, by rw [Nat.mul_one], hbase, hb, hn, hm, by rw [Nat.mul_one]; exact hs, by rw [Nat.mul_one, Nat.mul_one]; exact ht⟩⟩;rw [<- ht, List.length_take, List.length_drop, Array.length_toList];omega
theorem pR {e : TypeId} {z : Option Value} {XN : Nat} (h : (Try.prog.info? e).map (fun i => (i.zero, i.size, i.bytes)) = some (z, 1, XN)) : (Try.prog.info? e).map (·.size) = some 1 := by
 obtain ⟨i0, hi, hz⟩ := Option.map_eq_some_iff.1 h;simp only [Prod.mk.injEq] at hz;rw [hi];simp [hz.2.1]
theorem run_sizeOf {e : TypeId} {z : Option Value} {XN : Nat} (h : (Try.prog.info? e).map (fun i => (i.zero, i.size, i.bytes)) = some (z, 1, XN)) (w : World) : (Go.sizeOf e).run Try.prog w = .ok 1 w := by
 obtain ⟨i0, hi, hz⟩ := Option.map_eq_some_iff.1 h;simp only [Prod.mk.injEq] at hz;simp [Go.sizeOf, typeInfo, hi, hz.2.1]
theorem vK {w : World} {b E : Nat} {cs : Array Value} (h : w.heap[b]? = some (.cells cs E (0, 0))) : w.shape? b = some (E, cs.size) := by
 simp [World.shape?, h]
theorem cZ {w : World} {b E : Nat} {cs : Array Value} (h : w.heap[b]? = some (.cells cs E (0, 0))) (j : Nat) : w.cell? ⟨b, j, none⟩ = cs[j]? := by
 simp [World.cell?, h]
theorem dI {w : World} {b E : Nat} {cs : Array Value} (h : w.heap[b]? = some (.cells cs E (0, 0))) (j : Nat) : w.frozen? ⟨b, j, none⟩ = false := by
 simp [World.frozen?, h]
theorem jY {α : Type} {l xs : List α} {o n j : Nat} {v : α} (h : (l.drop o).take n = xs) (hj : xs[j]? = some v) : l[o + j]? = some v := by
 subst h;rw [List.getElem?_take] at hj
 split at hj
 ·rwa [List.getElem?_drop] at hj
 ·cases hj
set_option maxHeartbeats 4000000 in
theorem Iz (A : Option Addr) (n c : Nat) (vb vo vc : Nat) (w : World) {v1 : Value} {w1 : World} (hrun : ∀ ty, (Builtin.append_ #[38, 38] ty #[.slice A n c, .slice (some ⟨vb, vo, none⟩) 1 vc]).run Try.prog w = .ok v1 w1) :
  Calls Try.prog 136 #[.slice A n c, .int .i64 (n : Int), .slice (some ⟨vb, vo, none⟩) 1 vc] w fun e w' => e = .returned v1 /\ w' = w1 := by
 go_enter Try.func136, Try.ntmps136
 cases A with
 | none =>
  go_wp2_with (at_builtin; refine Lib.wpList_append_run _ rfl _ _ _ _ rfl _ _ rfl rfl _ _ (hrun _) ?_)
  all_goals (go_ret; exact ⟨rfl, rfl⟩)
 | some a =>
  obtain ⟨ab, ao, asp⟩ := a
  go_wp2_with (at_builtin; refine Lib.wpList_append_run _ rfl _ _ _ _ rfl _ _ rfl rfl _ _ (hrun _) ?_)
  all_goals (go_ret; exact ⟨rfl, rfl⟩)
set_option maxHeartbeats 4000000 in
theorem DF (b off n c i vb vo vc : Nat) (cs : List Value) (x : Value) (w : World) (qy cur : Array Value) (hi : i < n) (hroom : n + 1 <= c) (hc63 : off + c <= maxLen) (hvb : vb ≠ b)
  (yo : w.heap[vb]? = some (.cells qy 9 (0, 0))) (hx : qy[vo]? = some x) (hb : w.heap[b]? = some (.cells cur 9 (0, 0))) (hsz : cur.size = off + c) (hcs : (cur.toList.drop off).take n = cs) (hcl : cs.length = n)
  (h1c : ∀ v ∈ cs, v.oneCell' = true) (h1v : x.oneCell' = true) :
  Calls Try.prog 136 #[.slice (some ⟨b, off, none⟩) n c, .int .i64 (i : Int), .slice (some ⟨vb, vo, none⟩) 1 vc] w fun e w' =>
   e = .returned (.slice (some ⟨b, off, none⟩) (n + 1) c) /\ w' = (w.drew.setCells b (off + (i + 1)) (cs.drop i)).setCells b (off + i) [x] := by
 have hc' : c <= 9223372036854775807 := by unfold maxLen at hc63; omega
 have hn63 : n <= 9223372036854775806 := by omega
 have hsz1 := pR dC
 have hcc : ∀ j v, cs[j]? = some v -> w.cell? ⟨b, off + j, none⟩ = some v := fun j v hj => by
  rw [cZ hb, <- Array.getElem?_toList];exact jY hcs hj
 have hsp : ∀ j, j < n + 1 -> (w.cell? ⟨b, off + j, none⟩).isSome = true := fun j hj => by
  rw [cZ hb, Array.getElem?_eq_getElem (by omega)];rfl
 have hfz : ∀ j, w.frozen? ⟨b, j, none⟩ = false := dI hb
 have hov : ∀ lb cb, (callFunc 143 #[.slice (some ⟨vb, vo, none⟩) 1 vc, .slice (some ⟨b, off + (i + 1), none⟩) lb cb]).run Try.prog w = .ok (.value (.bool false)) w := fun lb cb => by
  rw [run_callFunc_extern Try.func143 (by kernel_rfl) (by kernel_rfl) (by kernel_rfl) (e := Extern.SlicesOverlaps.overlaps #[38, 38] #[4]) (by kernel_rfl),
   Lib.run_overlaps_apart w 38 4 9 Try.underlying38 1 (run_sizeOf dC) ⟨vb, vo, none⟩ ⟨b, off + (i + 1), none⟩ 1 vc lb cb hvb _ _ _ _ (vK yo) (vK hb) (by omega) (dI yo vo) (dI yo _)]
  rfl
 have hdl : (cs.drop i).length = n - i := by rw [List.length_drop, hcl]
 have hz2 : ¬ ((i : Int) = (n : Int)) := by omega
 have hw1 : IntKind.i64.wrap ((i : Int) + 1) = (i : Int) + 1 := by rw [IntKind.wrap_i64]; omega
 have hw2 : IntKind.i64.wrap ((n : Int) + 1) = (n : Int) + 1 := by rw [IntKind.wrap_i64]; omega
 have hb1 : (0 : Int) <= (i : Int) + 1 := by omega
 have hin : i <= n := by omega
 have htn : ((i : Int) + 1).toNat = i + 1 := by omega
 have htn2 : ((n : Int) + 1).toNat = n + 1 := by omega
 have hb2 : ¬ (c = i + 1) := by omega
 have hb3 : (i : Int) <= (n : Int) + 1 := by omega
 have hb4 : ¬ (c = i) := by omega
 have hb5 : ¬ ((c : Int) < (n : Int) + 1) := by omega
 have hcp1 : ∀ ty dc sc, (Builtin.copy_ #[38, 38] ty #[.slice (some ⟨b, off + (i + 1), none⟩) (n - i) dc, .slice (some ⟨b, off + i, none⟩) (n + 1 - i) sc]).run Try.prog w.drew = .ok (goInt (cs.drop i).length) (w.drew.setCells b (off + (i + 1)) (cs.drop i)) := fun ty dc sc =>
  run_copy_cells w.drew _ _ ty 9 b (off + (i + 1)) (n - i) dc ⟨b, off + i, none⟩ (n + 1 - i) sc (cs.drop i) Try.underlying38 hsz1 (by rw [hdl]; simp only [Nat.min_def]; split <;> omega)
   (fun j v hj => by rw [Addr.add_lit, Nat.add_assoc]; exact hcc (i + j) v (by rwa [List.getElem?_drop] at hj))
   (fun j hj => by rw [Nat.add_assoc]; exact hsp _ (by omega)) (fun j hj => hfz _) (fun v hv => h1c v (List.mem_of_mem_drop hv))
 obtain ⟨W1, hW1⟩ : ∃ W1, W1 = w.drew.setCells b (off + (i + 1)) (cs.drop i) := ⟨_, rfl⟩
 obtain ⟨QL, k1, k2, k3⟩ := dX (cs.drop i) (off + (i + 1)) w.drew cur hb (by rw [hdl]; omega);rw [<- hW1] at k1
 have hcp2 : ∀ (W : World), (∀ x, W.cell? x = W1.cell? x) -> (∀ x, W.frozen? x = W1.frozen? x) -> ∀ ty dc, (Builtin.copy_ #[38, 38] ty #[.slice (some ⟨b, off + i, none⟩) (n + 1 - i) dc, .slice (some ⟨vb, vo, none⟩) 1 vc]).run Try.prog W = .ok (goInt 1) (W.setCells b (off + i) [x]) := fun W hWc hWf ty dc =>
  run_copy_cells W _ _ ty 9 b (off + i) (n + 1 - i) dc ⟨vb, vo, none⟩ 1 vc [x] Try.underlying38 hsz1 (by simp only [Nat.min_def, List.length_cons, List.length_nil]; split <;> omega)
   (fun j v hj => by
    cases j with
    | zero =>
     injection hj with hj
     subst hj;rw [Addr.add_lit, hWc, hW1, World.cell?_setCells_out b _ _ _ _ (fun h _ => absurd h hvb)];exact (cZ yo _).trans hx
    | succ j => cases hj)
   (fun j hj => by
    rw [hWc, cZ k1, Array.getElem?_eq_getElem (by simp only [List.length_cons, List.length_nil] at hj; omega)]
    rfl) (fun j hj => by rw [hWf]; exact dI k1 _) (fun v hv => by rw [List.mem_singleton.1 hv]; exact h1v)
 rw [<- hW1] at hcp1;clear hcc hsp hfz k1 k2 k3 h1c h1v yo hb hsz hcs hx;go_enter Try.func136, Try.ntmps136
 go_wp2_with (simp only [hov])
 go_region_law (refine step_copy_runI rfl _ _ 38 38 rfl _ _ (by simp [Act.eval, Act.put]) (by simp [Act.eval, Act.put]) (hcp1 _ _ _) ?_)
 go_wp2_with (at_builtin; refine wpList_copy_runI _ rfl _ _ 38 38 rfl _ _ rfl rfl (hcp2 _ (fun _ => rfl) (fun _ => rfl) _ _) ?_)
 go_ret
 first | exact ⟨rfl, rfl⟩ | exact ⟨rfl, by rw [hW1]⟩
set_option maxHeartbeats 4000000 in
theorem F8 (b off n c i vb vo vc : Nat) (cs : List Value) (x : Value) (w : World) (qy cur : Array Value) (hi : i < n) (hnc : n <= c) (hroom : c < n + 1) (hbig : (n + 1) * 16 <= 140737488355328)
  (yo : w.heap[vb]? = some (.cells qy 9 (0, 0))) (hx : qy[vo]? = some x) (hb : w.heap[b]? = some (.cells cur 9 (0, 0))) (hcs : (cur.toList.drop off).take n = cs) (hcl : cs.length = n)
  (h1c : ∀ v ∈ cs, v.oneCell' = true) (h1v : x.oneCell' = true) :
  Calls Try.prog 136 #[.slice (some ⟨b, off, none⟩) n c, .int .i64 (i : Int), .slice (some ⟨vb, vo, none⟩) 1 vc] w fun e w' =>
   ∃ (G : Nat) (ROW : Array Value), n + 1 <= G /\ G <= maxLen /\ ROW.size = G /\ ROW.toList.take i = cs.take i /\ e = .returned (.slice (some ⟨w.heap.size, 0, none⟩) (n + 1) G) /\
   w' = (((w.alloc (.cells ROW 9)).drew.setCells w.heap.size i [x]).drew).setCells w.heap.size (i + 1) (cs.drop i) := by
 have hn63 : n <= 9223372036854775806 := by omega
 have hsz1 := pR dC;obtain ⟨i0, hi0, hzz⟩ := Option.map_eq_some_iff.1 dC;simp only [Prod.mk.injEq] at hzz;obtain ⟨hz0, hzs, hzb⟩ := hzz;have hbw : b < w.heap.size := gU hb;have hvw : vb < w.heap.size := gU yo
 have hcc : ∀ j v, cs[j]? = some v -> w.cell? ⟨b, off + j, none⟩ = some v := fun j v hj => by
  rw [cZ hb, <- Array.getElem?_toList];exact jY hcs hj
 have hkk : (n : Int) + 1 - (i : Int) = ((n + 1 - i : Nat) : Int) := by omega
 have hik : i + (n + 1 - i) = n + 1 := by omega
 have hold : (Builtin.firstCells i0.size i (.slice (some ⟨b, off, none⟩) i c)).run Try.prog w.drew = .ok (cs.take i).toArray w.drew := by
  rw [hzs]
  exact run_firstCells_some w.drew 1 i ⟨b, off, none⟩ i c (cs.take i) (by rw [List.length_take]; omega) (fun j v hj => by
   rw [Addr.add_lit];rw [List.getElem?_take] at hj
   split at hj
   ·exact hcc j v hj
   ·cases hj)
 obtain ⟨G, hG⟩ : ∃ G, G = grownCap w (n + 1) c 9 := ⟨_, rfl⟩
 have hGn : n + 1 <= G := by rw [hG]; exact grownCap_ge w _ _ _
 have hG63 : G <= maxLen := by rw [hG]; exact grownCap_le_maxLen w (n + 1) c 9 (by unfold maxLen; omega)
 obtain ⟨ROW, hROW⟩ : ∃ ROW : Array Value, ROW = (cs.take i).toArray ++ Builtin.zeroCells (Value.cells (.string ⟨#[]⟩)) (n + 1 - i) ++ Builtin.zeroCells (Value.cells (.string ⟨#[]⟩)) (G - (n + 1)) := ⟨_, rfl⟩
 have hRs : ROW.size = G := by
  rw [hROW];simp [Builtin.zeroCells, Value.cells];omega
 have XO : ROW.toList.take i = cs.take i := by
  have hlt : (cs.take i).length = i := by rw [List.length_take]; omega
  rw [hROW];simp only [Array.toList_append, List.append_assoc];rw [List.take_append_of_le_length (by rw [hlt]; exact Nat.le_refl _), List.take_of_length_le (by rw [hlt]; exact Nat.le_refl _)]
 have hrz : ∀ ty, (Builtin.append_ #[38, 3] ty #[.slice (some ⟨b, off, none⟩) i c, .int .i64 ((n : Int) + 1 - (i : Int))]).run Try.prog w = .ok (.slice (some ⟨w.heap.size, 0, none⟩) (n + 1) G) (w.drew.alloc (.cells ROW 9)) := fun ty => by
  have h := Lib.run_append_grow_zeros w 38 3 ty 9 i0 _ .i64 .i64 Try.underlying38 Try.underlying3 hi0 hz0 (some ⟨b, off, none⟩) i c (cs.take i) hold (n + 1 - i) (by omega) (by omega) (by omega) (by omega) (by rw [hzb]; omega) (by rw [hzb, hik]; exact growslice_fits hroom hbig);rw [hik, <- hG, <- hROW] at h;rw [hkk];exact h
 clear hold hROW hG
 obtain ⟨W1, hW1⟩ : ∃ W1, W1 = w.drew.alloc (.cells ROW 9) := ⟨_, rfl⟩
 rw [<- hW1] at hrz;have hnew : W1.heap[w.heap.size]? = some (.cells ROW 9 (0, 0)) := by rw [hW1]; exact heap_alloc_new w.drew _
 have hbN : b ≠ w.heap.size := by omega
 have hdl : (cs.drop i).length = n - i := by rw [List.length_drop, hcl]
 have QM : ∀ j, W1.cell? ⟨b, j, none⟩ = w.cell? ⟨b, j, none⟩ := fun j => by rw [hW1, World.cell?_alloc_past (w := w.drew) _ b j hbw]; rfl
 have QN : ∀ j, W1.cell? ⟨vb, j, none⟩ = w.cell? ⟨vb, j, none⟩ := fun j => by rw [hW1, World.cell?_alloc_past (w := w.drew) _ vb j hvw]; rfl
 have hcpA : ∀ (W : World), (∀ x, W.cell? x = W1.cell? x) -> (∀ x, W.frozen? x = W1.frozen? x) -> ∀ ty dc, (Builtin.copy_ #[38, 38] ty #[.slice (some ⟨w.heap.size, i, none⟩) (n + 1 - i) dc, .slice (some ⟨vb, vo, none⟩) 1 vc]).run Try.prog W = .ok (goInt 1) (W.setCells w.heap.size i [x]) := fun W hWc hWf ty dc =>
  run_copy_cells W _ _ ty 9 w.heap.size i (n + 1 - i) dc ⟨vb, vo, none⟩ 1 vc [x] Try.underlying38 hsz1 (by simp only [Nat.min_def, List.length_cons, List.length_nil]; split <;> omega)
   (fun j v hj => by
    cases j with
    | zero =>
     injection hj with hj
     subst hj;rw [Addr.add_lit, hWc, QN];exact (cZ yo _).trans hx
    | succ j => cases hj)
   (fun j hj => by
    rw [hWc, cZ hnew, Array.getElem?_eq_getElem (by simp only [List.length_cons, List.length_nil] at hj; omega)]
    rfl) (fun j hj => by rw [hWf]; exact dI hnew _) (fun v hv => by rw [List.mem_singleton.1 hv]; exact h1v)
 obtain ⟨QL, k1, k2, k3⟩ := dX [x] i W1 ROW hnew (by simp only [List.length_cons, List.length_nil]; omega)
 have hcpB : ∀ (W : World), (∀ x_, W.cell? x_ = (W1.setCells w.heap.size i [x]).cell? x_) -> (∀ x_, W.frozen? x_ = (W1.setCells w.heap.size i [x]).frozen? x_) -> ∀ ty dc sc, (Builtin.copy_ #[38, 38] ty #[.slice (some ⟨w.heap.size, i + 1, none⟩) (n - i) dc, .slice (some ⟨b, off + i, none⟩) (n - i) sc]).run Try.prog W = .ok (goInt (cs.drop i).length) (W.setCells w.heap.size (i + 1) (cs.drop i)) := fun W hWc hWf ty dc sc =>
  run_copy_cells W _ _ ty 9 w.heap.size (i + 1) (n - i) dc ⟨b, off + i, none⟩ (n - i) sc (cs.drop i) Try.underlying38 hsz1 (by rw [hdl]; simp only [Nat.min_def]; split <;> omega)
   (fun j v hj => by
    rw [Addr.add_lit, hWc, World.cell?_setCells_out _ _ _ _ _ (fun h _ => absurd h hbN), QM, Nat.add_assoc]
    exact hcc (i + j) v (by rwa [List.getElem?_drop] at hj))
   (fun j hj => by
    rw [hWc, cZ k1, Array.getElem?_eq_getElem (by omega)]
    rfl)
   (fun j hj => by rw [hWf]; exact dI k1 _) (fun v hv => h1c v (List.mem_of_mem_drop hv))
 subst hW1
 have hE1 : ∀ x, ((w.alloc (.cells ROW 9)).drew).cell? x = (w.drew.alloc (.cells ROW 9)).cell? x := fun x => rfl
 have hE2 : ∀ x, ((w.alloc (.cells ROW 9)).drew).frozen? x = (w.drew.alloc (.cells ROW 9)).frozen? x := fun x => rfl
 have hF1 : ∀ x_, (((w.alloc (.cells ROW 9)).drew.setCells w.heap.size i [x]).drew).cell? x_ = ((w.drew.alloc (.cells ROW 9)).setCells w.heap.size i [x]).cell? x_ := fun x => rfl
 have hF2 : ∀ x_, (((w.alloc (.cells ROW 9)).drew.setCells w.heap.size i [x]).drew).frozen? x_ = ((w.drew.alloc (.cells ROW 9)).setCells w.heap.size i [x]).frozen? x_ := fun x => rfl
 have hz2 : ¬ ((i : Int) = (n : Int)) := by omega
 have hz3 : (c : Int) < (n : Int) + 1 := by omega
 have hw1 : IntKind.i64.wrap ((i : Int) + 1) = (i : Int) + 1 := by rw [IntKind.wrap_i64]; omega
 have hw2 : IntKind.i64.wrap ((n : Int) + 1) = (n : Int) + 1 := by rw [IntKind.wrap_i64]; omega
 have hw3 : IntKind.i64.wrap ((n : Int) + 1 - (i : Int)) = (n : Int) + 1 - (i : Int) := by rw [IntKind.wrap_i64]; omega
 have hb1 : (0 : Int) <= (i : Int) + 1 := by omega
 have hin : i <= n := by omega
 have htn : ((i : Int) + 1).toNat = i + 1 := by omega
 have hb3 : (i : Int) <= (n : Int) := by omega
 have hGi : ¬ (G = i) := by omega
 have hGim : ¬ (G = i + 1) := by omega
 have hci : ¬ (c = i) := by omega
 have Zv : G <= 9223372036854775807 := by unfold maxLen at hG63; omega
 have HX := A_ (show n + 1 <= G /\ G <= maxLen /\ ROW.size = G /\ ROW.toList.take i = cs.take i from ⟨hGn, hG63, hRs, XO⟩);clear hkk hik hcc hRs XO hnew QM QN k1 k2 k3 yo hx hb hcs h1c h1v hG63;go_enter Try.func136, Try.ntmps136
 go_wp2_with (first
  | (at_builtin; refine Lib.wpList_append_run _ rfl _ _ _ _ rfl _ _ rfl rfl _ _ (hrz _) ?_)
  | (at_builtin; refine wpList_copy_runI _ rfl _ _ 38 38 rfl _ _ rfl rfl (hcpA _ hE1 hE2 _ _) ?_)
  | (at_builtin; refine wpList_copy_runI _ rfl _ _ 38 38 rfl _ _ rfl rfl (hcpB _ (fun _ => rfl) (fun _ => rfl) _ _ _) ?_))
 go_region_law (refine step_copy_runI rfl _ _ 38 38 rfl (.slice (some ⟨w.heap.size, i + 1, none⟩) (n - i) (G - (i + 1))) (.slice (some ⟨b, off + i, none⟩) (n - i) (c - i)) (by simp [Act.eval, Act.put]) (by simp [Act.eval, Act.put]) (hcpB _ hF1 hF2 3 (G - (i + 1)) (c - i)) ?_)
 go_wp2;go_ret;exact ⟨G, ROW, HX.out.1, HX.out.2.1, HX.out.2.2.1, HX.out.2.2.2, rfl, rfl⟩
set_option maxHeartbeats 4000000 in
theorem IA (A : Option Addr) (n c : Nat) (vb vo vc : Nat) (w : World) {v1 : Value} {w1 : World} (hrun : ∀ ty, (Builtin.append_ #[99, 99] ty #[.slice A n c, .slice (some ⟨vb, vo, none⟩) 1 vc]).run Try.prog w = .ok v1 w1) :
  Calls Try.prog 128 #[.slice A n c, .int .i64 (n : Int), .slice (some ⟨vb, vo, none⟩) 1 vc] w fun e w' => e = .returned v1 /\ w' = w1 := by
 go_enter Try.func128, Try.ntmps128
 cases A with
 | none =>
  go_wp2_with (at_builtin; refine Lib.wpList_append_run _ rfl _ _ _ _ rfl _ _ rfl rfl _ _ (hrun _) ?_)
  all_goals (go_ret; exact ⟨rfl, rfl⟩)
 | some a =>
  obtain ⟨ab, ao, asp⟩ := a
  go_wp2_with (at_builtin; refine Lib.wpList_append_run _ rfl _ _ _ _ rfl _ _ rfl rfl _ _ (hrun _) ?_)
  all_goals (go_ret; exact ⟨rfl, rfl⟩)
set_option maxHeartbeats 4000000 in
theorem DI (b off n c i vb vo vc : Nat) (cs : List Value) (x : Value) (w : World) (qy cur : Array Value) (hi : i < n) (hroom : n + 1 <= c) (hc63 : off + c <= maxLen) (hvb : vb ≠ b)
  (yo : w.heap[vb]? = some (.cells qy 74 (0, 0))) (hx : qy[vo]? = some x) (hb : w.heap[b]? = some (.cells cur 74 (0, 0))) (hsz : cur.size = off + c) (hcs : (cur.toList.drop off).take n = cs) (hcl : cs.length = n)
  (h1c : ∀ v ∈ cs, v.oneCell' = true) (h1v : x.oneCell' = true) :
  Calls Try.prog 128 #[.slice (some ⟨b, off, none⟩) n c, .int .i64 (i : Int), .slice (some ⟨vb, vo, none⟩) 1 vc] w fun e w' =>
   e = .returned (.slice (some ⟨b, off, none⟩) (n + 1) c) /\ w' = (w.drew.setCells b (off + (i + 1)) (cs.drop i)).setCells b (off + i) [x] := by
 have hc' : c <= 9223372036854775807 := by unfold maxLen at hc63; omega
 have hn63 : n <= 9223372036854775806 := by omega
 have hsz1 := pR kZ
 have hcc : ∀ j v, cs[j]? = some v -> w.cell? ⟨b, off + j, none⟩ = some v := fun j v hj => by
  rw [cZ hb, <- Array.getElem?_toList];exact jY hcs hj
 have hsp : ∀ j, j < n + 1 -> (w.cell? ⟨b, off + j, none⟩).isSome = true := fun j hj => by
  rw [cZ hb, Array.getElem?_eq_getElem (by omega)];rfl
 have hfz : ∀ j, w.frozen? ⟨b, j, none⟩ = false := dI hb
 have hov : ∀ lb cb, (callFunc 137 #[.slice (some ⟨vb, vo, none⟩) 1 vc, .slice (some ⟨b, off + (i + 1), none⟩) lb cb]).run Try.prog w = .ok (.value (.bool false)) w := fun lb cb => by
  rw [run_callFunc_extern Try.func137 (by kernel_rfl) (by kernel_rfl) (by kernel_rfl) (e := Extern.SlicesOverlaps.overlaps #[99, 99] #[4]) (by kernel_rfl),
   Lib.run_overlaps_apart w 99 4 74 Try.underlying99 1 (run_sizeOf kZ) ⟨vb, vo, none⟩ ⟨b, off + (i + 1), none⟩ 1 vc lb cb hvb _ _ _ _ (vK yo) (vK hb) (by omega) (dI yo vo) (dI yo _)]
  rfl
 have hdl : (cs.drop i).length = n - i := by rw [List.length_drop, hcl]
 have hz2 : ¬ ((i : Int) = (n : Int)) := by omega
 have hw1 : IntKind.i64.wrap ((i : Int) + 1) = (i : Int) + 1 := by rw [IntKind.wrap_i64]; omega
 have hw2 : IntKind.i64.wrap ((n : Int) + 1) = (n : Int) + 1 := by rw [IntKind.wrap_i64]; omega
 have hb1 : (0 : Int) <= (i : Int) + 1 := by omega
 have hin : i <= n := by omega
 have htn : ((i : Int) + 1).toNat = i + 1 := by omega
 have htn2 : ((n : Int) + 1).toNat = n + 1 := by omega
 have hb2 : ¬ (c = i + 1) := by omega
 have hb3 : (i : Int) <= (n : Int) + 1 := by omega
 have hb4 : ¬ (c = i) := by omega
 have hb5 : ¬ ((c : Int) < (n : Int) + 1) := by omega
 have hcp1 : ∀ ty dc sc, (Builtin.copy_ #[99, 99] ty #[.slice (some ⟨b, off + (i + 1), none⟩) (n - i) dc, .slice (some ⟨b, off + i, none⟩) (n + 1 - i) sc]).run Try.prog w.drew = .ok (goInt (cs.drop i).length) (w.drew.setCells b (off + (i + 1)) (cs.drop i)) := fun ty dc sc =>
  run_copy_cells w.drew _ _ ty 74 b (off + (i + 1)) (n - i) dc ⟨b, off + i, none⟩ (n + 1 - i) sc (cs.drop i) Try.underlying99 hsz1 (by rw [hdl]; simp only [Nat.min_def]; split <;> omega)
   (fun j v hj => by rw [Addr.add_lit, Nat.add_assoc]; exact hcc (i + j) v (by rwa [List.getElem?_drop] at hj))
   (fun j hj => by rw [Nat.add_assoc]; exact hsp _ (by omega)) (fun j hj => hfz _) (fun v hv => h1c v (List.mem_of_mem_drop hv))
 obtain ⟨W1, hW1⟩ : ∃ W1, W1 = w.drew.setCells b (off + (i + 1)) (cs.drop i) := ⟨_, rfl⟩
 obtain ⟨QL, k1, k2, k3⟩ := dX (cs.drop i) (off + (i + 1)) w.drew cur hb (by rw [hdl]; omega);rw [<- hW1] at k1
 have hcp2 : ∀ (W : World), (∀ x, W.cell? x = W1.cell? x) -> (∀ x, W.frozen? x = W1.frozen? x) -> ∀ ty dc, (Builtin.copy_ #[99, 99] ty #[.slice (some ⟨b, off + i, none⟩) (n + 1 - i) dc, .slice (some ⟨vb, vo, none⟩) 1 vc]).run Try.prog W = .ok (goInt 1) (W.setCells b (off + i) [x]) := fun W hWc hWf ty dc =>
  run_copy_cells W _ _ ty 74 b (off + i) (n + 1 - i) dc ⟨vb, vo, none⟩ 1 vc [x] Try.underlying99 hsz1 (by simp only [Nat.min_def, List.length_cons, List.length_nil]; split <;> omega)
   (fun j v hj => by
    cases j with
    | zero =>
     injection hj with hj
     subst hj;rw [Addr.add_lit, hWc, hW1, World.cell?_setCells_out b _ _ _ _ (fun h _ => absurd h hvb)];exact (cZ yo _).trans hx
    | succ j => cases hj)
   (fun j hj => by
    rw [hWc, cZ k1, Array.getElem?_eq_getElem (by simp only [List.length_cons, List.length_nil] at hj; omega)]
    rfl) (fun j hj => by rw [hWf]; exact dI k1 _) (fun v hv => by rw [List.mem_singleton.1 hv]; exact h1v)
 rw [<- hW1] at hcp1;clear hcc hsp hfz k1 k2 k3 h1c h1v yo hb hsz hcs hx;go_enter Try.func128, Try.ntmps128
 go_wp2_with (simp only [hov])
 go_region_law (refine step_copy_runI rfl _ _ 99 99 rfl _ _ (by simp [Act.eval, Act.put]) (by simp [Act.eval, Act.put]) (hcp1 _ _ _) ?_)
 go_wp2_with (at_builtin; refine wpList_copy_runI _ rfl _ _ 99 99 rfl _ _ rfl rfl (hcp2 _ (fun _ => rfl) (fun _ => rfl) _ _) ?_)
 go_ret
 first | exact ⟨rfl, rfl⟩ | exact ⟨rfl, by rw [hW1]⟩
set_option maxHeartbeats 4000000 in
theorem F9 (b off n c i vb vo vc : Nat) (cs : List Value) (x : Value) (w : World) (qy cur : Array Value) (hi : i < n) (hnc : n <= c) (hroom : c < n + 1) (hbig : (n + 1) * 8 <= 140737488355328)
  (yo : w.heap[vb]? = some (.cells qy 74 (0, 0))) (hx : qy[vo]? = some x) (hb : w.heap[b]? = some (.cells cur 74 (0, 0))) (hcs : (cur.toList.drop off).take n = cs) (hcl : cs.length = n)
  (h1c : ∀ v ∈ cs, v.oneCell' = true) (h1v : x.oneCell' = true) :
  Calls Try.prog 128 #[.slice (some ⟨b, off, none⟩) n c, .int .i64 (i : Int), .slice (some ⟨vb, vo, none⟩) 1 vc] w fun e w' =>
   ∃ (G : Nat) (ROW : Array Value), n + 1 <= G /\ G <= maxLen /\ ROW.size = G /\ ROW.toList.take i = cs.take i /\ e = .returned (.slice (some ⟨w.heap.size, 0, none⟩) (n + 1) G) /\
   w' = (((w.alloc (.cells ROW 74)).drew.setCells w.heap.size i [x]).drew).setCells w.heap.size (i + 1) (cs.drop i) := by
 have hn63 : n <= 9223372036854775806 := by omega
 have hsz1 := pR kZ;obtain ⟨i0, hi0, hzz⟩ := Option.map_eq_some_iff.1 kZ;simp only [Prod.mk.injEq] at hzz;obtain ⟨hz0, hzs, hzb⟩ := hzz;have hbw : b < w.heap.size := gU hb;have hvw : vb < w.heap.size := gU yo
 have hcc : ∀ j v, cs[j]? = some v -> w.cell? ⟨b, off + j, none⟩ = some v := fun j v hj => by
  rw [cZ hb, <- Array.getElem?_toList];exact jY hcs hj
 have hkk : (n : Int) + 1 - (i : Int) = ((n + 1 - i : Nat) : Int) := by omega
 have hik : i + (n + 1 - i) = n + 1 := by omega
 have hold : (Builtin.firstCells i0.size i (.slice (some ⟨b, off, none⟩) i c)).run Try.prog w.drew = .ok (cs.take i).toArray w.drew := by
  rw [hzs]
  exact run_firstCells_some w.drew 1 i ⟨b, off, none⟩ i c (cs.take i) (by rw [List.length_take]; omega) (fun j v hj => by
   rw [Addr.add_lit];rw [List.getElem?_take] at hj
   split at hj
   ·exact hcc j v hj
   ·cases hj)
 obtain ⟨G, hG⟩ : ∃ G, G = grownCap w (n + 1) c 74 := ⟨_, rfl⟩
 have hGn : n + 1 <= G := by rw [hG]; exact grownCap_ge w _ _ _
 have hG63 : G <= maxLen := by rw [hG]; exact grownCap_le_maxLen w (n + 1) c 74 (by unfold maxLen; omega)
 obtain ⟨ROW, hROW⟩ : ∃ ROW : Array Value, ROW = (cs.take i).toArray ++ Builtin.zeroCells (Value.cells (.pointer none)) (n + 1 - i) ++ Builtin.zeroCells (Value.cells (.pointer none)) (G - (n + 1)) := ⟨_, rfl⟩
 have hRs : ROW.size = G := by
  rw [hROW];simp [Builtin.zeroCells, Value.cells];omega
 have XO : ROW.toList.take i = cs.take i := by
  have hlt : (cs.take i).length = i := by rw [List.length_take]; omega
  rw [hROW];simp only [Array.toList_append, List.append_assoc];rw [List.take_append_of_le_length (by rw [hlt]; exact Nat.le_refl _), List.take_of_length_le (by rw [hlt]; exact Nat.le_refl _)]
 have hrz : ∀ ty, (Builtin.append_ #[99, 3] ty #[.slice (some ⟨b, off, none⟩) i c, .int .i64 ((n : Int) + 1 - (i : Int))]).run Try.prog w = .ok (.slice (some ⟨w.heap.size, 0, none⟩) (n + 1) G) (w.drew.alloc (.cells ROW 74)) := fun ty => by
  have h := Lib.run_append_grow_zeros w 99 3 ty 74 i0 _ .i64 .i64 Try.underlying99 Try.underlying3 hi0 hz0 (some ⟨b, off, none⟩) i c (cs.take i) hold (n + 1 - i) (by omega) (by omega) (by omega) (by omega) (by rw [hzb]; omega) (by rw [hzb, hik]; exact growslice_fits hroom hbig);rw [hik, <- hG, <- hROW] at h;rw [hkk];exact h
 clear hold hROW hG
 obtain ⟨W1, hW1⟩ : ∃ W1, W1 = w.drew.alloc (.cells ROW 74) := ⟨_, rfl⟩
 rw [<- hW1] at hrz;have hnew : W1.heap[w.heap.size]? = some (.cells ROW 74 (0, 0)) := by rw [hW1]; exact heap_alloc_new w.drew _
 have hbN : b ≠ w.heap.size := by omega
 have hdl : (cs.drop i).length = n - i := by rw [List.length_drop, hcl]
 have QM : ∀ j, W1.cell? ⟨b, j, none⟩ = w.cell? ⟨b, j, none⟩ := fun j => by rw [hW1, World.cell?_alloc_past (w := w.drew) _ b j hbw]; rfl
 have QN : ∀ j, W1.cell? ⟨vb, j, none⟩ = w.cell? ⟨vb, j, none⟩ := fun j => by rw [hW1, World.cell?_alloc_past (w := w.drew) _ vb j hvw]; rfl
 have hcpA : ∀ (W : World), (∀ x, W.cell? x = W1.cell? x) -> (∀ x, W.frozen? x = W1.frozen? x) -> ∀ ty dc, (Builtin.copy_ #[99, 99] ty #[.slice (some ⟨w.heap.size, i, none⟩) (n + 1 - i) dc, .slice (some ⟨vb, vo, none⟩) 1 vc]).run Try.prog W = .ok (goInt 1) (W.setCells w.heap.size i [x]) := fun W hWc hWf ty dc =>
  run_copy_cells W _ _ ty 74 w.heap.size i (n + 1 - i) dc ⟨vb, vo, none⟩ 1 vc [x] Try.underlying99 hsz1 (by simp only [Nat.min_def, List.length_cons, List.length_nil]; split <;> omega)
   (fun j v hj => by
    cases j with
    | zero =>
     injection hj with hj
     subst hj;rw [Addr.add_lit, hWc, QN];exact (cZ yo _).trans hx
    | succ j => cases hj)
   (fun j hj => by
    rw [hWc, cZ hnew, Array.getElem?_eq_getElem (by simp only [List.length_cons, List.length_nil] at hj; omega)]
    rfl) (fun j hj => by rw [hWf]; exact dI hnew _) (fun v hv => by rw [List.mem_singleton.1 hv]; exact h1v)
 obtain ⟨QL, k1, k2, k3⟩ := dX [x] i W1 ROW hnew (by simp only [List.length_cons, List.length_nil]; omega)
 have hcpB : ∀ (W : World), (∀ x_, W.cell? x_ = (W1.setCells w.heap.size i [x]).cell? x_) -> (∀ x_, W.frozen? x_ = (W1.setCells w.heap.size i [x]).frozen? x_) -> ∀ ty dc sc, (Builtin.copy_ #[99, 99] ty #[.slice (some ⟨w.heap.size, i + 1, none⟩) (n - i) dc, .slice (some ⟨b, off + i, none⟩) (n - i) sc]).run Try.prog W = .ok (goInt (cs.drop i).length) (W.setCells w.heap.size (i + 1) (cs.drop i)) := fun W hWc hWf ty dc sc =>
  run_copy_cells W _ _ ty 74 w.heap.size (i + 1) (n - i) dc ⟨b, off + i, none⟩ (n - i) sc (cs.drop i) Try.underlying99 hsz1 (by rw [hdl]; simp only [Nat.min_def]; split <;> omega)
   (fun j v hj => by
    rw [Addr.add_lit, hWc, World.cell?_setCells_out _ _ _ _ _ (fun h _ => absurd h hbN), QM, Nat.add_assoc]
    exact hcc (i + j) v (by rwa [List.getElem?_drop] at hj))
   (fun j hj => by
    rw [hWc, cZ k1, Array.getElem?_eq_getElem (by omega)]
    rfl)
   (fun j hj => by rw [hWf]; exact dI k1 _) (fun v hv => h1c v (List.mem_of_mem_drop hv))
 subst hW1
 have hE1 : ∀ x, ((w.alloc (.cells ROW 74)).drew).cell? x = (w.drew.alloc (.cells ROW 74)).cell? x := fun x => rfl
 have hE2 : ∀ x, ((w.alloc (.cells ROW 74)).drew).frozen? x = (w.drew.alloc (.cells ROW 74)).frozen? x := fun x => rfl
 have hF1 : ∀ x_, (((w.alloc (.cells ROW 74)).drew.setCells w.heap.size i [x]).drew).cell? x_ = ((w.drew.alloc (.cells ROW 74)).setCells w.heap.size i [x]).cell? x_ := fun x => rfl
 have hF2 : ∀ x_, (((w.alloc (.cells ROW 74)).drew.setCells w.heap.size i [x]).drew).frozen? x_ = ((w.drew.alloc (.cells ROW 74)).setCells w.heap.size i [x]).frozen? x_ := fun x => rfl
 have hz2 : ¬ ((i : Int) = (n : Int)) := by omega
 have hz3 : (c : Int) < (n : Int) + 1 := by omega
 have hw1 : IntKind.i64.wrap ((i : Int) + 1) = (i : Int) + 1 := by rw [IntKind.wrap_i64]; omega
 have hw2 : IntKind.i64.wrap ((n : Int) + 1) = (n : Int) + 1 := by rw [IntKind.wrap_i64]; omega
 have hw3 : IntKind.i64.wrap ((n : Int) + 1 - (i : Int)) = (n : Int) + 1 - (i : Int) := by rw [IntKind.wrap_i64]; omega
 have hb1 : (0 : Int) <= (i : Int) + 1 := by omega
 have hin : i <= n := by omega
 have htn : ((i : Int) + 1).toNat = i + 1 := by omega
 have hb3 : (i : Int) <= (n : Int) := by omega
 have hGi : ¬ (G = i) := by omega
 have hGim : ¬ (G = i + 1) := by omega
 have hci : ¬ (c = i) := by omega
 have Zv : G <= 9223372036854775807 := by unfold maxLen at hG63; omega
 have HX := A_ (show n + 1 <= G /\ G <= maxLen /\ ROW.size = G /\ ROW.toList.take i = cs.take i from ⟨hGn, hG63, hRs, XO⟩);clear hkk hik hcc hRs XO hnew QM QN k1 k2 k3 yo hx hb hcs h1c h1v hG63;go_enter Try.func128, Try.ntmps128
 go_wp2_with (first
  | (at_builtin; refine Lib.wpList_append_run _ rfl _ _ _ _ rfl _ _ rfl rfl _ _ (hrz _) ?_)
  | (at_builtin; refine wpList_copy_runI _ rfl _ _ 99 99 rfl _ _ rfl rfl (hcpA _ hE1 hE2 _ _) ?_)
  | (at_builtin; refine wpList_copy_runI _ rfl _ _ 99 99 rfl _ _ rfl rfl (hcpB _ (fun _ => rfl) (fun _ => rfl) _ _ _) ?_))
 go_region_law (refine step_copy_runI rfl _ _ 99 99 rfl (.slice (some ⟨w.heap.size, i + 1, none⟩) (n - i) (G - (i + 1))) (.slice (some ⟨b, off + i, none⟩) (n - i) (c - i)) (by simp [Act.eval, Act.put]) (by simp [Act.eval, Act.put]) (hcpB _ hF1 hF2 3 (G - (i + 1)) (c - i)) ?_)
 go_wp2;go_ret;exact ⟨G, ROW, HX.out.1, HX.out.2.1, HX.out.2.2.1, HX.out.2.2.2, rfl, rfl⟩
theorem iq (w : World) (b o : Nat) (vs : List Value) : w.grownBy (w.setCells b o vs) (some b) := by
 obtain ⟨h1, h2, h3, h4⟩ := lY b vs o w;exact ⟨h1, h2, h3, by omega, fun k _ hk => nz vs o k fun e => hk (by rw [e])⟩
theorem tK (w : World) (row : Option Nat) : w.grownBy w.drew row := ⟨rfl, rfl, rfl, Nat.le_refl _, fun _ _ _ => rfl⟩
theorem Nh {α : Type} {R cs D : List α} {x : α} {i n : Nat} (h : R.take i = cs.take i) (hn : cs.length = n) (hi : i <= n) :
  ((R.take i ++ [x] ++ D).take (i + 1) ++ cs.drop i ++ (R.take i ++ [x] ++ D).drop (i + 1 + (cs.drop i).length)).take (n + 1) = aI cs i x := by
 have hl : (cs.take i ++ [x]).length = i + 1 := by rw [List.length_append, List.length_take]; simp only [List.length_cons, List.length_nil]; omega
 have h2 : (cs.take i ++ [x] ++ D).take (i + 1) = cs.take i ++ [x] := by rw [<- hl]; exact List.take_left
 rw [h, h2];have e : cs.take i ++ [x] ++ cs.drop i = aI cs i x := by unfold aI; rw [List.append_assoc]; rfl
 rw [e, <- hn, <- gu x (hn ▸ hi)];exact List.take_left
theorem Mg {w : World} {base E : Nat} {lv x : Value} (h : w.ownsRow base E 1 lv 1 [x]) : ∃ vb vc qy, lv = .slice (some ⟨vb, 0, none⟩) 1 vc /\ w.heap[vb]? = some (.cells qy E (0, 0)) /\ qy[0]? = some x := by
 rcases h.2 with ⟨_, h0⟩ | ⟨g, cap, cur, rfl, _, hh, _, _, _, ht⟩
 ·omega
 ·refine ⟨g, cap, cur, rfl, hh, ?_⟩
  rw [Nat.mul_one] at ht;rw [<- Array.getElem?_toList];have := congrArg (fun l => l[0]?) ht;simp only [List.getElem?_take] at this;simpa using this
theorem IB {w : World} {vb E : Nat} {qy : Array Value} {x : Value} (yo : w.heap[vb]? = some (.cells qy E (0, 0))) (hx : qy[0]? = some x) : ∀ j u, [x][j]? = some u -> w.cell? ((⟨vb, 0, none⟩ : Addr).add j) = some u := fun j u hj => by
 cases j with
 | zero =>
  injection hj with hj
  subst hj;rw [Addr.add_lit];exact (cZ yo _).trans hx
 | succ j => cases hj
theorem IC {w : World} {base E n G i : Nat} {ROW : Array Value} {cs : List Value} {x : Value} (hbase : base <= w.heap.size) (hi : i <= n) (hcl : cs.length = n) (h1 : n + 1 <= G) (h2 : G <= maxLen) (h3 : ROW.size = G) (h4 : ROW.toList.take i = cs.take i) :
  ((((w.alloc (.cells ROW E)).drew.setCells w.heap.size i [x]).drew).setCells w.heap.size (i + 1) (cs.drop i)).ownsRow base E 1 (.slice (some ⟨w.heap.size, 0, none⟩) (n + 1) G) (n + 1) (aI cs i x) /\
  ∀ row, w.grownBy ((((w.alloc (.cells ROW E)).drew.setCells w.heap.size i [x]).drew).setCells w.heap.size (i + 1) (cs.drop i)) row := by
 have hnew : (w.alloc (.cells ROW E)).drew.heap[w.heap.size]? = some (.cells ROW E (0, 0)) := heap_alloc_new w _;have hdl : (cs.drop i).length = n - i := by rw [List.length_drop, hcl]
 obtain ⟨c1, k1, k2, k3⟩ := dX [x] i _ ROW hnew (by simp only [List.length_cons, List.length_nil]; omega);obtain ⟨c2, k4, k5, k6⟩ := dX (cs.drop i) (i + 1) (((w.alloc (.cells ROW E)).drew.setCells w.heap.size i [x]).drew) c1 k1 (by omega);refine ⟨⟨by rw [gu x (by omega)]; omega, .inr ⟨_, G, c2, rfl, hbase, k4, h1, h2, by omega, ?_⟩⟩, fun row => ?_⟩
 ·rw [Nat.mul_one, k6, k3]
  exact Nh h4 hcl hi
 ·obtain ⟨a1, a2, a3, a4⟩ := lY w.heap.size [x] i (w.alloc (.cells ROW E)).drew
  obtain ⟨b1, b2, b3, b4⟩ := lY w.heap.size (cs.drop i) (i + 1) (((w.alloc (.cells ROW E)).drew.setCells w.heap.size i [x]).drew);refine ⟨b1.trans a1, b2.trans a2, b3.trans a3, ?_, fun k hk _ => ?_⟩
  ·rw [b4]
   show w.heap.size <= ((w.alloc (.cells ROW E)).drew.setCells w.heap.size i [x]).heap.size;rw [a4];show w.heap.size <= (w.alloc (.cells ROW E)).heap.size;simp
  ·rw [nz _ _ k (by omega)]
   show ((w.alloc (.cells ROW E)).drew.setCells w.heap.size i [x]).heap[k]? = _;rw [nz _ _ k (by omega)];exact (World.grownBy_alloc w (.cells ROW E) none).block k hk (by simp)
theorem yc {w : World} {base b E n c : Nat} {cur : Array Value} {xs : List Value} (hb : w.heap[b]? = some (.cells cur E (0, 0))) (hs : cur.size = 0 + c) (ht : (cur.toList.drop 0).take n = xs) (hn : n <= c) (hm : 0 + c <= maxLen) (hbase : base <= b) : w.ownsRow base E 1 (.slice (some ⟨b, 0, none⟩) n c) n xs := by
 refine ⟨?_, .inr ⟨b, c, cur, rfl, hbase, hb, hn, by omega, by omega, by rw [Nat.mul_one]; exact ht⟩⟩;rw [<- ht, List.length_take, List.length_drop, Array.length_toList];omega
theorem RV {base n c i : Nat} {A : Option Addr} {cs : List Value} {lv x : Value} {w : World} (hq : w.ownsRow base 9 1 (.slice A n c) n cs) (hl : w.ownsRow base 9 1 lv 1 [x]) (hne : ∀ k, (Value.slice A n c).ownBlock = some k -> lv.ownBlock ≠ some k)
  (hi : i <= n) (hbase : base <= w.heap.size) (hbig : (n + 1) * 16 <= 140737488355328) (h1c : ∀ v ∈ cs, v.oneCell' = true) (h1v : x.oneCell' = true) :
  Calls Try.prog 136 #[.slice A n c, .int .i64 (i : Int), lv] w fun e w' => ∃ A' c', e = .returned (.slice A' (n + 1) c') /\ w'.ownsRow base 9 1 (.slice A' (n + 1) c') (n + 1) (aI cs i x) /\ w.grownBy w' (Value.slice A n c).ownBlock /\
   ((Value.slice A' (n + 1) c').ownBlock = (Value.slice A n c).ownBlock \/ ∃ b, (Value.slice A' (n + 1) c').ownBlock = some b /\ w.heap.size <= b) := by
 obtain ⟨vb, vc, qy, rfl, yo, hx⟩ := Mg hl;have hcl : cs.length = n := by rw [hq.1, Nat.mul_one]
 obtain ⟨i0, hi0, hzz⟩ := Option.map_eq_some_iff.1 dC;simp only [Prod.mk.injEq] at hzz;obtain ⟨hz0, hzs, hzb⟩ := hzz
 rcases Nat.lt_or_ge i n with hin | hin
 ·rcases hq.2 with ⟨_, h0⟩ | ⟨b, cap, cur, e, hbb, hb, hnc, hmx, hsz, ht⟩
  ·omega
  injection e with e1 e2 e3
  subst e1 e3;rw [Nat.mul_one] at hsz ht;replace hmx : 0 + c <= maxLen := by omega
  replace hsz : cur.size = 0 + c := by omega
  rw [show cur.toList = cur.toList.drop 0 from rfl] at ht
  have hvb : vb ≠ b := fun e => hne b rfl (by rw [e]; rfl)
  rcases Nat.lt_or_ge c (n + 1) with hroom | hroom
  ·refine (F8 b 0 n c i vb 0 vc cs x w qy cur hin hnc hroom hbig yo hx hb ht hcl h1c h1v).mono ?_
   rintro e w' ⟨G, ROW, g1, g2, g3, g4, rfl, rfl⟩;obtain ⟨o1, o2⟩ := IC (E := 9) (x := x) hbase hi hcl g1 g2 g3 g4;exact ⟨_, _, rfl,  o1, o2 _, .inr ⟨_, rfl, Nat.le_refl _⟩⟩
  ·refine (DF b 0 n c i vb 0 vc cs x w qy cur hin hroom hmx hvb yo hx hb hsz ht hcl h1c h1v).mono ?_
   rintro e w' ⟨rfl, rfl⟩;obtain ⟨Vf, j1, j2, j3⟩ := EN (w := w.drew) (x := x) hb hsz ht hroom hin;refine ⟨_, _, rfl, yc j1 j2 j3 hroom hmx hbb, ?_, .inl rfl⟩;exact ((tK w _).trans (iq _ _ _ _)).trans (iq _ _ _ _)
 ·obtain rfl : i = n := Nat.le_antisymm hi hin
  have hnews := IB yo hx
  have Zw : ∀ u ∈ [x], u.oneCell' = true := fun u hu => by rw [List.mem_singleton.1 hu]; exact h1v
  have QO := fun ty => run_append_own_at (P := Try.prog) w base 38 ty 9 i0 (.string ⟨#[]⟩) 1 16 Try.underlying38 hi0 hz0 hzs hzb rfl (by decide) (.slice A i c) i cs hq ⟨vb, 0, none⟩ 1 vc [x] rfl hnews Zw (by unfold maxLen; omega) hbig hbase
  obtain ⟨v1, w1, hrun, ho, hg, _, hat0⟩ := QO 0
  have hrun : ∀ ty, (Builtin.append_ #[38, 38] ty #[.slice A i c, .slice (some ⟨vb, 0, none⟩) 1 vc]).run Try.prog w = .ok v1 w1 := fun ty => hrun
  have hat : v1.ownBlock = (Value.slice A i c).ownBlock \/ ∃ b, v1.ownBlock = some b /\ w.heap.size <= b := hat0.imp id fun h => ⟨_, h, Nat.le_refl _⟩
  have Zx : aI cs i x = cs ++ [x] := by unfold aI; rw [List.take_of_length_le (by omega), List.drop_eq_nil_of_le (by omega)]
  obtain ⟨A', c', rfl⟩ : ∃ A' c', v1 = .slice A' (i + 1) c' := by
   rcases ho.2 with ⟨_, h0⟩ | ⟨g, cap, cur, e, _⟩
   ·omega
   ·exact ⟨_, _, e⟩
  refine (Iz A i c vb 0 vc w hrun).mono ?_;rintro e w' ⟨rfl, rfl⟩;exact ⟨A', c', rfl, by rw [Zx]; exact ho, hg, hat⟩
theorem RX {base n c i : Nat} {A : Option Addr} {cs : List Value} {lv x : Value} {w : World} (hq : kX w base 74 1 (.slice A n c) n cs) (hl : w.ownsRow base 74 1 lv 1 [x]) (hne : ∀ k, (Value.slice A n c).ownBlock = some k -> lv.ownBlock ≠ some k)
  (hi : i <= n) (hbase : base <= w.heap.size) (hbig : (n + 1) * 8 <= 140737488355328) (h1c : ∀ v ∈ cs, v.oneCell' = true) (h1v : x.oneCell' = true) :
  Calls Try.prog 128 #[.slice A n c, .int .i64 (i : Int), lv] w fun e w' => ∃ A' c', e = .returned (.slice A' (n + 1) c') /\ kX w' base 74 1 (.slice A' (n + 1) c') (n + 1) (aI cs i x) /\ w.grownBy w' (Value.slice A n c).ownBlock /\
   ((Value.slice A' (n + 1) c').ownBlock = (Value.slice A n c).ownBlock \/ ∃ b, (Value.slice A' (n + 1) c').ownBlock = some b /\ w.heap.size <= b) := by
 obtain ⟨vb, vc, qy, rfl, yo, hx⟩ := Mg hl;have hcl : cs.length = n := by rw [hq.1, Nat.mul_one]
 obtain ⟨i0, hi0, hzz⟩ := Option.map_eq_some_iff.1 kZ;simp only [Prod.mk.injEq] at hzz;obtain ⟨hz0, hzs, hzb⟩ := hzz
 rcases Nat.lt_or_ge i n with hin | hin
 ·rcases hq.2 with ⟨h0, _⟩ | ⟨b, off, cap, cur, e, hbb, hb, hnc, hmx, hsz, ht⟩
  ·omega
  rw [Nat.mul_one] at e
  injection e with e1 e2 e3
  subst e1 e3;rw [Nat.mul_one] at hsz ht;rw [Nat.mul_one] at ht
  have hvb : vb ≠ b := fun e => hne b rfl (by rw [e]; rfl)
  rcases Nat.lt_or_ge c (n + 1) with hroom | hroom
  ·refine (F9 b off n c i vb 0 vc cs x w qy cur hin hnc hroom hbig yo hx hb ht hcl h1c h1v).mono ?_
   rintro e w' ⟨G, ROW, g1, g2, g3, g4, rfl, rfl⟩;obtain ⟨o1, o2⟩ := IC (E := 74) (x := x) hbase hi hcl g1 g2 g3 g4;exact ⟨_, _, rfl, yf o1, o2 _, .inr ⟨_, rfl, Nat.le_refl _⟩⟩
  ·refine (DI b off n c i vb 0 vc cs x w qy cur hin hroom hmx hvb yo hx hb hsz ht hcl h1c h1v).mono ?_
   rintro e w' ⟨rfl, rfl⟩;obtain ⟨Vf, j1, j2, j3⟩ := EN (w := w.drew) (x := x) hb hsz ht hroom hin;refine ⟨_, _, rfl, Cf j1 j2 j3 hroom hmx hbb, ?_, .inl rfl⟩;exact ((tK w _).trans (iq _ _ _ _)).trans (iq _ _ _ _)
 ·obtain rfl : i = n := Nat.le_antisymm hi hin
  have hnews := IB yo hx
  have Zw : ∀ u ∈ [x], u.oneCell' = true := fun u hu => by rw [List.mem_singleton.1 hu]; exact h1v
  have QO := fun ty => BP (P := Try.prog) w base 99 ty 74 i0 (.pointer none) 1 8 Try.underlying99 hi0 hz0 hzs hzb rfl (by decide) (.slice A i c) i cs hq ⟨vb, 0, none⟩ 1 vc [x] rfl hnews Zw (by decide) (by unfold maxLen; omega) hbig hbase
  obtain ⟨v1, w1, hrun, ho, hg, hat⟩ := QO 0
  have hrun : ∀ ty, (Builtin.append_ #[99, 99] ty #[.slice A i c, .slice (some ⟨vb, 0, none⟩) 1 vc]).run Try.prog w = .ok v1 w1 := fun ty => hrun
  have Zx : aI cs i x = cs ++ [x] := by unfold aI; rw [List.take_of_length_le (by omega), List.drop_eq_nil_of_le (by omega)]
  obtain ⟨A', c', rfl⟩ : ∃ A' c', v1 = .slice A' (i + 1) c' := by
   rcases ho.2 with ⟨h0, _⟩ | ⟨g, off, cap, cur, e, _⟩
   ·omega
   ·exact ⟨_, _, e⟩
  refine (IA A i c vb 0 vc w hrun).mono ?_;rintro e w' ⟨rfl, rfl⟩;exact ⟨A', c', rfl, by rw [Zx]; exact ho, hg, hat⟩
section
variable {w w0 : World} {base : Nat} {gs : List (List Ck)}
theorem Ga {ia ib i c : Nat} {A : Option Addr} {l : List ByteArray} {lv : Value} {x : ByteArray} (HS : aa w base gs) (hia : gs[ia]? = some [txt (.slice A l.length c) l]) (hib : gs[ib]? = some [txt lv [x]]) (hne : ia ≠ ib) (hi : i <= l.length) (hbase : base <= w.heap.size) (hbig : l.length <= 1000000000000) (HB : Below base w0 w) :
  Calls Try.prog 136 #[.slice A l.length c, .int .i64 (i : Int), lv] w fun e w' => ∃ A' c', e = .returned (.slice A' (aI l i x).length c') /\ aa w' base (gs.set ia [txt (.slice A' (aI l i x).length c') (aI l i x)]) /\ Below base w0 w' := by
 have h1 : w.ownsRow base 9 1 (.slice A l.length c) l.length (encs Value.string l) := by
  have := (HS.at ia hia).ok _ List.mem_cons_self;have h2 : w.ownsRow base 9 1 (.slice A l.length c) (encs Value.string l).length (encs Value.string l) := this
  rwa [bY] at h2
 have h2 : w.ownsRow base 9 1 lv 1 [Value.string x] := (HS.at ib hib).ok _ List.mem_cons_self;have h3 := HS.JY hne hia hib _ List.mem_cons_self _ List.mem_cons_self;have hin : aI (encs Value.string l) i (Value.string x) = encs Value.string (aI l i x) := by unfold encs; rw [jI]
 have hln := gu x hi
 refine (RV h1 h2 (fun k hk => h3 k hk) hi hbase (by omega) (fun v hv => by
  obtain ⟨b, _, rfl⟩ := List.mem_map.1 hv
  rfl) rfl).mono ?_
 rintro e w' ⟨A', c', rfl, ho, hg, hat⟩;rw [hin] at ho;rw [<- hln] at ho hat ⊢;refine ⟨A', c', rfl, HS.turn ia hia (Sat.one (c := txt (.slice A' (aI l i x).length c') (aI l i x)) ?_) ⟨hg.size, fun k hk hnot => hg.block k hk fun he => hnot ⟨_, List.mem_singleton_self _, he.symm⟩⟩ (pM hat), HB.grown hg hbase fun k hk => ((HS.at ia hia).ge ⟨_, List.mem_cons_self, hk⟩)⟩;show w'.ownsRow base 9 1 _ (encs Value.string (aI l i x)).length (encs Value.string (aI l i x));rw [bY];exact ho
theorem Ub {ia ib i c : Nat} {A : Option Addr} {l : List NT} {lv : Value} {r : NT} (HS : aa w base gs) (hia : gs[ia]? = some [.jL 74 (.slice A l.length c) (ptrs l)]) (hib : gs[ib]? = some [.own 74 lv [bu r.p]]) (hne : ia ≠ ib) (hi : i <= l.length) (hbase : base <= w.heap.size) (hbig : l.length <= 1000000000000) (HB : Below base w0 w) :
  Calls Try.prog 128 #[.slice A l.length c, .int .i64 (i : Int), lv] w fun e w' => ∃ A' c', e = .returned (.slice A' (aI l i r).length c') /\ aa w' base (gs.set ia [.jL 74 (.slice A' (aI l i r).length c') (ptrs (aI l i r))]) /\ Below base w0 w' := by
 have hpl : ∀ m : List NT, (ptrs m).length = m.length := fun m => by rw [dM, bY, List.length_map]
 have h1 : kX w base 74 1 (.slice A l.length c) l.length (ptrs l) := by
  have := (HS.at ia hia).ok _ List.mem_cons_self;have h2 : kX w base 74 1 (.slice A l.length c) (ptrs l).length (ptrs l) := this
  rwa [hpl] at h2
 have h2 : w.ownsRow base 74 1 lv 1 [bu r.p] := (HS.at ib hib).ok _ List.mem_cons_self;have h3 := HS.JY hne hia hib _ List.mem_cons_self _ List.mem_cons_self;have hin : aI (ptrs l) i (bu r.p) = ptrs (aI l i r) := by rw [dM, dM]; unfold encs; rw [jI, jI]
 have hln := gu r hi
 refine (RX h1 h2 (fun k hk => h3 k hk) hi hbase (by omega) (fun v hv => by
  rw [dM] at hv;obtain ⟨b, _, rfl⟩ := List.mem_map.1 hv
  rfl) rfl).mono ?_
 rintro e w' ⟨A', c', rfl, ho, hg, hat⟩;rw [hin] at ho;rw [<- hln] at ho hat ⊢;refine ⟨A', c', rfl, HS.turn ia hia (Sat.one (c := .jL 74 (.slice A' (aI l i r).length c') (ptrs (aI l i r))) ?_) ⟨hg.size, fun k hk hnot => hg.block k hk fun he => hnot ⟨_, List.mem_singleton_self _, he.symm⟩⟩ (pM hat), HB.grown hg hbase fun k hk => ((HS.at ia hia).ge ⟨_, List.mem_cons_self, hk⟩)⟩;show kX w' base 74 1 _ (ptrs (aI l i r)).length (ptrs (aI l i r));rw [hpl];exact ho
end
theorem sj {P : Program} {ops : Array Oper} {o : Oper} {a : Act} {w : World} {K : Act -> World -> Prop} {Q : Exit -> Act -> World -> Prop} {E : Prop}
  (hg : o.guard = none) (d x : Operand) (dT sT : TypeId) (hop : o.op = Op.call { callee := Callee.builtin Builtin.append, args := #[d, x], argTypes := #[dT, sT] })
  (v u : Value) (hd : a.eval d = v) (hx : a.eval x = u) {v' : Value} {w' : World} (hr : (Builtin.append_ #[dT, sT] o.type #[v, u]).run P w = .ok v' w') (hK : K (a.put o.dst v') w') :
  if Region.wanted o (yielded ops a.tmps) = true then Oper.wp P o a w K Q else E := by
 have hw : Region.wanted o (yielded ops a.tmps) = true := by simp [Region.wanted, hg]
 rw [if_pos hw];unfold Oper.wp;simp [execOp, hop, resolve, invoke, builtin, hd, hx, hr, Result.andThen];exact hK
theorem EO {e : TypeId} {z : Value} {n_ XN : Nat} (h : (Try.prog.info? e).map (fun i => (i.zero, i.size, i.bytes)) = some (some z, n_, XN)) (w : World) : (zeroValue e).run Try.prog w = .ok z w := by
 obtain ⟨i0, hi, hz⟩ := Option.map_eq_some_iff.1 h;simp only [Prod.mk.injEq] at hz;simp [zeroValue, typeInfo, hi, hz.1]
theorem Pq {α : Type} {A cs Z : List α} {z : α} {i n : Nat} (hn : cs.length = n) (hi : i < n) :
  ((((A ++ (cs ++ Z)).take (A.length + i) ++ cs.drop (i + 1) ++ (A ++ (cs ++ Z)).drop (A.length + i + (cs.drop (i + 1)).length)).take (A.length + (n - 1)) ++ [z] ++
   ((A ++ (cs ++ Z)).take (A.length + i) ++ cs.drop (i + 1) ++ (A ++ (cs ++ Z)).drop (A.length + i + (cs.drop (i + 1)).length)).drop (A.length + (n - 1) + [z].length)).drop A.length).take (n - 1) = cs.eraseIdx i := by
 have e1 : (A ++ (cs ++ Z)).take (A.length + i) = A ++ cs.take i := by
  rw [List.take_append, Nat.add_sub_cancel_left, List.take_of_length_le (by omega), List.take_append_of_le_length (by omega)]
 have hl : (A ++ cs.take i ++ cs.drop (i + 1)).length = A.length + (n - 1) := by rw [List.length_append, List.length_append, List.length_take, List.length_drop]; omega
 rw [e1]
 have e2 : ∀ D : List α, (A ++ cs.take i ++ cs.drop (i + 1) ++ D).take (A.length + (n - 1)) = A ++ (cs.take i ++ cs.drop (i + 1)) := fun D => by rw [<- hl, List.take_left, List.append_assoc]
 rw [e2, List.append_assoc, List.append_assoc, List.drop_left, List.eraseIdx_eq_take_drop_succ];have h3 : (cs.take i ++ cs.drop (i + 1)).length = n - 1 := by rw [List.length_append, List.length_take, List.length_drop]; omega
 rw [<- h3];exact List.take_left
theorem Gb {α β : Type} (f : α -> β) (l : List α) (i : Nat) : (l.map f).eraseIdx i = (l.eraseIdx i).map f := by
 rw [List.eraseIdx_eq_take_drop_succ, List.eraseIdx_eq_take_drop_succ, List.map_append, List.map_take, List.map_drop]
theorem Ka {α : Type} {l cs : List α} {off n : Nat} (ht : (l.drop off).take n = cs) (hn : off + n <= l.length) : ∃ A Z, l = A ++ (cs ++ Z) /\ A.length = off /\ cs.length = n := by
 have h1 : (l.take off).length = off := by rw [List.length_take]; omega
 have h2 : cs.length = n := by rw [<- ht, List.length_take, List.length_drop]; omega
 have h3 : l.drop off = cs ++ (l.drop off).drop n := by rw [<- ht, List.take_append_drop]
 refine ⟨l.take off, (l.drop off).drop n, ?_, h1, h2⟩;rw [<- h3, List.take_append_drop]
theorem EP {w : World} {b E off n c i : Nat} {cur : Array Value} {cs : List Value} {z : Value} (hb : w.heap[b]? = some (.cells cur E (0, 0))) (hs : cur.size = off + c) (ht : (cur.toList.drop off).take n = cs) (hroom : n <= c) (hi : i < n) :
  ∃ cur', ((w.setCells b (off + i) (cs.drop (i + 1))).setCells b (off + (n - 1)) [z]).heap[b]? = some (.cells cur' E (0, 0)) /\ cur'.size = off + c /\ (cur'.toList.drop off).take (n - 1) = cs.eraseIdx i := by
 have hl : cur.toList.length = off + c := by rw [Array.length_toList]; exact hs
 obtain ⟨A, Z, e, hA, hcl⟩ := Ka ht (by omega);have hd : (cs.drop (i + 1)).length = n - (i + 1) := by rw [List.length_drop]; omega
 obtain ⟨c1, h1, h2, h3⟩ := dX (cs.drop (i + 1)) (off + i) w cur hb (by rw [hd]; omega);obtain ⟨c2, h4, h5, h6⟩ := dX [z] (off + (n - 1)) _ c1 h1 (by simp only [List.length_cons, List.length_nil]; omega);refine ⟨c2, h4, by omega, ?_⟩;rw [h6, h3, e];subst hA;exact Pq hcl hi
set_option maxHeartbeats 4000000 in
theorem Gc (b off n c i : Nat) (cs : List Value) (w : World) (cur : Array Value) (hi : i < n) (hnc : n <= c) (hc63 : off + c <= maxLen) (hb : w.heap[b]? = some (.cells cur 9 (0, 0))) (hsz : cur.size = off + c)
  (hcs : (cur.toList.drop off).take n = cs) (hcl : cs.length = n) (h1c : ∀ v ∈ cs, v.oneCell' = true) :
  Calls Try.prog 139 #[.slice (some ⟨b, off, none⟩) n c, .int .i64 (i : Int), .int .i64 ((i : Int) + 1)] w fun e w' =>
   e = .returned (.slice (some ⟨b, off, none⟩) (n - 1) c) /\ w' = (w.drew.setCells b (off + i) (cs.drop (i + 1))).setCells b (off + (n - 1)) [(.string ⟨#[]⟩)] := by
 have hc' : c <= 9223372036854775807 := by unfold maxLen at hc63; omega
 obtain ⟨i0, hi0, hzz⟩ := Option.map_eq_some_iff.1 dC;simp only [Prod.mk.injEq] at hzz;obtain ⟨hz0, hzs, hzb⟩ := hzz
 have hcc : ∀ j v, cs[j]? = some v -> w.cell? ⟨b, off + j, none⟩ = some v := fun j v hj => by
  rw [cZ hb, <- Array.getElem?_toList];exact jY hcs hj
 have hdl : (cs.drop (i + 1)).length = n - (i + 1) := by rw [List.length_drop, hcl]
 obtain ⟨A, hA, hsrc⟩ : ∃ A : Addr, (if c = i + 1 then (some ⟨b, off, none⟩ : Option Addr) else some ⟨b, off + (i + 1), none⟩) = some A /\ ∀ j u, (cs.drop (i + 1))[j]? = some u -> w.drew.cell? (A.add j) = some u := by
  by_cases h : c = i + 1
  ·refine ⟨⟨b, off, none⟩, by simp [h], fun t u hu => ?_⟩
   rw [List.drop_eq_nil_of_le (by omega)] at hu
   cases hu
  ·refine ⟨⟨b, off + (i + 1), none⟩, by simp [h], fun t u hu => ?_⟩
   rw [Addr.add_lit, Nat.add_assoc];exact hcc (i + 1 + t) u (by rwa [List.getElem?_drop] at hu)
 have hap : ∀ ty ca, (Builtin.append_ #[38, 38] ty #[.slice (some ⟨b, off, none⟩) i c, .slice (some A) (n - (i + 1)) ca]).run Try.prog w.drew = .ok (.slice (some ⟨b, off, none⟩) (i + (n - (i + 1))) c) (w.drew.setCells b (off + i) (cs.drop (i + 1))) := fun ty ca => by
  have h := run_append_room_cells (P := Try.prog) w.drew 38 ty 9 i0 Try.underlying38 hi0 b off i c A (n - (i + 1)) ca (cs.drop (i + 1)) (by rw [hdl, hzs, Nat.mul_one]) hsrc (fun v hv => h1c v (List.mem_of_mem_drop hv)) (by omega)
   (fun j hj => by
    rw [hzs, Nat.mul_one];show (w.cell? _).isSome = true;rw [cZ hb, Array.getElem?_eq_getElem (by omega)]
    rfl) (fun j hj => dI (w := w.drew) hb _)
  rw [hzs, Nat.mul_one] at h;exact h
 obtain ⟨W1, hW1⟩ : ∃ W1, W1 = w.drew.setCells b (off + i) (cs.drop (i + 1)) := ⟨_, rfl⟩
 obtain ⟨QL, k1, k2, k3⟩ := dX (cs.drop (i + 1)) (off + i) w.drew cur hb (by rw [hdl]; omega);rw [<- hW1] at k1 hap;have hln : i + (n - (i + 1)) = n - 1 := by omega
 have XP : List.replicate (n - (i + (n - (i + 1)))) ((.string ⟨#[]⟩) : Value) = [(.string ⟨#[]⟩)] := by
  rw [show n - (i + (n - (i + 1))) = 1 by omega];rfl
 have hclr : ∀ ty ca, (Builtin.clear_ #[38] ty #[.slice (some ⟨b, off + (i + (n - (i + 1))), none⟩) (n - (i + (n - (i + 1)))) ca]).run Try.prog W1 = .ok (.tuple #[]) (W1.setCells b (off + (n - 1)) [(.string ⟨#[]⟩)]) := fun ty ca => by
  have h := Lib.run_clear_slice (P := Try.prog) W1 38 9 ty (.string ⟨#[]⟩) Try.underlying38 (EO dC) rfl rfl b (off + (i + (n - (i + 1)))) (n - (i + (n - (i + 1)))) ca (by omega)
   (fun t ht => by
    rw [cZ k1, Array.getElem?_eq_getElem (by omega)]
    rfl) (fun t ht => dI k1 _)
  rw [XP, hln] at h;rw [hln];exact h
 have HW := A_ hW1;clear hW1 k1 k2 k3 hcc hsrc hcs hcl h1c hsz hb hdl XP;have HL := A_ hln;clear hln;have hw1 : IntKind.i64.wrap ((i : Int) + 1) = (i : Int) + 1 := by rw [IntKind.wrap_i64]; omega
 have hz2 : ¬ ((i : Int) = (i : Int) + 1) := by omega
 have hb1 : (0 : Int) <= (i : Int) + 1 := by omega
 have hb2 : (i : Int) + 1 <= (n : Int) := by omega
 have hb3 : (i : Int) <= (i : Int) + 1 := by omega
 have htn : ((i : Int) + 1).toNat = i + 1 := by omega
 have hic : i <= c := by omega
 have hin : i + 1 <= n := by omega
 have hle : i + (n - (i + 1)) <= n := by omega
 have hne : ¬ (c = i + (n - (i + 1))) := by omega
 go_enter Try.func139, Try.ntmps139
 go_wp2_with fail
 go_region_law (refine sj rfl _ _ 38 38 rfl (.slice (some ⟨b, off, none⟩) i c) (.slice (some A) (n - (i + 1)) (c - (i + 1))) (by simp [Act.eval, Act.put]) (by simp [Act.eval, Act.put]; first | exact hA | done) (hap _ _) ?_)
 go_wp2;go_ret;rw [HL.out];exact ⟨rfl, by rw [HW.out]⟩
theorem RY {base n c i : Nat} {A : Option Addr} {cs : List Value} {w : World} (hq : w.ownsRow base 9 1 (.slice A n c) n cs) (hi : i < n) (h1c : ∀ v ∈ cs, v.oneCell' = true) :
  Calls Try.prog 139 #[.slice A n c, .int .i64 (i : Int), .int .i64 ((i : Int) + 1)] w fun e w' => e = .returned (.slice A (n - 1) c) /\ w'.ownsRow base 9 1 (.slice A (n - 1) c) (n - 1) (cs.eraseIdx i) /\ w.grownBy w' (Value.slice A n c).ownBlock := by
 have hcl : cs.length = n := by rw [hq.1, Nat.mul_one]
 rcases hq.2 with ⟨_, h0⟩ | ⟨b, cap, cur, e, hbb, hb, hnc, hmx, hsz, ht⟩
 ·omega
 injection e with e1 e2 e3
 subst e1 e3;rw [Nat.mul_one] at hsz ht;replace hmx : 0 + c <= maxLen := by omega
 replace hsz : cur.size = 0 + c := by omega
 rw [show cur.toList = cur.toList.drop 0 from rfl] at ht;refine (Gc b 0 n c i cs w cur hi hnc hmx hb hsz ht hcl h1c).mono ?_;rintro e w' ⟨rfl, rfl⟩;obtain ⟨Vf, j1, j2, j3⟩ := EP (w := w.drew) (z := (.string ⟨#[]⟩)) hb hsz ht hnc hi;exact ⟨rfl, yc j1 j2 j3 (by omega) hmx hbb, ((tK w _).trans (iq _ _ _ _)).trans (iq _ _ _ _)⟩
set_option maxHeartbeats 4000000 in
theorem Gd (b off n c i : Nat) (cs : List Value) (w : World) (cur : Array Value) (hi : i < n) (hnc : n <= c) (hc63 : off + c <= maxLen) (hb : w.heap[b]? = some (.cells cur 74 (0, 0))) (hsz : cur.size = off + c)
  (hcs : (cur.toList.drop off).take n = cs) (hcl : cs.length = n) (h1c : ∀ v ∈ cs, v.oneCell' = true) :
  Calls Try.prog 142 #[.slice (some ⟨b, off, none⟩) n c, .int .i64 (i : Int), .int .i64 ((i : Int) + 1)] w fun e w' =>
   e = .returned (.slice (some ⟨b, off, none⟩) (n - 1) c) /\ w' = (w.drew.setCells b (off + i) (cs.drop (i + 1))).setCells b (off + (n - 1)) [(.pointer none)] := by
 have hc' : c <= 9223372036854775807 := by unfold maxLen at hc63; omega
 obtain ⟨i0, hi0, hzz⟩ := Option.map_eq_some_iff.1 kZ;simp only [Prod.mk.injEq] at hzz;obtain ⟨hz0, hzs, hzb⟩ := hzz
 have hcc : ∀ j v, cs[j]? = some v -> w.cell? ⟨b, off + j, none⟩ = some v := fun j v hj => by
  rw [cZ hb, <- Array.getElem?_toList];exact jY hcs hj
 have hdl : (cs.drop (i + 1)).length = n - (i + 1) := by rw [List.length_drop, hcl]
 obtain ⟨A, hA, hsrc⟩ : ∃ A : Addr, (if c = i + 1 then (some ⟨b, off, none⟩ : Option Addr) else some ⟨b, off + (i + 1), none⟩) = some A /\ ∀ j u, (cs.drop (i + 1))[j]? = some u -> w.drew.cell? (A.add j) = some u := by
  by_cases h : c = i + 1
  ·refine ⟨⟨b, off, none⟩, by simp [h], fun t u hu => ?_⟩
   rw [List.drop_eq_nil_of_le (by omega)] at hu
   cases hu
  ·refine ⟨⟨b, off + (i + 1), none⟩, by simp [h], fun t u hu => ?_⟩
   rw [Addr.add_lit, Nat.add_assoc];exact hcc (i + 1 + t) u (by rwa [List.getElem?_drop] at hu)
 have hap : ∀ ty ca, (Builtin.append_ #[99, 99] ty #[.slice (some ⟨b, off, none⟩) i c, .slice (some A) (n - (i + 1)) ca]).run Try.prog w.drew = .ok (.slice (some ⟨b, off, none⟩) (i + (n - (i + 1))) c) (w.drew.setCells b (off + i) (cs.drop (i + 1))) := fun ty ca => by
  have h := run_append_room_cells (P := Try.prog) w.drew 99 ty 74 i0 Try.underlying99 hi0 b off i c A (n - (i + 1)) ca (cs.drop (i + 1)) (by rw [hdl, hzs, Nat.mul_one]) hsrc (fun v hv => h1c v (List.mem_of_mem_drop hv)) (by omega)
   (fun j hj => by
    rw [hzs, Nat.mul_one];show (w.cell? _).isSome = true;rw [cZ hb, Array.getElem?_eq_getElem (by omega)]
    rfl) (fun j hj => dI (w := w.drew) hb _)
  rw [hzs, Nat.mul_one] at h;exact h
 obtain ⟨W1, hW1⟩ : ∃ W1, W1 = w.drew.setCells b (off + i) (cs.drop (i + 1)) := ⟨_, rfl⟩
 obtain ⟨QL, k1, k2, k3⟩ := dX (cs.drop (i + 1)) (off + i) w.drew cur hb (by rw [hdl]; omega);rw [<- hW1] at k1 hap;have hln : i + (n - (i + 1)) = n - 1 := by omega
 have XP : List.replicate (n - (i + (n - (i + 1)))) ((.pointer none) : Value) = [(.pointer none)] := by
  rw [show n - (i + (n - (i + 1))) = 1 by omega];rfl
 have hclr : ∀ ty ca, (Builtin.clear_ #[99] ty #[.slice (some ⟨b, off + (i + (n - (i + 1))), none⟩) (n - (i + (n - (i + 1)))) ca]).run Try.prog W1 = .ok (.tuple #[]) (W1.setCells b (off + (n - 1)) [(.pointer none)]) := fun ty ca => by
  have h := Lib.run_clear_slice (P := Try.prog) W1 99 74 ty (.pointer none) Try.underlying99 (EO kZ) rfl rfl b (off + (i + (n - (i + 1)))) (n - (i + (n - (i + 1)))) ca (by omega)
   (fun t ht => by
    rw [cZ k1, Array.getElem?_eq_getElem (by omega)]
    rfl) (fun t ht => dI k1 _)
  rw [XP, hln] at h;rw [hln];exact h
 have HW := A_ hW1;clear hW1 k1 k2 k3 hcc hsrc hcs hcl h1c hsz hb hdl XP;have HL := A_ hln;clear hln;have hw1 : IntKind.i64.wrap ((i : Int) + 1) = (i : Int) + 1 := by rw [IntKind.wrap_i64]; omega
 have hz2 : ¬ ((i : Int) = (i : Int) + 1) := by omega
 have hb1 : (0 : Int) <= (i : Int) + 1 := by omega
 have hb2 : (i : Int) + 1 <= (n : Int) := by omega
 have hb3 : (i : Int) <= (i : Int) + 1 := by omega
 have htn : ((i : Int) + 1).toNat = i + 1 := by omega
 have hic : i <= c := by omega
 have hin : i + 1 <= n := by omega
 have hle : i + (n - (i + 1)) <= n := by omega
 have hne : ¬ (c = i + (n - (i + 1))) := by omega
 go_enter Try.func142, Try.ntmps142
 go_wp2_with fail
 go_region_law (refine sj rfl _ _ 99 99 rfl (.slice (some ⟨b, off, none⟩) i c) (.slice (some A) (n - (i + 1)) (c - (i + 1))) (by simp [Act.eval, Act.put]) (by simp [Act.eval, Act.put]; first | exact hA | done) (hap _ _) ?_)
 go_wp2;go_ret;rw [HL.out];exact ⟨rfl, by rw [HW.out]⟩
theorem RZ {base n c i : Nat} {A : Option Addr} {cs : List Value} {w : World} (hq : kX w base 74 1 (.slice A n c) n cs) (hi : i < n) (h1c : ∀ v ∈ cs, v.oneCell' = true) :
  Calls Try.prog 142 #[.slice A n c, .int .i64 (i : Int), .int .i64 ((i : Int) + 1)] w fun e w' => e = .returned (.slice A (n - 1) c) /\ kX w' base 74 1 (.slice A (n - 1) c) (n - 1) (cs.eraseIdx i) /\ w.grownBy w' (Value.slice A n c).ownBlock := by
 have hcl : cs.length = n := by rw [hq.1, Nat.mul_one]
 rcases hq.2 with ⟨h0, _⟩ | ⟨b, off, cap, cur, e, hbb, hb, hnc, hmx, hsz, ht⟩
 ·omega
 rw [Nat.mul_one] at e
 injection e with e1 e2 e3
 subst e1 e3;rw [Nat.mul_one] at hsz ht;rw [Nat.mul_one] at ht;refine (Gd b off n c i cs w cur hi hnc hmx hb hsz ht hcl h1c).mono ?_;rintro e w' ⟨rfl, rfl⟩;obtain ⟨Vf, j1, j2, j3⟩ := EP (w := w.drew) (z := (.pointer none)) hb hsz ht hnc hi;exact ⟨rfl, Cf j1 j2 j3 (by omega) hmx hbb, ((tK w _).trans (iq _ _ _ _)).trans (iq _ _ _ _)⟩
section
variable {w w0 : World} {base : Nat} {gs : List (List Ck)}
theorem Ps {ia i c : Nat} {A : Option Addr} {l : List ByteArray} (HS : aa w base gs) (hia : gs[ia]? = some [txt (.slice A l.length c) l]) (hi : i < l.length) (hbase : base <= w.heap.size) (HB : Below base w0 w) :
  Calls Try.prog 139 #[.slice A l.length c, .int .i64 (i : Int), .int .i64 ((i : Int) + 1)] w fun e w' => e = .returned (.slice A (l.eraseIdx i).length c) /\ aa w' base (gs.set ia [txt (.slice A (l.eraseIdx i).length c) (l.eraseIdx i)]) /\ Below base w0 w' := by
 have h1 : w.ownsRow base 9 1 (.slice A l.length c) l.length (encs Value.string l) := by
  have := (HS.at ia hia).ok _ List.mem_cons_self;have h2 : w.ownsRow base 9 1 (.slice A l.length c) (encs Value.string l).length (encs Value.string l) := this
  rwa [bY] at h2
 have hin : (encs Value.string l).eraseIdx i = encs Value.string (l.eraseIdx i) := by unfold encs; rw [Gb]
 have hln : (l.eraseIdx i).length = l.length - 1 := List.length_eraseIdx_of_lt hi
 refine (RY h1 hi (fun v hv => by
  obtain ⟨b, _, rfl⟩ := List.mem_map.1 hv
  rfl)).mono ?_
 rintro e w' ⟨rfl, ho, hg⟩;rw [hin] at ho;rw [<- hln] at ho ⊢;refine ⟨rfl, HS.turn ia hia (Sat.one (c := txt (.slice A (l.eraseIdx i).length c) (l.eraseIdx i)) ?_) ⟨hg.size, fun k hk hnot => hg.block k hk fun he => hnot ⟨_, List.mem_singleton_self _, he.symm⟩⟩ (pM (.inl ?_)), HB.grown hg hbase fun k hk => ((HS.at ia hia).ge ⟨_, List.mem_cons_self, hk⟩)⟩
 ·show w'.ownsRow base 9 1 _ (encs Value.string (l.eraseIdx i)).length (encs Value.string (l.eraseIdx i))
  rw [bY];exact ho
 ·cases A <;> rfl
theorem Uc {ia i c : Nat} {A : Option Addr} {l : List NT} (HS : aa w base gs) (hia : gs[ia]? = some [.jL 74 (.slice A l.length c) (ptrs l)]) (hi : i < l.length) (hbase : base <= w.heap.size) (HB : Below base w0 w) :
  Calls Try.prog 142 #[.slice A l.length c, .int .i64 (i : Int), .int .i64 ((i : Int) + 1)] w fun e w' => e = .returned (.slice A (l.eraseIdx i).length c) /\ aa w' base (gs.set ia [.jL 74 (.slice A (l.eraseIdx i).length c) (ptrs (l.eraseIdx i))]) /\ Below base w0 w' := by
 have hpl : ∀ m : List NT, (ptrs m).length = m.length := fun m => by rw [dM, bY, List.length_map]
 have h1 : kX w base 74 1 (.slice A l.length c) l.length (ptrs l) := by
  have := (HS.at ia hia).ok _ List.mem_cons_self;have h2 : kX w base 74 1 (.slice A l.length c) (ptrs l).length (ptrs l) := this
  rwa [hpl] at h2
 have hin : (ptrs l).eraseIdx i = ptrs (l.eraseIdx i) := by rw [dM, dM]; unfold encs; rw [Gb, Gb]
 have hln : (l.eraseIdx i).length = l.length - 1 := List.length_eraseIdx_of_lt hi
 refine (RZ h1 hi (fun v hv => by
  rw [dM] at hv;obtain ⟨b, _, rfl⟩ := List.mem_map.1 hv
  rfl)).mono ?_
 rintro e w' ⟨rfl, ho, hg⟩;rw [hin] at ho;rw [<- hln] at ho ⊢;refine ⟨rfl, HS.turn ia hia (Sat.one (c := .jL 74 (.slice A (l.eraseIdx i).length c) (ptrs (l.eraseIdx i))) ?_) ⟨hg.size, fun k hk hnot => hg.block k hk fun he => hnot ⟨_, List.mem_singleton_self _, he.symm⟩⟩ (pM (.inl ?_)), HB.grown hg hbase fun k hk => ((HS.at ia hia).ge ⟨_, List.mem_cons_self, hk⟩)⟩
 ·show kX w' base 74 1 _ (ptrs (l.eraseIdx i)).length (ptrs (l.eraseIdx i))
  rw [hpl];exact ho
 ·cases A <;> rfl
end
def su.f (l0 : List Nat) : Option (List Nat) := (some (([] : List Nat) : List Nat)).bind fun qw => (if qw.length + l0.length < 8796093022208 then (some (qw ++ l0)) else (none))
theorem su.TI (w : World) (a : Option Addr) (n c : Nat) : (binOp .eql 99 (.slice a n c) (.slice none 0 0)).run Try.prog w = .ok (.bool a.isNone) w := Gen.Lr w _ _ a n c Try.underlying99
attribute [local go_sem] su.TI
theorem su.calls (A0 : Option Addr) (c0 : Nat) (l0 : List Nat) (r : List Nat) (w : World) (hr0 : Kd.C dZ w A0 l0.length l0) (hc0 : l0.length <= c0) (h : su.f l0 = some r) :
  Calls Try.prog 127 #[.slice A0 l0.length c0] w fun e w' => ∃ ja : Value, e = .returned (ja) /\ Kd.R dZ 74 w' w.heap.size (fun _ => True) ja r /\ Below w.heap.size w w' := by
 have nJ := A_ hr0;have qP := A_ hc0;clear hr0 hc0;have HB := A_ (Below.refl w.heap.size w);have H : ((some (([] : List Nat) : List Nat)).bind fun qw => (if qw.length + l0.length < 8796093022208 then (some (qw ++ l0)) else (none))) = some r := h;clear h
 obtain ⟨qw, uQ⟩ : ∃ y_ : List Nat, y_ = (([] : List Nat)) := ⟨_, rfl⟩
 replace H : (if qw.length + l0.length < 8796093022208 then (some (qw ++ l0)) else (none)) = some r := by first | (rw [uQ]; with_reducible exact H) | (have kN := (Option.bind_some _ _).symm.trans H; rw [uQ]; with_reducible exact kN) | (have kN := (Option.bind_some _ _).symm.trans H; with_reducible exact kN) | with_reducible exact H | (rw [uQ]; exact H) | exact H
 have CO := A_ uQ;clear uQ
 by_cases c2 : qw.length + l0.length < 8796093022208
 ·rw [if_pos c2] at H
  have UB := A_ c2;clear c2
  obtain ⟨P5, uR⟩ : ∃ y_ : List Nat, y_ = (qw ++ l0) := ⟨_, rfl⟩
  replace H : (some P5) = some r := by first | (rw [uR]; with_reducible exact H) | (have kN := (Option.bind_some _ _).symm.trans H; rw [uR]; with_reducible exact kN) | (have kN := (Option.bind_some _ _).symm.trans H; with_reducible exact kN) | with_reducible exact H | (rw [uR]; exact H) | exact H
  have I7 := A_ uR;clear uR;obtain rfl := Option.some.inj H
  rcases A0 with _ | Y2
  ·have Y5 : l0 = [] := by
    rcases Nat.eq_zero_or_pos l0.length with h_ | h_
    ·exact List.length_eq_zero_iff.1 h_
    ·obtain ⟨_, _, P6⟩ := nJ.out
     obtain ⟨Y2, P6, _⟩ := P6 h_
     cases P6
   subst Y5;have Y6 : P5 = [] := by rw [I7.out, CO.out]; rfl
   subst Y6;go_enter Try.func127, Try.ntmps127;go_wp2;go_ret;exact ⟨_, rfl, Kd.xz _ _ _ _ _, HB.out⟩
  go_enter Try.func127, Try.ntmps127
  go_wp2_with (first | ((with_reducible refine iK (N := 5) rfl ?_); refine Kd.Bf dZ _ 74 ?hg (N := 5) ?hd (xs := ([] : List Nat)) (inner := []) (ok := fun _ => True) (okp := fun _ => True) ?hr ?hp (fun _ hk => hk) trivial (Below.refl _ _) (Nat.le_refl _) (by simp) ?_; (case hd => rfl); (case hg => rfl); (case hr => first | (go_simp; done) | (go_simp; rfl)); (case hp => exact (gm.none _ _)); intro UC w3 oO hb NM sF; clear NM sF; (first | rw [<- CO.out] at oO | (simp only [Int.reduceToNat] at oO; rw [<- CO.out] at oO)); have I8 := A_ (Kd.gW oO (Dw HB.out)); replace HB := A_ (Wm HB.out hb); clear hb oO) | ((with_reducible refine bP (b := .append) (xs := #[.tmp 5, .tmp 6]) rfl ?_); at_builtin; refine Kd.eY dZ (w0 := w) w.heap.size rfl (.tmp 5) (.tmp 6) 99 74 (.pointer none) 8 rfl Try.underlying99 kZ rfl (by decide) (by omega) UC qw l0 _ _ _ (fun _ => True) (fun _ => False) rfl rfl ?aO ?aR (fun _ _ h => h) (fun _ h => h.elim) ?aF ?aB ?aS ?aL ?_; (case aR => refine TH ?_; exact (Kd.aN nJ.out HB.out)); (case aB => exact (Be HB.out)); (case aF => exact (fun _ _ => trivial)); (case aO => exact (tY I8.out)); (case aS => exact (Dw HB.out)); (case aL => have := UB.out; omega); intro v183 w5 ho hb hg hat; rw [<- I7.out] at ho; have CP := A_ (hb); have ah := A_ (ho); clear HB; clear I8; have HB := CP; have P7 := ah; clear CP ah; clear ho hb hg hat))
  go_ret;exact ⟨_, Lx, by (with_reducible repeat (first | apply Kd.pE | apply Kd.pF | apply Kd.sI)); exact P7.out, by repeat (first | (with_reducible first | exact HB.out | apply bz | apply aj | apply bD) | exact HB.out)⟩
 ·rw [if_neg c2] at H
  exact absurd H (by simp)
theorem Kb (A : Option Addr) (c : Nat) (l : List Nat) (n : Nat) (w : World) (hn : n = l.length) (hr : dZ.C w A n l) (hc : n <= c) (hl : l.length <= 1000000000000) :
  Calls Try.prog 127 #[.slice A n c] w fun e w' => ∃ ja : Value, e = .returned (ja) /\ dZ.R 74 w' w.heap.size (fun _ => True) ja l /\ Below w.heap.size w w' := by
 subst hn;refine su.calls A c l l w hr hc ?_;unfold su.f;rw [Option.bind_some, if_pos (by simp only [List.length_nil]; omega)];rfl
theorem xc (A : Option Addr) (c : Nat) (l : List ByteArray) (n : Nat) (w : World) (hn : n = l.length) (hr : Kd.string.C w A n l) (hc : n <= c) (hl : l.length <= 1000000000000) :
  Calls Try.prog 74 #[.slice A n c] w fun e w' => ∃ ja : Value, e = .returned (ja) /\ Kd.string.R 9 w' w.heap.size (fun _ => True) ja l /\ Below w.heap.size w w' := by
 subst hn;refine bf.calls A c l l w hr hc ?_;unfold bf.f;rw [Option.bind_some, if_pos (by simp only [List.length_nil]; omega)];rfl
def ru {α : Type} (rs : Nat -> List α) : Nat -> List α
 | 0 => []
 | i + 1 => ru rs i ++ rs i
theorem ER {w : World} {E n G : Nat} {z : Value} (h1 : n <= G) (h2 : G <= maxLen) (hz : z.cells.size = 1) : (w.drew.alloc (.cells (Builtin.zeroCells z.cells n ++ Builtin.zeroCells z.cells (G - n)) E)).ownsRow w.heap.size E 1 (.slice (some ⟨w.heap.size, 0, none⟩) 0 G) 0 [] := by
 refine ⟨rfl, .inr ⟨w.heap.size, G, _, rfl, Nat.le_refl _, heap_alloc_new w.drew _, Nat.zero_le _, h2, ?_, by simp⟩⟩;simp [Builtin.zeroCells, hz];omega
set_option maxHeartbeats 4000000 in
theorem Pt (n : Nat) (w : World) (hn : n * 16 <= 140737488355328) :
  Calls Try.prog 146 #[.slice none 0 0, .int .i64 (n : Int)] w fun e w' => ∃ v, e = .returned v /\ Kd.R Kd.string 9 w' w.heap.size (fun _ => True) v [] /\ Below w.heap.size w w' := by
 have hw1 : IntKind.i64.wrap (n : Int) = (n : Int) := by rw [IntKind.wrap_i64]; omega
 have hnn : ¬ ((n : Int) < 0) := by omega
 rcases Nat.eq_zero_or_pos n with h0 | h0
 ·subst h0
  go_enter Try.func146, Try.ntmps146;go_wp2;go_ret;exact ⟨_, rfl, Kd.xz _ _ _ _ _, Below.refl _ _⟩
 ·obtain ⟨i0, hi0, hzz⟩ := Option.map_eq_some_iff.1 dC
  simp only [Prod.mk.injEq] at hzz;obtain ⟨hz0, hzs, hzb⟩ := hzz
  obtain ⟨G, hG⟩ : ∃ G, G = grownCap w n 0 9 := ⟨_, rfl⟩
  have hGn : n <= G := by rw [hG]; exact grownCap_ge w _ _ _
  have hG63 : G <= maxLen := by rw [hG]; exact grownCap_le_maxLen w n 0 9 (by unfold maxLen; omega)
  have hrz : ∀ ty, (Builtin.append_ #[38, 3] ty #[.slice none 0 0, .int .i64 (n : Int)]).run Try.prog w = .ok (.slice (some ⟨w.heap.size, 0, none⟩) n G) (w.drew.alloc (.cells (Builtin.zeroCells (Value.cells (.string ⟨#[]⟩)) n ++ Builtin.zeroCells (Value.cells (.string ⟨#[]⟩)) (G - n)) 9)) := fun ty => by
   rw [hG];exact Lib.run_append_nil_zeros w 38 3 ty 9 i0 _ .i64 .i64 Try.underlying38 Try.underlying3 hi0 hz0 n h0 (by omega) (by omega) (by rw [hzb]; omega)
  have hown := ER (w := w) (E := 9) (z := (.string ⟨#[]⟩)) hGn hG63 rfl
  obtain ⟨W1, hW1⟩ : ∃ W1, W1 = w.drew.alloc (.cells (Builtin.zeroCells (Value.cells (.string ⟨#[]⟩)) n ++ Builtin.zeroCells (Value.cells (.string ⟨#[]⟩)) (G - n)) 9) := ⟨_, rfl⟩
  rw [<- hW1] at hrz hown;have HO := A_ hown
  have HB : af (Below w.heap.size w W1) := ⟨by rw [hW1]; exact Below.alloc (aG (Below.refl _ _)) (Nat.le_refl _) _⟩
  clear hown hW1 hG;have hp : (0 : Int) < (n : Int) := by omega
  have Zv : G <= 9223372036854775807 := by unfold maxLen at hG63; omega
  go_enter Try.func146, Try.ntmps146
  go_wp2_with (at_builtin; refine Lib.wpList_append_run _ rfl _ _ _ _ rfl _ _ rfl rfl _ _ (hrz _) ?_)
  go_ret;exact ⟨_, rfl, Kd.oz (enc := Value.string) (xs := []) (h1 := fun _ => rfl) HO.out (fun _ _ => trivial), HB.out⟩
set_option maxHeartbeats 4000000 in
theorem Pv (n : Nat) (w : World) (hn : n * 8 <= 140737488355328) :
  Calls Try.prog 147 #[.slice none 0 0, .int .i64 (n : Int)] w fun e w' => ∃ v, e = .returned v /\ Kd.R dZ 74 w' w.heap.size (fun _ => True) v [] /\ Below w.heap.size w w' := by
 have hw1 : IntKind.i64.wrap (n : Int) = (n : Int) := by rw [IntKind.wrap_i64]; omega
 have hnn : ¬ ((n : Int) < 0) := by omega
 rcases Nat.eq_zero_or_pos n with h0 | h0
 ·subst h0
  go_enter Try.func147, Try.ntmps147;go_wp2;go_ret;exact ⟨_, rfl, Kd.xz _ _ _ _ _, Below.refl _ _⟩
 ·obtain ⟨i0, hi0, hzz⟩ := Option.map_eq_some_iff.1 kZ
  simp only [Prod.mk.injEq] at hzz;obtain ⟨hz0, hzs, hzb⟩ := hzz
  obtain ⟨G, hG⟩ : ∃ G, G = grownCap w n 0 74 := ⟨_, rfl⟩
  have hGn : n <= G := by rw [hG]; exact grownCap_ge w _ _ _
  have hG63 : G <= maxLen := by rw [hG]; exact grownCap_le_maxLen w n 0 74 (by unfold maxLen; omega)
  have hrz : ∀ ty, (Builtin.append_ #[99, 3] ty #[.slice none 0 0, .int .i64 (n : Int)]).run Try.prog w = .ok (.slice (some ⟨w.heap.size, 0, none⟩) n G) (w.drew.alloc (.cells (Builtin.zeroCells (Value.cells (.pointer none)) n ++ Builtin.zeroCells (Value.cells (.pointer none)) (G - n)) 74)) := fun ty => by
   rw [hG];exact Lib.run_append_nil_zeros w 99 3 ty 74 i0 _ .i64 .i64 Try.underlying99 Try.underlying3 hi0 hz0 n h0 (by omega) (by omega) (by rw [hzb]; omega)
  have hown := ER (w := w) (E := 74) (z := (.pointer none)) hGn hG63 rfl
  obtain ⟨W1, hW1⟩ : ∃ W1, W1 = w.drew.alloc (.cells (Builtin.zeroCells (Value.cells (.pointer none)) n ++ Builtin.zeroCells (Value.cells (.pointer none)) (G - n)) 74) := ⟨_, rfl⟩
  rw [<- hW1] at hrz hown;have HO := A_ hown
  have HB : af (Below w.heap.size w W1) := ⟨by rw [hW1]; exact Below.alloc (aG (Below.refl _ _)) (Nat.le_refl _) _⟩
  clear hown hW1 hG;have hp : (0 : Int) < (n : Int) := by omega
  have Zv : G <= 9223372036854775807 := by unfold maxLen at hG63; omega
  go_enter Try.func147, Try.ntmps147
  go_wp2_with (at_builtin; refine Lib.wpList_append_run _ rfl _ _ _ _ rfl _ _ rfl rfl _ _ (hrz _) ?_)
  go_ret;exact ⟨_, rfl, Kd.oz (enc := bu) (xs := []) (h1 := fun _ => rfl) HO.out (fun _ _ => trivial), HB.out⟩
theorem Ke (gv m cv : Nat) (A : Nat -> Option Addr) (c : Nat -> Nat) (rs : Nat -> List ByteArray) (w : World) (hV : ∀ j, j < m -> w.cell? ⟨gv, j, none⟩ = some (.slice (A j) (rs j).length (c j))) (hR : ∀ j, j < m -> Kd.C Kd.string w (A j) (rs j).length (rs j)) (hC : ∀ j, j < m -> (rs j).length <= c j) (hmc : m <= cv) (hm : m <= 1000)
  (hbig : ∀ j, j <= m -> (ru rs j).length <= 1000000000000) :
  Calls Try.prog 140 #[.slice (some ⟨gv, 0, none⟩) m cv] w fun e w' => ∃ v, e = .returned v /\ Kd.R Kd.string 9 w' w.heap.size (fun _ => True) v (ru rs m) /\ Below w.heap.size w w' := by
 have HV := A_ hV;have HR := A_ hR;have HC := A_ hC;have HL := A_ hbig;clear hV hR hC hbig
 have hstep : af (∀ j, (ru rs (j + 1)).length = (ru rs j).length + (rs j).length) := ⟨fun j => by show (ru rs j ++ rs j).length = _; rw [List.length_append]⟩
 go_enter Try.func140, Try.ntmps140
 go_upto_region 3 with fail
 go_loopg [3, 11] m (fun kq u3 Zy w' => ∃ (i s : Nat), u3 = .int .i64 (s : Int) /\ Zy = .int .i64 (i : Int) /\ af (s = (ru rs i).length) /\ af (kq + i = m) /\ w = w')
 case atStart => exact ⟨0, 0, by first | rfl | (simp; done), by first | rfl | (simp; done), ⟨rfl⟩, ⟨Nat.add_zero _⟩, rfl⟩
 case round =>
  obtain ⟨i, s, rfl, rfl, HS, HK, rfl⟩ := hrel
  by_cases hi : i < m
  ·have ce := lQ ((i : Int) < (m : Int))
   have zg : (i < m) = True := eq_true hi;have z := HV.out i hi
   have hs2 : s + (rs i).length <= 1000000000000 := by
    have h1 := HL.out (i + 1) (by omega);have h2 := hstep.out i;have h3 := HS.out;omega
   have HS2 := A_ hs2;have w1 : wrap64 ((s : Int) + ((rs i).length : Int)) = ((s + (rs i).length : Nat) : Int) := jW ⟨by omega, by omega, by omega⟩;have nn := kS (((s + (rs i).length : Nat) : Int) < 0);have ci := bV (0 <= (i : Int))
   go_upto_region 6 with fail
   go_wp2_with fail
   go_roundg (m - (i + 1))
   case measure => have := HK.out; omega
   case rel => exact ⟨i + 1, s + (rs i).length, by first | rfl | (simp; done), by first | rfl | go_num | (simp; done), ⟨by rw [hstep.out, HS.out]⟩, ⟨by have := HK.out; omega⟩, rfl⟩
  ·have ce := kS ((i : Int) < (m : Int))
   have zg : (i < m) = False := eq_false hi
   have hsb : s * 16 <= 140737488355328 := by
    have h1 := HL.out i (by have := HK.out; omega);have h2 := HS.out;omega
   have HX := A_ (Pt s w hsb);clear hi hsb HS
   go_wp2_with (first | (go_at_call 146; (with_reducible refine HX.out.mono ?_); rintro e w1 ⟨v1, rfl, ho, hb⟩; have HO := A_ ho; have HB := A_ hb; clear ho hb))
   go_upto_region 11 with fail
   go_loopg [6, 27] m (fun kq u6 u27 w' => ∃ (j : Nat), u27 = .int .i64 (j : Int) /\ af (kq + j = m) /\ af (Kd.R Kd.string 9 w' w.heap.size (fun _ => True) u6 (ru rs j)) /\ af (Below w.heap.size w w'))
   case atStart => exact ⟨0, by first | rfl | (simp; done), ⟨Nat.add_zero _⟩, HO, HB⟩
   case round =>
    clear HO HB;obtain ⟨j, rfl, Vg, HO, HB⟩ := hrel;obtain ⟨A6, c6, rfl⟩ := Kd.ak HO.out
    by_cases hj : j < m
    ·have Zz := lQ ((j : Int) < (m : Int))
     have Vh : (j < m) = True := eq_true hj;have Rh := bV (0 <= (j : Int));have z := lZ HB.out (HV.out j hj)
     have hle : ((ru rs j).length + (rs j).length) * 16 <= 140737488355328 := by
      have h1 := HL.out (j + 1) (by omega);have h2 := hstep.out j;omega
     have z8 := A_ hle;have HJ := A_ hj;have HR2 := A_ (Kd.aN (HR.out j hj) HB.out);clear hle
     go_upto_region 14 with (first | ((with_reducible refine bP (b := .append) (xs := #[.tmp 31, .tmp 32]) rfl ?_); at_builtin; refine Kd.eY Kd.string (w0 := w) w.heap.size rfl (.tmp 31) (.tmp 32) 38 9 (.string ⟨#[]⟩) 16 rfl Try.underlying38 dC rfl (by decide) (by omega) (.slice A6 (ru rs j).length c6) (ru rs j) (rs j) (A j) (rs j).length (c j) (fun _ => True) (fun _ => False) rfl rfl HO.out HR2.out (fun _ _ h => h) (fun _ h => h.elim) (fun _ _ => trivial) HB.out (Below.size HB.out) z8.out ?_; intro Ws w16 ho hb hg hat; clear hg hat HO HB; have HO := A_ ho; have HB := A_ hb; clear ho hb))
     go_wp2_with fail
     go_roundg (m - (j + 1))
     case measure => have := Vg.out; omega
     case rel => exact ⟨j + 1, by first | rfl | go_num | (simp; done), ⟨by have := Vg.out; have := HJ.out; omega⟩, HO, HB⟩
    ·have Zz := kS ((j : Int) < (m : Int))
     have Vh : (j < m) = False := eq_false hj;have HJ := A_ (show j = m by have := Vg.out; omega);clear hj
     go_wp2_with fail
     go_ret;exact ⟨_, rfl, by rw [<- HJ.out]; exact HO.out, HB.out⟩
theorem Kg (gv m cv : Nat) (A : Nat -> Option Addr) (c : Nat -> Nat) (rs : Nat -> List Nat) (w : World) (hV : ∀ j, j < m -> w.cell? ⟨gv, j, none⟩ = some (.slice (A j) (rs j).length (c j))) (hR : ∀ j, j < m -> Kd.C dZ w (A j) (rs j).length (rs j)) (hC : ∀ j, j < m -> (rs j).length <= c j) (hmc : m <= cv) (hm : m <= 1000)
  (hbig : ∀ j, j <= m -> (ru rs j).length <= 1000000000000) :
  Calls Try.prog 141 #[.slice (some ⟨gv, 0, none⟩) m cv] w fun e w' => ∃ v, e = .returned v /\ Kd.R dZ 74 w' w.heap.size (fun _ => True) v (ru rs m) /\ Below w.heap.size w w' := by
 have HV := A_ hV;have HR := A_ hR;have HC := A_ hC;have HL := A_ hbig;clear hV hR hC hbig
 have hstep : af (∀ j, (ru rs (j + 1)).length = (ru rs j).length + (rs j).length) := ⟨fun j => by show (ru rs j ++ rs j).length = _; rw [List.length_append]⟩
 go_enter Try.func141, Try.ntmps141
 go_upto_region 3 with fail
 go_loopg [3, 11] m (fun kq u3 Zy w' => ∃ (i s : Nat), u3 = .int .i64 (s : Int) /\ Zy = .int .i64 (i : Int) /\ af (s = (ru rs i).length) /\ af (kq + i = m) /\ w = w')
 case atStart => exact ⟨0, 0, by first | rfl | (simp; done), by first | rfl | (simp; done), ⟨rfl⟩, ⟨Nat.add_zero _⟩, rfl⟩
 case round =>
  obtain ⟨i, s, rfl, rfl, HS, HK, rfl⟩ := hrel
  by_cases hi : i < m
  ·have ce := lQ ((i : Int) < (m : Int))
   have zg : (i < m) = True := eq_true hi;have z := HV.out i hi
   have hs2 : s + (rs i).length <= 1000000000000 := by
    have h1 := HL.out (i + 1) (by omega);have h2 := hstep.out i;have h3 := HS.out;omega
   have HS2 := A_ hs2;have w1 : wrap64 ((s : Int) + ((rs i).length : Int)) = ((s + (rs i).length : Nat) : Int) := jW ⟨by omega, by omega, by omega⟩;have nn := kS (((s + (rs i).length : Nat) : Int) < 0);have ci := bV (0 <= (i : Int))
   go_upto_region 6 with fail
   go_wp2_with fail
   go_roundg (m - (i + 1))
   case measure => have := HK.out; omega
   case rel => exact ⟨i + 1, s + (rs i).length, by first | rfl | (simp; done), by first | rfl | go_num | (simp; done), ⟨by rw [hstep.out, HS.out]⟩, ⟨by have := HK.out; omega⟩, rfl⟩
  ·have ce := kS ((i : Int) < (m : Int))
   have zg : (i < m) = False := eq_false hi
   have hsb : s * 8 <= 140737488355328 := by
    have h1 := HL.out i (by have := HK.out; omega);have h2 := HS.out;omega
   have HX := A_ (Pv s w hsb);clear hi hsb HS
   go_wp2_with (first | (go_at_call 147; (with_reducible refine HX.out.mono ?_); rintro e w1 ⟨v1, rfl, ho, hb⟩; have HO := A_ ho; have HB := A_ hb; clear ho hb))
   go_upto_region 11 with fail
   go_loopg [6, 27] m (fun kq u6 u27 w' => ∃ (j : Nat), u27 = .int .i64 (j : Int) /\ af (kq + j = m) /\ af (Kd.R dZ 74 w' w.heap.size (fun _ => True) u6 (ru rs j)) /\ af (Below w.heap.size w w'))
   case atStart => exact ⟨0, by first | rfl | (simp; done), ⟨Nat.add_zero _⟩, HO, HB⟩
   case round =>
    clear HO HB;obtain ⟨j, rfl, Vg, HO, HB⟩ := hrel;obtain ⟨A6, c6, rfl⟩ := Kd.ak HO.out
    by_cases hj : j < m
    ·have Zz := lQ ((j : Int) < (m : Int))
     have Vh : (j < m) = True := eq_true hj;have Rh := bV (0 <= (j : Int));have z := lZ HB.out (HV.out j hj)
     have hle : ((ru rs j).length + (rs j).length) * 8 <= 140737488355328 := by
      have h1 := HL.out (j + 1) (by omega);have h2 := hstep.out j;omega
     have z8 := A_ hle;have HJ := A_ hj;have HR2 := A_ (Kd.aN (HR.out j hj) HB.out);clear hle
     go_upto_region 14 with (first | ((with_reducible refine bP (b := .append) (xs := #[.tmp 31, .tmp 32]) rfl ?_); at_builtin; refine Kd.eY dZ (w0 := w) w.heap.size rfl (.tmp 31) (.tmp 32) 99 74 (.pointer none) 8 rfl Try.underlying99 kZ rfl (by decide) (by omega) (.slice A6 (ru rs j).length c6) (ru rs j) (rs j) (A j) (rs j).length (c j) (fun _ => True) (fun _ => False) rfl rfl HO.out HR2.out (fun _ _ h => h) (fun _ h => h.elim) (fun _ _ => trivial) HB.out (Below.size HB.out) z8.out ?_; intro Ws w16 ho hb hg hat; clear hg hat HO HB; have HO := A_ ho; have HB := A_ hb; clear ho hb))
     go_wp2_with fail
     go_roundg (m - (j + 1))
     case measure => have := Vg.out; omega
     case rel => exact ⟨j + 1, by first | rfl | go_num | (simp; done), ⟨by have := Vg.out; have := HJ.out; omega⟩, HO, HB⟩
    ·have Zz := kS ((j : Int) < (m : Int))
     have Vh : (j < m) = False := eq_false hj;have HJ := A_ (show j = m by have := Vg.out; omega);clear hj
     go_wp2_with fail
     go_ret;exact ⟨_, rfl, by rw [<- HJ.out]; exact HO.out, HB.out⟩
theorem Cg {w : World} {base E n c : Nat} {Ag : Option Addr} {xs : List Value} (h : w.ownsRow base E 1 (.slice Ag n c) n xs) (hn : 0 < n) : ∃ g, Ag = some ⟨g, 0, none⟩ /\ n <= c /\ ∀ j x, xs[j]? = some x -> w.cell? ⟨g, j, none⟩ = some x := by
 rcases h.2 with ⟨_, h0⟩ | ⟨g, cap, cur, e, _, hh, hnc, _, _, ht⟩
 ·omega
 ·injection e with e1 e2 e3
  subst e1 e3;rw [Nat.mul_one] at ht;refine ⟨g, rfl, hnc, fun j x hj => ?_⟩;rw [cZ hh, <- Array.getElem?_toList];have := jY (l := cur.toList) (o := 0) (by rw [List.drop_zero]; exact ht) hj
  rwa [Nat.zero_add] at this
def ES {α : Type} (a b c : α) : Nat -> α
 | 0 => a
 | 1 => b
 | _ => c
theorem R3 {w : World} {base cg c0 c1 c2 : Nat} {Ag A0 A1 A2 : Option Addr} {l0 l1 l2 : List ByteArray} (hg : w.ownsRow base 38 1 (.slice Ag 3 cg) 3 [.slice A0 l0.length c0, .slice A1 l1.length c1, .slice A2 l2.length c2])
  (h0 : Kd.string.C w A0 l0.length l0) (h1 : Kd.string.C w A1 l1.length l1) (h2 : Kd.string.C w A2 l2.length l2) (k0 : l0.length <= c0) (k1 : l1.length <= c1) (k2 : l2.length <= c2) (hb : l0.length + l1.length + l2.length <= 1000000000000) :
  Calls Try.prog 140 #[.slice Ag 3 cg] w fun e w' => ∃ v, e = .returned v /\ Kd.R Kd.string 9 w' w.heap.size (fun _ => True) v (l0 ++ l1 ++ l2) /\ Below w.heap.size w w' := by
 obtain ⟨g, rfl, hc, hx⟩ := Cg hg (by decide);refine Ke g 3 cg (ES A0 A1 A2) (ES c0 c1 c2) (ES l0 l1 l2) w (fun j hj => ?_) (fun j hj => ?_) (fun j hj => ?_) hc (by decide) (fun j hj => ?_)
 ·match j, hj with
  | 0, _ => exact hx 0 _ rfl
  | 1, _ => exact hx 1 _ rfl
  | 2, _ => exact hx 2 _ rfl
 ·match j, hj with
  | 0, _ => exact h0
  | 1, _ => exact h1
  | 2, _ => exact h2
 ·match j, hj with
  | 0, _ => exact k0
  | 1, _ => exact k1
  | 2, _ => exact k2
 ·match j, hj with
  | 0, _ => exact Nat.zero_le _
  | 1, _ => show (([] : List ByteArray) ++ l0).length <= _; simp only [List.length_append, List.length_nil]; omega
  | 2, _ => show (([] : List ByteArray) ++ l0 ++ l1).length <= _; simp only [List.length_append, List.length_nil]; omega
  | 3, _ => show (([] : List ByteArray) ++ l0 ++ l1 ++ l2).length <= _; simp only [List.length_append, List.length_nil]; omega
theorem R4 {w : World} {base cg c0 c1 : Nat} {Ag A0 A1 : Option Addr} {l0 l1 : List Nat} (hg : w.ownsRow base 99 1 (.slice Ag 2 cg) 2 [.slice A0 l0.length c0, .slice A1 l1.length c1])
  (h0 : Kd.C dZ w A0 l0.length l0) (h1 : Kd.C dZ w A1 l1.length l1) (k0 : l0.length <= c0) (k1 : l1.length <= c1) (hb : l0.length + l1.length <= 1000000000000) :
  Calls Try.prog 141 #[.slice Ag 2 cg] w fun e w' => ∃ v, e = .returned v /\ Kd.R dZ 74 w' w.heap.size (fun _ => True) v (l0 ++ l1) /\ Below w.heap.size w w' := by
 obtain ⟨g, rfl, hc, hx⟩ := Cg hg (by decide);refine Kg g 2 cg (ES A0 A1 none) (ES c0 c1 0) (ES l0 l1 []) w (fun j hj => ?_) (fun j hj => ?_) (fun j hj => ?_) hc (by decide) (fun j hj => ?_)
 ·match j, hj with
  | 0, _ => exact hx 0 _ rfl
  | 1, _ => exact hx 1 _ rfl
 ·match j, hj with
  | 0, _ => exact h0
  | 1, _ => exact h1
 ·match j, hj with
  | 0, _ => exact k0
  | 1, _ => exact k1
 ·match j, hj with
  | 0, _ => exact Nat.zero_le _
  | 1, _ => show (([] : List Nat) ++ l0).length <= _; simp only [List.length_append, List.length_nil]; omega
  | 2, _ => show (([] : List Nat) ++ l0 ++ l1).length <= _; simp only [List.length_append, List.length_nil]; omega
theorem aa.pack {w : World} {base : Nat} {a b c : List Ck} {R : List (List Ck)} (h : aa w base (a :: b :: c :: R)) : aa w base [a, b, c, R.flatten] := by
 unfold aa at h ⊢;simp only [List.flatten_cons, List.flatten_nil, List.append_nil] at h ⊢;exact h
theorem aa.unpack {w : World} {base : Nat} {a b c : List Ck} {R : List (List Ck)} (h : aa w base [a, b, c, R.flatten]) : aa w base (a :: b :: c :: R) := by
 unfold aa at h ⊢;simp only [List.flatten_cons, List.flatten_nil, List.append_nil] at h ⊢;exact h
theorem uM.calls {p : Nat} {Ak Av : Option Addr} {ck cv : Nat} {ks vs : List ByteArray} {Ow : Value} {i : Nat} {x y : ByteArray} (hi : i <= ks.length) (hv : i <= vs.length) (hk1 : ks.length <= 1000000000000) (hv1 : vs.length <= 1000000000000) (base : Nat) (R : List (List Ck)) (w : World)
  (hs : aa w base ([.box 101 p #[.slice Ak ks.length ck, .slice Av vs.length cv, Ow]] :: [txt (.slice Ak ks.length ck) ks] :: [txt (.slice Av vs.length cv) vs] :: R)) (hbs : base <= w.heap.size) :
  Calls Try.prog 126 #[bu p, .int .i64 (i : Int), .string x, .string y] w fun e w' => e = .returned (.tuple #[]) /\ ∃ QP Jy QQ cv', aa w' base ([.box 101 p #[.slice QP (aI ks i x).length Jy, .slice QQ (aI vs i y).length cv', Ow]] :: [txt (.slice QP (aI ks i x).length Jy) (aI ks i x)] :: [txt (.slice QQ (aI vs i y).length cv') (aI vs i y)] :: R) /\ Below base w w' := by
 have HS := A_ (aa.pack hs);have HB := A_ (Below.refl base w);have bQ := A_ hbs
 obtain ⟨GR, Vi⟩ : ∃ G, G = R.flatten := ⟨_, rfl⟩
 rw [<- Vi] at HS;have ZA := A_ Vi;clear hs hbs Vi;go_enter Try.func126, Try.ntmps126;refine bS (n := 24) (S := fun w' => w'.cell? ⟨p, 0, none⟩ = some (.slice Ak ks.length ck) /\ w'.cell? ⟨p, 1, none⟩ = some (.slice Av vs.length cv)) (ds := [20, 23]) (bt 24 0) (by kernel_rfl) rfl rfl ⟨(aa.z0 (aa.drew HS.out) 0 rfl), (aa.z1 (aa.drew HS.out) 0 rfl)⟩ (fun hHeld => ?_);refine aH 0 8 1 ?_;refine aH 1 9 3 ?_;refine aH 2 10 7 ?_;refine aH 3 11 15 ?_;refine aH 4 12 31 ?_;refine aH 6 14 95 ?_;refine aH 7 15 223 ?_;refine aH 10 18 1247 ?_;refine aH 11 19 3295 ?_;refine aH 12 20 7391 ?_;refine aH 14 22 23775 ?_;refine aH 15 23 56543 ?_;refine fq 5 13 56575 hHeld ?_;refine fq 13 21 64767 hHeld ?_;refine gQ (σ := Value × Value × Value) 7 (bt 24 131071) (fun z => [(16, z.1), (17, z.2.1), (24, z.2.2)]) (fun z w' => Below base w w' /\ aa w' base [[.box 101 p #[.slice Ak ks.length ck, .slice Av vs.length cv, Ow]], [txt z.2.1 (aI ks i x)], gK Av cv vs, GR, [txt z.2.2 [y]]]) ?_ ?_;rotate_left
 ·intro iE
  refine ve 8 16 (some 16) (some 24) 65023 130303 (fun K hK => ?_) (fun K hK => ?_)
  ·skip
   refine xy Kd.string 9 16 [x] [.string x] (Kd.aY (enc := Value.string) [x]) (aG HB.out) (cO bQ HB) ?_;intro vb1 NJ dx hbb hgb hnb;have lV := A_ hbb;have lN := A_ (aa.lit (aa.drew HS.out) dx hgb hnb);obtain ⟨gL, gM, rfl⟩ : ∃ A c, vb1 = .slice A 1 c := Kd.ak dx;clear dx hbb hgb hnb;refine dh 16 hK ⟨(aa.z0 lN.out 0 rfl), (aa.z1 lN.out 0 rfl)⟩ (fun hHeld => ?_);refine ve 9 16 (some 17) (some 24) 65535 130559 (fun K hK => ?_) (fun K hK => ?_)
   ·skip
    refine lI Try.func136 #[.slice Ak ks.length ck, .int .i64 (i : Int), .slice gL 1 gM] ?_
    with_reducible refine (Ga (ia := 1) (ib := 4) (i := i) lN.out rfl rfl (by decide) hi (cO bQ lV) hk1 lV.out).mono ?_
    rintro e DT ⟨A1, c1, rfl, hs_, nD⟩;refine ⟨_, rfl, ?_⟩;have jD := A_ nD;have iA := A_ hs_;clear hs_ nD;refine dh 17 hK ⟨(aa.z0 iA.out 0 rfl), (aa.z1 iA.out 0 rfl)⟩ (fun hHeld => ?_);refine gG 16 (some 24) 131071 (fun K hK => ?_);refine xy Kd.string 9 24 [y] [.string y] (Kd.aY (enc := Value.string) [y]) jD.out (cO bQ jD) ?_;intro pX AZ dx hbb hgb hnb;have kD := A_ hbb;have iw := A_ (aa.lit iA.out dx hgb hnb);obtain ⟨fQ, fT, rfl⟩ : ∃ A c, pX = .slice A 1 c := Kd.ak dx;clear dx hbb hgb hnb;refine dh 24 hK ⟨(aa.z0 iw.out 0 rfl), (aa.z1 iw.out 0 rfl)⟩ (fun hHeld => ?_);exact yA (iE ⟨.slice gL 1 gM, .slice A1 (aI ks i x).length c1, .slice fQ 1 fT⟩ _ ⟨kD.out, aa.gJ iw.out [0, 1, 2, 3, 5] (by decide)⟩)
   ·skip
    refine xy Kd.string 9 24 [y] [.string y] (Kd.aY (enc := Value.string) [y]) lV.out (cO bQ lV) ?_;intro pX DT dx hbb hgb hnb;have jD := A_ hbb;have iA := A_ (aa.lit lN.out dx hgb hnb);obtain ⟨fQ, fT, rfl⟩ : ∃ A c, pX = .slice A 1 c := Kd.ak dx;clear dx hbb hgb hnb;refine dh 24 hK ⟨(aa.z0 iA.out 0 rfl), (aa.z1 iA.out 0 rfl)⟩ (fun hHeld => ?_);refine gG 9 (some 17) 131071 (fun K hK => ?_);refine lI Try.func136 #[.slice Ak ks.length ck, .int .i64 (i : Int), .slice gL 1 gM] ?_
    with_reducible refine (Ga (ia := 1) (ib := 4) (i := i) iA.out rfl rfl (by decide) hi (cO bQ jD) hk1 jD.out).mono ?_
    rintro e AZ ⟨A1, c1, rfl, hs_, nD⟩;refine ⟨_, rfl, ?_⟩;have kD := A_ nD;have iw := A_ hs_;clear hs_ nD;refine dh 17 hK ⟨(aa.z0 iw.out 0 rfl), (aa.z1 iw.out 0 rfl)⟩ (fun hHeld => ?_);exact yA (iE ⟨.slice gL 1 gM, .slice A1 (aI ks i x).length c1, .slice fQ 1 fT⟩ _ ⟨kD.out, aa.gJ iw.out [0, 1, 2, 3, 5] (by decide)⟩)
  ·skip
   refine xy Kd.string 9 24 [y] [.string y] (Kd.aY (enc := Value.string) [y]) (aG HB.out) (cO bQ HB) ?_;intro pX NJ dx hbb hgb hnb;have lV := A_ hbb;have lN := A_ (aa.lit (aa.drew HS.out) dx hgb hnb);obtain ⟨fQ, fT, rfl⟩ : ∃ A c, pX = .slice A 1 c := Kd.ak dx;clear dx hbb hgb hnb;refine dh 24 hK ⟨(aa.z0 lN.out 0 rfl), (aa.z1 lN.out 0 rfl)⟩ (fun hHeld => ?_);refine gG 8 (some 16) 130559 (fun K hK => ?_);refine xy Kd.string 9 16 [x] [.string x] (Kd.aY (enc := Value.string) [x]) lV.out (cO bQ lV) ?_;intro vb1 DT dx hbb hgb hnb;have jD := A_ hbb;have iA := A_ (aa.lit lN.out dx hgb hnb);obtain ⟨gL, gM, rfl⟩ : ∃ A c, vb1 = .slice A 1 c := Kd.ak dx;clear dx hbb hgb hnb;refine dh 16 hK ⟨(aa.z0 iA.out 0 rfl), (aa.z1 iA.out 0 rfl)⟩ (fun hHeld => ?_);refine gG 9 (some 17) 131071 (fun K hK => ?_);refine lI Try.func136 #[.slice Ak ks.length ck, .int .i64 (i : Int), .slice gL 1 gM] ?_
   with_reducible refine (Ga (ia := 1) (ib := 5) (i := i) iA.out rfl rfl (by decide) hi (cO bQ jD) hk1 jD.out).mono ?_
   rintro e AZ ⟨A1, c1, rfl, hs_, nD⟩;refine ⟨_, rfl, ?_⟩;have kD := A_ nD;have iw := A_ hs_;clear hs_ nD;refine dh 17 hK ⟨(aa.z0 iw.out 0 rfl), (aa.z1 iw.out 0 rfl)⟩ (fun hHeld => ?_);exact yA (iE ⟨.slice gL 1 gM, .slice A1 (aI ks i x).length c1, .slice fQ 1 fT⟩ _ ⟨kD.out, aa.gJ iw.out [0, 1, 2, 3, 4] (by decide)⟩)
 rintro ⟨vb1, u1, pX⟩ w8 ⟨hb, hs⟩;obtain ⟨fQ, fT, rfl⟩ : ∃ A c, pX = .slice A 1 c := Kd.ak (aa.sr hs 4 rfl);obtain ⟨A1, c1, rfl⟩ := Kd.ak (aa.sr hs 1 rfl)
 have hHeld : (w8.cell? ⟨p, 0, none⟩ = some (.slice Ak ks.length ck)) /\ (w8.cell? ⟨p, 1, none⟩ = some (.slice Av vs.length cv)) := ⟨aa.z0 hs 0 rfl, aa.z1 hs 0 rfl⟩
 clear HS HB;have HB := A_ hb;have HS := A_ hs;clear hb hs;refine uq ?_;refine gG 17 (some 25) 262143 (fun K hK => ?_);refine lI Try.func136 #[.slice Av vs.length cv, .int .i64 (i : Int), .slice fQ 1 fT] ?_
 with_reducible refine (Ga (ia := 2) (ib := 4) (i := i) HS.out rfl rfl (by decide) hv (cO bQ HB) hv1 HB.out).mono ?_
 rintro e w9 ⟨A2, c2, rfl, hs_, nD⟩;refine ⟨_, rfl, ?_⟩;clear HS HB;have HB := A_ nD;have ah := jN hs_;have HS := ah;clear ah hs_ nD;have zs0 := aa.z0 HS.out 0 rfl;have jE := aa.f HS.out 0 rfl 0;have Ox := aa.z1 HS.out 0 rfl;have Oy := aa.f HS.out 0 rfl 1;refine dh 25 hK ⟨(aa.z0 HS.out 0 rfl), (aa.z1 HS.out 0 rfl)⟩ (fun hHeld => ?_);refine aH 18 26 524287 ?_;refine aH 19 27 1048575 ?_;refine qz 20 none 2097151 (fun K hK => ?_);refine fA (w1 := ?_) (by rfl) rfl ?_ ?_;rotate_left
 ·go_simp
  rfl
 refine hK.out _ _ ?_;clear hK K;refine aH 21 28 4194303 ?_;refine aH 22 29 8388607 ?_;refine qz 23 none 16777215 (fun K hK => ?_);refine fA (w1 := ?_) (by rfl) rfl ?_ ?_;rotate_left
 ·go_simp
  rfl
 refine hK.out _ _ ?_;clear hK K;refine dL (by kernel_rfl) ?_
 go_end0
 have hS := aa.gJ (aa.xU (aa.xS HS.out 0 rfl (.slice A1 (aI ks i x).length c1)) 0 rfl (.slice A2 (aI vs i y).length c2)) [0, 1, 2, 3] (by decide);exact ⟨rfl, A1, c1, A2, c2, aa.unpack (by rw [<- ZA.out]; exact hS), (HB.out.setCell (p := ⟨p, 0, none⟩) (aa.ge HS.out 0 rfl) _).setCell (p := ⟨p, 1, none⟩) (aa.ge HS.out 0 rfl) _⟩
end Go.Proofs.Ytoddejmlcnbdmaa.Tree

