/- The law FnTrees holds of the given program: at every input it answers true and leaves its arguments as they were; no condition. This text: part 3 of what its proof reaches. -/
import Derived.Deep.QuietTactic
import Derived.BigQuiet
import Derived.Laws.IdiomCopy
import Derived.Lib.AppendZerosOnto
import Derived.Lib.Overlaps
import Derived.Laws.Externs
import Derived.Shelf.Spec.SlicesInsert
import Derived.Lib.SliceRun
import Derived.Lib.AppendZeros
import Derived.Test.YtoddejmlcnbdmaaCFTreesA
import Derived.Test.YtoddejmlcnbdmaaCFTreesB
set_option maxHeartbeats 8000000
set_option maxRecDepth 100000
set_option linter.unusedVariables false
set_option linter.unusedSimpArgs false
open Go.Proofs.Ytoddejmlcnbdmaa.Fn
open Go.Lib Go.Proofs.Ytoddejmlcnbdmaa.Fn
open Go.RowKit Go.Proofs.YtoddejmlcnbdmaaW.PrintWords Go.Proofs.YtoddejmlcnbdmaaW.PrintLast Go.Proofs.YtoddejmlcnbdmaaW.PrintMore Go.Proofs.Ytoddejmlcnbdmaa.Gen
namespace Go.Proofs.Ytoddejmlcnbdmaa.Tree
set_option maxHeartbeats 8000000
set_option maxRecDepth 100000
def kW (T E : Nat) (t : NT) (L : List Ck) : List (List Ck) :=
 [[.box T t.p #[t.kv, t.vv, t.cv]], [txt t.kv t.keys], [txt t.vv t.vals], [.jE E t.cv (ptrs t.kids)], NT.bE T E t.kids, L]
theorem xX {T E : Nat} {t : NT} {L : List Ck} : (kW T E t L).flatten = t.dI T E ++ L := by
 rw [NT.jy]
 unfold kW NT.head
 simp only [List.flatten_cons, List.flatten_nil, List.append_assoc, List.cons_append, List.nil_append, List.append_nil]
theorem fF {w : World} {base T E : Nat} {t : NT} {L : List Ck} (hs : Sat w base (t.dI T E ++ L)) : aa w base (kW T E t L) := by
 unfold aa
 rw [xX]
 exact hs
theorem ko {w : World} {base T E : Nat} {t : NT} {L : List Ck} (hs : aa w base (kW T E t L)) : Sat w base (t.dI T E ++ L) := by
 unfold aa at hs
 rw [xX] at hs
 exact hs
theorem iK {w : World} {base g n c : Nat} {l : List ByteArray} (h : SR w base (.slice (some ⟨g, 0, none⟩) n c) l) (hl : 0 < l.length) (j : Nat) : w.frozen? ⟨g, j, none⟩ = false := by
 obtain ⟨g', c', e, _, _, cells, hc⟩ := Kd.q8 h hl
 injection e with e1 e2 e3
 injection e1 with e1
 injection e1 with e1
 subst e1
 exact aY hc j
theorem zQ {w : World} {base g n c : Nat} {l : List ByteArray} (h : SR w base (.slice (some ⟨g, 0, none⟩) n c) l) (i : Nat) (hi : i < l.length) : w.cell? ⟨g, i, none⟩ = some (.string (bI ByteArray.empty l (i : Int))) := by
 obtain ⟨h1, h2, h3⟩ := Kd.dW h
 obtain ⟨V8, e, hz⟩ := Kd.bF h3 (i : Int) (by omega) (by omega)
 injection e with e
 subst e
 rw [Int.toNat_natCast] at hz
 have : (⟨g, 0, none⟩ : Addr).add i = ⟨g, i, none⟩ := by simp only [Addr.add]; split <;> simp_all
 rw [this] at hz
 exact hz
theorem bA (t : NT) : t.erase.keys = t.keys := by cases t; rfl
theorem kX (t : NT) : t.erase.vals = t.vals := by cases t; rfl
theorem q9 (t : NT) : t.erase.kids = t.kids.map NT.erase := by cases t; exact aK _
theorem bT (t : NT) : t.erase.kids.length = t.kids.length := by rw [q9, List.length_map]
theorem zR (ks vs : List ByteArray) (cs : List PT) (i : Nat) (x k : PT) : splitK (.mk ks vs (cs.set i x)) k i = splitK (.mk ks vs cs) k i := by
 unfold splitK
 simp only [PT.keys, PT.vals, PT.kids, List.set_set]
theorem MK.calls (key val : ByteArray) : ∀ (n : Nat) (t : NT), t.erase.big <= n -> kC t.erase -> ∀ (base : Nat) (L : List Ck) (w : World), Sat w base (t.dI 96 70 ++ L) -> base <= w.heap.size ->
  Calls Try.prog 105 #[bG t.p, .string key, .string val] w (WR w base 96 70 t L (kE n t.erase key val)) := by
 intro n
 induction n with
 | zero =>
  intro t hb
  exact absurd t.erase.eH (by omega)
 | succ n ih =>
  intro t hbig hbd base L w hs hbs
  have hrd := jI hs.left
  obtain ⟨⟨ho1, ho2, ho3⟩, qf⟩ := bL.1 hbd
  have h0 := fF hs
  obtain ⟨R, hR⟩ : ∃ R, R = kE (n + 1) t.erase key val := ⟨_, rfl⟩
  rw [<- hR]
  cases t with | mk tp EZ E8 E9 tks tvs bq =>
  have e0 : (NT.mk tp EZ E8 E9 tks tvs bq).erase = .mk tks tvs (NT.aQ bq) := rfl
  rw [e0] at hrd hbig hbd ho1 ho2 ho3 qf hR
  replace hrd : Rd 96 w tp (PT.mk tks tvs (NT.aQ bq)) := hrd
  unfold kW at h0
  simp only [NT.keys, NT.vals, NT.kids, NT.p, NT.kv, NT.vv, NT.cv] at h0 ⊢
  simp only [PT.keys, PT.vals, PT.kids] at ho1 ho2 ho3 qf
  obtain ⟨i, hi⟩ : ∃ i, dm key tks = i := ⟨_, rfl⟩
  rw [kE] at hR
  simp only [PT.keys, PT.vals, PT.kids] at hR
  simp only [hi] at hR
  have hle : i <= tks.length := by rw [<- hi]; exact kU key tks
  have HM := A_ (show (PT.mk tks tvs (NT.aQ bq)).keys.length <= 1000000000000 by show tks.length <= _; omega)
  have HI := A_ (show dm key (PT.mk tks tvs (NT.aQ bq)).keys = i from hi)
  have BF := A_ hrd
  have dE := A_ hbs
  have IX : tvs.length <= 4 := by omega
  have Kg := A_ ho1
  have hi4 : i <= 4 := by omega
  obtain ⟨kG, il, rfl⟩ := Kd.av (h0.sr 1 rfl)
  obtain ⟨kQ, iA, rfl⟩ := Kd.av (h0.sr 2 rfl)
  obtain ⟨sZ, iM, rfl, hlc, hC⟩ := dZ (h0.q 3 rfl)
  obtain ⟨GC, SA⟩ : ∃ G, G = NT.bE 96 70 bq := ⟨_, rfl⟩
  rw [<- SA] at h0
  have HS := A_ h0
  have PZ := A_ SA
  clear h0 SA hrd hs hi hbs
  cases hb : iJ tks i key with
  | true =>
   have yj := A_ (show iJ (PT.mk tks tvs (NT.aQ bq)).keys i key = true from hb)
   rw [if_pos hb] at hR
   have HR := A_ hR
   have hlt : i < tvs.length := by have := jZ hb; omega
   obtain ⟨gv, _, ev, hgv, _, _⟩ := Kd.q8 (HS.out.sr 2 rfl) (by omega)
   obtain rfl : kQ = some ⟨gv, 0, none⟩ := by injection ev
   have Xk := A_ hgv
   have hz1 := HS.out.z 0 rfl 1
   have hcv := zQ (HS.out.sr 2 rfl) i hlt
   have hfv := iK (HS.out.sr 2 rfl) (by omega) i
   have QD := dJ (0 <= (i : Int))
   have QE := dJ ((i : Int) < (tvs.length : Int))
   have Ui : (i < tvs.length) = True := eq_true hlt
   clear hb hR ev hgv ho1 ho3 qf hlc hC hbig hbd e0
   go_enter Try.func105, Try.ntmps105
   go_wp2_with (first | (go_at_call 100; (with_reducible refine (pE.calls (PT.mk tks tvs (NT.aQ bq)) HM.out key i true HI.out yj.out _ BF.out).mono ?_); rintro e w1 ⟨rfl, ⟨nd, rfl⟩⟩))
   go_end0
   refine ⟨rfl, NT.mk tp (.slice kG tks.length il) (.slice (some ⟨gv, 0, none⟩) tvs.length iA) (.slice sZ bq.length iM) tks (tvs.set i val) bq, rfl, ?_, ?_, ?_⟩
   ·rw [HR.out]
    rfl
   ·have hS0 := aa.zH (aa.drewN HS.out nd) 2 rfl i val
    rw [List.length_set] at hS0
    refine ko ?_
    unfold kW
    simp only [NT.keys, NT.vals, NT.kids, NT.p, NT.kv, NT.vv, NT.cv]
    rw [<- PZ.out]
    exact hS0
   ·exact (ah (Below.refl base w) _).setCell (p := ⟨gv, i, none⟩) Xk.out _
  | false =>
   have yj := A_ (show iJ (PT.mk tks tvs (NT.aQ bq)).keys i key = false from hb)
   rw [if_neg (by rw [hb]; decide)] at hR
   by_cases h0 : bq.length = 0
   ·rw [if_pos (by rw [aK, List.length_map]; exact h0)] at hR
    have HR := A_ hR
    have hbl := A_ (show decide ((((PT.mk tks tvs (NT.aQ bq)).kids.length : Nat) : Int) = 0) = true from decide_eq_true (by show ((NT.aQ bq).length : Int) = 0; rw [aK, List.length_map]; omega))
    have Ch := A_ (show i <= tks.length /\ tks.length <= 1000000000000 by omega)
    have HL2 := A_ (show i <= tvs.length /\ tvs.length <= 1000000000000 by omega)
    clear hb hR ho1 ho3 qf hlc hC hbig hbd e0 h0
    go_enter Try.func105, Try.ntmps105
    go_upto_region 7 with (first | (go_at_call 100; (with_reducible refine (pE.calls (PT.mk tks tvs (NT.aQ bq)) HM.out key i false HI.out yj.out _ BF.out).mono ?_); rintro e w1 ⟨rfl, ⟨nd, rfl⟩⟩) | (go_at_call 84; (with_reducible refine (bY.dA true hbl.out _ ?aD).mono ?_); (case aD => repeat (first | exact BF.out | (with_reducible refine Rd.drewN ?_ _) | (with_reducible refine Rd.drew ?_))); rintro e w' ⟨rfl, ⟨nd, rfl⟩⟩))
    generalize hW : World.drewN _ _ = w2
    have aj : af (aa w2 base [mM 96 tp kG tks.length il kQ tvs.length iA sZ bq.length iM, iT kG il tks, iT kQ iA tvs, qm 70 sZ iM bq, GC, L]) := ⟨by rw [<- hW]; exact aa.drewN HS.out _⟩
    have az : af (Below base w w2) := ⟨by rw [<- hW]; exact ah (Below.refl base w) _⟩
    clear HS hW
    have HS := aj
    have HB := az
    clear aj az
    have hzs := HS.out.z 0 rfl 0
    have hfs := HS.out.f 0 rfl 0
    go_upto_region 8 with (first | (go_at_call 124; (with_reducible refine (dX.calls kG il tks (i : Int) key (aI tks i key) _ ?aD ?dR (kV key Ch.out.1 Ch.out.2)).mono ?_); (case aD => exact (aa.row HS.out 1 rfl).2.2); (case dR => exact (aa.row HS.out 1 rfl).2.1); rintro e w3 ⟨v0, rfl, ho, hb⟩; obtain ⟨EO, EP, rfl⟩ := Kd.av ho; have aj := lu (aa.gJ HS.out hb (dS dE HB) ho); have az : af (Below base w w3) := ⟨HB.out.trans (hb.mono (dS dE HB))⟩; clear HS HB ho hb hzs hfs; have HS := aj; have HB := az; clear aj az; have hzs := HS.out.z 0 rfl 0; have hfs := HS.out.f 0 rfl 0))
    have aj := gK (World.setCell w3 ⟨tp, 0, none⟩ (.slice EO (aI tks i key).length EP)) (aa.iN (aa.put HS.out 0 rfl 0 (.slice EO (aI tks i key).length EP) rfl) [0, 6, 2, 3, 4, 5] (by decide))
    have az : af (Below base w (World.setCell w3 ⟨tp, 0, none⟩ (.slice EO (aI tks i key).length EP))) := ⟨HB.out.setCell (p := ⟨tp, 0, none⟩) (aa.ge HS.out 0 rfl) _⟩
    generalize World.setCell w3 ⟨tp, 0, none⟩ (.slice EO (aI tks i key).length EP) = w4 at aj az ⊢
    clear HS HB hzs hfs; have HS := aj; have HB := az; clear aj az
    have hzs := HS.out.z 0 rfl 1
    have hfs := HS.out.f 0 rfl 1
    go_wp2_with (first | (go_at_call 124; (with_reducible refine (dX.calls kQ iA tvs (i : Int) val (aI tvs i val) _ ?aD ?dR (kV val HL2.out.1 HL2.out.2)).mono ?_); (case aD => exact (aa.row HS.out 2 rfl).2.2); (case dR => exact (aa.row HS.out 2 rfl).2.1); rintro e w5 ⟨v0, rfl, ho, hb⟩; obtain ⟨ER, ES, rfl⟩ := Kd.av ho; have aj := lu (aa.gJ HS.out hb (dS dE HB) ho); have az : af (Below base w w5) := ⟨HB.out.trans (hb.mono (dS dE HB))⟩; clear HS HB ho hb hzs hfs; have HS := aj; have HB := az; clear aj az; have hzs := HS.out.z 0 rfl 1; have hfs := HS.out.f 0 rfl 1))
    have aj := gK (World.setCell w5 ⟨tp, 1, none⟩ (.slice ER (aI tvs i val).length ES)) (aa.iN (aa.put HS.out 0 rfl 1 (.slice ER (aI tvs i val).length ES) rfl) [0, 1, 6, 3, 4, 5] (by decide))
    have az : af (Below base w (World.setCell w5 ⟨tp, 1, none⟩ (.slice ER (aI tvs i val).length ES))) := ⟨HB.out.setCell (p := ⟨tp, 1, none⟩) (aa.ge HS.out 0 rfl) _⟩
    generalize World.setCell w5 ⟨tp, 1, none⟩ (.slice ER (aI tvs i val).length ES) = w6 at aj az ⊢
    clear HS HB hzs hfs; have HS := aj; have HB := az; clear aj az
    go_end0
    refine ⟨rfl, NT.mk tp (.slice EO (aI tks i key).length EP) (.slice ER (aI tvs i val).length ES) (.slice sZ bq.length iM) (aI tks i key) (aI tvs i val) bq, rfl, ?_, ?_, HB.out⟩
    ·rw [HR.out]
     rfl
    ·refine ko ?_
     unfold kW
     simp only [NT.keys, NT.vals, NT.kids, NT.p, NT.kv, NT.vv, NT.cv]
     rw [<- PZ.out]
     exact HS.out
   ·have hkl : bq.length = tks.length + 1 := by
     rcases ho3 with h | h
     ·rw [aK, List.length_map] at h; exact absurd h h0
     ·rw [aK, List.length_map] at h; exact h
    obtain ⟨s, hsx⟩ : ∃ s, bq[i]? = some s := ⟨bq[i], List.getElem?_eq_getElem (by omega)⟩
    have hse : (NT.aQ bq)[i]? = some s.erase := by rw [aK, List.getElem?_map, hsx]; rfl
    rw [if_neg (by rw [aK, List.length_map]; exact h0)] at hR
    simp only [hse] at hR
    have hsb : kC s.erase := qf _ (List.mem_of_getElem? hse)
    have hsg : s.erase.big <= n := by
     have := PT.fH (t := PT.mk tks tvs (NT.aQ bq)) hse
     omega
    have hbl := A_ (show decide ((((PT.mk tks tvs (NT.aQ bq)).kids.length : Nat) : Int) = 0) = false from decide_eq_false (by show ((NT.aQ bq).length : Int) ≠ 0; rw [aK, List.length_map]; omega))
    have HR := A_ hR
    obtain ⟨SE, Xl⟩ : ∃ x, x = s.erase := ⟨_, rfl⟩
    have Ol := A_ hsb
    have Xm := A_ hsg
    have uu := A_ hsx
    have QG := A_ qf
    have hil : i < bq.length := (List.getElem?_eq_some_iff.1 hsx).1
    have hcl : bq.length <= 5 := by omega
    have GN := A_ hkl
    have Wi := A_ (show i <= tks.length /\ tks.length <= 4 by omega)
    clear hb hR ho1 ho3 qf hlc hC hbig hbd e0 h0 hse hsb hsg hkl Xl
    go_enter Try.func105, Try.ntmps105
    go_upto_region 1 with (first | (go_at_call 100; (with_reducible refine (pE.calls (PT.mk tks tvs (NT.aQ bq)) HM.out key i false HI.out yj.out _ BF.out).mono ?_); rintro e w1 ⟨rfl, ⟨nd, rfl⟩⟩) | (go_at_call 84; (with_reducible refine (bY.dA false hbl.out _ ?aD).mono ?_); (case aD => repeat (first | exact BF.out | (with_reducible refine Rd.drewN ?_ _) | (with_reducible refine Rd.drew ?_))); rintro e w' ⟨rfl, ⟨nd, rfl⟩⟩))
    generalize hW : World.drewN _ _ = w2
    have aj : af (aa w2 base [mM 96 tp kG tks.length il kQ tvs.length iA sZ bq.length iM, iT kG il tks, iT kQ iA tvs, qm 70 sZ iM bq, GC, L]) := ⟨by rw [<- hW]; exact aa.drewN HS.out _⟩
    have az : af (Below base w w2) := ⟨by rw [<- hW]; exact ah (Below.refl base w) _⟩
    clear HS hW BF hbl
    have HS := aj
    have HB := az
    clear aj az
    obtain ⟨lI, rfl, OV⟩ := uR (aa.iZ HS.out 3 rfl).2.2 (i : Int) (by omega) (by omega)
    rw [show bI 0 (bq.map NT.p) (i : Int) = s.p by unfold bI; rw [Int.toNat_natCast, List.getD_eq_getElem?_getD, List.getElem?_map, hsx]; rfl, Int.toNat_natCast] at OV
    have hz2 := HS.out.z 0 rfl 2
    have QD := dJ (0 <= (i : Int))
    have QE := dJ ((i : Int) < (bq.length : Int))
    have Ui : (i < bq.length) = True := eq_true hil
    have HT : af (Sat w2 base ((NT.mk tp (.slice kG tks.length il) (.slice kQ tvs.length iA) (.slice (some lI) bq.length iM) tks tvs bq).dI 96 70 ++ L)) := ⟨by
     refine ko ?_
     unfold kW
     simp only [NT.keys, NT.vals, NT.kids, NT.p, NT.kv, NT.vv, NT.cv]
     rw [<- PZ.out]
     exact HS.out⟩
    clear HS PZ hsx
    obtain ⟨t0, ht0⟩ : ∃ t0, t0 = NT.mk tp (.slice kG tks.length il) (.slice kQ tvs.length iA) (.slice (some lI) bq.length iM) tks tvs bq := ⟨_, rfl⟩
    have HT0 := A_ ht0
    rw [<- ht0] at HT
    have QH : af (t0.kids[i]? = some s) := ⟨by rw [ht0]; exact uu.out⟩
    clear ht0
    go_upto_region 2 with (first | (go_at_call 105; (with_reducible refine (ih s Xm.out Ol.out base (t0.hole 96 70 i L) _ (HT.out.perm (vP L QH.out)) (dS dE HB)).mono ?_); rintro e w3 ⟨rfl, s', hsp, wJ, hs', hb'⟩))
    have BG := lL n s.erase key val Ol.out
    rw [<- wJ] at BG
    cases s' with | mk sp QI Ul Um P5 Un Uo =>
    obtain rfl : sp = s.p := hsp
    obtain ⟨s', hs0⟩ : ∃ s', s' = NT.mk s.p QI Ul Um P5 Un Uo := ⟨_, rfl⟩
    rw [<- hs0] at wJ hs' BG
    have hsp : s'.p = s.p := by rw [hs0]; rfl
    have LH := A_ hs0
    have hT1 : Sat w3 base ((t0.gy i s').dI 96 70 ++ L) := hs'.perm (Hw L QH.out hsp)
    have hK1 : (t0.gy i s').kids[i]? = some s' := by rw [HT0.out]; exact (qR uu.out).1
    have hE1 : (t0.gy i s').erase = .mk tks tvs ((NT.aQ bq).set i s'.erase) := by rw [qU, HT0.out]; rfl
    have HB1 := A_ (HB.out.trans hb')
    have hbs1 : base <= w3.heap.size := Nat.le_trans dE.out (Below.size HB1.out)
    have Vj : Sat w3 base ((NT.mk tp (.slice kG tks.length il) (.slice kQ tvs.length iA) (.slice (some lI) bq.length iM) tks tvs (bq.set i s')).dI 96 70 ++ L) := by
     rw [HT0.out] at hT1
     exact hT1
    have hG := qo (t := NT.mk tp (.slice kG tks.length il) (.slice kQ tvs.length iA) (.slice (some lI) bq.length iM) tks tvs (bq.set i s')) (k := s') (i := i) (qR uu.out).1 Vj
    rw [hs0] at hG
    unfold vT at hG
    simp only [NT.keys, NT.vals, NT.kids, NT.p, NT.kv, NT.vv, NT.cv] at hG
    have hz2' := hG.z 0 rfl 2
    have OU : w3.cell? ⟨s.p, 0, none⟩ = some QI := hG.z 5 rfl 0
    have hQ := (aa.iZ hG 3 rfl).2.2
    rw [List.map_set, xk uu.out] at hQ
    obtain ⟨adt', eadt, SB⟩ := uR hQ (i : Int) (by omega) (by omega)
    obtain rfl : lI = adt' := Option.some.inj eadt
    rw [show bI 0 (bq.map NT.p) (i : Int) = s.p by unfold bI; rw [Int.toNat_natCast, List.getD_eq_getElem?_getD, List.getElem?_map, uu.out]; rfl, Int.toNat_natCast] at SB
    obtain ⟨Ask, csk, Vk⟩ := Kd.av (aa.sr hG 6 rfl)
    rw [Vk] at OU
    obtain ⟨lk, hlk⟩ : ∃ l, l = P5.length := ⟨_, rfl⟩
    rw [<- hlk] at OU
    have hl5 : lk <= 5 := by
     have := BG.1.2.1
     rw [hs0] at this
     rw [hlk]
     exact this
    have HE := A_ (And.intro wJ (And.intro hsp (And.intro BG (And.intro hT1 (And.intro hK1 (And.intro hE1 hlk))))))
    clear hG hQ eadt Vk hs0 BG hT1 Vj hK1 hE1 wJ hs' hb' hlk HT hz2 OV
    by_cases h5 : 4 < lk
    ·have ct := kZ ((4 : Int) < (lk : Int))
     go_upto_region 3 with fail
     have SC := HE.out.2.2.1.1
     unfold One at SC
     rw [bA, kX, bT] at SC
     have hll := HE.out.2.2.2.2.2.2
     have hsl : lk = s'.keys.length := by rw [hll, LH.out]; rfl
     have hC := zP.calls (t0.gy i s') s' i HE.out.2.2.2.2.1 (by omega) (by omega) SC.1 (by omega) (by omega) (by rw [HT0.out]; exact Wi.out.1) (by rw [HT0.out]; show tks.length <= _; omega) (by rw [HT0.out]; exact Kg.out) (by rw [HT0.out]; show (bq.set i s').length <= _; rw [List.length_set]; omega) base L w3 HE.out.2.2.2.1 (dS dE HB1)
     rw [show (t0.gy i s').p = tp by rw [HT0.out]; rfl] at hC
     go_wp2_with (first | (go_at_call 106; (with_reducible refine hC.mono ?_); rintro e w4 ⟨rfl, t2, ht1, ht2, ht3, Om⟩))
     go_end0
     refine ⟨rfl, t2, ?_, ?_, ht3, HB1.out.trans Om⟩
     ·rw [ht1, HT0.out]
      rfl
     ·rw [ht2, HE.out.2.2.2.2.2.1, zR, HR.out, <- HE.out.1, if_pos (by show 4 < s'.erase.keys.length; rw [bA]; omega)]
    ·have ct := kT ((4 : Int) < (lk : Int))
     have hll := HE.out.2.2.2.2.2.2
     have hsl : lk = s'.keys.length := by rw [hll, LH.out]; rfl
     go_wp2_with fail
     go_end0
     refine ⟨rfl, t0.gy i s', by rw [HT0.out]; rfl, ?_, HE.out.2.2.2.1, HB1.out⟩
     rw [HE.out.2.2.2.2.2.1, HR.out, <- HE.out.1, if_neg (by show ¬ 4 < s'.erase.keys.length; rw [bA]; omega)]
def oK (T E : Nat) (t l r : NT) (P Q : List NT) (L : List Ck) : List (List Ck) :=
 [[.box T t.p #[t.kv, t.vv, t.cv]], [txt t.kv t.keys], [txt t.vv t.vals], [.jE E t.cv (ptrs t.kids)],
   [.box T l.p #[l.kv, l.vv, l.cv]], [txt l.kv l.keys], [txt l.vv l.vals], [.jE E l.cv (ptrs l.kids)], NT.bE T E l.kids,
   [.box T r.p #[r.kv, r.vv, r.cv]], [txt r.kv r.keys], [txt r.vv r.vals], [.jE E r.cv (ptrs r.kids)], NT.bE T E r.kids, NT.bE T E P, NT.bE T E Q ++ L]
theorem UM (X A B Z : List Ck) : (X ++ (A ++ (B ++ Z))).Perm (A ++ (B ++ (X ++ Z))) := (List.perm_append_comm_assoc X A _).trans (.append_left A (List.perm_append_comm_assoc X B Z))
theorem C9 {T E : Nat} {t l r : NT} {P Q : List NT} {L : List Ck} (h : t.kids = P ++ l :: r :: Q) : (t.dI T E ++ L).Perm (oK T E t l r P Q L).flatten := by
 rw [NT.jy, h, iC, NT.bE, NT.bE, NT.jy T E l, NT.jy T E r]
 unfold oK NT.head
 rw [h]
 simp only [List.flatten_cons, List.flatten_nil, List.append_assoc, List.cons_append, List.nil_append, List.append_nil]
 refine .cons _ (.cons _ (.cons _ (.cons _ ?_)))
 exact UM (NT.bE T E P) (.box T l.p #[l.kv, l.vv, l.cv] :: txt l.kv l.keys :: txt l.vv l.vals :: .jE E l.cv (ptrs l.kids) :: NT.bE T E l.kids) (.box T r.p #[r.kv, r.vv, r.cv] :: txt r.kv r.keys :: txt r.vv r.vals :: .jE E r.cv (ptrs r.kids) :: NT.bE T E r.kids) (NT.bE T E Q ++ L)
theorem open_pair {w : World} {base T E : Nat} {t l r : NT} {P Q : List NT} {L : List Ck} (h : t.kids = P ++ l :: r :: Q) (hs : Sat w base (t.dI T E ++ L)) : aa w base (oK T E t l r P Q L) := Sat.perm hs (C9 h)
theorem shut_pair {w : World} {base T E : Nat} {t l r : NT} {P Q : List NT} {L : List Ck} (h : t.kids = P ++ l :: r :: Q) (hs : aa w base (oK T E t l r P Q L)) : Sat w base (t.dI T E ++ L) := Sat.perm hs (C9 h).symm
def JH (T E : Nat) (t l : NT) (P Q : List NT) (L : List Ck) : List (List Ck) :=
 [[.box T t.p #[t.kv, t.vv, t.cv]], [txt t.kv t.keys], [txt t.vv t.vals], [.jE E t.cv (ptrs t.kids)],
   [.box T l.p #[l.kv, l.vv, l.cv]], [txt l.kv l.keys], [txt l.vv l.vals], [.jE E l.cv (ptrs l.kids)], NT.bE T E l.kids, NT.bE T E P, NT.bE T E Q ++ L]
theorem ML {T E : Nat} {t l : NT} {P Q : List NT} {L : List Ck} (h : t.kids = P ++ l :: Q) : (t.dI T E ++ L).Perm (JH T E t l P Q L).flatten := by
 rw [NT.jy, h, iC, NT.bE, NT.jy T E l]
 unfold JH NT.head
 rw [h]
 simp only [List.flatten_cons, List.flatten_nil, List.append_assoc, List.cons_append, List.nil_append, List.append_nil]
 refine .cons _ (.cons _ (.cons _ (.cons _ ?_)))
 exact List.perm_append_comm_assoc (NT.bE T E P) (.box T l.p #[l.kv, l.vv, l.cv] :: txt l.kv l.keys :: txt l.vv l.vals :: .jE E l.cv (ptrs l.kids) :: NT.bE T E l.kids) (NT.bE T E Q ++ L)
theorem MM {w : World} {base T E : Nat} {t l : NT} {P Q : List NT} {L : List Ck} (h : t.kids = P ++ l :: Q) (hs : aa w base (JH T E t l P Q L)) : Sat w base (t.dI T E ++ L) := Sat.perm hs (ML h).symm
section
variable {w w1 W : World} {base T p : Nat} {gs : List (List Ck)} {a b c : Value}
theorem aa.yC (h : aa w base gs) (i : Nat) (hi : gs[i]? = some [.box T p #[a, b, c]]) (u : Value) : aa (w.setCell ⟨p, 0, none⟩ u) base (gs.set i [.box T p #[u, b, c]]) := h.put i hi 0 u rfl
theorem aa.yD (h : aa w base gs) (i : Nat) (hi : gs[i]? = some [.box T p #[a, b, c]]) (u : Value) : aa (w.setCell ⟨p, 1, none⟩ u) base (gs.set i [.box T p #[a, u, c]]) := h.put i hi 1 u rfl
theorem aa.vY (h : aa w base gs) (i : Nat) (hi : gs[i]? = some [.box T p #[a, b, c]]) (u : Value) : aa (w.setCell ⟨p, 2, none⟩ u) base (gs.set i [.box T p #[a, b, u]]) := h.put i hi 2 u rfl
theorem aa.z0 (h : aa w base gs) (i : Nat) (hi : gs[i]? = some [.box T p #[a, b, c]]) : w.cell? ⟨p, 0, none⟩ = some a := h.z i hi 0
theorem aa.z1 (h : aa w base gs) (i : Nat) (hi : gs[i]? = some [.box T p #[a, b, c]]) : w.cell? ⟨p, 1, none⟩ = some b := h.z i hi 1
theorem aa.z2 (h : aa w base gs) (i : Nat) (hi : gs[i]? = some [.box T p #[a, b, c]]) : w.cell? ⟨p, 2, none⟩ = some c := h.z i hi 2
theorem jF {g n c i : Nat} {l : List ByteArray} {x : ByteArray} (h : SR w base (.slice (some ⟨g, 0, none⟩) n c) l) (hx : i < l.length /\ bP l i = x) : w.cell? ⟨g, i, none⟩ = some (.string x) := by
 rw [zQ h i hx.1]
 unfold bI
 rw [Int.toNat_natCast, <- hx.2]
 rfl
theorem lC {ad : Addr} {n c i p : Nat} {l : List NT} {k : NT} (h : n = l.length /\ n <= c /\ eT.C w (some ad) n (l.map NT.p)) (hk : l[i]? = some k /\ k.p = p) : w.cell? (ad.add i) = some (bG p) := by
 have hi : i < l.length := (List.getElem?_eq_some_iff.1 hk.1).1
 obtain ⟨V8, e, hz⟩ := uR h.2.2 (i : Int) (by omega) (by omega)
 obtain rfl : ad = V8 := Option.some.inj e
 rw [Int.toNat_natCast] at hz
 rw [hz]
 unfold bI
 rw [Int.toNat_natCast, List.getD_eq_getElem?_getD, List.getElem?_map, hk.1, <- hk.2]
 rfl
theorem iQ {E n c : Nat} {Ad : Option Addr} {l : List NT} (h : PQ E w base (.slice Ad n c) (l.map NT.p)) (hl : 0 < l.length) : ∃ ad, Ad = some ad := by
 obtain ⟨h1, h2, h3⟩ := Kd.vQ h
 rw [List.length_map] at h1 h3
 obtain ⟨ad, e, _⟩ := uR h3 0 (by omega) (by omega)
 exact ⟨ad, e⟩
theorem gD {n c : Nat} {Ad : Option Addr} {l : List ByteArray} (h : SR w base (.slice Ad n c) l) (hl : 0 < l.length) : ∃ g, Ad = some ⟨g, 0, none⟩ := by
 obtain ⟨g, _, e, _, _, _⟩ := Kd.q8 h hl
 injection e with e
 exact ⟨g, e⟩
end
section
variable {P : Program} {ops : Array Oper} {rest : List Oper} {o : Oper} {a : Act} {Q' : Exit -> Act -> World -> Prop} {Kc : Act -> World -> Prop}
theorem Rb {w0 W : World} (base : Nat) (t ty e : TypeId) (ht : P.underlying t = some (.slice e)) (hinfo : (P.info? e).map (fun i => (i.zero, i.size, i.bytes)) = some (some (.pointer none), 1, 8))
  (v : Value) (xs ys : List Nat) (A : Option Addr) (m c : Nat) (HO : PQ e W base v xs) (HR : eT.C W A m ys) (hbase : base <= W.heap.size) (hl : (xs.length + m) * 8 <= 140737488355328) :
  ∃ v1 w1, (Builtin.append_ #[t, t] ty #[v, .slice A m c]).run P W = .ok v1 w1 /\ PQ e w1 base v1 (xs ++ ys) /\ W.grownBy w1 v.ownBlock /\ (v1.ownBlock = v.ownBlock ∨ ∃ b, v1.ownBlock = some b /\ W.heap.size <= b) := by
 obtain ⟨i0, hi, hzz⟩ := Option.map_eq_some_iff.1 hinfo
 simp only [Prod.mk.injEq] at hzz
 obtain ⟨hz0, hz1, hz2⟩ := hzz
 have hm : ys.length = m := HR.1
 have hq := HO
 obtain ⟨_, inner, ho, hr⟩ := HO
 have e1 := zx (n := 0) (enc := bG) hr
 subst e1
 rcases Nat.eq_zero_or_pos m with h0 | h0
 ·subst h0
  obtain rfl : ys = [] := List.eq_nil_of_length_eq_zero hm
  refine ⟨v, W, ?_, by rw [List.append_nil]; exact hq, World.grownBy.refl W _, .inl rfl⟩
  rcases ho.2 with ⟨h1, B, rfl, _⟩ | ⟨g, off, cap, cur, rfl, _, _, hnc, _⟩
  ·rw [show xs.length = 0 from h1] at *
   cases A <;> cases B <;> simp [Builtin.append_, run_underlying ht, sizeOf, typeInfo, hi, Builtin.lenOf, Builtin.firstCells, storeCells, loadCells, loadCellsFrom, hz1]
  ·cases A <;> simp [Builtin.append_, run_underlying ht, sizeOf, typeInfo, hi, Builtin.lenOf, Builtin.firstCells, hnc, storeCells, loadCells, loadCellsFrom, hz1]
 ·obtain ⟨ad, e2, _⟩ := HR.2.2 h0
  subst e2
  obtain ⟨news, hnr, hnc⟩ := fQ.Ia HR
  have e3 := zx (n := 0) (enc := bG) hnr
  subst e3
  obtain ⟨v1, w1, hrun, hq1, hg, hat⟩ := zS (P := P) W base t ty e i0 (.pointer none) 1 8 ht hi hz0 hz1 hz2 rfl (by decide) v xs.length _ ho ad m c _ (by rw [cB, hm, Nat.mul_one]) hnc (fun u hu => by
   obtain ⟨x, _, rfl⟩ := List.mem_map.1 hu
   rfl) h0 (by simp only [maxLen]; omega) hl hbase
  refine ⟨v1, w1, hrun, ?_, hg, hat⟩
  have e4 : encs bG xs ++ encs bG ys = encs bG (xs ++ ys) := by unfold encs; rw [List.map_append]
  rw [e4] at hq1
  refine zy ?_
  show lZ w1 base e 1 v1 (encs bG (xs ++ ys)).length (encs bG (xs ++ ys))
  rw [cB, List.length_append, hm]
  exact hq1
theorem Pb {W : World} {base e : Nat} {v : Value} {xs : List Nat} (HO : PQ e W base v xs) : ∀ k, v.ownBlock = some k -> base <= k := by
 obtain ⟨_, inner, ho, _⟩ := HO
 exact fun k hk => (yM ho k hk).1
theorem nP {w0 W : World} (base : Nat) (hw : Region.wanted o (yielded ops a.tmps) = true) (s x : Operand) (t e : TypeId) (ho : o.op = .call { callee := .builtin .append, args := #[s, x], argTypes := #[t, t] })
  (ht : P.underlying t = some (.slice e)) (hinfo : (P.info? e).map (fun i => (i.zero, i.size, i.bytes)) = some (some (.pointer none), 1, 8))
  (v : Value) (xs ys : List Nat) (A : Option Addr) (m c : Nat) (hs : a.eval s = v) (hx : a.eval x = .slice A m c) (HO : PQ e W base v xs) (HR : eT.C W A m ys) (HB : Below base w0 W) (hbase : base <= W.heap.size) (hl : (xs.length + m) * 8 <= 140737488355328)
  (h : ∀ v1 w1, PQ e w1 base v1 (xs ++ ys) -> Below base w0 w1 -> W.grownBy w1 v.ownBlock -> (v1.ownBlock = v.ownBlock ∨ ∃ b, v1.ownBlock = some b /\ W.heap.size <= b) -> Kc (a.put o.dst v1) w1) :
  if Region.wanted o (yielded ops a.tmps) = true then Oper.wp P o a W Kc Q' else Kc (a.put o.dst undef) W := by
 obtain ⟨v1, w1, hr, h1, h3, h4⟩ := Rb (P := P) (w0 := w0) base t o.type e ht hinfo v xs ys A m c HO HR hbase hl
 rw [if_pos hw]
 unfold Oper.wp execOp
 simp only [ho, resolve, invoke, builtin, Sem.run_bind, Sem.run_pure, Result.andThen_ok, List.map_toArray, List.map_cons, List.map_nil, hs, hx, hr]
 exact h v1 w1 h1 (HB.grown h3 hbase (Pb HO)) h3 h4
end
section
variable {w w1 W : World} {base : Nat} {gs : List (List Ck)}
theorem aa.Qs {E : Nat} {x y : List NT} {u u1 : Value} (i : Nat) (h : aa W base gs) (hi : gs[i]? = some [.jE E u (ptrs x)]) (ho : PQ E w1 base u1 (y.map NT.p)) (hg : W.grownBy w1 u.ownBlock) (hat : u1.ownBlock = u.ownBlock ∨ ∃ b, u1.ownBlock = some b /\ W.heap.size <= b) : aa w1 base (gs.set i [.jE E u1 (ptrs y)]) := by
 have h3 := xU ho
 rw [<- fE] at h3
 exact h.turn i hi (Sat.one h3) ⟨hg.size, fun k hk hnot => hg.block k hk fun he => hnot ⟨_, List.mem_singleton_self _, he.symm⟩⟩ (qV hat)
theorem aa.uG (h : aa w base gs) (i : Nat) {g n c : Nat} {l l' : List ByteArray} (hi : gs[i]? = some [txt (.slice (some ⟨g, 0, none⟩) n c) l]) (j : Nat) (x : ByteArray) (hl : l' = l.set j x) :
  aa (w.setCell ⟨g, j, none⟩ (.string x)) base (gs.set i [txt (.slice (some ⟨g, 0, none⟩) n c) l']) := by
 obtain ⟨rfl, _, _⟩ := h.row i hi
 subst hl
 have := h.zH i hi j x
 rw [List.length_set] at this
 exact this
theorem Da (h : aa w base gs) (i : Nat) {g n c j : Nat} {l : List ByteArray} {x : ByteArray} (hi : gs[i]? = some [txt (.slice (some ⟨g, 0, none⟩) n c) l]) (hx : j < l.length /\ bP l j = x) : base <= g := by
 obtain ⟨g', c', e, hb, _, _⟩ := Kd.q8 (h.sr i hi) (by omega)
 injection e with e1 e2 e3
 injection e1 with e1
 injection e1 with e1
 subst e1
 exact hb
theorem D8 {ad : Addr} {n c i p : Nat} {l : List NT} {k : NT} (h : n = l.length /\ n <= c /\ eT.C w (some ad) n (l.map NT.p)) (hk : l[i]? = some k /\ k.p = p) (hi : 0 < i) : w.cell? ⟨ad.block, ad.off + i, none⟩ = some (bG p) := by
 have := lC h hk
 unfold Addr.add at this
 rw [if_neg (by omega)] at this
 exact this
theorem D9 {ad : Addr} {n c p : Nat} {l : List NT} {k : NT} (h : n = l.length /\ n <= c /\ eT.C w (some ad) n (l.map NT.p)) (hk : l[0]? = some k /\ k.p = p) : w.cell? ad = some (bG p) := by
 have := lC h hk
 unfold Addr.add at this
 rw [if_pos rfl] at this
 exact this
theorem Db {α β : Type} (f : α -> β) (l : List α) (i : Nat) : (l.eraseIdx i).map f = (l.map f).eraseIdx i := by
 rw [List.eraseIdx_eq_take_drop_succ, List.eraseIdx_eq_take_drop_succ, List.map_append, List.map_take, List.map_drop]
theorem zT {α : Type} {l r : α} {Q : List α} : ∀ P : List α, (P ++ l :: r :: Q).eraseIdx (P.length + 1) = P ++ l :: Q
 | [] => rfl
 | p :: P => by
  show p :: (P ++ l :: r :: Q).eraseIdx (P.length + 1) = _
  rw [zT P]
  rfl
theorem KO {P Q : List NT} {l r m : NT} (hm : m.p = l.p) : ptrs ((P ++ l :: r :: Q).eraseIdx (P.length + 1)) = ptrs (P ++ m :: Q) := by
 rw [zT]
 simp only [ptrs, List.map_append, List.map_cons, hm]
def UN (l : List NT) (i p : Nat) : Prop := ∃ s : NT, l[i]? = some s /\ s.p = p
theorem aa.Wy {A B : List Ck} (h : aa w base gs) (i : Nat) (hi : gs[i]? = some (A ++ B)) : aa w base (gs.set i B ++ [A]) := by
 have hl : i < gs.length := (List.getElem?_eq_some_iff.1 hi).1
 have h1 : aa w base (gs.set i (B ++ A)) := by
  obtain ⟨h1, h2⟩ := oG hi (B ++ A)
  exact Sat.perm (Sat.perm h h1) ((List.perm_append_comm.append_right _).trans h2.symm)
 have := h1.cut i (by rw [List.getElem?_set_self hl])
 rw [List.set_set] at this
 exact this
theorem zU {T E i : Nat} {t s : NT} {L : List Ck} (hs : Sat w base (t.dI T E ++ L)) (h : t.kids[i]? = some s) : ∃ A c, w.cell? ⟨s.p, 0, none⟩ = some (.slice A s.keys.length c) := by
 have h1 := fF (hs.perm (vP L h))
 obtain ⟨A, c, e⟩ := Kd.av (h1.sr 1 rfl)
 have h2 := h1.z 0 rfl 0
 rw [e] at h2
 exact ⟨A, c, h2⟩
theorem UO (h : aa w base gs) (i : Nat) {E : Nat} {Ad : Option Addr} {n c : Nat} {l : List NT} (hi : gs[i]? = some [.jE E (.slice Ad n c) (ptrs l)]) : eT.C w Ad n (l.map NT.p) := (h.iZ i hi).2.2
theorem Wz (h : aa w base gs) (i : Nat) {E : Nat} {Ad : Option Addr} {n c : Nat} {l : List Nat} (hi : gs[i]? = some [.own E (.slice Ad n c) (encs bG l)]) : eT.C w Ad n l := by
 obtain ⟨rfl, _, h3⟩ := Kd.dW (h.Q6 i hi)
 exact h3
theorem zV (h : aa w base gs) (i : Nat) {Ad : Option Addr} {n c : Nat} {l : List ByteArray} (hi : gs[i]? = some [txt (.slice Ad n c) l]) : Kd.C Kd.string w Ad n l := by
 obtain ⟨rfl, _, h3⟩ := h.row i hi
 exact h3
theorem yS {Ad : Option Addr} {n c m : Nat} {l l' : List ByteArray} (h : aa w base gs) (i : Nat) (hi : gs[i]? = some [txt (.slice Ad n c) l]) (hl : l' = l.take m) (hm : m <= n) : aa w base (gs.set i [txt (.slice Ad m c) l']) := by
 obtain ⟨rfl, _, _⟩ := h.row i hi
 subst hl
 exact h.vR i hi m hm
theorem JI {E : Nat} {Ad : Option Addr} {n c m : Nat} {l l' : List NT} (h : aa w base gs) (i : Nat) (hi : gs[i]? = some [.jE E (.slice Ad n c) (ptrs l)]) (hl : l' = l.take m) (hm : m <= n) : aa w base (gs.set i [.jE E (.slice Ad m c) (ptrs l')]) := by
 have h1 := (h.iZ i hi).1
 subst hl
 exact h.Qq i hi m (by omega)
end
theorem rf {n m : Int} (h : n = m /\ -9223372036854775808 <= n /\ n <= 9223372036854775807) : wrap64 n = m := by unfold wrap64; omega
section
variable {tks tvs : List ByteArray} {P Q : List PT} {l r : PT} {j : Nat}
theorem MN (hP : P.length = j) : fC (.mk tks tvs (P ++ l :: r :: Q)) j = l := by
 unfold fC
 subst hP
 show (P ++ l :: r :: Q).getD P.length _ = l
 rw [List.getD_eq_getElem?_getD, List.getElem?_append_right (Nat.le_refl _), Nat.sub_self]
 rfl
theorem MO (hP : P.length = j) : fC (.mk tks tvs (P ++ l :: r :: Q)) (j + 1) = r := by
 unfold fC
 subst hP
 show (P ++ l :: r :: Q).getD (P.length + 1) _ = r
 rw [List.getD_eq_getElem?_getD, List.getElem?_append_right (by omega), Nat.add_sub_cancel_left]
 rfl
theorem xm (hP : P.length = j) : (P ++ l :: r :: Q).take j = P := by subst hP; exact List.take_left
theorem xn (hP : P.length = j) : (P ++ l :: r :: Q).drop (j + 2) = Q := by
 subst hP
 rw [List.drop_append, Nat.add_sub_cancel_left, List.drop_eq_nil_of_le (by omega)]
 rfl
theorem Ea (hP : P.length = j) : H7 (.mk tks tvs (P ++ l :: r :: Q)) j = .mk (tks.set j (bP l.keys (l.keys.length - 1))) (tvs.set j (bP l.vals (l.keys.length - 1))) (P ++ uD l :: uE l r (bP tks j) (bP tvs j) :: Q) := by
 unfold H7
 rw [MN hP, MO hP]
 show PT.mk _ _ ((P ++ l :: r :: Q).take j ++ _ :: _ :: (P ++ l :: r :: Q).drop (j + 2)) = _
 rw [xm hP, xn hP]
 rfl
theorem Eb (hP : P.length = j) : H8 (.mk tks tvs (P ++ l :: r :: Q)) j = .mk (tks.set j (bP r.keys 0)) (tvs.set j (bP r.vals 0)) (P ++ sF l r (bP tks j) (bP tvs j) :: uF r :: Q) := by
 unfold H8
 rw [MN hP, MO hP]
 show PT.mk _ _ ((P ++ l :: r :: Q).take j ++ _ :: _ :: (P ++ l :: r :: Q).drop (j + 2)) = _
 rw [xm hP, xn hP]
 rfl
theorem zW (hP : P.length = j) : zO (.mk tks tvs (P ++ l :: r :: Q)) j = .mk (tks.eraseIdx j) (tvs.eraseIdx j) (P ++ zN l r (bP tks j) (bP tvs j) :: Q) := by
 unfold zO
 rw [MN hP, MO hP]
 show PT.mk _ _ ((P ++ l :: r :: Q).take j ++ _ :: (P ++ l :: r :: Q).drop (j + 2)) = _
 rw [xm hP, xn hP]
 rfl
theorem Rc {α : Type} {P Q : List α} {l r : α} (hP : P.length = j) : (P ++ l :: r :: Q)[j]? = some l := by
 subst hP
 rw [List.getElem?_append_right (Nat.le_refl _), Nat.sub_self]
 rfl
theorem Re {α : Type} {P Q : List α} {l r : α} (hP : P.length = j) : (P ++ l :: r :: Q)[j + 1]? = some r := by
 subst hP
 rw [List.getElem?_append_right (by omega), Nat.add_sub_cancel_left]
 rfl
def OQ (ks vs : List ByteArray) (cs : Nat) : Prop := ks.length <= 1000 /\ vs.length = ks.length /\ (cs = 0 ∨ cs = ks.length + 1)
end
section
variable {A : Option Addr} {n c : Nat} {w : World}
theorem Qt {l r : List ByteArray} (i : Nat) (iv : Int) (x : ByteArray) (hv : iv = (i : Int)) (hr : r = aI l i x) (h : n = l.length /\ n <= c /\ Kd.C Kd.string w A l.length l) (hi : i <= n /\ n <= 1000000) :
  Calls Try.prog 124 #[.slice A n c, .int .i64 iv, .string x] w fun e w' => ∃ iy : Value, e = .returned iy /\ Kd.string.R 9 w' w.heap.size (fun _ => True) iy r /\ Below w.heap.size w w' := by
 obtain ⟨rfl, h2, h3⟩ := h
 subst hv
 subst hr
 exact dX.calls A c l (i : Int) x _ w h3 h2 (kV x hi.1 (by omega))
theorem UQ {l r : List NT} (i : Nat) (iv : Int) (k : NT) (p : Nat) (hp : k.p = p) (hv : iv = (i : Int)) (hr : r.map NT.p = aI (l.map NT.p) i p) (h : n = l.length /\ n <= c /\ eT.C w A n (l.map NT.p)) (hi : i <= n /\ n <= 1000000) :
  Calls Try.prog 125 #[.slice A n c, .int .i64 iv, bG p] w fun e w' => ∃ iy : Value, e = .returned iy /\ eT.R 70 w' w.heap.size (fun _ => True) iy (r.map NT.p) /\ Below w.heap.size w w' := by
 obtain ⟨rfl, h2, h3⟩ := h
 subst hv
 have hl : (l.map NT.p).length = l.length := List.length_map _
 have := gP.calls A c (l.map NT.p) (i : Int) p _ w (by rw [hl]; exact h3) (by rw [hl]; exact h2) (uC p (by omega) (by omega))
 rw [hl, <- hr] at this
 exact this
theorem FJ {l : List ByteArray} {i : Nat} (h : i < l.length) (hl : l.length <= 1000000000000) : cO.f l (i : Int) = some (l.eraseIdx i) := by
 unfold cO.f
 rw [List.eraseIdx_eq_take_drop_succ]
 have e1 : wrap64 ((i : Int) + 1) = ((i + 1 : Nat) : Int) := by unfold wrap64; omega
 simp only [Option.bind_some, Int.toNat_natCast, List.length_nil, List.nil_append, List.length_take, List.length_drop, List.length_append, e1]
 rw [if_pos (by omega), if_pos (by omega), if_pos (by omega), if_pos (by omega), if_pos (by omega), if_pos (by omega)]
theorem KP {l r : List ByteArray} (i : Nat) (iv : Int) (hv : iv = (i : Int)) (hr : r = l.eraseIdx i) (h : n = l.length /\ n <= c /\ Kd.C Kd.string w A l.length l) (hi : i < n /\ n <= 1000000) :
  Calls Try.prog 112 #[.slice A n c, .int .i64 iv] w fun e w' => ∃ iy : Value, e = .returned iy /\ Kd.string.R 9 w' w.heap.size (fun _ => True) iy r /\ Below w.heap.size w w' := by
 obtain ⟨rfl, h2, h3⟩ := h
 subst hv
 subst hr
 exact cO.calls A c l (i : Int) _ w h3 h2 (FJ hi.1 (by omega))
theorem zX {l : List Nat} {i : Nat} (h : i < l.length) (hl : l.length <= 1000000000000) : bO.f l (i : Int) = some (l.eraseIdx i) := by
 unfold bO.f
 rw [List.eraseIdx_eq_take_drop_succ]
 have e1 : wrap64 ((i : Int) + 1) = ((i + 1 : Nat) : Int) := by unfold wrap64; omega
 simp only [Option.bind_some, Int.toNat_natCast, List.length_nil, List.nil_append, List.length_take, List.length_drop, List.length_append, e1]
 rw [if_pos (by omega), if_pos (by omega), if_pos (by omega), if_pos (by omega), if_pos (by omega), if_pos (by omega)]
theorem UR {l r : List NT} (i : Nat) (iv : Int) (hv : iv = (i : Int)) (hr : r.map NT.p = (l.map NT.p).eraseIdx i) (h : n = l.length /\ n <= c /\ eT.C w A n (l.map NT.p)) (hi : i < n /\ n <= 1000000) :
  Calls Try.prog 129 #[.slice A n c, .int .i64 iv] w fun e w' => ∃ iy : Value, e = .returned iy /\ eT.R 70 w' w.heap.size (fun _ => True) iy (r.map NT.p) /\ Below w.heap.size w w' := by
 obtain ⟨rfl, h2, h3⟩ := h
 subst hv
 have hl : (l.map NT.p).length = l.length := List.length_map _
 have := bO.calls A c (l.map NT.p) (i : Int) _ w (by rw [hl]; exact h3) (by rw [hl]; exact h2) (zX (by omega) (by omega))
 rw [hl, <- hr] at this
 exact this
end
end Go.Proofs.Ytoddejmlcnbdmaa.Tree
namespace Go.Proofs.Ytoddejmlcnbdmaa.Pure
open Go.Proofs.Ytoddejmlcnbdmaa.Fn Go.Proofs.Ytoddejmlcnbdmaa.Tree
section
variable {h j : Nat} {ks vs : List ByteArray} {P Q : List PT} {l r l' r' m : PT} {x y : ByteArray}
theorem JJ (hP : P.length = j) (hj : j < ks.length) (h1 : vs.length = ks.length) (h2 : ks.length <= 4) (h3 : (P ++ l :: r :: Q).length = ks.length + 1) (ho : ∀ s, s ∈ P ∨ s ∈ Q -> rQ h s /\ 2 <= s.keys.length) (hl : rQ h l' /\ 2 <= l'.keys.length) (hr : rQ h r' /\ 2 <= r'.keys.length)
  (he : aW l' ++ (x, y) :: aW r' = aW l ++ (bP ks j, bP vs j) :: aW r) :
  kC (.mk (ks.set j x) (vs.set j y) (P ++ l' :: r' :: Q)) /\ pW (h + 1) (.mk (ks.set j x) (vs.set j y) (P ++ l' :: r' :: Q)) /\ aW (.mk (ks.set j x) (vs.set j y) (P ++ l' :: r' :: Q)) = bN ((P ++ l :: r :: Q).map aW) (ks.zip vs) := by
 have hm : ∀ s ∈ P ++ l' :: r' :: Q, rQ h s /\ 2 <= s.keys.length := fun s hs => by
  rcases List.mem_append.1 hs with hs | hs
  ·exact ho s (.inl hs)
  ·rcases List.mem_cons.1 hs with rfl | hs
   ·exact hl
   ·rcases List.mem_cons.1 hs with rfl | hs
    ·exact hr
    ·exact ho s (.inr hs)
 have hlen : (P ++ l' :: r' :: Q).length = ks.length + 1 := by
  rw [<- h3]
  simp only [List.length_append, List.length_cons]
 have hb : kC (.mk (ks.set j x) (vs.set j y) (P ++ l' :: r' :: Q)) := mE (by rw [List.length_set, List.length_set]; exact h1) (by rw [List.length_set]; exact h2) (.inr (by rw [List.length_set]; exact hlen)) fun s hs => (hm s hs).1.b
 refine ⟨hb, nz (by have := vW hl.1.l; omega) (by show 0 < (P ++ l' :: r' :: Q).length; omega) fun s hs => ⟨(hm s hs).1.l, (hm s hs).2⟩, ?_⟩
 have hI : P.length = ((ks.zip vs).take j).length := by rw [List.length_take, tT h1]; omega
 rw [dD (bJ hb)]
 show bN ((P ++ l' :: r' :: Q).map aW) ((ks.set j x).zip (vs.set j y)) = _
 rw [D7 _ _ hj h1, vV hI]
 conv => rhs; rw [pX hj h1]
 rw [vV hI, <- List.cons_append, <- List.append_assoc (aW l'), he, List.append_assoc, List.cons_append]
theorem JK (hP : P.length = j) (hj : j < ks.length) (h1 : vs.length = ks.length) (h2 : ks.length <= 4) (h3 : (P ++ l :: r :: Q).length = ks.length + 1) (ho : ∀ s, s ∈ P ∨ s ∈ Q -> rQ h s /\ 2 <= s.keys.length) (hl : rQ h m /\ 2 <= m.keys.length)
  (he : aW m = aW l ++ (bP ks j, bP vs j) :: aW r) :
  kC (.mk (ks.eraseIdx j) (vs.eraseIdx j) (P ++ m :: Q)) /\ pW (h + 1) (.mk (ks.eraseIdx j) (vs.eraseIdx j) (P ++ m :: Q)) /\ aW (.mk (ks.eraseIdx j) (vs.eraseIdx j) (P ++ m :: Q)) = bN ((P ++ l :: r :: Q).map aW) (ks.zip vs) := by
 have hm : ∀ s ∈ P ++ m :: Q, rQ h s /\ 2 <= s.keys.length := fun s hs => by
  rcases List.mem_append.1 hs with hs | hs
  ·exact ho s (.inl hs)
  ·rcases List.mem_cons.1 hs with rfl | hs
   ·exact hl
   ·exact ho s (.inr hs)
 have hlen : (P ++ m :: Q).length = ks.length := by
  simp only [List.length_append, List.length_cons] at h3 ⊢
  omega
 have el : ∀ (k : List ByteArray), k.length = ks.length -> (k.eraseIdx j).length = ks.length - 1 := fun k hk => by rw [List.length_eraseIdx_of_lt (by omega)]; omega
 have hb : kC (.mk (ks.eraseIdx j) (vs.eraseIdx j) (P ++ m :: Q)) := mE (by rw [el _ h1, el _ rfl]) (by rw [el _ rfl]; omega) (.inr (by rw [el _ rfl]; omega)) fun s hs => (hm s hs).1.b
 refine ⟨hb, nz (by have := vW hl.1.l; omega) (by show 0 < (P ++ m :: Q).length; omega) fun s hs => ⟨(hm s hs).1.l, (hm s hs).2⟩, ?_⟩
 have hI : P.length = ((ks.zip vs).take j).length := by rw [List.length_take, tT h1]; omega
 rw [dD (bJ hb)]
 show bN ((P ++ m :: Q).map aW) ((ks.eraseIdx j).zip (vs.eraseIdx j)) = _
 rw [CY h1, qZ hI]
 conv => rhs; rw [pX hj h1]
 rw [vV hI, he, List.append_assoc, List.cons_append]
end
theorem kK {t s : PT} {j : Nat} (h : t.kids[j]? = some s) : fC t j = s := by
 unfold fC
 rw [List.getD_eq_getElem?_getD, h]
 rfl
theorem MP {α : Type} {l : List α} {j : Nat} {a b : α} (ha : l[j]? = some a) (hb : l[j + 1]? = some b) : l = l.take j ++ a :: b :: l.drop (j + 2) := by
 rw [<- dY hb, <- dY ha, List.take_append_drop]
theorem Ec {α : Type} {l : List α} {j : Nat} {s : α} (h : s ∈ l.take j) : ∃ i, i < j /\ l[i]? = some s := by
 obtain ⟨i, hi⟩ := List.getElem?_of_mem h
 have hlt := (List.getElem?_eq_some_iff.1 hi).1
 rw [List.length_take] at hlt
 refine ⟨i, by omega, ?_⟩
 rw [List.getElem?_take_of_lt (by omega)] at hi
 exact hi
theorem Ed {α : Type} {l : List α} {j : Nat} {s : α} (h : s ∈ l.drop j) : ∃ i, j <= i /\ l[i]? = some s := by
 obtain ⟨i, hi⟩ := List.getElem?_of_mem h
 rw [List.getElem?_drop] at hi
 exact ⟨j + i, by omega, hi⟩
theorem Rf {h i : Nat} {ks vs : List ByteArray} {cs : List PT} (h1 : vs.length = ks.length) (h2 : ks.length <= 4) (h0 : 0 < ks.length) (h3 : cs.length = ks.length + 1) (hi : i < cs.length)
  (hk : ∀ (j : Nat) (s : PT), cs[j]? = some s -> rQ h s /\ (j ≠ i -> 2 <= s.keys.length) /\ 1 <= s.keys.length) :
  kC (uU (.mk ks vs cs) i) /\ pW (h + 1) (uU (.mk ks vs cs) i) /\ ks.length <= (uU (.mk ks vs cs) i).keys.length + 1 /\ aW (uU (.mk ks vs cs) i) = bN (cs.map aW) (ks.zip vs) := by
 have get : ∀ j, j < cs.length -> ∃ s, cs[j]? = some s /\ fC (.mk ks vs cs) j = s := fun j hj => ⟨_, List.getElem?_eq_getElem hj, kK (t := .mk ks vs cs) (List.getElem?_eq_getElem hj)⟩
 obtain ⟨k, ck, ek⟩ := get i hi
 have kk := hk i k ck
 have hh : h ≠ 0 := by have := vW kk.1.l; omega
 unfold uU
 rw [ek]
 by_cases hlt : k.keys.length < 2
 ·rw [if_pos hlt]
  have others : ∀ j l r, j + 1 < cs.length -> cs[j]? = some l -> cs[j + 1]? = some r -> (j = i ∨ j + 1 = i) -> ∀ s, s ∈ cs.take j ∨ s ∈ cs.drop (j + 2) -> rQ h s /\ 2 <= s.keys.length := by
   intro j l r hj hl hr hor s hs
   rcases hs with hs | hs
   ·obtain ⟨n, hn, e⟩ := Ec hs
    exact ⟨(hk n s e).1, (hk n s e).2.1 (by omega)⟩
   ·obtain ⟨n, hn, e⟩ := Ed hs
    exact ⟨(hk n s e).1, (hk n s e).2.1 (by omega)⟩
  obtain ⟨g, rfl⟩ : ∃ g, h = g + 1 := ⟨h - 1, by omega⟩
  unfold JB
  by_cases hA : 0 < i /\ 2 < (fC (.mk ks vs cs) (i - 1)).keys.length
  ·rw [if_pos hA]
   obtain ⟨l, cl, el⟩ := get (i - 1) (by omega)
   rw [el] at hA
   have e1 : i - 1 + 1 = i := by omega
   have QJ : cs[i - 1 + 1]? = some k := by rw [e1]; exact ck
   have hp := MP cl QJ
   have hl := (hk (i - 1) l cl).1
   have Bz : (cs.take (i - 1)).length = i - 1 := by rw [List.length_take]; omega
   have pp := KM hl kk.1 hA.2 (by omega) (bP ks (i - 1)) (bP vs (i - 1))
   have ok := JJ (ks := ks) (vs := vs) Bz (by omega) h1 h2 (by rw [<- hp]; exact h3) (others (i - 1) l k (by omega) cl QJ (.inr e1)) pp.1 ⟨pp.2.1.1, by have := pp.2.1.2; omega⟩ pp.2.2
   have e2 := Ea (tks := ks) (tvs := vs) (P := cs.take (i - 1)) (l := l) (r := k) (Q := cs.drop (i - 1 + 2)) Bz
   rw [<- hp] at e2
   rw [e2]
   refine ⟨ok.1, ok.2.1, ?_, ?_⟩
   ·show ks.length <= (ks.set _ _).length + 1
    rw [List.length_set]
    omega
   ·rw [ok.2.2, <- hp]
  ·rw [if_neg hA]
   by_cases hB : i < ks.length
   ·obtain ⟨r, cr, er⟩ := get (i + 1) (by omega)
    have hp := MP ck cr
    have hr := (hk (i + 1) r cr).1
    have Bz : (cs.take i).length = i := by rw [List.length_take]; omega
    by_cases hC : 2 < r.keys.length
    ·rw [if_pos ⟨hB, by rw [er]; exact hC⟩]
     have pp := KN kk.1 hr hC (by omega) (bP ks i) (bP vs i)
     have ok := JJ (ks := ks) (vs := vs) Bz hB h1 h2 (by rw [<- hp]; exact h3) (others i k r (by omega) ck cr (.inl rfl)) ⟨pp.1.1, by have := pp.1.2; omega⟩ pp.2.1 pp.2.2
     have e2 := Eb (tks := ks) (tvs := vs) (P := cs.take i) (l := k) (r := r) (Q := cs.drop (i + 2)) Bz
     rw [<- hp] at e2
     rw [e2]
     refine ⟨ok.1, ok.2.1, ?_, ?_⟩
     ·show ks.length <= (ks.set _ _).length + 1
      rw [List.length_set]
      omega
     ·rw [ok.2.2, <- hp]
    ·rw [if_neg (by rw [er]; omega), if_pos (show i < (PT.mk ks vs cs).keys.length from hB)]
     have pp := C8 kk.1 hr (by omega) (bP ks i) (bP vs i)
     have hr2 := (hk (i + 1) r cr).2.1 (by omega)
     have ok := JK (ks := ks) (vs := vs) Bz hB h1 h2 (by rw [<- hp]; exact h3) (others i k r (by omega) ck cr (.inl rfl)) ⟨pp.1, by have := pp.2.1; omega⟩ pp.2.2
     have e2 := zW (tks := ks) (tvs := vs) (P := cs.take i) (l := k) (r := r) (Q := cs.drop (i + 2)) Bz
     rw [<- hp] at e2
     rw [e2]
     refine ⟨ok.1, ok.2.1, ?_, ?_⟩
     ·show ks.length <= (ks.eraseIdx _).length + 1
      rw [List.length_eraseIdx_of_lt hB]
      omega
     ·rw [ok.2.2, <- hp]
   ·rw [if_neg (fun c => hB c.1), if_neg (show ¬ i < (PT.mk ks vs cs).keys.length from hB)]
    obtain ⟨l, cl, el⟩ := get (i - 1) (by omega)
    have e1 : i - 1 + 1 = i := by omega
    have QJ : cs[i - 1 + 1]? = some k := by rw [e1]; exact ck
    have hp := MP cl QJ
    have hl := hk (i - 1) l cl
    have Bz : (cs.take (i - 1)).length = i - 1 := by rw [List.length_take]; omega
    have hle : ¬ 2 < l.keys.length := fun c => hA ⟨by omega, by rw [el]; exact c⟩
    have pp := C8 hl.1 kk.1 (by omega) (bP ks (i - 1)) (bP vs (i - 1))
    have hl2 := hl.2.1 (by omega)
    have ok := JK (ks := ks) (vs := vs) Bz (by omega) h1 h2 (by rw [<- hp]; exact h3) (others (i - 1) l k (by omega) cl QJ (.inr e1)) ⟨pp.1, by have := pp.2.1; omega⟩ pp.2.2
    have e2 := zW (tks := ks) (tvs := vs) (P := cs.take (i - 1)) (l := l) (r := k) (Q := cs.drop (i - 1 + 2)) Bz
    rw [<- hp] at e2
    rw [e2]
    refine ⟨ok.1, ok.2.1, ?_, ?_⟩
    ·show ks.length <= (ks.eraseIdx _).length + 1
     rw [List.length_eraseIdx_of_lt (by omega)]
     omega
    ·rw [ok.2.2, <- hp]
 ·rw [if_neg hlt]
  have hm : ∀ s ∈ cs, rQ h s /\ 2 <= s.keys.length := fun s hs => by
   obtain ⟨n, hn⟩ := List.getElem?_of_mem hs
   by_cases e : n = i
   ·subst e
    rw [ck] at hn
    obtain rfl := Option.some.inj hn
    exact ⟨kk.1, by omega⟩
   ·exact ⟨(hk n s hn).1, (hk n s hn).2.1 e⟩
  have hb : kC (.mk ks vs cs) := mE h1 h2 (.inr h3) fun s hs => (hm s hs).1.b
  exact ⟨hb, nz hh (by show 0 < cs.length; omega) fun s hs => ⟨(hm s hs).1.l, (hm s hs).2⟩, Nat.le_succ _, dD (bJ hb)⟩
open Go.Proofs.Ytoddejmlcnbdmaa.Fn Go.Proofs.Ytoddejmlcnbdmaa.Tree
def oL (key : ByteArray) (l : List KV) : List KV := l.filter fun x => !(x.1.toList == key.toList)
theorem rq {key : ByteArray} {l : List KV} (h : ∀ x ∈ l, (x.1.toList == key.toList) = false) : oL key l = l := by
 unfold oL
 rw [List.filter_eq_self.2]
 intro x hx
 rw [h x hx]
 rfl
theorem xq (key : ByteArray) (a b : List KV) : oL key (a ++ b) = oL key a ++ oL key b := List.filter_append _ _
theorem zY {a b : ByteArray} (h : qd a b) : (a.toList == b.toList) = false := by
 cases hh : (a.toList == b.toList) with
 | false => rfl
 | true =>
  unfold qd at h
  rw [eq_of_beq hh] at h
  exact absurd h (List.lt_irrefl _)
theorem xu {key : ByteArray} {A B : List KV} {x : KV} (hs : kJ (A ++ x :: B)) (he : (x.1.toList == key.toList) = true) : oL key (A ++ x :: B) = A ++ B := by
 obtain ⟨h1, h2, h3⟩ := List.pairwise_append.1 hs
 have e := eq_of_beq he
 have ha : ∀ a ∈ A, (a.1.toList == key.toList) = false := fun a ha => by rw [<- e]; exact zY (h3 a ha x List.mem_cons_self)
 have hb : ∀ b ∈ B, (b.1.toList == key.toList) = false := fun b hb => by rw [<- e]; exact zM ((List.pairwise_cons.1 h2).1 b hb)
 have hx : oL key (x :: B) = oL key B := by
  unfold oL
  rw [List.filter_cons, if_neg (by rw [he]; decide)]
 rw [xq, hx, rq ha, rq hb]
def Has (key : ByteArray) (l : List KV) : Prop := ∃ x ∈ l, (x.1.toList == key.toList) = true
theorem qz {t s : PT} {i : Nat} (hb : kC t) (hx : t.kids[i]? = some s) (hi : i <= t.keys.length) : aW t = qp ((t.kids.take i).map aW) ((bK t).take i) ++ (aW s ++ tailW ((t.kids.drop (i + 1)).map aW) ((bK t).drop i)) /\ (t.kids.take i).length = ((bK t).take i).length := by
 obtain ⟨⟨h1, h2, h3⟩, h4⟩ := bL.1 hb
 have hl := (List.getElem?_eq_some_iff.1 hx).1
 have Bz : (t.kids.take i).length = ((bK t).take i).length := by rw [List.length_take, List.length_take, qw h1]; omega
 refine ⟨?_, Bz⟩
 rw [dD (bJ hb)]
 conv => lhs; rw [qx hx, <- List.take_append_drop i (bK t)]
 exact qZ Bz
theorem lM {t s : PT} {i : Nat} (hb : kC t) (hs : kJ (aW t)) (hx : t.kids[i]? = some s) (hi : i <= t.keys.length) : kJ (aW s) := by
 rw [(qz hb hx hi).1] at hs
 exact (List.pairwise_append.1 (List.pairwise_append.1 hs).2.1).1
theorem ru {t s : PT} {key : ByteArray} (hb : kC t) (hs : kJ (aW t)) (hn : iJ t.keys (dm key t.keys) key = false) (hx : t.kids[dm key t.keys]? = some s) :
  (∀ x ∈ qp ((t.kids.take (dm key t.keys)).map aW) ((bK t).take (dm key t.keys)), qd x.1 key) /\ (∀ x ∈ tailW ((t.kids.drop (dm key t.keys + 1)).map aW) ((bK t).drop (dm key t.keys)), qd key x.1) /\ (Has key (aW t) -> Has key (aW s)) := by
 obtain ⟨⟨h1, h2, h3⟩, h4⟩ := bL.1 hb
 obtain ⟨e, Bz⟩ := qz hb hx (kU key t.keys)
 have hsk : BZ t.keys := oH ((ng (bJ hb)).2 hs)
 have hah := pF (key := key) h1
 have hbe := nX (t := t) (key := key) hsk hn
 have hpre := MI (P := (t.kids.take (dm key t.keys)).map aW) (I := (bK t).take (dm key t.keys)) (key := key) (by rw [List.length_map]; exact Bz) (by rw [e] at hs; exact hs) hah
 have yl := JA (Q := (t.kids.drop (dm key t.keys + 1)).map aW) (J := (bK t).drop (dm key t.keys)) (key := key) (L := qp ((t.kids.take (dm key t.keys)).map aW) ((bK t).take (dm key t.keys)) ++ aW s) (by rw [e] at hs; rw [List.append_assoc]; exact hs) hbe
 refine ⟨hpre, yl, ?_⟩
 rintro ⟨x, hm, he⟩
 rw [e] at hm
 rcases List.mem_append.1 hm with hm | hm
 ·rw [zY (hpre x hm)] at he; cases he
 ·rcases List.mem_append.1 hm with hm | hm
  ·exact ⟨x, hm, he⟩
  ·rw [zM (yl x hm)] at he; cases he
theorem qA {t : PT} {key : ByteArray} (hb : kC t) (h0 : t.kids = []) (hs : kJ (aW t)) (hh : Has key (aW t)) : iJ t.keys (dm key t.keys) key = true := by
 cases hn : iJ t.keys (dm key t.keys) key with
 | true => rfl
 | false =>
  obtain ⟨⟨h1, h2, h3⟩, h4⟩ := bL.1 hb
  have hsk : BZ t.keys := oH ((ng (bJ hb)).2 hs)
  obtain ⟨x, hm, he⟩ := hh
  rw [gQ (bJ hb) h0, <- List.take_append_drop (dm key t.keys) (bK t)] at hm
  rcases List.mem_append.1 hm with hm | hm
  ·rw [zY (pF h1 x hm)] at he; cases he
  ·rw [zM (nX hsk hn x hm)] at he; cases he
theorem oM : ∀ (n : Nat) (t : PT) (h : Nat), t.big <= n -> rQ h t -> 0 < t.keys.length -> ∃ X, aW t = X ++ [(mD n t, sG n t)]
 | 0, t, h, hb, _, _ => absurd t.eH (by omega)
 | n + 1, t, 0, hb, hk, h0 => hk.l.elim
 | n + 1, t, h + 1, hb, hk, h0 => by
  obtain ⟨⟨h1, h2, h3⟩, h4⟩ := bL.1 hk.b
  rcases kg hk.b hk.l with ⟨_, hc⟩ | ⟨hh, hc, ha⟩
  ·have e : jN (n + 1) t = t := by rw [jN, if_pos (by rw [hc]; rfl)]
   unfold mD sG
   rw [e, gQ (bJ hk.b) hc]
   exact ⟨_, FI h1 h0⟩
  ·obtain ⟨s, hx⟩ : ∃ s, t.kids[t.keys.length]? = some s := ⟨t.kids[t.keys.length]'(by omega), List.getElem?_eq_getElem (by omega)⟩
   have hm := List.mem_of_getElem? hx
   have e : jN (n + 1) t = jN n s := by
    rw [jN, if_neg (by omega), show t.kids.length - 1 = t.keys.length by omega, kK hx]
   obtain ⟨X, eX⟩ := oM n s h (by have := PT.fH hx; omega) ⟨h4 s hm, (ha s hm).1⟩ (by have := (ha s hm).2; omega)
   obtain ⟨ev, _⟩ := qz hk.b hx (Nat.le_refl _)
   have hd : (bK t).drop t.keys.length = [] := List.drop_eq_nil_of_le (by rw [qw h1]; exact Nat.le_refl _)
   unfold mD sG at eX ⊢
   rw [e, ev, hd, eX]
   exact ⟨_, by rw [tailW, List.append_nil, <- List.append_assoc]⟩
theorem JL {key : ByteArray} : ∀ {K : List ByteArray}, (∀ x ∈ K, qd x key) -> dm key K = K.length
 | [], _ => rfl
 | k :: ks, h => by
  rw [dm, if_pos ((j6 _ _).2 (h k List.mem_cons_self)), JL fun x hx => h x (List.mem_cons_of_mem _ hx)]
  rfl
theorem JM {key x : ByteArray} : ∀ {K : List ByteArray}, (∀ y ∈ K, qd y key) -> wP x key = false -> dm key (K ++ [x]) = K.length
 | [], _, hx => by rw [List.nil_append, dm, if_neg (by rw [hx]; decide)]; rfl
 | k :: ks, h, hx => by
  rw [List.cons_append, dm, if_pos ((j6 _ _).2 (h k List.mem_cons_self)), JM (fun x hx => h x (List.mem_cons_of_mem _ hx)) hx]
  rfl
theorem MQ (a : ByteArray) : wP a a = false := by
 cases h : wP a a with
 | false => rfl
 | true => exact absurd ((j6 a a).1 h) (lt_irrefl a)
theorem MR {K : List ByteArray} {key : ByteArray} : iJ K K.length key = false := by
 unfold iJ
 rw [List.getElem?_eq_none (Nat.le_refl _)]
theorem Rh (n : Nat) {t : PT} {h : Nat} (hb : t.big <= n + 1) (hk : rQ (h + 1) t) (h0 : 0 < t.keys.length) (hs : kJ (aW t)) :
  (t.kids = [] -> mD (n + 1) t = bP t.keys (t.keys.length - 1) /\ dm (mD (n + 1) t) t.keys = t.keys.length - 1) /\ (t.kids ≠ [] -> mD (n + 1) t = mD n (fC t t.keys.length) /\ sG (n + 1) t = sG n (fC t t.keys.length) /\ dm (mD (n + 1) t) t.keys = t.keys.length) := by
 obtain ⟨⟨h1, h2, h3⟩, h4⟩ := bL.1 hk.b
 have hsk : BZ t.keys := oH ((ng (bJ hk.b)).2 hs)
 constructor
 ·intro hc
  have e : jN (n + 1) t = t := by rw [jN, if_pos (by rw [hc]; rfl)]
  have e2 : mD (n + 1) t = bP t.keys (t.keys.length - 1) := by unfold mD; rw [e]
  refine ⟨e2, ?_⟩
  rw [e2]
  have hsp := qx (nY (l := t.keys) (i := t.keys.length - 1) (by omega))
  rw [List.drop_eq_nil_of_le (by omega)] at hsp
  have ht : (t.keys.take (t.keys.length - 1)).length = t.keys.length - 1 := by rw [List.length_take]; omega
  have : dm (bP t.keys (t.keys.length - 1)) (t.keys.take (t.keys.length - 1) ++ [bP t.keys (t.keys.length - 1)]) = (t.keys.take (t.keys.length - 1)).length := by
   refine JM (fun y hy => ?_) (MQ _)
   rw [hsp] at hsk
   exact (List.pairwise_append.1 hsk).2.2 y hy _ (List.mem_singleton_self _)
  rw [<- hsp, ht] at this
  exact this
 ·intro hc
  rcases kg hk.b hk.l with ⟨_, hc'⟩ | ⟨hh, hcl, ha⟩
  ·exact absurd hc' hc
  ·have hx : t.kids[t.keys.length]? = some (fC t t.keys.length) := by
    have : t.kids[t.keys.length]? = some (t.kids[t.keys.length]'(by omega)) := List.getElem?_eq_getElem (by omega)
    rw [this, kK this]
   have e : jN (n + 1) t = jN n (fC t t.keys.length) := by rw [jN, if_neg (by omega), show t.kids.length - 1 = t.keys.length by omega]
   have e2 : mD (n + 1) t = mD n (fC t t.keys.length) := by unfold mD; rw [e]
   have e3 : sG (n + 1) t = sG n (fC t t.keys.length) := by unfold sG; rw [e]
   refine ⟨e2, e3, ?_⟩
   have hm := List.mem_of_getElem? hx
   obtain ⟨X, eX⟩ := oM n _ h (by have := PT.fH hx; omega) ⟨h4 _ hm, (ha _ hm).1⟩ (by have := (ha _ hm).2; omega)
   obtain ⟨ev, Bz⟩ := qz hk.b hx (Nat.le_refl _)
   rw [e2]
   refine JL fun x hxk => ?_
   -- the node's own keys stand ahead of the last kid
   obtain ⟨i, hi⟩ := List.getElem?_of_mem hxk
   have hil := (List.getElem?_eq_some_iff.1 hi).1
   obtain ⟨v, _, LF⟩ := KJ h1 hi
   have hmem : (x, v) ∈ qp ((t.kids.take t.keys.length).map aW) ((bK t).take t.keys.length) := by
    have : ∀ (P : List (List KV)) (I : List KV), P.length = I.length -> ∀ y ∈ I, y ∈ qp P I := by
     intro P
     induction P with
     | nil => intro I hl y hy; cases I with | nil => cases hy | cons _ _ => simp at hl
     | cons p P ih =>
      intro I hl y hy
      cases I with
      | nil => cases hy
      | cons z I =>
       rw [qp]
       rcases List.mem_cons.1 hy with rfl | hy
       ·exact List.mem_append_right _ List.mem_cons_self
       ·exact List.mem_append_right _ (List.mem_cons_of_mem _ (ih I (by simpa using hl) y hy))
    refine this _ _ (by rw [List.length_map]; exact Bz) _ ?_
    rw [List.take_of_length_le (by rw [qw h1]; exact Nat.le_refl _)]
    exact List.mem_of_getElem? LF
   rw [ev, eX] at hs
   exact (List.pairwise_append.1 hs).2.2 _ hmem (mD n (fC t t.keys.length), sG n (fC t t.keys.length)) (List.mem_append_left _ (List.mem_append_right _ (List.mem_singleton_self _)))
theorem Pf {cs : List PT} {i j : Nat} {s' c : PT} (h : (cs.set i s')[j]? = some c) : (j = i /\ c = s') ∨ (j ≠ i /\ cs[j]? = some c) := by
 rw [List.getElem?_set] at h
 split at h
 ·split at h
  ·exact .inl ⟨by omega, (Option.some.inj h).symm⟩
  ·cases h
 ·exact .inr ⟨by omega, h⟩
theorem pJ : ∀ (n : Nat) (t : PT) (key : ByteArray) (h : Nat), t.big <= n -> rQ h t -> (t.kids ≠ [] -> 0 < t.keys.length) -> kJ (aW t) -> Has key (aW t) ->
  ∃ r, mg n t key = some r /\ rQ h r /\ t.keys.length <= r.keys.length + 1 /\ aW r = oL key (aW t)
 | 0, t, key, h, hb, _, _, _, _ => absurd t.eH (by omega)
 | n + 1, t, key, 0, hb, hk, _, _, _ => hk.l.elim
 | n + 1, t, key, h + 1, hb, hk, h0, hs, hh => by
  obtain ⟨⟨h1, h2, h3⟩, h4⟩ := bL.1 hk.b
  have hle := kU key t.keys
  rw [mg]
  rcases kg hk.b hk.l with ⟨rfl, hc⟩ | ⟨hne, hcl, ha⟩
  ·have hS := qA hk.b hc hs hh
   have hlt := jZ hS
   rw [if_pos (by rw [hc]; rfl), if_pos hlt]
   have el : ∀ (k : List ByteArray), k.length = t.keys.length -> (k.eraseIdx (dm key t.keys)).length = t.keys.length - 1 := fun k hk => by rw [List.length_eraseIdx_of_lt (by omega)]; omega
   have hb' : kC (.mk (t.keys.eraseIdx (dm key t.keys)) (t.vals.eraseIdx (dm key t.keys)) t.kids) := mE (by rw [el _ h1, el _ rfl]) (by rw [el _ rfl]; omega) (.inl (by rw [hc]; rfl)) h4
   refine ⟨_, rfl, ⟨hb', tV hc⟩, by show t.keys.length <= (t.keys.eraseIdx _).length + 1; rw [el _ rfl]; omega, ?_⟩
   have e2 : aW t = (bK t).take (dm key t.keys) ++ (bP t.keys (dm key t.keys), bP t.vals (dm key t.keys)) :: (bK t).drop (dm key t.keys + 1) := by
    rw [gQ (bJ hk.b) hc]
    exact pX hlt h1
   rw [gQ (bJ hb') hc]
   show (t.keys.eraseIdx _).zip (t.vals.eraseIdx _) = _
   rw [CY h1]
   conv => rhs; rw [e2]
   refine (xu (by rw [e2] at hs; exact hs) ?_).symm
   unfold iJ at hS
   rw [nY hlt] at hS
   exact hS
  ·have h0' : 0 < t.keys.length := h0 (fun e => by rw [e] at hcl; simp at hcl)
   obtain ⟨s, hx⟩ : ∃ s, t.kids[dm key t.keys]? = some s := ⟨t.kids[dm key t.keys]'(by omega), List.getElem?_eq_getElem (by omega)⟩
   have hm := List.mem_of_getElem? hx
   have hsb : s.big <= n := by have := PT.fH hx; omega
   have hks : rQ h s := ⟨h4 s hm, (ha s hm).1⟩
   have hs2 := (ha s hm).2
   have hss := lM hk.b hs hx hle
   rw [if_neg (by omega)]
   have fix := fun (ks vs : List ByteArray) (s' : PT) (e1 : vs.length = ks.length) (e2 : ks.length = t.keys.length) (hks' : rQ h s') (hl' : s.keys.length <= s'.keys.length + 1) =>
    Rf (h := h) (i := dm key t.keys) (ks := ks) (vs := vs) (cs := t.kids.set (dm key t.keys) s') e1 (by omega) (by omega) (by rw [List.length_set]; omega) (by rw [List.length_set]; omega) (fun j c hj => by
     rcases Pf hj with ⟨e, rfl⟩ | ⟨e, hj⟩
     ·exact ⟨hks', fun e' => absurd e e', by omega⟩
     ·have hcm := List.mem_of_getElem? hj
      exact ⟨⟨h4 c hcm, (ha c hcm).1⟩, fun _ => (ha c hcm).2, by have := (ha c hcm).2; omega⟩)
   rw [kK hx]
   obtain ⟨ev, Bz⟩ := qz hk.b hx hle
   by_cases hS : iJ t.keys (dm key t.keys) key = true
   ·rw [if_pos hS]
    have hlt := jZ hS
    obtain ⟨X, eX⟩ := oM n s h hsb hks (by omega)
    obtain ⟨r, e1, hkr, hlr, hall⟩ := pJ n s (mD n s) h hsb hks (fun _ => by omega) hss ⟨(mD n s, sG n s), by rw [eX]; exact List.mem_append_right _ (List.mem_singleton_self _), by simp⟩
    rw [e1]
    have ok := fix (t.keys.set (dm key t.keys) (mD n s)) (t.vals.set (dm key t.keys) (sG n s)) r (by rw [List.length_set, List.length_set]; exact h1) List.length_set hkr hlr
    refine ⟨_, rfl, ⟨ok.1, ok.2.1⟩, by have := ok.2.2.1; rw [List.length_set] at this; exact this, ?_⟩
    rw [ok.2.2.2, D7 _ _ hlt h1, ow r (by omega)]
    have hrX : aW r = X := by
     rw [hall, eX]
     have := xu (key := mD n s) (A := X) (B := []) (x := (mD n s, sG n s)) (by rw [<- eX]; exact hss) (by simp)
     rw [List.append_nil] at this
     exact this
    have hI : (t.kids.take (dm key t.keys)).length = ((t.keys.zip t.vals).take (dm key t.keys)).length := Bz
    rw [qZ hI, hrX, tailW]
    have e3 : aW t = (qp ((t.kids.take (dm key t.keys)).map aW) ((bK t).take (dm key t.keys)) ++ (X ++ [(mD n s, sG n s)])) ++ (bP t.keys (dm key t.keys), bP t.vals (dm key t.keys)) :: bN ((t.kids.drop (dm key t.keys + 1)).map aW) ((bK t).drop (dm key t.keys + 1)) := by
     rw [ev, eX]
     have : (bK t).drop (dm key t.keys) = (bP t.keys (dm key t.keys), bP t.vals (dm key t.keys)) :: (bK t).drop (dm key t.keys + 1) := by
      have := dY (l := bK t) (i := dm key t.keys) (s := (bP t.keys (dm key t.keys), bP t.vals (dm key t.keys))) (List.getElem?_zip_eq_some.2 ⟨nY hlt, nY (by omega)⟩)
      exact this
     rw [this, tailW]
     simp only [List.append_assoc, List.cons_append, List.nil_append]
    conv => rhs; rw [e3]
    rw [xu (by rw [<- e3]; exact hs) (by
     unfold iJ at hS
     rw [nY hlt] at hS
     exact hS)]
    simp only [List.append_assoc, List.cons_append, List.nil_append]
    rfl
   ·have hS' : iJ t.keys (dm key t.keys) key = false := by cases hq : iJ t.keys (dm key t.keys) key <;> simp_all
    rw [if_neg hS]
    obtain ⟨hpre, yl, hin⟩ := ru hk.b hs hS' hx
    obtain ⟨r, e1, hkr, hlr, hall⟩ := pJ n s key h hsb hks (fun _ => by omega) hss (hin hh)
    rw [e1]
    have ok := fix t.keys t.vals r h1 rfl hkr hlr
    refine ⟨_, rfl, ⟨ok.1, ok.2.1⟩, ok.2.2.1, ?_⟩
    refine ok.2.2.2.trans ?_
    rw [ow r (by omega)]
    conv => lhs; rw [<- List.take_append_drop (dm key t.keys) (t.keys.zip t.vals)]
    rw [qZ (show (t.kids.take (dm key t.keys)).length = ((t.keys.zip t.vals).take (dm key t.keys)).length from Bz), hall, ev, xq, xq, rq (fun x hx => zY (hpre x hx)), rq (l := tailW _ _) (fun x hx => zM (yl x hx))]
    rfl
theorem vZ : ∀ (n : Nat) (t : PT) (h : Nat), t.big <= n -> rQ h t -> 0 < t.keys.length -> kJ (aW t) -> mg n t (mD n t) = some (JC n t)
 | 0, t, h, hb, _, _, _ => absurd t.eH (by omega)
 | n + 1, t, 0, hb, hk, _, _ => hk.l.elim
 | n + 1, t, h + 1, hb, hk, h0, hs => by
  obtain ⟨⟨h1, h2, h3⟩, h4⟩ := bL.1 hk.b
  obtain ⟨a1, a2⟩ := Rh n hb hk h0 hs
  rw [mg, JC]
  rcases kg hk.b hk.l with ⟨rfl, hc⟩ | ⟨hne, hcl, ha⟩
  ·obtain ⟨_, e⟩ := a1 hc
   rw [if_pos (show t.kids.length = 0 by rw [hc]; rfl), if_pos (show t.kids.length = 0 by rw [hc]; rfl), e, if_pos (show t.keys.length - 1 < t.keys.length by omega)]
  ·have hne' : t.kids ≠ [] := fun e => by rw [e] at hcl; simp at hcl
   obtain ⟨e1, e2, e3⟩ := a2 hne'
   rw [if_neg (show ¬ t.kids.length = 0 by omega), if_neg (show ¬ t.kids.length = 0 by omega), e3, if_neg (show ¬ iJ t.keys t.keys.length (mD (n + 1) t) = true by rw [MR]; decide), e1, show t.kids.length - 1 = t.keys.length by omega]
   have hx : t.kids[t.keys.length]? = some (t.kids[t.keys.length]'(by omega)) := List.getElem?_eq_getElem (by omega)
   have hm := List.mem_of_getElem? hx
   rw [kK hx]
   rw [vZ n _ h (by have := PT.fH hx; omega) ⟨h4 _ hm, (ha _ hm).1⟩ (by have := (ha _ hm).2; omega) (lM hk.b hs hx (Nat.le_refl _))]
   rfl
theorem wh : ∀ (n : Nat) (t : PT) (key : ByteArray) (h : Nat), t.big <= n -> rQ h t -> kJ (aW t) -> Has key (aW t) -> JD n t key = mg n t key
 | 0, t, key, h, hb, _, _, _ => absurd t.eH (by omega)
 | n + 1, t, key, 0, hb, hk, _, _ => hk.l.elim
 | n + 1, t, key, h + 1, hb, hk, hs, hh => by
  obtain ⟨⟨h1, h2, h3⟩, h4⟩ := bL.1 hk.b
  have hle := kU key t.keys
  rw [JD, mg]
  rcases kg hk.b hk.l with ⟨rfl, hc⟩ | ⟨hne, hcl, ha⟩
  ·have hS := qA hk.b hc hs hh
   have hlt := jZ hS
   rw [if_pos hS, if_pos (show t.kids.length = 0 by rw [hc]; rfl), if_pos (show t.kids.length = 0 by rw [hc]; rfl), if_pos hlt]
  ·have hkn : ¬ t.kids.length = 0 := by omega
   obtain ⟨s, hx⟩ : ∃ s, t.kids[dm key t.keys]? = some s := ⟨t.kids[dm key t.keys]'(by omega), List.getElem?_eq_getElem (by omega)⟩
   have hm := List.mem_of_getElem? hx
   have hsb : s.big <= n := by have := PT.fH hx; omega
   have hks : rQ h s := ⟨h4 s hm, (ha s hm).1⟩
   have hss := lM hk.b hs hx hle
   rw [kK hx]
   simp only [if_neg hkn]
   by_cases hS : iJ t.keys (dm key t.keys) key = true
   ·rw [if_pos hS, if_pos hS, vZ n s h hsb hks (by have := (ha s hm).2; omega) hss]
    rfl
   ·have hS' : iJ t.keys (dm key t.keys) key = false := by cases hq : iJ t.keys (dm key t.keys) key <;> simp_all
    rw [if_neg hS, if_neg hS, wh n s key h hsb hks hss ((ru hk.b hs hS' hx).2.2 hh)]
end Go.Proofs.Ytoddejmlcnbdmaa.Pure
namespace Go.Proofs.Ytoddejmlcnbdmaa.Fn
end Go.Proofs.Ytoddejmlcnbdmaa.Fn
namespace Go.Proofs.Ytoddejmlcnbdmaa.Pure
open Go.Proofs.Ytoddejmlcnbdmaa.Fn
end Go.Proofs.Ytoddejmlcnbdmaa.Pure
namespace Go.Proofs.Ytoddejmlcnbdmaa.Fn
end Go.Proofs.Ytoddejmlcnbdmaa.Fn
namespace Go.Proofs.Ytoddejmlcnbdmaa.Pure
open Go.Proofs.Ytoddejmlcnbdmaa.Fn
end Go.Proofs.Ytoddejmlcnbdmaa.Pure
namespace Go.Proofs.Ytoddejmlcnbdmaa.Fn
end Go.Proofs.Ytoddejmlcnbdmaa.Fn
namespace Go.Proofs.Ytoddejmlcnbdmaa.Pure
open Go.Proofs.Ytoddejmlcnbdmaa.Fn
open Go.Proofs.Ytoddejmlcnbdmaa.Fn Go.Proofs.Ytoddejmlcnbdmaa.Tree
theorem xw {α : Type} : ∀ (cs : List (List α)) (ks : List α), cs.length = ks.length + 1 -> (bN cs ks).length + 1 = (cs.map fun c => c.length + 1).sum
 | [], ks, h => by simp at h
 | [c], [], _ => by simp [bN]
 | c :: d :: cs, [], h => by simp at h
 | c :: cs, k :: ks, h => by
  have := xw cs ks (by simpa using h)
  simp only [bN, List.length_append, List.length_cons, List.map_cons, List.sum_cons]
  omega
theorem MS {α : Type} (f : α -> Nat) (m : Nat) : ∀ l : List α, (∀ x ∈ l, m <= f x) -> l.length * m <= (l.map f).sum
 | [], _ => by simp
 | x :: l, h => by
  have := MS f m l fun y hy => h y (List.mem_cons_of_mem _ hy)
  have := h x List.mem_cons_self
  simp only [List.length_cons, List.map_cons, List.sum_cons, Nat.succ_mul]
  omega
theorem yT : ∀ (h : Nat) (t : PT), mJ t -> pW (h + 1) t -> (t.keys.length + 1) * 3 ^ h <= (bB t).length + 1
 | h, t, hs, hl => by
  have h1 := hs.one
  unfold uQ at h1
  rcases hl with ⟨a1, a2⟩ | ⟨a1, a2⟩
  ·subst a2
   rw [nU, a1]
   simp [bN]
  ·have hkl : t.kids.length = t.keys.length + 1 := h1.2.2.resolve_left (by
    intro h0
    exact a1 (List.length_eq_zero_iff.1 h0))
   cases h with
   | zero =>
    cases hk : t.kids with
    | nil => exact absurd hk a1
    | cons c cs => exact (a2 c (by rw [hk]; exact List.mem_cons_self)).1.elim
   | succ h =>
    rw [nU, xw _ _ (by rw [List.length_map]; exact hkl), List.map_map]
    have := MS ((fun c : List ByteArray => c.length + 1) ∘ bB) (3 ^ (h + 1)) t.kids fun s hm => by
     obtain ⟨l1, l2⟩ := a2 s hm
     obtain ⟨i, hi⟩ := List.getElem?_of_mem hm
     have hr := yT h s (hs.kid hi) l1
     show 3 ^ (h + 1) <= (bB s).length + 1
     have h3 : 3 * 3 ^ h <= (s.keys.length + 1) * 3 ^ h := Nat.mul_le_mul_right _ (by omega)
     rw [Nat.pow_succ, Nat.mul_comm]
     omega
    rw [hkl] at this
    exact this
theorem Dc {rd : Nat -> Option (PT × Nat)} : ∀ (l : List Int) (next : Nat) (acc ts : List PT) (n : Nat), dQ rd l next acc = some (ts, n) -> ∀ x ∈ acc, x ∈ ts
 | [], next, acc, ts, n, h, x, hx => by
  rw [dQ] at h
  injection h with h
  injection h with e1 e2
  rw [<- e1]
  exact hx
 | k :: ks, next, acc, ts, n, h, x, hx => by
  rw [dQ] at h
  split at h
  ·cases h
  ·cases hr : rd next with
   | none => rw [hr] at h; cases h
   | some r =>
    rw [hr] at h
    exact Dc ks r.2 _ ts n h x (List.mem_append_left _ hx)
theorem xx {rd rd' : Nat -> Option (PT × Nat)} {Q : PT -> Prop} (hrd : ∀ a t n, rd a = some (t, n) -> Q t -> rd' a = some (t, n)) : ∀ (l : List Int) (next : Nat) (acc ts : List PT) (n : Nat), dQ rd l next acc = some (ts, n) -> (∀ s ∈ ts, Q s) -> dQ rd' l next acc = some (ts, n)
 | [], next, acc, ts, n, h, _ => h
 | k :: ks, next, acc, ts, n, h, hq => by
  rw [dQ] at h ⊢
  split at h
  ·cases h
  ·rename_i hk
   rw [if_neg hk]
   cases hr : rd next with
   | none => rw [hr] at h; cases h
   | some r =>
    rw [hr] at h
    have hm := Dc ks r.2 _ ts n h r.1 (List.mem_append_right _ (List.mem_singleton_self _))
    rw [hrd next r.1 r.2 hr (hq _ hm)]
    exact xx hrd ks r.2 _ ts n h hq
theorem nA {P : List bH} {f a n : Nat} {t : PT} (h : bX P (f + 1) a = some (t, n)) : ¬ P.length <= a /\ pR (P.getD a lF) = false /\ t.keys = (P.getD a lF).f0 /\ t.vals = (P.getD a lF).f1 /\ dQ (bX P f) (P.getD a lF).f2 (a + 1) [] = some (t.kids, n) := by
 rw [bX] at h
 split at h
 ·cases h
 ·rename_i hl
  split at h
  ·cases h
  ·rename_i hb
   unfold fin at h
   obtain ⟨r, hr, e⟩ := Option.map_eq_some_iff.1 h
   injection e with e1 e2
   subst e1
   refine ⟨hl, by cases hbb : pR (P.getD a lF) <;> simp_all, rfl, rfl, ?_⟩
   rw [hr, <- e2]
   rfl
theorem ry {P : List bH} {f a n : Nat} {t : PT} (h1 : ¬ P.length <= a) (h2 : pR (P.getD a lF) = false) (h3 : t.keys = (P.getD a lF).f0) (h4 : t.vals = (P.getD a lF).f1) (h5 : dQ (bX P f) (P.getD a lF).f2 (a + 1) [] = some (t.kids, n)) : bX P (f + 1) a = some (t, n) := by
 rw [bX, if_neg h1, if_neg (by rw [h2]; decide), h5]
 unfold fin
 rw [Option.map_some, <- h3, <- h4, PT.eta]
theorem Ib {P : List bH} : ∀ (f g a : Nat) (t : PT) (n : Nat), f <= g -> bX P f a = some (t, n) -> bX P g a = some (t, n)
 | 0, g, a, t, n, _, h => by cases h
 | f + 1, 0, a, t, n, hg, h => by omega
 | f + 1, g + 1, a, t, n, hg, h => by
  obtain ⟨h1, h2, h3, h4, h5⟩ := nA h
  exact ry h1 h2 h3 h4 (xx (Q := fun _ => True) (fun a t n h _ => Ib f g a t n (by omega) h) _ _ _ _ _ h5 fun _ _ => trivial)
theorem De {P : List bH} : ∀ (h f g a : Nat) (t : PT) (n : Nat), h <= g -> pW h t -> bX P f a = some (t, n) -> bX P g a = some (t, n)
 | 0, f, g, a, t, n, _, hl, _ => hl.elim
 | h + 1, 0, g, a, t, n, _, _, hr => by cases hr
 | h + 1, f + 1, 0, a, t, n, hg, _, _ => by omega
 | h + 1, f + 1, g + 1, a, t, n, hg, hl, hr => by
  obtain ⟨h1, h2, h3, h4, h5⟩ := nA hr
  refine ry h1 h2 h3 h4 (xx (Q := pW h) (fun a t n hr hl => De h f g a t n (by omega) hl hr) _ _ _ _ _ h5 fun s hs => ?_)
  rcases hl with ⟨a1, _⟩ | ⟨_, a2⟩
  ·rw [a1] at hs
   cases hs
  ·exact (a2 s hs).1
theorem lN {P : List bH} : ∀ (f g a : Nat) (t : PT) (n : Nat), P.length < a + g -> bX P f a = some (t, n) -> bX P g a = some (t, n)
 | 0, g, a, t, n, _, h => by cases h
 | f + 1, g, a, t, n, hg, h => by
  obtain ⟨h1, h2, h3, h4, h5⟩ := nA h
  cases g with
  | zero => omega
  | succ g =>
   refine ry h1 h2 h3 h4 ?_
   have : ∀ (l : List Int) (next : Nat) (acc ts : List PT) (n : Nat), a + 1 <= next -> dQ (bX P f) l next acc = some (ts, n) -> dQ (bX P g) l next acc = some (ts, n) := by
    intro l
    induction l with
    | nil => intro next acc ts n _ h; exact h
    | cons k ks ih =>
     intro next acc ts n hn h
     rw [dQ] at h ⊢
     split at h
     ·cases h
     ·rename_i hk
      rw [if_neg hk]
      cases hr : bX P f next with
      | none => rw [hr] at h; cases h
      | some r =>
       rw [hr] at h
       rw [lN f g next r.1 r.2 (by omega) hr]
       have := jh f next r.1 r.2 hr
       exact ih r.2 _ ts n (by omega) h
   exact this _ _ _ _ _ (Nat.le_refl _) h5
theorem Df {P : List bH} {rd : Nat -> Option (PT × Nat)} (hrd : ∀ a t n, rd a = some (t, n) -> a < n /\ t.big <= n - a) : ∀ (l : List Int) (next : Nat) (acc ts : List PT) (n : Nat), dQ rd l next acc = some (ts, n) -> next <= n /\ PT.iH ts <= PT.iH acc + (n - next)
 | [], next, acc, ts, n, h => by
  rw [dQ] at h
  injection h with h
  injection h with e1 e2
  subst e1; subst e2
  omega
 | k :: ks, next, acc, ts, n, h => by
  rw [dQ] at h
  split at h
  ·cases h
  ·cases hr : rd next with
   | none => rw [hr] at h; cases h
   | some r =>
    rw [hr] at h
    have h1 := hrd next r.1 r.2 hr
    have h2 := Df (P := P) hrd ks r.2 _ ts n h
    have h3 : ∀ (l : List PT) (x : PT), PT.iH (l ++ [x]) = PT.iH l + x.big := by
     intro l x
     induction l with
     | nil => simp [PT.iH]
     | cons y l ih => rw [List.cons_append, PT.iH, PT.iH, ih]; omega
    rw [h3] at h2
    omega
theorem xy {P : List bH} : ∀ (f a : Nat) (t : PT) (n : Nat), bX P f a = some (t, n) -> a < n /\ t.big <= n - a
 | 0, a, t, n, h => by cases h
 | f + 1, a, t, n, h => by
  obtain ⟨h1, h2, h3, h4, h5⟩ := nA h
  have := Df (P := P) (fun a t n h => xy f a t n h) _ _ _ _ _ h5
  cases t with | mk keys vals kids =>
  rw [PT.big]
  simp only [PT.kids, PT.iH] at this
  omega
theorem uV (t : PT) : oJ t = true ↔ ¬ (t.kids.length ≠ 0 /\ t.keys.length = 0) := by
 unfold oJ
 cases hk : t.kids with
 | nil => simp
 | cons c cs =>
  simp only [List.isEmpty_cons, Bool.false_or, decide_eq_true_eq, List.length_cons]
  omega
theorem JN (P : List bH) (hP : P.length <= 1048576) : Ev (fun k => sj k P) (pz P) := by
 unfold sj pz
 cases h1 : bX P (P.length + 1) 0 with
 | none =>
  have h2 : bX P 10 0 = none := by
   cases h : bX P 10 0 with
   | none => rfl
   | some r => have := lN 10 (P.length + 1) 0 r.1 r.2 (by omega) h; rw [h1] at this; cases this
  rw [h2]
  exact Ev.val rfl
 | some r =>
  obtain ⟨t, n⟩ := r
  obtain ⟨hlt, hfits⟩ := iY _ 0 t n h1
  have hle := jh _ 0 t n h1
  have hbig := xy _ 0 t n h1
  have hk := hfits.k
  have hv := hfits.v
  have hvl := iO hfits.yB
  have hap := sw (bB t) (dL t) (by omega) (by omega)
  have he := vX _ t (Nat.le_refl _) (by omega)
  have hd := xh _ t (Nat.le_refl _) (by omega)
  simp only
  by_cases hn : n = P.length
  ·refine Ev.xe (by simp [hn]) ?_
   have hpc := CP (bB t) (dL t) hvl
   rcases hd with ⟨h, hl, hdp⟩ | ⟨hno, hdp⟩
   ·-- level h
    by_cases hh : h <= 10
    ·have h2 := De h (P.length + 1) 10 0 t n hh hl h1
     rw [h2]
     simp only
     rw [if_neg (by simp [hn]), hdp]
     have hev : fP t = (h : Int) := by
      rcases he with ⟨g, gl, ge⟩ | ⟨hno, _⟩
      ·rw [ge, oI gl hl]
      ·exact absurd hl (hno h)
     cases hro : oJ t with
     | false =>
      have : ¬ ¬ (t.kids.length ≠ 0 /\ t.keys.length = 0) := fun h => by rw [(uV t).2 h] at hro; cases hro
      have := Decidable.not_not.1 this
      refine Ev.wQ rfl (Ev.val ?_)
      split
      ·rfl
      ·rw [if_pos (.inr (.inl this))]
     | true =>
      have hr2 := (uV t).1 hro
      refine Ev.xe (by simp) (Ev.bind hap (Ev.val ?_))
      rw [hpc]
      cases hc : lG (bB t) (dL t) none with
      | false =>
       rw [if_pos rfl, Bool.and_false]
       rfl
      | true =>
       rw [Bool.and_true]
       by_cases Oo : (bB t).length <= 40
       ·rw [if_pos (decide_eq_true Oo), if_neg (show ¬ (true = false) by decide), if_neg (by rw [hev]; omega)]
       ·rw [if_neg (show ¬ decide ((bB t).length <= 40) = true by simpa using Oo), if_neg (show ¬ (true = false) by decide), if_pos (.inr (.inr (by omega)))]
    ·-- too deep: too many keys
     have h2 : bX P 10 0 = none ∨ ∃ r, bX P 10 0 = some r := by
      cases bX P 10 0 with
      | none => exact .inl rfl
      | some r => exact .inr ⟨r, rfl⟩
     obtain ⟨g, rfl⟩ : ∃ g, h = g + 1 := ⟨h - 1, by omega⟩
     have hcnt := yT g t hfits.yB hl
     have h3 : 3 ^ 10 <= 3 ^ g := Nat.pow_le_pow_right (by omega) (by omega)
     have h310 : (3 : Nat) ^ 10 = 59049 := by decide
     have hmany : 40 < (bB t).length := by
      have : 1 * 3 ^ g <= (t.keys.length + 1) * 3 ^ g := Nat.mul_le_mul_right _ (by omega)
      omega
     have hfalse : mQ (bB t) (dL t) = false := by rw [hpc, decide_eq_false (by omega), Bool.false_and]
     rcases h2 with h2 | ⟨r, h2⟩
     ·rw [h2]
      cases hro : oJ t with
      | false =>
       rw [hdp, hro]
       exact Ev.wQ rfl (Ev.val rfl)
      | true =>
       rw [hdp, hro]
       refine Ev.xe (by simp) (Ev.bind hap (Ev.val ?_))
       rw [hfalse]
       rfl
     ·have h4 := lN 10 (P.length + 1) 0 r.1 r.2 (by omega) h2
      rw [h1] at h4
      injection h4 with h4
      injection h4 with e1 e2
      rw [h2]
      simp only
      rw [<- e1, <- e2, if_neg (by simp [hn])]
      have : (if lG (bB t) (dL t) none = false then (none : Option PT) else if fP t < 0 ∨ (t.kids.length ≠ 0 /\ t.keys.length = 0) ∨ 40 < (bB t).length then none else some t) = none := by
       split
       ·rfl
       ·rw [if_pos (.inr (.inr hmany))]
      rw [this]
      cases hro : oJ t with
      | false =>
       rw [hdp, hro]
       exact Ev.wQ rfl (Ev.val rfl)
      | true =>
       rw [hdp, hro]
       refine Ev.xe (by simp) (Ev.bind hap (Ev.val ?_))
       rw [hfalse]
       rfl
   ·rw [hdp]
    refine Ev.wQ rfl (Ev.val ?_)
    cases h2 : bX P 10 0 with
    | none => rfl
    | some r =>
     have h4 := lN 10 (P.length + 1) 0 r.1 r.2 (by omega) h2
     rw [h1] at h4
     injection h4 with h4
     injection h4 with e1 e2
     simp only
     rw [<- e1, <- e2, if_neg (by simp [hn])]
     have hev : fP t = -1 := by
      rcases he with ⟨g, gl, _⟩ | ⟨_, h⟩
      ·exact absurd gl (hno g)
      ·exact h
     split
     ·rfl
     ·rw [if_pos (.inl (by rw [hev]; decide))]
  ·refine Ev.wQ (by simpa using hn) (Ev.val ?_)
   cases h2 : bX P 10 0 with
   | none => rfl
   | some r =>
    have h4 := lN 10 (P.length + 1) 0 r.1 r.2 (by omega) h2
    rw [h1] at h4
    injection h4 with h4
    injection h4 with e1 e2
    simp only
    rw [<- e2, if_pos (by simpa using hn)]
open Go.Proofs.Ytoddejmlcnbdmaa.Fn Go.Proofs.Ytoddejmlcnbdmaa.Tree
structure Good (t : PT) : Prop where
 yB : mJ t
 Ic : BZ (bB t)
 few : (bB t).length <= 40
 big : t.big <= 1048576
 four : t.keys.length <= 4
 Ri : ∃ h, pW h t /\ fP t = (h : Int) /\ gG t = ((h : Int), true)
 keys : (bB t).all jk = true
 vals : (dL t).all kI = true
theorem Dh : ∀ (K : List ByteArray) (prev : Option ByteArray), rP K prev = true -> K.all jk = true
 | [], _, _ => rfl
 | k :: ks, prev, h => by
  rw [rP, Bool.and_eq_true, Bool.and_eq_true] at h
  rw [List.all_cons, h.1, Dh ks (some k) h.2.2]
  rfl
theorem yU {P : List bH} {t : PT} (hP : P.length <= 1048576) (h : pz P = some t) : Good t := by
 unfold pz at h
 cases hrs : bX P 10 0 with
 | none => rw [hrs] at h; cases h
 | some r =>
  rw [hrs] at h
  simp only at h
  obtain ⟨r1, r2⟩ := r
  have hf := (iY 10 0 r1 r2 hrs).2
  have hbig := xy 10 0 r1 r2 hrs
  have hle := jh 10 0 r1 r2 hrs
  split at h
  ·cases h
  ·split at h
   ·cases h
   ·split at h
    ·cases h
    ·rename_i hc hno
     obtain rfl := Option.some.inj h
     have hc' : lG (bB r1) (dL r1) none = true := by cases hcc : lG (bB r1) (dL r1) none <;> simp_all
     rw [tQ _ _ _ (iO hf.yB).symm, Bool.and_eq_true] at hc'
     have hno' : ¬ fP r1 < 0 /\ ¬ (r1.kids.length ≠ 0 /\ r1.keys.length = 0) /\ ¬ 40 < (bB r1).length := ⟨fun h => hno (.inl h), fun h => hno (.inr (.inl h)), fun h => hno (.inr (.inr h))⟩
     refine ⟨hf.yB, (zK _ _ hc'.1).1, by have := hno'.2.2; show (bB r1).length <= 40; omega, by show r1.big <= 1048576; omega, hf.four, ?_, Dh _ _ hc'.1, hc'.2⟩
     rcases vX _ r1 (Nat.le_refl _) (by omega) with ⟨g, gl, ge⟩ | ⟨_, ge⟩
     ·refine ⟨g, gl, ge, ?_⟩
      rcases xh _ r1 (Nat.le_refl _) (by omega) with ⟨f, fl, fe⟩ | ⟨hno2, _⟩
      ·rw [fe, oI fl gl, (uV r1).2 hno'.2.1]
      ·exact absurd gl (hno2 g)
     ·omega
open Go.Proofs.Ytoddejmlcnbdmaa.Fn Go.Proofs.Ytoddejmlcnbdmaa.Tree
structure wm (t : PT) : Prop where
 bnd : kC t
 Ic : kJ (aW t)
 Ri : ∃ h, pW h t
 root : t.kids ≠ [] -> 0 < t.keys.length
theorem Di {rd : Nat -> Option (PT × Nat)} {Q : PT -> Prop} (hrd : ∀ a t n, rd a = some (t, n) -> Q t) : ∀ (l : List Int) (next : Nat) (acc ts : List PT) (n : Nat), dQ rd l next acc = some (ts, n) -> (∀ s ∈ acc, Q s) -> (∀ s ∈ ts, Q s) /\ ts.length = acc.length + l.length
 | [], next, acc, ts, n, h, hq => by
  rw [dQ] at h
  injection h with h
  injection h with e1 e2
  subst e1
  exact ⟨hq, by simp⟩
 | k :: ks, next, acc, ts, n, h, hq => by
  rw [dQ] at h
  split at h
  ·cases h
  ·cases hr : rd next with
   | none => rw [hr] at h; cases h
   | some r =>
    rw [hr] at h
    obtain ⟨t, m⟩ := r
    obtain ⟨h1, h2⟩ := Di hrd ks m (acc ++ [t]) ts n h fun s hs => by
     rcases List.mem_append.1 hs with hs | hs
     ·exact hq s hs
     ·rw [List.mem_singleton.1 hs]; exact hrd next t m hr
    refine ⟨h1, ?_⟩
    rw [h2, List.length_append]
    simp only [List.length_cons, List.length_nil]
    omega
theorem Dj {P : List bH} : ∀ (f a : Nat) (t : PT) (n : Nat), bX P f a = some (t, n) -> kC t
 | 0, a, t, n, h => by cases h
 | f + 1, a, t, n, h => by
  obtain ⟨h1, h2, h3, h4, h5⟩ := nA h
  obtain ⟨g1, g2⟩ := Di (Q := kC) (fun a t n h => Dj f a t n h) _ _ _ _ _ h5 (fun s hs => by cases hs)
  unfold pR at h2
  simp only [Bool.or_eq_false_iff, Bool.and_eq_false_iff, decide_eq_false_iff_not, bne_eq_false_iff_eq] at h2
  rw [<- h3, <- h4] at h2
  rw [List.length_nil, Nat.zero_add] at g2
  refine bL.2 ⟨⟨h2.1.2, by omega, ?_⟩, g1⟩
  rcases h2.2 with e | e
  ·exact .inl (by omega)
  ·exact .inr (by omega)
theorem pK {P : List bH} {t : PT} (hP : P.length <= 1048576) (h : pz P = some t) : wm t /\ (aW t).length <= 40 := by
 have hg := yU hP h
 unfold pz at h
 cases hrs : bX P 10 0 with
 | none => rw [hrs] at h; cases h
 | some r =>
  rw [hrs] at h
  simp only at h
  obtain ⟨r1, r2⟩ := r
  have hb := Dj 10 0 r1 r2 hrs
  have e : r1 = t /\ ¬ (r1.kids.length ≠ 0 /\ r1.keys.length = 0) := by
   split at h
   ·cases h
   ·split at h
    ·cases h
    ·split at h
     ·cases h
     ·rename_i hno
      exact ⟨Option.some.inj h, fun h => hno (.inr (.inl h))⟩
  obtain ⟨rfl, hr⟩ := e
  obtain ⟨g, gl, _⟩ := hg.Ri
  exact ⟨⟨hb, (ng hg.yB).1 hg.Ic, ⟨g, gl⟩, fun e => Nat.pos_of_ne_zero fun c => hr ⟨fun e' => e (List.length_eq_zero_iff.1 e'), c⟩⟩, by rw [mY hg.yB]; exact hg.few⟩
theorem FL : ∀ l : List PT, PT.iH l = (l.map PT.big).sum
 | [] => rfl
 | c :: cs => by rw [PT.iH, FL cs, List.map_cons, List.sum_cons]
theorem Rj (t : PT) : t.big = 1 + (t.kids.map PT.big).sum := by
 cases t with | mk k v c =>
 rw [PT.big, FL]
 rfl
theorem Dk : ∀ (h : Nat) (t : PT), kC t -> pW h t -> t.big <= (bB t).length + 1 /\ (2 <= t.keys.length -> t.big + 1 <= (bB t).length)
 | 0, t, hb, hl => hl.elim
 | h + 1, t, hb, hl => by
  obtain ⟨⟨h1, h2, h3⟩, h4⟩ := bL.1 hb
  rw [Rj, nU]
  rcases hl with ⟨a, _⟩ | ⟨a, b⟩
  ·rw [a, List.map_nil, List.map_nil, mr, List.sum_nil]
   exact ⟨by omega, fun h => by omega⟩
  ·have hkl : t.kids.length = t.keys.length + 1 := h3.resolve_left fun e => a (List.length_eq_zero_iff.1 e)
   have hw := xw (t.kids.map bB) t.keys (by rw [List.length_map]; exact hkl)
   have key : ∀ l : List PT, (∀ s ∈ l, s.big + 1 <= (bB s).length) -> (l.map PT.big).sum + 2 * l.length <= ((l.map bB).map fun c => c.length + 1).sum := by
    intro l
    induction l with
    | nil => intro _; simp
    | cons c cs ih =>
     intro hq
     have h5 := ih fun s hs => hq s (List.mem_cons_of_mem _ hs)
     have h6 := hq c List.mem_cons_self
     simp only [List.map_cons, List.sum_cons, List.length_cons]
     omega
   have h5 := key t.kids fun s hs => (Dk h s (h4 s hs) (b s hs).1).2 (b s hs).2
   exact ⟨by omega, fun h => by omega⟩
theorem wm.small {t : PT} (h : wm t) : t.big <= (aW t).length + 1 := by
 obtain ⟨g, hg⟩ := h.Ri
 rw [mY (bJ h.bnd)]
 exact (Dk g t h.bnd hg).1
theorem wm.kid {t : PT} (h : wm t) : ∃ g, rQ g t := by
 obtain ⟨g, hg⟩ := h.Ri
 exact ⟨g, h.bnd, hg⟩
theorem jv {k v : ByteArray} : ∀ l : List KV, (iE k v l).length <= l.length + 1
 | [] => by simp [iE]
 | x :: l => by
  have := jv (k := k) (v := v) l
  rw [iE]
  split
  ·simp only [List.length_cons]; omega
  ·split <;> simp only [List.length_cons] <;> omega
theorem FM {h : Nat} {p : PT} (hl : pW h p) (h5 : Fw p) (hk : p.keys.length = 5) (k v : List ByteArray) (b : Bool) : pW h (.mk k v (if b then p.kids.take 3 else p.kids.drop 3)) := by
 cases h with
 | zero => exact hl.elim
 | succ h =>
  rcases hl with ⟨a, a'⟩ | ⟨a, a'⟩
  ·refine .inl ⟨?_, a'⟩
   show (if b then _ else _) = []
   rw [a]
   cases b <;> rfl
  ·have hl6 := h5.1.2.2.resolve_left (fun e => a (List.length_eq_zero_iff.1 e))
   refine .inr ⟨?_, fun c hc => a' c ?_⟩
   ·intro e
    have e' : (if b then p.kids.take 3 else p.kids.drop 3).length = 0 := congrArg List.length e
    cases b
    ·simp only [Bool.false_eq_true, if_false, List.length_drop] at e'; omega
    ·simp only [if_true, List.length_take] at e'; omega
   ·cases b
    ·exact List.mem_of_mem_drop hc
    ·exact List.mem_of_mem_take hc
theorem MU : ∀ (n : Nat) (t : PT) (key val : ByteArray), t.big <= n -> kC t -> (t.kids ≠ [] -> 0 < t.keys.length) -> (kE n t key val).kids ≠ [] -> 0 < (kE n t key val).keys.length
 | 0, t, key, val, h, _, _ => absurd t.eH (by omega)
 | n + 1, t, key, val, h, hb, h0 => by
  have hle := kU key t.keys
  rw [kE]
  split
  ·exact h0
  ·split
   ·rename_i hk
    intro e
    exact absurd (List.length_eq_zero_iff.1 hk) e
   ·rename_i hk
    have hk0 : t.kids ≠ [] := fun e => hk (by rw [e]; rfl)
    cases hs : t.kids[dm key t.keys]? with
    | none => exact fun _ => h0 hk0
    | some s =>
     simp only
     split
     ·intro _
      show 0 < (aI _ _ _).length
      rw [eG _ hle]
      omega
     ·exact fun _ => h0 hk0
theorem mR {t : PT} (h : wm t) (k v : ByteArray) : wm (ni t k v) /\ aW (ni t k v) = iE k v (aW t) := by
 have h5 := lL t.big t k v h.bnd
 have ha := JF t.big t k v (Nat.le_refl _) h.bnd h.Ic
 have hr := MU t.big t k v (Nat.le_refl _) h.bnd h.root
 obtain ⟨g, hg⟩ := h.Ri
 have hl := (JG t.big t k v g (Nat.le_refl _) h.bnd hg).1
 have QK := CX (k := k) (v := v) h.Ic
 unfold ni
 generalize kE t.big t k v = p at h5 ha hl hr ⊢
 obtain ⟨⟨h1, h2, h3⟩, h4⟩ := h5
 by_cases h6 : 4 < p.keys.length
 ·rw [if_pos h6]
  have hk5 : p.keys.length = 5 := by omega
  have hb5 : Fw p := ⟨⟨h1, h2, h3⟩, h4⟩
  have hsp := CL (t := .mk [] [] [p]) (k := p) (i := 0) ⟨rfl, (by show 0 <= 4; omega), rfl⟩ (Nat.zero_le _) rfl (fun j c hj hc => by
   cases j with
   | zero => exact absurd rfl hj
   | succ j => simp [PT.kids] at hc) hb5 hk5
  have e : splitK (.mk [] [] [p]) p 0 = .mk [p.keys.getD 2 ByteArray.empty] [p.vals.getD 2 ByteArray.empty] [.mk (p.keys.take 2) (p.vals.take 2) (p.kids.take 3), .mk (p.keys.drop 3) (p.vals.drop 3) (p.kids.drop 3)] := rfl
  rw [e] at hsp ⊢
  have hbd : kC (.mk [p.keys.getD 2 ByteArray.empty] [p.vals.getD 2 ByteArray.empty] [.mk (p.keys.take 2) (p.vals.take 2) (p.kids.take 3), .mk (p.keys.drop 3) (p.vals.drop 3) (p.kids.drop 3)]) := bL.2 ⟨⟨rfl, (by show 1 <= 4; omega), .inr rfl⟩, hsp.2⟩
  have hall : aW (.mk [p.keys.getD 2 ByteArray.empty] [p.vals.getD 2 ByteArray.empty] [.mk (p.keys.take 2) (p.vals.take 2) (p.kids.take 3), .mk (p.keys.drop 3) (p.vals.drop 3) (p.kids.drop 3)]) = aW p := by
   rw [dD (bJ hbd), CZ hb5 hk5]
   rfl
  refine ⟨⟨hbd, by rw [hall, ha]; exact QK, ⟨g + 1, (.inr ⟨fun e => (by cases e), fun s hs => ?_⟩)⟩, fun _ => Nat.zero_lt_one⟩, by rw [hall, ha]⟩
  have hs : s = .mk (p.keys.take 2) (p.vals.take 2) (p.kids.take 3) ∨ s = .mk (p.keys.drop 3) (p.vals.drop 3) (p.kids.drop 3) := by simpa [PT.kids] using hs
  rcases hs with rfl | rfl
  ·exact ⟨FM hl hb5 hk5 _ _ true, by show 2 <= (p.keys.take 2).length; rw [List.length_take]; omega⟩
  ·exact ⟨FM hl hb5 hk5 _ _ false, by show 2 <= (p.keys.drop 3).length; rw [List.length_drop]; omega⟩
 ·rw [if_neg h6]
  exact ⟨⟨bL.2 ⟨⟨h1, by omega, h3⟩, h4⟩, by rw [ha]; exact QK, ⟨g, hl⟩, hr⟩, ha⟩
theorem JO {key : ByteArray} {l : List KV} (h : kJ l) : kJ (oL key l) := List.Pairwise.sublist List.filter_sublist h
theorem zZ {t : PT} {key : ByteArray} (h : wm t) (hh : Has key (aW t)) : ∃ r, mg t.big t key = some r /\ wm (pG r) /\ aW (pG r) = oL key (aW t) := by
 obtain ⟨g, hk⟩ := h.kid
 obtain ⟨r, e1, kr, _, ha⟩ := pJ t.big t key g (Nat.le_refl _) hk h.root h.Ic hh
 refine ⟨r, e1, ?_⟩
 unfold pG
 by_cases hc : r.keys.length = 0 /\ r.kids.length ≠ 0
 ·rw [if_pos hc]
  obtain ⟨⟨h1, h2, h3⟩, h4⟩ := bL.1 kr.b
  have hkl : r.kids.length = 1 := by omega
  obtain ⟨c, hcs⟩ : ∃ c, r.kids = [c] := List.length_eq_one_iff.1 hkl
  have hx : r.kids[0]? = some c := by rw [hcs]; rfl
  rw [kK hx]
  have hbc : kC c := h4 c (by rw [hcs]; exact List.mem_singleton_self _)
  have hall : aW r = aW c := by
   rw [dD (bJ kr.b), hcs]
   have : bK r = [] := by unfold bK; rw [List.length_eq_zero_iff.1 hc.1]; rfl
   rw [this]
   simp [bN]
  have hl := kr.l
  cases g with
  | zero => exact hl.elim
  | succ g =>
   rcases hl with ⟨a, _⟩ | ⟨_, a⟩
   ·rw [a] at hcs; cases hcs
   ·have hcl := a c (by rw [hcs]; exact List.mem_singleton_self _)
    exact ⟨⟨hbc, by rw [<- hall, ha]; exact JO h.Ic, ⟨g, hcl.1⟩, fun _ => by have := hcl.2; omega⟩, by rw [<- hall, ha]⟩
 ·rw [if_neg hc]
  exact ⟨⟨kr.b, by rw [ha]; exact JO h.Ic, ⟨g, kr.l⟩, fun e => Nat.pos_of_ne_zero fun c => hc ⟨c, fun e' => e (List.length_eq_zero_iff.1 e')⟩⟩, ha⟩
theorem KQ {t : PT} {key : ByteArray} (h : wm t) (hh : Has key (aW t)) : JD t.big t key = mg t.big t key := by
 obtain ⟨g, hk⟩ := h.kid
 exact wh t.big t key g (Nat.le_refl _) hk h.Ic hh
end Go.Proofs.Ytoddejmlcnbdmaa.Pure
namespace Go.Proofs.Ytoddejmlcnbdmaa.Fn
def FN : Kd bH where
  sz := jX.sz
  E := jX.E
  K := jX.K
  M := fun w base ok x cs => ∃ (f : Nat -> Nat) (v0 v1 v2 : Value), cs = [v0, v1, v2] /\ Kd.string.R 9 w base (fun k => ok k /\ f k = 0) v0 x.f0 /\ Kd.string.R 9 w base (fun k => ok k /\ f k = 1) v1 x.f1 /\ (Kd.int .i64).R 3 w base (fun k => ok k /\ f k = 2) v2 x.f2
  jC := fun h => jX.jC h
  jD := fun h => jX.jD h
  fK := fun hb h => jX.fK hb h
  eQ := by
    rintro w base ok x cs ⟨f, v0, v1, v2, rfl, h0, h1, h2⟩
    exact jX.eQ (Mj w base ok x (Kd.jH h0 (fun _ h => h.1)) (Kd.jH h1 (fun _ h => h.1)) (Kd.jH h2 (fun _ h => h.1)))
  dB := by
    rintro w base ok ok' x cs hok ⟨f, v0, v1, v2, rfl, h0, h1, h2⟩
    exact ⟨f, v0, v1, v2, rfl, Kd.jH h0 (fun k h => ⟨hok k h.1, h.2⟩), Kd.jH h1 (fun k h => ⟨hok k h.1, h.2⟩), Kd.jH h2 (fun k h => ⟨hok k h.1, h.2⟩)⟩
  dM := by
    rintro w base ok x cs ⟨f, v0, v1, v2, rfl, h0, h1, h2⟩
    have hE : jX.E = [9, 9, 3] := rfl
    refine ⟨f, v0, v1, v2, rfl, Kd.jH (Kd.qL h0) ?_, Kd.jH (Kd.qL h1) ?_, Kd.jH (Kd.qL h2) ?_⟩
    all_goals
      rintro k ⟨⟨a, b⟩, c, d, q, hq, hc⟩
      refine ⟨⟨a, c, d, q, ?_, hc⟩, b⟩
      rw [hE]
      first
        | (have : q = 9 := by simpa [Kd.string, Kd.int, Kd.scalar] using hq
           subst this
           simp)
        | (have : q = 3 := by simpa [Kd.string, Kd.int, Kd.scalar] using hq
           subst this
           simp)
  gz := by
    rintro w w1 base ok x cs hm ⟨f, v0, v1, v2, rfl, h0, h1, h2⟩
    exact ⟨f, v0, v1, v2, rfl, Kd.xz h0 (fun k h => hm k h.1), Kd.xz h1 (fun k h => hm k h.1), Kd.xz h2 (fun k h => hm k h.1)⟩
  fV := by
    rintro w base base' ok x cs hb ⟨f, v0, v1, v2, rfl, h0, h1, h2⟩
    exact ⟨f, v0, v1, v2, rfl, Kd.fI h0 hb, Kd.fI h1 hb, Kd.fI h2 hb⟩
theorem KR (w : World) (base : Nat) (ok : Nat -> Prop) (x : bH) {v0 v1 v2 : Value} (g0 : Kd.string.R 9 w base ok v0 x.f0) (g1 : Kd.string.R 9 w base ok v1 x.f1) (g2 : (Kd.int .i64).R 3 w base ok v2 x.f2) (hne : ∀ k, v0.ownBlock = some k -> some k ≠ v1.ownBlock) : FN.M w base ok x [v0, v1, v2] := by
  have ty : ∀ {u : Value} {y : List ByteArray}, Kd.string.R 9 w base ok u y -> ∀ k, u.ownBlock = some k -> some k ≠ v2.ownBlock := fun g k hk h2 => by
    obtain ⟨c1, e1⟩ := Kd.JP g k hk
    obtain ⟨c2, e2⟩ := Kd.JP g2 k h2.symm
    rw [e1] at e2
    injection e2 with e2
    injection e2 with _ e2
    cases e2
  refine ⟨fun k => if some k = v1.ownBlock then 1 else if some k = v2.ownBlock then 2 else 0, v0, v1, v2, rfl, Kd.jH (Kd.z8 rfl g0) (fun k h => ⟨h.2, ?_⟩), Kd.jH (Kd.z8 rfl g1) (fun k h => ⟨h.2, if_pos h.1⟩), Kd.jH (Kd.z8 rfl g2) (fun k h => ⟨h.2, ?_⟩)⟩
  · show (if some k = v1.ownBlock then 1 else if some k = v2.ownBlock then 2 else 0) = 0
    rw [if_neg (hne k h.1.symm), if_neg (ty g0 k h.1.symm)]
  · show (if some k = v1.ownBlock then 1 else if some k = v2.ownBlock then 2 else 0) = 2
    rw [if_neg (fun e => ty g1 k e.symm h.1), if_pos h.1]
end Go.Proofs.Ytoddejmlcnbdmaa.Fn
namespace Go.Proofs.Ytoddejmlcnbdmaa.Tree
def starts : List PT -> Nat -> List Int
 | [], _ => []
 | c :: cs, a => (a : Int) :: starts cs (a + c.big)
mutual
def iF : PT -> Nat -> List bH
 | .mk ks vs cs, a => ⟨ks, vs, starts cs (a + 1)⟩ :: nC cs (a + 1)
def nC : List PT -> Nat -> List bH
 | [], _ => []
 | c :: cs, a => iF c a ++ nC cs (a + c.big)
end
mutual
theorem sJ : ∀ (t : PT) (a : Nat), (iF t a).length = t.big
 | .mk ks vs cs, a => by rw [iF, PT.big, List.length_cons, oz cs]; omega
theorem oz : ∀ (l : List PT) (a : Nat), (nC l a).length = PT.iH l
 | [], a => rfl
 | c :: cs, a => by rw [nC, PT.iH, List.length_append, sJ c, oz cs]
end
theorem oN : ∀ (l : List PT) (a : Nat), (starts l a).length = l.length
 | [], _ => rfl
 | c :: cs, a => by rw [starts, List.length_cons, List.length_cons, oN cs]
theorem sK : ∀ (l : List PT) (c : PT) (a : Nat), starts (l ++ [c]) a = starts l a ++ [((a + PT.iH l : Nat) : Int)]
 | [], c, a => by simp [starts, PT.iH]
 | d :: l, c, a => by
  rw [List.cons_append, starts, starts, sK l c, PT.iH, List.cons_append, Nat.add_assoc]
theorem Dl : ∀ (l : List PT) (c : PT), PT.iH (l ++ [c]) = PT.iH l + c.big
 | [], c => by simp [PT.iH]
 | d :: l, c => by rw [List.cons_append, PT.iH, PT.iH, Dl l c, Nat.add_assoc]
theorem uW : ∀ (l : List PT) (c : PT) (a : Nat), nC (l ++ [c]) a = nC l a ++ iF c (a + PT.iH l)
 | [], c, a => by simp [nC, PT.iH]
 | d :: l, c, a => by
  rw [List.cons_append, nC, nC, uW l c, PT.iH, List.append_assoc, Nat.add_assoc]
theorem qB {α : Type} {l : List α} {i : Nat} {x : α} (h : l[i]? = some x) : l.take (i + 1) = l.take i ++ [x] := by
 rw [List.take_add_one, h]
 rfl
theorem Dm {l : List PT} {i : Nat} {x : PT} (h : l[i]? = some x) : PT.iH (l.take (i + 1)) = PT.iH (l.take i) + x.big := by rw [qB h, Dl]
theorem lQ : ∀ (l : List PT) (i : Nat), PT.iH (l.take i) <= PT.iH l
 | [], i => by simp
 | c :: cs, 0 => by simp [PT.iH]
 | c :: cs, i + 1 => by
  rw [List.take_succ_cons, PT.iH, PT.iH]
  have := lQ cs i
  omega
structure Pg where
 kv : Value
 vv : Value
 cv : Value
 ks : List ByteArray
 vs : List ByteArray
 cs : List Int
def Pg.erase (p : Pg) : bH := ⟨p.ks, p.vs, p.cs⟩
def Pg.cells (p : Pg) : List Value := [p.kv, p.vv, p.cv]
abbrev ints (v : Value) (l : List Int) : Ck := .own 3 v (encs (Value.int .i64) l)
def Pg.dI (p : Pg) : List Ck := [txt p.kv p.ks, txt p.vv p.vs, ints p.cv p.cs]
abbrev l9 (v : Value) (l : List Pg) : Ck := .row 110 3 v l.length (l.flatMap Pg.cells)
def gX (l : List Pg) : List Ck := l.flatMap Pg.dI
def aM (v : Value) (l : List Pg) : List Ck := l9 v l :: gX l
theorem uX (a b : List Pg) : gX (a ++ b) = gX a ++ gX b := by unfold gX; rw [List.flatMap_append]
theorem Af (p : Pg) (b : List Pg) : gX (p :: b) = p.dI ++ gX b := by unfold gX; rw [List.flatMap_cons]
section
variable {w w1 W : World} {base : Nat} {gs : List (List Ck)}
theorem UT {v : Value} {l : List Int} (h : Ck.ok w base (ints v l)) : (Kd.int .i64).R 3 w base (fun _ => True) v l :=
 Kd.qi (enc := Value.int .i64) (h1 := fun _ => rfl) (by have h2 : w.ownsRow base 3 1 v (encs (Value.int .i64) l).length (encs (Value.int .i64) l) := h; rw [cB] at h2; exact h2) (fun _ _ => trivial)
theorem JQ {v : Value} {l : List Int} (h : (Kd.int .i64).R 3 w base (fun _ => True) v l) : Ck.ok w base (ints v l) := by
 have h2 := Kd.rY (enc := Value.int .i64) (h1 := fun _ => rfl) h
 show w.ownsRow base 3 1 v (encs (Value.int .i64) l).length (encs (Value.int .i64) l)
 rw [cB]
 exact h2
theorem aa.ir (h : aa w base gs) (i : Nat) {v : Value} {l : List Int} (hi : gs[i]? = some [ints v l]) : (Kd.int .i64).R 3 w base (fun _ => True) v l := UT ((h.at i hi).ok _ List.mem_cons_self)
theorem Rk (h : aa w base gs) (i : Nat) {Ad : Option Addr} {n c : Nat} {l : List Int} (hi : gs[i]? = some [ints (.slice Ad n c) l]) : (Kd.int .i64).C w Ad n l := by
 obtain ⟨rfl, _, h3⟩ := Kd.dW (h.ir i hi)
 exact h3
theorem aa.Rl {x y : List Int} {u u1 : Value} (i : Nat) (h : aa W base gs) (hi : gs[i]? = some [ints u x]) (ho : (Kd.int .i64).R 3 w1 base (fun _ => True) u1 y) (hg : W.grownBy w1 u.ownBlock) (hat : u1.ownBlock = u.ownBlock ∨ ∃ b, u1.ownBlock = some b /\ W.heap.size <= b) : aa w1 base (gs.set i [ints u1 y]) :=
 h.turn i hi (Sat.one (JQ ho)) ⟨hg.size, fun k hk hnot => hg.block k hk fun he => hnot ⟨_, List.mem_singleton_self _, he.symm⟩⟩ (qV hat)
theorem aa.rowOk (h : aa w base gs) (i : Nat) {e sz n : Nat} {v : Value} {xs : List Value} (hi : gs[i]? = some [.row e sz v n xs]) : w.ownsRow base e sz v n xs := (h.at i hi).ok _ List.mem_cons_self
theorem aa.Rm (h : aa w base gs) (i : Nat) {e sz n m c g j : Nat} {xs : List Value} {u : Value} (hi : gs[i]? = some [.row e sz (.slice (some ⟨g, 0, none⟩) m c) n xs]) (hj : xs[j]? = some u) : w.cell? ⟨g, j, none⟩ = some u := by
 have := (h.rowOk i hi).cells (g := g) (by simp [Value.ownBlock]) j u hj
 have e1 : (⟨g, 0, none⟩ : Addr).add j = ⟨g, j, none⟩ := by simp only [Addr.add]; split <;> simp_all
 rw [e1] at this
 exact this
theorem xA {e sz n m c g : Nat} {xs : List Value} (h : w.ownsRow base e sz (.slice (some ⟨g, 0, none⟩) m c) n xs) : m = n /\ n <= c /\ base <= g /\ ∃ cur, w.heap[g]? = some (.cells cur e (0, 0)) /\ cur.size = c * sz /\ c <= maxLen /\ cur.toList.take (n * sz) = xs := by
 rcases h.2 with ⟨e1, _⟩ | ⟨g', cap, cur, e1, hb, hh, hnc, hcm, hcs, ht⟩
 ·cases e1
 ·injection e1 with e2 e3 e4
  injection e2 with e2
  injection e2 with e2
  subst e2
  subst e3
  subst e4
  exact ⟨rfl, hnc, hb, cur, hh, hcs, hcm, ht⟩
theorem aa.Ph (h : aa w base gs) (i : Nat) {e sz n m c g : Nat} {xs : List Value} (hi : gs[i]? = some [.row e sz (.slice (some ⟨g, 0, none⟩) m c) n xs]) (j : Nat) : w.frozen? ⟨g, j, none⟩ = false := by
 obtain ⟨_, _, _, cur, hh, _⟩ := xA (h.rowOk i hi)
 exact aY hh j
theorem aa.JR (h : aa w base gs) (i : Nat) {e sz n m c g : Nat} {xs : List Value} (hi : gs[i]? = some [.row e sz (.slice (some ⟨g, 0, none⟩) m c) n xs]) : base <= g := (xA (h.rowOk i hi)).2.2.1
theorem Pj {e sz n m c g j : Nat} {xs : List Value} (h : w.ownsRow base e sz (.slice (some ⟨g, 0, none⟩) m c) n xs) (hj : j < xs.length) (u : Value) : (w.setCell ⟨g, j, none⟩ u).ownsRow base e sz (.slice (some ⟨g, 0, none⟩) m c) n (xs.set j u) := by
 obtain ⟨rfl, h2, h3, cur, h4, h5, h6, h7⟩ := xA h
 refine ⟨by rw [List.length_set]; exact h.1, .inr ⟨g, c, cur.setIfInBounds j u, rfl, h3, dH h4 j u rfl, h2, h6, by rw [Array.size_setIfInBounds]; exact h5, ?_⟩⟩
 rw [Array.toList_setIfInBounds, List.take_set, h7]
theorem aa.putRow (h : aa w base gs) (i : Nat) {e sz n m c g : Nat} {xs xs' : List Value} (hi : gs[i]? = some [.row e sz (.slice (some ⟨g, 0, none⟩) m c) n xs]) (j : Nat) (u : Value) (hj : j < xs.length) (hx : xs' = xs.set j u) : aa (w.setCell ⟨g, j, none⟩ u) base (gs.set i [.row e sz (.slice (some ⟨g, 0, none⟩) m c) n xs']) := by
 have h1 := h.rowOk i hi
 subst hx
 refine h.turn i hi (Sat.one (c := .row e sz (.slice (some ⟨g, 0, none⟩) m c) n (xs.set j u)) (Pj h1 hj u)) ((Kept.refl w _).setCell (.inl ⟨_, List.mem_singleton_self _, rfl⟩) u) ?_
 rintro k ⟨d, hd, hb⟩
 rw [List.mem_singleton.1 hd] at hb
 exact .inl ⟨_, List.mem_singleton_self _, hb⟩
end
section
variable {P : Program} {ops : Array Oper} {rest : List Oper} {o : Oper} {a : Act} {Q' : Exit -> Act -> World -> Prop} {Kc : Act -> World -> Prop} {w0 W : World} {base : Nat}
theorem JS (e sz : Nat) (cs : List Value) (hsz : cs.length = sz) (hm : 1 <= maxLen) : (W.alloc (.cells cs.toArray e)).ownsRow W.heap.size e sz (.slice (some ⟨W.heap.size, 0, none⟩) 1 1) 1 cs := by
 refine ⟨by rw [hsz, Nat.one_mul], .inr ⟨W.heap.size, 1, cs.toArray, rfl, Nat.le_refl _, Ee W _, Nat.le_refl _, hm, by rw [Nat.one_mul]; exact hsz, ?_⟩⟩
 rw [Nat.one_mul]
 exact List.take_of_length_le (show cs.length <= sz by omega)
theorem JU (e sz : Nat) (cs : List Value) (hsz : cs.length = sz) (hgd : o.guard = none) {N : Tmp} (Vl : o.dst = some N) (hrun : (execOp a.eval o).run P W = .ok (.value (.slice (some ⟨W.heap.size, 0, none⟩) 1 1)) (W.alloc (.cells cs.toArray e)))
  (h : ∀ g w1, g = W.heap.size -> w1.ownsRow W.heap.size e sz (.slice (some ⟨g, 0, none⟩) 1 1) 1 cs -> Below W.heap.size W w1 -> wpList P ops Q' rest (a.put o.dst (.slice (some ⟨g, 0, none⟩) 1 1)) w1) : wpList P ops Q' (o :: rest) a W :=
 Kd.xB hgd hrun (h _ _ rfl (JS e sz cs hsz (by decide)) (bu (Below.refl _ _) _))
theorem wo (e sz : Nat) (cs : List Value) (hsz : cs.length = sz) (hw : Region.wanted o (yielded ops a.tmps) = true) {N : Tmp} (Vl : o.dst = some N) (hrun : (execOp a.eval o).run P W = .ok (.value (.slice (some ⟨W.heap.size, 0, none⟩) 1 1)) (W.alloc (.cells cs.toArray e)))
  (h : ∀ g w1, g = W.heap.size -> w1.ownsRow W.heap.size e sz (.slice (some ⟨g, 0, none⟩) 1 1) 1 cs -> Below W.heap.size W w1 -> Kc (a.put o.dst (.slice (some ⟨g, 0, none⟩) 1 1)) w1) : if Region.wanted o (yielded ops a.tmps) = true then Oper.wp P o a W Kc Q' else Kc (a.put o.dst undef) W :=
 uY hw hrun (h _ _ rfl (JS e sz cs hsz (by decide)) (bu (Below.refl _ _) _))
theorem Pk (t ty e sz bytes : Nat) (z : Value) (ht : P.underlying t = some (.slice e)) (hinfo : (P.info? e).map (fun i => (i.zero, i.size, i.bytes)) = some (some z, sz, bytes)) (hzs : z.cells.size = sz) (hs0 : 0 < sz) (hb0 : 0 < bytes) (v : Value) (n m c g2 : Nat) (xs ys : List Value) (HO : W.ownsRow base e sz v n xs) (HR : W.ownsRow base e sz (.slice (some ⟨g2, 0, none⟩) m c) m ys) (hone : ∀ u ∈ ys, u.oneCell' = true) (hbase : base <= W.heap.size) (hl : (n + m) * bytes <= 140737488355328) :
  ∃ v1 w1, (Builtin.append_ #[t, t] ty #[v, .slice (some ⟨g2, 0, none⟩) m c]).run P W = .ok v1 w1 /\ w1.ownsRow base e sz v1 (n + m) (xs ++ ys) /\ W.grownBy w1 v.ownBlock /\ (v1.ownBlock = v.ownBlock ∨ ∃ b, v1.ownBlock = some b /\ W.heap.size <= b) := by
 obtain ⟨i0, hi, hzz⟩ := Option.map_eq_some_iff.1 hinfo
 simp only [Prod.mk.injEq] at hzz
 obtain ⟨hz0, hz1, hz2⟩ := hzz
 have hlen : n + m <= 140737488355328 := Nat.le_trans (Nat.le_mul_of_pos_right _ hb0) hl
 obtain ⟨v1, w1, hrun, h2, hg, _, hat⟩ := run_append_own_at (P := P) W base t ty e i0 z sz bytes ht hi hz0 hz1 hz2 hzs hs0 v n xs HO ⟨g2, 0, none⟩ m c ys HR.1 (HR.cells (g := g2) (by simp [Value.ownBlock])) hone (by simp only [maxLen]; omega) hl hbase
 refine ⟨v1, w1, hrun, h2, hg, ?_⟩
 rcases hat with hat | hat
 ·exact .inl hat
 ·exact .inr ⟨_, hat, Nat.le_refl _⟩
theorem rR (hw : Region.wanted o (yielded ops a.tmps) = true) (s x : Operand) (t e sz bytes : Nat) (z : Value) (ho : o.op = .call { callee := .builtin .append, args := #[s, x], argTypes := #[t, t] })
  (ht : P.underlying t = some (.slice e)) (hinfo : (P.info? e).map (fun i => (i.zero, i.size, i.bytes)) = some (some z, sz, bytes)) (hzs : z.cells.size = sz) (hs0 : 0 < sz) (hb0 : 0 < bytes) (v : Value) (n m c g2 : Nat) (xs ys : List Value) (hs : a.eval s = v) (hx : a.eval x = .slice (some ⟨g2, 0, none⟩) m c) (HO : W.ownsRow base e sz v n xs) (HR : W.ownsRow base e sz (.slice (some ⟨g2, 0, none⟩) m c) m ys) (hone : ∀ u ∈ ys, u.oneCell' = true) (HB : Below base w0 W) (hbase : base <= W.heap.size) (hl : (n + m) * bytes <= 140737488355328)
  (h : ∀ v1 w1, w1.ownsRow base e sz v1 (n + m) (xs ++ ys) -> Below base w0 w1 -> W.grownBy w1 v.ownBlock -> (v1.ownBlock = v.ownBlock ∨ ∃ b, v1.ownBlock = some b /\ W.heap.size <= b) -> Kc (a.put o.dst v1) w1) : if Region.wanted o (yielded ops a.tmps) = true then Oper.wp P o a W Kc Q' else Kc (a.put o.dst undef) W := by
 obtain ⟨v1, w1, hr, h1, h3, h4⟩ := Pk (P := P) t o.type e sz bytes z ht hinfo hzs hs0 hb0 v n m c g2 xs ys HO HR hone hbase hl
 rw [if_pos hw]
 unfold Oper.wp execOp
 simp only [ho, resolve, invoke, builtin, Sem.run_bind, Sem.run_pure, Result.andThen_ok, List.map_toArray, List.map_cons, List.map_nil, hs, hx, hr]
 exact h v1 w1 h1 (HB.grown h3 hbase (fun k hk => oC HO k hk)) h3 h4
end
section
variable {w w1 W : World} {base : Nat} {gs : List (List Ck)}
theorem aa.newRow {e sz n : Nat} {v : Value} {xs : List Value} (h : aa w base gs) (hb : Below w.heap.size w w1) (hbase : base <= w.heap.size) (ho : w1.ownsRow w.heap.size e sz v n xs) : aa w1 base (gs ++ [[.row e sz v n xs]]) :=
 h.new hb hbase (Sat.one (c := .row e sz v n xs) ho)
theorem aa.MV {e sz n n' : Nat} {x y : List Value} {u u1 : Value} (i : Nat) (h : aa W base gs) (hi : gs[i]? = some [.row e sz u n x]) (ho : w1.ownsRow base e sz u1 n' y) (hg : W.grownBy w1 u.ownBlock) (hat : u1.ownBlock = u.ownBlock ∨ ∃ b, u1.ownBlock = some b /\ W.heap.size <= b) : aa w1 base (gs.set i [.row e sz u1 n' y]) :=
 h.turn i hi (Sat.one (c := .row e sz u1 n' y) ho) ⟨hg.size, fun k hk hnot => hg.block k hk fun he => hnot ⟨_, List.mem_singleton_self _, he.symm⟩⟩ (qV hat)
theorem fZ {e sz n : Nat} {v : Value} {xs : List Value} (h : w.ownsRow base e sz v n xs) : ∃ A c, v = .slice A n c := by
 rcases h.2 with ⟨rfl, rfl⟩ | ⟨g, cap, cur, rfl, _⟩
 ·exact ⟨none, 0, rfl⟩
 ·exact ⟨_, cap, rfl⟩
theorem qC {e sz n c : Nat} {A : Option Addr} {xs : List Value} (h : w.ownsRow base e sz (.slice A n c) n xs) (h0 : 0 < n) : ∃ g, A = some ⟨g, 0, none⟩ := by
 rcases h.2 with ⟨e1, e2⟩ | ⟨g, cap, cur, e1, _⟩
 ·omega
 ·injection e1 with e1
  exact ⟨g, e1⟩
end
theorem ku : ∀ l : List Pg, (l.flatMap Pg.cells).length = l.length * 3
 | [] => rfl
 | p :: l => by rw [List.flatMap_cons, List.length_append, ku l, List.length_cons]; show 3 + _ = _; omega
theorem Ag (A B : List Pg) (p : Pg) (j : Nat) (hj : j < 3) : ((A ++ p :: B).flatMap Pg.cells)[A.length * 3 + j]? = p.cells[j]? := by
 rw [List.flatMap_append, List.flatMap_cons, List.getElem?_append_right (by rw [ku]; omega), ku, Nat.add_sub_cancel_left, List.getElem?_append_left (show j < p.cells.length from hj)]
theorem KS (A B : List Pg) (p : Pg) (j : Nat) (u : Value) (hj : j < 3) : ((A ++ p :: B).flatMap Pg.cells).set (A.length * 3 + j) u = A.flatMap Pg.cells ++ (p.cells.set j u ++ B.flatMap Pg.cells) := by
 rw [List.flatMap_append, List.flatMap_cons, List.set_append_right _ _ (by rw [ku]; omega), ku, Nat.add_sub_cancel_left, List.set_append_left _ _ (show j < p.cells.length from hj)]
section
variable {w w1 W : World} {base : Nat} {gs : List (List Ck)} {g n c a : Nat} {A B : List Pg} {p : Pg}
theorem Ah (h : aa w base gs) (i : Nat) (hi : gs[i]? = some [l9 (.slice (some ⟨g, 0, none⟩) n c) (A ++ p :: B)]) (ha : A.length = a) : w.cell? ⟨g, a * 3, none⟩ = some p.kv := by
 subst ha
 exact h.Rm i hi (Ag A B p 0 (by decide))
theorem Ie (h : aa w base gs) (i : Nat) (hi : gs[i]? = some [l9 (.slice (some ⟨g, 0, none⟩) n c) (A ++ p :: B)]) (ha : A.length = a) : w.cell? ⟨g, a * 3 + 1, none⟩ = some p.vv := by
 subst ha
 exact h.Rm i hi (Ag A B p 1 (by decide))
theorem uZ (h : aa w base gs) (i : Nat) (hi : gs[i]? = some [l9 (.slice (some ⟨g, 0, none⟩) n c) (A ++ p :: B)]) (ha : A.length = a) : w.cell? ⟨g, a * 3 + 2, none⟩ = some p.cv := by
 subst ha
 exact h.Rm i hi (Ag A B p 2 (by decide))
theorem aa.yV (h : aa w base gs) (i : Nat) (hi : gs[i]? = some [l9 (.slice (some ⟨g, 0, none⟩) n c) (A ++ p :: B)]) (ha : A.length = a) (p' : Pg) (j : Nat) (u : Value) (hj : j < 3) (hp : p'.cells = p.cells.set j u) :
  aa (w.setCell ⟨g, a * 3 + j, none⟩ u) base (gs.set i [l9 (.slice (some ⟨g, 0, none⟩) n c) (A ++ p' :: B)]) := by
 subst ha
 have e : (A ++ p' :: B).length = (A ++ p :: B).length := by simp only [List.length_append, List.length_cons]
 have := h.putRow i (xs' := (A ++ p' :: B).flatMap Pg.cells) hi (A.length * 3 + j) u (by rw [ku]; simp only [List.length_append, List.length_cons]; omega) (by rw [KS A B p j u hj, List.flatMap_append, List.flatMap_cons, hp])
 show aa _ base (gs.set i [.row 110 3 _ (A ++ p' :: B).length _])
 rw [e]
 exact this
theorem aa.Pm (h : aa w base gs) (i : Nat) (hi : gs[i]? = some [l9 (.slice (some ⟨g, 0, none⟩) n c) (A ++ p :: B)]) (ha : A.length = a) (p' : Pg) :
  aa (((w.setCell ⟨g, a * 3, none⟩ p'.kv).setCell ⟨g, a * 3 + 1, none⟩ p'.vv).setCell ⟨g, a * 3 + 2, none⟩ p'.cv) base (gs.set i [l9 (.slice (some ⟨g, 0, none⟩) n c) (A ++ p' :: B)]) := by
 have hl : i < gs.length := (List.getElem?_eq_some_iff.1 hi).1
 have h1 := h.yV i hi ha ⟨p'.kv, p.vv, p.cv, p.ks, p.vs, p.cs⟩ 0 p'.kv (by decide) rfl
 have h2 := h1.yV i (List.getElem?_set_self hl) ha ⟨p'.kv, p'.vv, p.cv, p.ks, p.vs, p.cs⟩ 1 p'.vv (by decide) rfl
 rw [List.set_set] at h2
 have h3 := h2.yV i (List.getElem?_set_self hl) ha p' 2 p'.cv (by decide) rfl
 rw [List.set_set] at h3
 exact h3
end
section
variable {w : World} {base : Nat}
theorem MW {l : List Pg} {j : Nat} {p : Pg} (h : l[j]? = some p) {c : Ck} (hc : c ∈ p.dI) : c ∈ gX l := List.mem_flatMap.2 ⟨p, List.mem_of_getElem? h, hc⟩
theorem Qu {v : Value} {l : List ByteArray} {ok : Nat -> Prop} (h : Ck.ok w base (txt v l)) (hk : ∀ k, v.ownBlock = some k -> ok k) : Kd.string.R 9 w base ok v l :=
 Kd.qi (enc := Value.string) (h1 := fun _ => rfl) (by have h2 : w.ownsRow base 9 1 v (encs Value.string l).length (encs Value.string l) := h; rw [cB] at h2; exact h2) hk
theorem Rn {v : Value} {l : List Int} {ok : Nat -> Prop} (h : Ck.ok w base (ints v l)) (hk : ∀ k, v.ownBlock = some k -> ok k) : (Kd.int .i64).R 3 w base ok v l :=
 Kd.qi (enc := Value.int .i64) (h1 := fun _ => rfl) (by have h2 : w.ownsRow base 3 1 v (encs (Value.int .i64) l).length (encs (Value.int .i64) l) := h; rw [cB] at h2; exact h2) hk
theorem Pn {v : Value} {l : List Pg} (h : Sat w base (aM v l)) : Kd.S FN 110 w base (fun _ => True) v (l.map Pg.erase) := by
 have hrow : w.ownsRow base 110 3 v l.length (l.flatMap Pg.cells) := h.ok (l9 v l) List.mem_cons_self
 obtain ⟨hp1, hp2⟩ := List.pairwise_cons.1 h.ap
 have hp3 := List.pairwise_flatMap.1 hp2
 obtain ⟨f, hr⟩ := Kd.MX (d := FN) (w := w) (base := base) (ok := fun k => True /\ some k ≠ v.ownBlock) (xs := l.map Pg.erase) (inner := l.flatMap Pg.cells) (fun j k => ∃ p, l[j]? = some p /\ uk p.dI k) (by
   rintro i j k ⟨p, hp, c, hc, hck⟩ ⟨q, hq, d, hd, hdk⟩
   obtain ⟨hi, ei⟩ := List.getElem?_eq_some_iff.1 hp
   obtain ⟨hj, ej⟩ := List.getElem?_eq_some_iff.1 hq
   have key : ∀ (i j : Nat) (hi : i < l.length) (hj : j < l.length) (c d : Ck), c ∈ (l[i]).dI -> d ∈ (l[j]).dI -> c.blk = some k -> d.blk = some k -> ¬ i < j := fun i j hi hj c d hc hd h1 h2 hlt => List.pairwise_iff_getElem.1 hp3.2 i j hi hj hlt c hc d hd k h1 h2
   rw [<- ei] at hc
   rw [<- ej] at hd
   have h1 := key i j hi hj c d hc hd hck hdk
   have h2 := key j i hj hi d c hd hc hdk hck
   omega) (by
   rintro j k ⟨p, hp, c, hc, hck⟩
   exact ⟨trivial, fun e => hp1 c (MW hp hc) k e.symm hck⟩) (by rw [ku, List.length_map]; rfl) (by
   intro j x hx
   rw [List.getElem?_map] at hx
   obtain ⟨p, hp, rfl⟩ := Option.map_eq_some_iff.1 hx
   have hsp : l = l.take j ++ p :: l.drop (j + 1) := by rw [<- dY hp, List.take_append_drop]
   have hl : (l.take j).length = j := by rw [List.length_take]; have := (List.getElem?_eq_some_iff.1 hp).1; omega
   have hc : ((l.flatMap Pg.cells).drop (j * FN.sz)).take FN.sz = p.cells := by
    conv => lhs; rw [hsp]
    show ((List.flatMap Pg.cells _).drop (j * 3)).take 3 = _
    rw [List.flatMap_append, List.flatMap_cons, List.drop_append_of_le_length (by rw [ku, hl]; exact Nat.le_refl _), List.drop_eq_nil_of_le (by rw [ku, hl]; exact Nat.le_refl _), List.nil_append, List.take_append_of_le_length (show 3 <= p.cells.length from Nat.le_refl _)]
    exact List.take_of_length_le (show p.cells.length <= 3 from Nat.le_refl _)
   rw [hc]
   have m : ∀ c ∈ p.dI, c.ok w base := fun c hc => h.ok c (List.mem_cons_of_mem _ (MW hp hc))
   have hb : ∀ c ∈ p.dI, ∀ k, c.blk = some k -> ∃ q, l[j]? = some q /\ uk q.dI k := fun c hc k hk => ⟨p, hp, c, hc, hk⟩
   have m0 : txt p.kv p.ks ∈ p.dI := List.mem_cons_self
   have m1 : txt p.vv p.vs ∈ p.dI := List.mem_cons_of_mem _ List.mem_cons_self
   have m2 : ints p.cv p.cs ∈ p.dI := List.mem_cons_of_mem _ (List.mem_cons_of_mem _ List.mem_cons_self)
   refine KR w base _ p.erase (Qu (m _ m0) fun k hk => hb _ m0 k hk) (Qu (m _ m1) fun k hk => hb _ m1 k hk) (Rn (m _ m2) fun k hk => hb _ m2 k hk) ?_
   intro k hk e
   have hap := (hp3.1 p (List.mem_of_getElem? hp))
   exact (List.pairwise_cons.1 hap).1 (txt p.vv p.vs) List.mem_cons_self k hk e.symm)
 exact ⟨f, fun _ _ => trivial, _, by rw [List.length_zipIdx, List.length_map]; exact hrow, hr⟩
end
set_option maxHeartbeats 8000000
set_option maxRecDepth 100000
def Ye (w : World) (base T E : Nat) (t : NT) (L : List Ck) (pgs : List Pg) (e : Ending) (w' : World) : Prop :=
 ∃ (vo : Value) (pgs' : List Pg), e = .returned vo /\ pgs'.map Pg.erase = pgs.map Pg.erase ++ iF t.erase pgs.length /\ Sat w' base (t.dI T E ++ (aM vo pgs' ++ L)) /\ Below base w w'
theorem Ai {w : World} {base T E : Nat} {t : NT} {v : Value} {pgs : List Pg} {L : List Ck} (h : Sat w base (t.dI T E ++ (aM v pgs ++ L))) :
  aa w base [[.box T t.p #[t.kv, t.vv, t.cv]], [txt t.kv t.keys], [txt t.vv t.vals], [.jE E t.cv (ptrs t.kids)], NT.bE T E t.kids, [l9 v pgs], gX pgs, L] := by
 rw [NT.jy] at h
 unfold aa NT.head aM at *
 simp only [List.flatten_cons, List.flatten_nil, List.append_assoc, List.cons_append, List.nil_append, List.append_nil] at h ⊢
 exact h
theorem aa.tX {w : World} {base : Nat} {gs : List (List Ck)} (h : aa w base gs) (e : Nat) : aa w base (gs ++ [[.own e (.slice none 0 0) []]]) := by
 have hq : Ck.ok w base (.own e (.slice none 0 0) []) := ⟨by simp, .inl ⟨rfl, rfl⟩⟩
 unfold aa
 rw [List.flatten_append, List.flatten_singleton]
 refine (Sat.add (A := [.own e (.slice none 0 0) []]) h (Kept.refl _ _) (Sat.one hq) ?_).perm List.perm_append_comm
 rintro k ⟨c, hc, hb⟩
 rw [List.mem_singleton.1 hc] at hb
 cases hb
theorem xY {l : List Pg} {X Z : List bH} {y : bH} (h : l.map Pg.erase = X ++ y :: Z) : ∃ A p B, l = A ++ p :: B /\ A.map Pg.erase = X /\ p.erase = y /\ B.map Pg.erase = Z := by
 obtain ⟨A, C, rfl, hA, hC⟩ := List.map_eq_append_iff.1 h
 obtain ⟨p, B, rfl, hp, hB⟩ := List.map_eq_cons_iff.1 hC
 exact ⟨A, p, B, rfl, hA, hp, hB⟩
theorem Qv (T S D O R : List Ck) : (T ++ (S ++ (D ++ (O ++ R)))).Perm (S ++ (O ++ (R ++ (T ++ D)))) := by
 refine List.perm_append_comm.trans ?_
 rw [List.append_assoc]
 refine .append_left S ?_
 rw [List.append_assoc]
 refine List.perm_append_comm.trans ?_
 simp only [List.append_assoc]
 exact .refl _
def xC (T E : Nat) (t : NT) (v : Value) (A B : List Pg) (p : Pg) (L : List Ck) : List (List Ck) :=
 [[.box T t.p #[t.kv, t.vv, t.cv]], [txt t.kv t.keys], [txt t.vv t.vals], [.jE E t.cv (ptrs t.kids)], NT.bE T E t.kids, [l9 v (A ++ p :: B)], [txt p.kv p.ks], [txt p.vv p.vs], [ints p.cv p.cs], gX A, gX B, L]
theorem Aj {w : World} {base T E : Nat} {t : NT} {v : Value} {A B : List Pg} {p : Pg} {L : List Ck} (h : aa w base (xC T E t v A B p L)) : Sat w base (t.dI T E ++ (aM v (A ++ p :: B) ++ L)) := by
 have h2 : aa w base [[.box T t.p #[t.kv, t.vv, t.cv]], [txt t.kv t.keys], [txt t.vv t.vals], [.jE E t.cv (ptrs t.kids)], NT.bE T E t.kids, [l9 v (A ++ p :: B)], gX A, [txt p.kv p.ks], [txt p.vv p.vs], [ints p.cv p.cs], gX B, L] := aa.iN h [0, 1, 2, 3, 4, 5, 9, 6, 7, 8, 10, 11] (by decide)
 rw [NT.jy]
 unfold aa at h2
 unfold NT.head aM
 rw [uX, Af]
 unfold Pg.dI
 simp only [List.flatten_cons, List.flatten_nil, List.append_assoc, List.cons_append, List.nil_append, List.append_nil] at h2 ⊢
 exact h2
theorem Al {w : World} {base T E i : Nat} {t s : NT} {v : Value} {A B : List Pg} {p : Pg} {L : List Ck} (hs : t.kids[i]? = some s) (h : aa w base (xC T E t v A B p L)) :
  Sat w base (s.dI T E ++ (aM v (A ++ p :: B) ++ ((t.head T E ++ L) ++ (NT.bE T E (t.kids.take i) ++ NT.bE T E (t.kids.drop (i + 1)))))) := by
 have h2 : aa w base [NT.bE T E t.kids, [l9 v (A ++ p :: B)], gX A, [txt p.kv p.ks], [txt p.vv p.vs], [ints p.cv p.cs], gX B, [.box T t.p #[t.kv, t.vv, t.cv]], [txt t.kv t.keys], [txt t.vv t.vals], [.jE E t.cv (ptrs t.kids)], L] := aa.iN h [4, 5, 9, 6, 7, 8, 10, 0, 1, 2, 3, 11] (by decide)
 have h3 : Sat w base (NT.bE T E (t.kids.take i) ++ (s.dI T E ++ (NT.bE T E (t.kids.drop (i + 1)) ++ (aM v (A ++ p :: B) ++ (t.head T E ++ L))))) := by
  unfold aa at h2
  rw [oF T E hs] at h2
  unfold NT.head aM
  rw [uX, Af]
  unfold Pg.dI
  simp only [List.flatten_cons, List.flatten_nil, List.append_assoc, List.cons_append, List.nil_append, List.append_nil] at h2 ⊢
  exact h2
 exact h3.perm (Qv _ _ _ _ _)
theorem Am {w : World} {base T E i : Nat} {t s : NT} {v : Value} {A B : List Pg} {p : Pg} {L : List Ck} (hs : t.kids[i]? = some s) (h : Sat w base (s.dI T E ++ (aM v (A ++ p :: B) ++ ((t.head T E ++ L) ++ (NT.bE T E (t.kids.take i) ++ NT.bE T E (t.kids.drop (i + 1))))))) :
  aa w base (xC T E t v A B p L) := by
 have h3 := h.perm (Qv (NT.bE T E (t.kids.take i)) (s.dI T E) (NT.bE T E (t.kids.drop (i + 1))) (aM v (A ++ p :: B)) (t.head T E ++ L)).symm
 have h2 : aa w base [NT.bE T E t.kids, [l9 v (A ++ p :: B)], gX A, [txt p.kv p.ks], [txt p.vv p.vs], [ints p.cv p.cs], gX B, [.box T t.p #[t.kv, t.vv, t.cv]], [txt t.kv t.keys], [txt t.vv t.vals], [.jE E t.cv (ptrs t.kids)], L] := by
  unfold aa
  rw [oF T E hs]
  unfold NT.head aM at h3
  rw [uX, Af] at h3
  unfold Pg.dI at h3
  simp only [List.flatten_cons, List.flatten_nil, List.append_assoc, List.cons_append, List.nil_append, List.append_nil] at h3 ⊢
  exact h3
 exact aa.iN h2 [7, 8, 9, 10, 0, 1, 3, 4, 5, 2, 6, 11] (by decide)
theorem Ig.calls : ∀ (n : Nat) (t : NT), t.erase.big <= n -> kC t.erase -> ∀ (base : Nat) (vo : Value) (pgs : List Pg) (L : List Ck) (w : World), Sat w base (t.dI 96 70 ++ (aM vo pgs ++ L)) -> base <= w.heap.size -> pgs.length + t.erase.big <= 100000 ->
  Calls Try.prog 107 #[bG t.p, vo] w (Ye w base 96 70 t L pgs) := by
 intro n
 induction n with
 | zero =>
  intro t hb
  exact absurd t.erase.eH (by omega)
 | succ n ih =>
  intro t hbig hbd base vo pgs L w hs hbs hpl
  have h0 := Ai hs
  obtain ⟨⟨ho1, ho2, ho3⟩, qf⟩ := bL.1 hbd
  cases t with | mk tp EZ E8 E9 tks tvs bq =>
  have e0 : (NT.mk tp EZ E8 E9 tks tvs bq).erase = .mk tks tvs (NT.aQ bq) := rfl
  rw [e0] at hbig ho1 ho2 ho3 qf hpl
  simp only [NT.keys, NT.vals, NT.kids, NT.p, NT.kv, NT.vv, NT.cv] at h0 ⊢
  simp only [PT.keys, PT.vals, PT.kids] at ho1 ho2 ho3 qf
  obtain ⟨kG, il, rfl⟩ := Kd.av (h0.sr 1 rfl)
  obtain ⟨kQ, iA, rfl⟩ := Kd.av (h0.sr 2 rfl)
  obtain ⟨sZ, iM, rfl, _, _⟩ := dZ (h0.q 3 rfl)
  obtain ⟨Ao, co, rfl⟩ := fZ (h0.rowOk 5 rfl)
  have HS := A_ h0
  have HB := A_ (Below.refl base w)
  have dE := A_ hbs
  have Ma := A_ hbig
  have Vm := A_ hpl
  have QG := A_ qf
  have hnl : (NT.aQ bq).length = bq.length := by rw [aK, List.length_map]
  have IX : tvs.length <= 4 /\ bq.length <= 5 := by omega
  have hpn : pgs.length + 1 <= 100000 := by have := (PT.mk tks tvs (NT.aQ bq)).eH; omega
  clear h0 hs hbs hbig hpl ho1 ho3 qf hbd hnl e0
  go_enter Try.func107, Try.ntmps107
  go_upto_region 2 with fail
  refine dz (n := 17) (S := fun w' => w'.cell? ⟨tp, 0, none⟩ = some (.slice kG tks.length il) /\ w'.cell? ⟨tp, 1, none⟩ = some (.slice kQ tvs.length iA)) (ds := []) (bt 17 0) (by kernel_rfl) rfl rfl ⟨(aa.z0 (aa.drew HS.out) 0 rfl), (aa.z1 (aa.drew HS.out) 0 rfl)⟩ (fun hHeld => ?_)
  refine aV 0 11 1 ?_
  refine aV 2 13 5 ?_
  refine aV 3 14 13 ?_
  refine aV 4 15 29 ?_
  refine aV 8 19 285 ?_
  refine aV 9 20 797 ?_
  refine aV 10 21 1821 ?_
  refine ik 5 16 1853 hHeld ?_
  refine ik 11 22 3901 hHeld ?_
  refine kz (σ := Value × Value × Value) 5 (bt 17 4095) (fun z => [(12, z.1), (17, z.2.1), (18, z.2.2)]) (fun z w' => Below base w w' /\ aa w' base [mM 96 tp kG tks.length il kQ tvs.length iA sZ bq.length iM, iT kG il tks, iT kQ iA tvs, qm 70 sZ iM bq, (NT.bE 96 70 bq), [l9 (.slice Ao pgs.length co) pgs], (gX pgs), L, [txt z.2.1 ([] ++ tks)], [txt z.2.2 []]]) ?_ ?_
  rotate_left
  ·intro jQ
   refine DJ 1 7 (some 12) (some 18) 3903 4029 (fun K hK => ?_) (fun K hK => ?_)
   ·skip
    refine Kd.bn Kd.string (w0 := w) base 9 (by rfl) (N := 12) rfl (xs := ([] : List ByteArray)) (inner := []) (ok := fun _ => True) (okp := fun _ => False) ?hr (fq.none _ _) (fun _ h => h.elim) trivial (aH HB.out) (dS dE HB) (by simp) ?_
    (case hr => first | (go_simp; done) | (go_simp; rfl))
    intro vb1 Ny fB hbb hgb hnb
    have mh := A_ hbb
    have mU := A_ (aa.lit (aa.drew HS.out) fB hgb hnb)
    obtain ⟨jb, jc, rfl⟩ : ∃ A c, vb1 = .slice A 0 c := Kd.av fB
    clear fB hbb hgb hnb
    refine hK.out _ _ ⟨(aa.z0 mU.out 0 rfl), (aa.z1 mU.out 0 rfl)⟩ (fun hHeld => ?_)
    clear hK K
    refine eF 12 ?_
    refine DJ 6 7 (some 17) (some 18) 3967 4031 (fun K hK => ?_) (fun K hK => ?_)
    ·skip
     refine Kd.aJ Kd.string (w0 := w) base (by rfl) (.tmp 12) (.tmp 16) 38 9 (.string ⟨#[]⟩) 16 rfl Try.underlying38 dh rfl (by decide) (by omega) (.slice jb 0 jc) [] tks kG tks.length il (fun _ => True) (fun _ => False) rfl rfl (aa.sr mU.out 8 rfl) (zV mU.out 1 rfl) (fun _ _ h => h) (fun _ h => h.elim) (fun _ _ => trivial) mh.out (dS dE mh) (by simp only [List.length_nil]; omega) ?_
     intro u1 Gb ho hb hg hat
     have kF := A_ hb
     have jm := A_ (aa.app 8 mU.out rfl ho hg hat)
     clear ho hb hg hat
     refine hK.out _ _ ⟨(aa.z0 jm.out 0 rfl), (aa.z1 jm.out 0 rfl)⟩ (fun hHeld => ?_)
     clear hK K
     refine eF 17 ?_
     refine jg 7 (some 18) 4095 (fun K hK => ?_)
     refine Kd.bn Kd.string (w0 := w) base 9 (by rfl) (N := 18) rfl (xs := ([] : List ByteArray)) (inner := []) (ok := fun _ => True) (okp := fun _ => False) ?hr (fq.none _ _) (fun _ h => h.elim) trivial kF.out (dS dE kF) (by simp) ?_
     (case hr => first | (go_simp; done) | (go_simp; rfl))
     intro rH Gc fB hbb hgb hnb
     have oQ := A_ hbb
     have lV := A_ (aa.lit jm.out fB hgb hnb)
     obtain ⟨jd, je, rfl⟩ : ∃ A c, rH = .slice A 0 c := Kd.av fB
     clear fB hbb hgb hnb
     refine hK.out _ _ ⟨(aa.z0 lV.out 0 rfl), (aa.z1 lV.out 0 rfl)⟩ (fun hHeld => ?_)
     clear hK K
     refine eF 18 ?_
     exact EW (jQ ⟨.slice jb 0 jc, u1, .slice jd 0 je⟩ _ ⟨oQ.out, aa.iN lV.out [0, 1, 2, 3, 4, 5, 6, 7, 8, 9] (by decide)⟩)
    ·skip
     refine Kd.bn Kd.string (w0 := w) base 9 (by rfl) (N := 18) rfl (xs := ([] : List ByteArray)) (inner := []) (ok := fun _ => True) (okp := fun _ => False) ?hr (fq.none _ _) (fun _ h => h.elim) trivial mh.out (dS dE mh) (by simp) ?_
     (case hr => first | (go_simp; done) | (go_simp; rfl))
     intro rH Gb fB hbb hgb hnb
     have kF := A_ hbb
     have jm := A_ (aa.lit mU.out fB hgb hnb)
     obtain ⟨jd, je, rfl⟩ : ∃ A c, rH = .slice A 0 c := Kd.av fB
     clear fB hbb hgb hnb
     refine hK.out _ _ ⟨(aa.z0 jm.out 0 rfl), (aa.z1 jm.out 0 rfl)⟩ (fun hHeld => ?_)
     clear hK K
     refine eF 18 ?_
     refine jg 6 (some 17) 4095 (fun K hK => ?_)
     refine Kd.aJ Kd.string (w0 := w) base (by rfl) (.tmp 12) (.tmp 16) 38 9 (.string ⟨#[]⟩) 16 rfl Try.underlying38 dh rfl (by decide) (by omega) (.slice jb 0 jc) [] tks kG tks.length il (fun _ => True) (fun _ => False) rfl rfl (aa.sr jm.out 8 rfl) (zV jm.out 1 rfl) (fun _ _ h => h) (fun _ h => h.elim) (fun _ _ => trivial) kF.out (dS dE kF) (by simp only [List.length_nil]; omega) ?_
     intro u1 Gc ho hb hg hat
     have oQ := A_ hb
     have lV := A_ (aa.app 8 jm.out rfl ho hg hat)
     clear ho hb hg hat
     refine hK.out _ _ ⟨(aa.z0 lV.out 0 rfl), (aa.z1 lV.out 0 rfl)⟩ (fun hHeld => ?_)
     clear hK K
     refine eF 17 ?_
     exact EW (jQ ⟨.slice jb 0 jc, u1, .slice jd 0 je⟩ _ ⟨oQ.out, aa.iN lV.out [0, 1, 2, 3, 4, 5, 6, 7, 8, 9] (by decide)⟩)
   ·skip
    refine Kd.bn Kd.string (w0 := w) base 9 (by rfl) (N := 18) rfl (xs := ([] : List ByteArray)) (inner := []) (ok := fun _ => True) (okp := fun _ => False) ?hr (fq.none _ _) (fun _ h => h.elim) trivial (aH HB.out) (dS dE HB) (by simp) ?_
    (case hr => first | (go_simp; done) | (go_simp; rfl))
    intro rH Ny fB hbb hgb hnb
    have mh := A_ hbb
    have mU := A_ (aa.lit (aa.drew HS.out) fB hgb hnb)
    obtain ⟨jd, je, rfl⟩ : ∃ A c, rH = .slice A 0 c := Kd.av fB
    clear fB hbb hgb hnb
    refine hK.out _ _ ⟨(aa.z0 mU.out 0 rfl), (aa.z1 mU.out 0 rfl)⟩ (fun hHeld => ?_)
    clear hK K
    refine eF 18 ?_
    refine jg 1 (some 12) 4031 (fun K hK => ?_)
    refine Kd.bn Kd.string (w0 := w) base 9 (by rfl) (N := 12) rfl (xs := ([] : List ByteArray)) (inner := []) (ok := fun _ => True) (okp := fun _ => False) ?hr (fq.none _ _) (fun _ h => h.elim) trivial mh.out (dS dE mh) (by simp) ?_
    (case hr => first | (go_simp; done) | (go_simp; rfl))
    intro vb1 Gb fB hbb hgb hnb
    have kF := A_ hbb
    have jm := A_ (aa.lit mU.out fB hgb hnb)
    obtain ⟨jb, jc, rfl⟩ : ∃ A c, vb1 = .slice A 0 c := Kd.av fB
    clear fB hbb hgb hnb
    refine hK.out _ _ ⟨(aa.z0 jm.out 0 rfl), (aa.z1 jm.out 0 rfl)⟩ (fun hHeld => ?_)
    clear hK K
    refine eF 12 ?_
    refine jg 6 (some 17) 4095 (fun K hK => ?_)
    refine Kd.aJ Kd.string (w0 := w) base (by rfl) (.tmp 12) (.tmp 16) 38 9 (.string ⟨#[]⟩) 16 rfl Try.underlying38 dh rfl (by decide) (by omega) (.slice jb 0 jc) [] tks kG tks.length il (fun _ => True) (fun _ => False) rfl rfl (aa.sr jm.out 9 rfl) (zV jm.out 1 rfl) (fun _ _ h => h) (fun _ h => h.elim) (fun _ _ => trivial) kF.out (dS dE kF) (by simp only [List.length_nil]; omega) ?_
    intro u1 Gc ho hb hg hat
    have oQ := A_ hb
    have lV := A_ (aa.app 9 jm.out rfl ho hg hat)
    clear ho hb hg hat
    refine hK.out _ _ ⟨(aa.z0 lV.out 0 rfl), (aa.z1 lV.out 0 rfl)⟩ (fun hHeld => ?_)
    clear hK K
    refine eF 17 ?_
    exact EW (jQ ⟨.slice jb 0 jc, u1, .slice jd 0 je⟩ _ ⟨oQ.out, aa.iN lV.out [0, 1, 2, 3, 4, 5, 6, 7, 9, 8] (by decide)⟩)
  rintro ⟨vb1, u1, rH⟩ w8 ⟨hb, hs⟩
  obtain ⟨jd, je, rfl⟩ : ∃ A c, rH = .slice A 0 c := Kd.av (aa.sr hs 9 rfl)
  have hHeld : (w8.cell? ⟨tp, 0, none⟩ = some (.slice kG tks.length il)) /\ (w8.cell? ⟨tp, 1, none⟩ = some (.slice kQ tvs.length iA)) := ⟨aa.z0 hs 0 rfl, aa.z1 hs 0 rfl⟩
  clear HS HB
  have HB := A_ hb
  have HS := A_ hs
  clear hb hs
  refine dG (a' := ?_) ?_ ?_
  rotate_left
  ·simp only [bz, Act.put, List.setIfInBounds_toArray, List.set_cons_zero, List.set_cons_succ]
   rfl
  refine jg 12 (some 23) 8191 (fun K hK => ?_)
  refine Kd.aJ Kd.string (w0 := w) base (by rfl) (.tmp 18) (.tmp 22) 38 9 (.string ⟨#[]⟩) 16 rfl Try.underlying38 dh rfl (by decide) (by omega) (.slice jd 0 je) [] tvs kQ tvs.length iA (fun _ => True) (fun _ => False) rfl rfl (aa.sr HS.out 9 rfl) (zV HS.out 2 rfl) (fun _ _ h => h) (fun _ h => h.elim) (fun _ _ => trivial) HB.out (dS dE HB) (by simp only [List.length_nil]; omega) ?_
  intro u2 w9 ho hb hg hat
  have QB := A_ hb
  have QF := A_ (aa.app 9 HS.out rfl ho hg hat)
  clear ho hb hg hat
  clear HS HB
  have HS := QF
  have HB := QB
  clear QF QB
  obtain ⟨EK, EL, Ve⟩ := Kd.av (aa.sr HS.out 8 rfl)
  obtain ⟨EM, EN, Vf⟩ := Kd.av (aa.sr HS.out 9 rfl)
  rw [List.nil_append] at Ve Vf
  subst Ve
  subst Vf
  have aj := lu (HS.out)
  clear HS
  have HS := aj
  clear aj
  refine hK.out _ _ ⟨(aa.z0 HS.out 0 rfl), (aa.z1 HS.out 0 rfl)⟩ (fun hHeld => ?_)
  clear hK K
  refine eF 23 ?_
  refine aV 13 24 16383 ?_
  refine jg 14 (some 25) 32767 (fun K hK => ?_)
  refine wo 110 3 [.slice EK tks.length EL, .slice EM tvs.length EN, .slice none 0 0] rfl (by rfl) (N := 25) rfl ?hr ?_
  (case hr => first | (go_simp; done) | (go_simp; rfl))
  intro gp uK hg ho hb
  have aj := lu (aa.newRow HS.out hb (dS dE HB) (by rw [<- hg] at *; exact ho))
  have az : af (Below base w uK) := ⟨HB.out.trans (hb.mono (dS dE HB))⟩
  clear HS HB hg ho hb; have HS := aj; have HB := az; clear aj az
  refine hK.out _ _ ⟨(aa.z0 HS.out 0 rfl), (aa.z1 HS.out 0 rfl)⟩ (fun hHeld => ?_)
  clear hK K
  refine eF 25 ?_
  refine jg 15 (some 26) 65535 (fun K hK => ?_)
  refine rR (w0 := w) (base := base) (by rfl) (.tmp 11) (.tmp 25) 27 110 3 72 _ rfl Try.underlying27 DK rfl (by decide) (by decide) (.slice Ao pgs.length co) pgs.length 1 1 gp (pgs.flatMap Pg.cells) [.slice EK tks.length EL, .slice EM tvs.length EN, .slice none 0 0] rfl rfl (aa.rowOk HS.out 5 rfl) (aa.rowOk HS.out 10 rfl) (by intro u hu; simp only [List.mem_cons, List.not_mem_nil, or_false] at hu; rcases hu with rfl | rfl | rfl <;> rfl) HB.out (dS dE HB) (by omega) ?_
  intro vo1 xM ho hb hg hat
  obtain ⟨A1, c1, rfl⟩ := fZ ho
  have aj := lu (aa.MV 5 HS.out rfl ho hg hat)
  have az : af (Below base w xM) := ⟨hb⟩
  clear HS HB ho hb hg hat; have HS := aj; have HB := az; clear aj az
  refine hK.out _ _ ⟨(aa.z0 HS.out 0 rfl), (aa.z1 HS.out 0 rfl)⟩ (fun hHeld => ?_)
  clear hK K
  refine eF 26 ?_
  refine aV 16 1 131071 ?_
  refine fu (by kernel_rfl) ?_
  obtain ⟨K, hK⟩ : ∃ K, K = NT.aQ bq := ⟨_, rfl⟩
  have HK := A_ hK
  have GN := A_ (show K.length = bq.length by rw [hK, aK, List.length_map])
  obtain ⟨go1, rfl⟩ := qC (aa.rowOk HS.out 5 rfl) (by omega)
  have aj : af (aa xM base (xC 96 70 (NT.mk tp (.slice kG tks.length il) (.slice kQ tvs.length iA) (.slice sZ bq.length iM) tks tvs bq) (.slice (some ⟨go1, 0, none⟩) (pgs.length + 1) c1) pgs [] ⟨.slice EK tks.length EL, .slice EM tvs.length EN, .slice none 0 0, tks, tvs, []⟩ L)) := ⟨by
   have h1 := (aa.Ms (aa.tX HS.out 3)).iN [0, 1, 2, 3, 4, 5, 8, 9, 11, 6, 12, 7] (by decide)
   unfold xC
   show aa _ _ [_, _, _, _, _, [.row 110 3 (.slice (some ⟨go1, 0, none⟩) (pgs.length + 1) c1) (pgs ++ [_]).length ((pgs ++ [_]).flatMap Pg.cells)], _, _, _, _, _, _]
   rw [List.length_append, List.flatMap_append, List.flatMap_cons, List.flatMap_nil, List.append_nil]
   exact h1⟩
  clear HS hK
  have HS := aj
  clear aj
  obtain ⟨t0, ht0⟩ : ∃ t0, t0 = NT.mk tp (.slice kG tks.length il) (.slice kQ tvs.length iA) (.slice sZ bq.length iM) tks tvs bq := ⟨_, rfl⟩
  have HT0 := A_ ht0
  rw [<- ht0] at HS
  clear ht0
  go_upto_region 3 with fail
  have BS : xM.cell? ⟨tp, 2, none⟩ = some (.slice sZ bq.length iM) := by
   have h1 := HS.out
   rw [HT0.out] at h1
   exact aa.z2 h1 0 rfl
  go_wp2_with fail
  clear BS
  go_loopg [1, 32] bq.length (fun kq u1 u32 w' => ∃ (i m go co : Nat) (A B : List Pg) (kv vv cv : Value) (cs : List Int), u1 = .slice (some ⟨go, 0, none⟩) m co /\ u32 = .int .i64 (i : Int) /\ af (kq + i = bq.length) /\ af (cs = starts (K.take i) (pgs.length + 1)) /\ af (A.map Pg.erase = pgs.map Pg.erase) /\ af (B.map Pg.erase = nC (K.take i) (pgs.length + 1)) /\ af (m = pgs.length + 1 + PT.iH (K.take i)) /\ af (aa w' base (xC 96 70 t0 (.slice (some ⟨go, 0, none⟩) m co) A B ⟨kv, vv, cv, tks, tvs, cs⟩ L)) /\ af (Below base w w'))
  case atStart => exact ⟨0, pgs.length + 1, go1, c1, pgs, [], _, _, _, [], by first | rfl | (simp; done), by first | rfl | (simp; done), ⟨Nat.add_zero _⟩, ⟨rfl⟩, ⟨rfl⟩, ⟨rfl⟩, ⟨rfl⟩, HS, HB⟩
  case round =>
   clear HS HB
   obtain ⟨i, m, go, Xn, A, B, kv, vv, cv, cs, rfl, rfl, SF, SG, HA, yj, HM, HS, HB⟩ := hrel
   have Bf := A_ (show A.length = pgs.length by have := congrArg List.length HA.out; rw [List.length_map, List.length_map] at this; exact this)
   have hbt : PT.iH (K.take i) + 1 <= (PT.mk tks tvs (NT.aQ bq)).big := by rw [PT.big, <- HK.out]; have := lQ K i; omega
   have hm : pgs.length + 1 <= m /\ m <= 100000 := by have := HM.out; have := Vm.out; omega
   have ci := dJ (0 <= (i : Int))
   have hcl0 : cs.length <= 5 := by rw [SG.out, oN, List.length_take, GN.out]; omega
   by_cases hi : i < bq.length
   ·have ce := kZ ((i : Int) < (bq.length : Int))
    have xL : (i < bq.length) = True := eq_true hi
    obtain ⟨s, hsx⟩ : ∃ s, bq[i]? = some s := ⟨bq[i], List.getElem?_eq_getElem hi⟩
    have P6 := A_ hsx
    have kD : af (K[i]? = some s.erase) := ⟨by rw [HK.out, aK, List.getElem?_map, hsx]; rfl⟩
    have aj := HS.out
    rw [HT0.out] at aj
    unfold xC at aj
    simp only [NT.keys, NT.vals, NT.kids, NT.p, NT.kv, NT.vv, NT.cv] at aj
    obtain ⟨Ac, cc, rfl⟩ := Kd.av (aa.ir aj 8 rfl)
    obtain ⟨y7, ck1, rfl⟩ := Kd.av (aa.sr aj 6 rfl)
    obtain ⟨oo, mi, rfl⟩ := Kd.av (aa.sr aj 7 rfl)
    clear HS
    have HS := A_ aj
    clear aj hsx
    obtain ⟨lI, rfl⟩ := iQ (aa.q HS.out 3 rfl) (by omega)
    have vF := lC (aa.iZ HS.out 3 rfl) (And.intro P6.out rfl)
    go_upto_region 6 with fail
    clear vF
    obtain ⟨l1, hl1⟩ : ∃ r : List Int, r = ([] : List Int) ++ cs := ⟨_, rfl⟩
    have wK := A_ hl1
    clear hl1
    have hl1_ : l1.length <= 5 := by rw [wK.out, List.nil_append]; exact hcl0
    obtain ⟨l2, hl2⟩ : ∃ r : List Int, r = l1 ++ [(m : Int)] := ⟨_, rfl⟩
    have y8 := A_ hl2
    clear hl2
    have b3 := dJ (0 <= (pgs.length : Int))
    have b4 := dJ ((pgs.length : Int) < (m : Int))
    have b5 := dJ (pgs.length < m)
    have fO := (Ah HS.out 5 rfl Bf.out)
    have vF := (Ie HS.out 5 rfl Bf.out)
    have BS := (uZ HS.out 5 rfl Bf.out)
    go_upto_region 7 with (first | (refine jf 8 #[.slice none 0 0, .slice none 0 0, .slice none 0 0] 110 ?_; intro g6 hg DD aC hb; have aj := lu (aa.gI HS.out hg aC hb (dS dE HB)); have az : af (Below base w DD) := ⟨(HB.out).trans (hb.mono (dS dE HB))⟩; clear HS HB hg aC hb; have HS := aj; have HB := az; clear aj az; clear fO vF BS; have fO := (Ah HS.out 5 rfl Bf.out); have vF := (Ie HS.out 5 rfl Bf.out); have BS := (uZ HS.out 5 rfl Bf.out); have Oq := aa.z0 HS.out 12 rfl; have Ot := aa.f HS.out 12 rfl 0; have Ou := aa.z1 HS.out 12 rfl; have Ov := aa.f HS.out 12 rfl 1; have GU := aa.z2 HS.out 12 rfl; have GV := aa.f HS.out 12 rfl 2))
    have aj := gK (World.setCell (World.setCell (World.setCell DD ⟨g6, 0, none⟩ (.slice y7 tks.length ck1)) ⟨g6, 1, none⟩ (.slice oo tvs.length mi)) ⟨g6, 2, none⟩ (.slice Ac cs.length cc)) (aa.vY (aa.yD (aa.yC HS.out 12 rfl (.slice y7 tks.length ck1)) 12 rfl (.slice oo tvs.length mi)) 12 rfl (.slice Ac cs.length cc))
    have az : af (Below base w (World.setCell (World.setCell (World.setCell DD ⟨g6, 0, none⟩ (.slice y7 tks.length ck1)) ⟨g6, 1, none⟩ (.slice oo tvs.length mi)) ⟨g6, 2, none⟩ (.slice Ac cs.length cc))) := ⟨(((HB.out).setCell (p := ⟨g6, 0, none⟩) (aa.ge HS.out 12 rfl) _).setCell (p := ⟨g6, 1, none⟩) (aa.ge HS.out 12 rfl) _).setCell (p := ⟨g6, 2, none⟩) (aa.ge HS.out 12 rfl) _⟩
    generalize World.setCell (World.setCell (World.setCell DD ⟨g6, 0, none⟩ (.slice y7 tks.length ck1)) ⟨g6, 1, none⟩ (.slice oo tvs.length mi)) ⟨g6, 2, none⟩ (.slice Ac cs.length cc) = wR at aj az ⊢
    clear HS HB fO vF BS Oq Ot Ou Ov GU GV; have HS := aj; have HB := az; clear aj az
    have sd13 : (([] : List Int).length + cs.length) * 8 <= 140737488355328 := by simp only [List.length_cons, List.length_nil]; omega
    have sd20 : (l1.length + 1) * 8 <= 140737488355328 := by omega
    have fO := (aa.z2 HS.out 12 rfl)
    go_upto_region 8 with (first | ((with_reducible refine dN (N := 40) rfl ?_); refine Kd.kH (Kd.int .i64) (w0 := w) base 3 ?hg (N := 40) ?hd (xs := ([] : List Int)) (inner := []) (ok := fun _ => True) (okp := fun _ => False) ?hr (fq.none _ _) (fun _ h => h.elim) trivial HB.out (dS dE HB) (by simp) ?_; (case hd => rfl); (case hg => rfl); (case hr => first | (go_simp; done) | (go_simp; rfl)); intro v7 Gs ho hb hg hn; obtain ⟨A8, c9, rfl⟩ : ∃ A c, v7 = .slice A 0 c := Kd.av ho; have aj := lu (aa.DZ HS.out (JQ ho) hg hn); have az : af (Below base w Gs) := ⟨hb⟩; clear HS HB ho hb hg hn; have HS := aj; have HB := az; clear aj az; clear fO; have fO := (aa.z2 HS.out 12 rfl)) | ((with_reducible refine bQ (b := .append) (xs := #[.tmp 40, .tmp 42]) rfl ?_); at_builtin; refine Kd.dV (Kd.int .i64) (w0 := w) base rfl (.tmp 40) (.tmp 42) 108 3 (.int .i64 0) 8 rfl Try.underlying108 info3 rfl (by decide) (by omega) (.slice A8 0 c9) ([] : List Int) cs Ac cs.length cc (fun _ => True) (fun _ => False) rfl rfl (aa.ir HS.out 13 rfl) (Rk HS.out 8 rfl) (fun _ _ h => h) (fun _ h => h.elim) (fun _ _ => trivial) HB.out (dS dE HB) sd13 ?_; intro V4 w16 ho hb hg hat; rw [<- wK.out] at ho; obtain ⟨A11, c12, rfl⟩ := Kd.av ho; have aj := lu (aa.Rl 13 HS.out rfl ho hg hat); have az : af (Below base w w16) := ⟨hb⟩; clear HS HB ho hb hg hat; have HS := aj; have HB := az; clear aj az; clear fO; have fO := (aa.z2 HS.out 12 rfl)) | ((with_reducible refine dN (N := 46) rfl ?_); refine Kd.kH (Kd.int .i64) (w0 := w) base 3 ?hg (N := 46) ?hd (xs := [(m : Int)]) (inner := [.int .i64 (m : Int)]) (ok := fun _ => True) (okp := fun _ => False) ?hr (Kd.aX (enc := (Value.int .i64)) [(m : Int)]) (fun _ h => h.elim) trivial HB.out (dS dE HB) (by simp) ?_; (case hd => rfl); (case hg => rfl); (case hr => first | (go_simp; done) | (go_simp; rfl)); intro v14 Kh ho hb hg hn; obtain ⟨WU, c16, rfl⟩ : ∃ A c, v14 = .slice A 1 c := Kd.av ho; have aj := lu (aa.DZ HS.out (JQ ho) hg hn); have az : af (Below base w Kh) := ⟨hb⟩; clear HS HB ho hb hg hn; have HS := aj; have HB := az; clear aj az; clear fO; have fO := (aa.z2 HS.out 12 rfl)) | ((with_reducible refine bQ (b := .append) (xs := #[.tmp 43, .tmp 46]) rfl ?_); at_builtin; refine Kd.dV (Kd.int .i64) (w0 := w) base rfl (.tmp 43) (.tmp 46) 108 3 (.int .i64 0) 8 rfl Try.underlying108 info3 rfl (by decide) (by omega) (.slice A11 l1.length c12) l1 [(m : Int)] WU 1 c16 (fun _ => True) (fun _ => False) rfl rfl (aa.ir HS.out 13 rfl) (Rk HS.out 14 rfl) (fun _ _ h => h) (fun _ h => h.elim) (fun _ _ => trivial) HB.out (dS dE HB) sd20 ?_; intro u17 Kl ho hb hg hat; rw [<- y8.out] at ho; obtain ⟨uw, c19, rfl⟩ := Kd.av ho; have aj := lu (aa.Rl 13 HS.out rfl ho hg hat); have az : af (Below base w Kl) := ⟨hb⟩; clear HS HB ho hb hg hat; have HS := aj; have HB := az; clear aj az; clear fO; have fO := (aa.z2 HS.out 12 rfl); have zs0 := aa.z2 HS.out 12 rfl; have kS := aa.f HS.out 12 rfl 2))
    have aj := gK (World.setCell Kl ⟨g6, 2, none⟩ (.slice uw l2.length c19)) (aa.iN (aa.vY HS.out 12 rfl (.slice uw l2.length c19)) [0, 1, 2, 3, 4, 5, 6, 7, 13, 9, 10, 11, 12, 14] (by decide))
    have az : af (Below base w (World.setCell Kl ⟨g6, 2, none⟩ (.slice uw l2.length c19))) := ⟨(HB.out).setCell (p := ⟨g6, 2, none⟩) (aa.ge HS.out 12 rfl) _⟩
    generalize World.setCell Kl ⟨g6, 2, none⟩ (.slice uw l2.length c19) = Mc at aj az ⊢
    clear HS HB fO zs0 kS; have HS := aj; have HB := az; clear aj az
    have fO := (aa.z0 HS.out 12 rfl)
    have vF := (aa.z1 HS.out 12 rfl)
    have BS := (aa.z2 HS.out 12 rfl)
    have Oq := Ah HS.out 5 rfl Bf.out
    have Ot := aa.Ph HS.out 5 rfl (pgs.length * 3)
    have Ou := Ie HS.out 5 rfl Bf.out
    have Ov := aa.Ph HS.out 5 rfl (pgs.length * 3 + 1)
    have GU := uZ HS.out 5 rfl Bf.out
    have GV := aa.Ph HS.out 5 rfl (pgs.length * 3 + 2)
    go_upto_region 9 with fail
    have aj := gK (World.setCell (World.setCell (World.setCell Mc ⟨go, pgs.length * 3, none⟩ (.slice y7 tks.length ck1)) ⟨go, pgs.length * 3 + 1, none⟩ (.slice oo tvs.length mi)) ⟨go, pgs.length * 3 + 2, none⟩ (.slice uw l2.length c19)) (aa.Pm HS.out 5 rfl Bf.out ⟨.slice y7 tks.length ck1, .slice oo tvs.length mi, .slice uw l2.length c19, tks, tvs, l2⟩)
    have az : af (Below base w (World.setCell (World.setCell (World.setCell Mc ⟨go, pgs.length * 3, none⟩ (.slice y7 tks.length ck1)) ⟨go, pgs.length * 3 + 1, none⟩ (.slice oo tvs.length mi)) ⟨go, pgs.length * 3 + 2, none⟩ (.slice uw l2.length c19))) := ⟨(((HB.out).setCell (p := ⟨go, pgs.length * 3, none⟩) (aa.JR HS.out 5 rfl) _).setCell (p := ⟨go, pgs.length * 3 + 1, none⟩) (aa.JR HS.out 5 rfl) _).setCell (p := ⟨go, pgs.length * 3 + 2, none⟩) (aa.JR HS.out 5 rfl) _⟩
    generalize World.setCell (World.setCell (World.setCell Mc ⟨go, pgs.length * 3, none⟩ (.slice y7 tks.length ck1)) ⟨go, pgs.length * 3 + 1, none⟩ (.slice oo tvs.length mi)) ⟨go, pgs.length * 3 + 2, none⟩ (.slice uw l2.length c19) = PY at aj az ⊢
    clear HS HB fO vF BS Oq Ot Ou Ov GU GV; have HS := aj; have HB := az; clear aj az
    obtain ⟨p', hp'⟩ : ∃ p' : Pg, p' = ⟨.slice y7 tks.length ck1, .slice oo tvs.length mi, .slice uw l2.length c19, tks, tvs, l2⟩ := ⟨_, rfl⟩
    have Xo := A_ hp'
    have aj : aa PY base (xC 96 70 (NT.mk tp (.slice kG tks.length il) (.slice kQ tvs.length iA) (.slice (some lI) bq.length iM) tks tvs bq) (.slice (some ⟨go, 0, none⟩) m Xn) A B p' L) := by
     rw [hp']
     exact aa.iN HS.out [0, 1, 2, 3, 4, 5, 6, 7, 8, 9, 10, 11] (by decide)
    have hpl : (A ++ p' :: B).length = m := by
     have h1 := congrArg List.length yj.out
     rw [List.length_map, oz] at h1
     rw [List.length_append, List.length_cons, h1, Bf.out, HM.out]
     omega
    have Xp := A_ hpl
    have hbs : s.erase.big <= n /\ m + s.erase.big <= 100000 := by
     have h1 := Dm kD.out
     have h2 := lQ K (i + 1)
     have h3 := Ma.out
     have h4 := Vm.out
     rw [PT.big, <- HK.out] at h3 h4
     have := HM.out
     omega
    have hC := ih s hbs.1 (QG.out _ (by rw [<- HK.out]; exact List.mem_of_getElem? kD.out)) base _ _ _ PY (Al P6.out aj) (dS dE HB) (by rw [hpl]; exact hbs.2)
    have HC := A_ hC
    clear hC aj hp' hpl hbs
    go_upto_region 10 with (first | (go_at_call 107; (with_reducible refine HC.out.mono ?_); rintro e Md ⟨vo2, di, rfl, he, hs2, hb2⟩))
    clear HC HS
    rw [List.map_append, List.map_cons, List.append_assoc, List.cons_append, Xp.out] at he
    obtain ⟨A2, p2, B2, rfl, hA2, hp2, hB2⟩ := xY he
    have h5 := Am P6.out hs2
    obtain ⟨Ao2, Xq, rfl⟩ := fZ (aa.rowOk h5 5 rfl)
    obtain ⟨go2, rfl⟩ := qC (aa.rowOk h5 5 rfl) (by rw [List.length_append, List.length_cons]; omega)
    cases p2 with | mk Vn Vo Cn SH vs2 cs2 =>
    have e6 : (⟨SH, vs2, cs2⟩ : bH) = ⟨tks, tvs, l2⟩ := by rw [show (⟨SH, vs2, cs2⟩ : bH) = p'.erase from hp2, Xo.out]; rfl
    injection e6 with e7 e8 e9
    subst e7
    subst e8
    subst e9
    have HS := A_ h5
    have HB3 := A_ (HB.out.trans hb2)
    have HA2 := A_ (hA2.trans HA.out)
    have HB2 := A_ (show B2.map Pg.erase = nC (K.take (i + 1)) (pgs.length + 1) by rw [hB2, yj.out, qB kD.out, uW, HM.out])
    have PI := A_ (show (A2 ++ ⟨Vn, Vo, Cn, SH, vs2, cs2⟩ :: B2).length = pgs.length + 1 + PT.iH (K.take (i + 1)) by
     have h1 := congrArg List.length HB2.out
     have h2 := congrArg List.length HA2.out
     rw [List.length_map, oz] at h1
     rw [List.length_map, List.length_map] at h2
     rw [List.length_append, List.length_cons, h1, h2]
     omega)
    have rV := A_ (show cs2 = starts (K.take (i + 1)) (pgs.length + 1) by rw [y8.out, wK.out, List.nil_append, qB kD.out, sK, <- SG.out, HM.out])
    clear he hs2 hb2 hA2 hp2 hB2 h5 HB
    go_wp2_with fail
    go_roundg (bq.length - (i + 1))
    case measure => have := SF.out; omega
    case rel => exact ⟨i + 1, _, go2, Xq, A2, B2, Vn, Vo, Cn, cs2, by first | rfl | (simp; done), by first | rfl | go_num | (simp; done), ⟨by have := SF.out; omega⟩, rV, HA2, HB2, PI, ⟨by rw [HT0.out]; exact HS.out⟩, HB3⟩
   ·have ce := kT ((i : Int) < (bq.length : Int))
    have xL : (i < bq.length) = False := eq_false hi
    have Vp : K.take i = K := List.take_of_length_le (by rw [GN.out]; omega)
    have uu := A_ Vp
    clear Vp hi
    go_wp2_with fail
    go_ret
    refine ⟨_, A ++ ⟨kv, vv, cv, tks, tvs, cs⟩ :: B, rfl, ?_, by rw [<- HT0.out]; exact Aj HS.out, HB.out⟩
    rw [List.map_append, List.map_cons, HA.out, yj.out, uu.out]
    show _ = pgs.map Pg.erase ++ iF (.mk tks tvs (NT.aQ bq)) pgs.length
    rw [iF, <- HK.out]
    show _ ++ (⟨tks, tvs, cs⟩ : bH) :: _ = _
    rw [SG.out, uu.out]
def Yf (w : World) (base T E : Nat) (t : NT) (L : List Ck) (e : Ending) (w' : World) : Prop :=
 ∃ (vo : Value) (pgs : List Pg), e = .returned (.agg #[vo]) /\ pgs.map Pg.erase = iF t.erase 0 /\ Sat w' base (t.dI T E ++ (aM vo pgs ++ L)) /\ Below base w w'
theorem JV {w : World} {base : Nat} {A L : List Ck} (h : Sat w base (A ++ L)) : Sat w base (A ++ (aM (.slice none 0 0) [] ++ L)) := by
 have hq : Ck.ok w base (.row 110 3 (.slice none 0 0) 0 []) := ⟨by simp, .inl ⟨rfl, rfl⟩⟩
 refine (Sat.add (A := [.row 110 3 (.slice none 0 0) 0 []]) h (Kept.refl _ _) (Sat.one hq) ?_).perm ?_
 ·rintro k ⟨c, hc, hb⟩
  rw [List.mem_singleton.1 hc] at hb
  cases hb
 ·exact List.perm_append_comm_assoc [Ck.row 110 3 (.slice none 0 0) 0 []] A L
theorem nD.calls (t : NT) (hbd : kC t.erase) (hbig : t.erase.big <= 100000) (base : Nat) (L : List Ck) (w : World) (hs : Sat w base (t.dI 96 70 ++ L)) (hbs : base <= w.heap.size) :
  Calls Try.prog 77 #[bG t.p] w (Yf w base 96 70 t L) := by
 have LH : af (Sat w base (L ++ t.dI 96 70)) := ⟨hs.perm List.perm_append_comm⟩
 have HB := A_ (Below.refl base w)
 have dE := A_ hbs
 have Vq := A_ hbd
 clear hs hbs hbd
 obtain ⟨tp, htp⟩ : ∃ p, t.p = p := ⟨_, rfl⟩
 have SI := A_ htp
 rw [htp]
 clear htp
 go_enter Try.func77, Try.ntmps77
 go_upto_region 1 with (first | (refine jf 2 #[.slice none 0 0] 29 ?_; intro g hg w2 aC hb; have aj : af (Sat w2 base (t.dI 96 70 ++ (aM (.slice none 0 0) [] ++ (.box 29 g #[.slice none 0 0] :: L)))) := ⟨JV ((Sat.gI LH.out hg aC hb dE.out).perm ((List.perm_append_comm (l₁ := L)).cons _ |>.trans List.perm_middle.symm))⟩; have az := A_ (HB.out.trans (hb.mono dE.out)); clear LH HB hg aC hb; have HS := aj; have HB := az; clear aj az))
 have hC := Ig.calls t.erase.big t (Nat.le_refl _) Vq.out base _ [] _ w2 HS.out (dS dE HB) (by rw [List.length_nil]; omega)
 rw [SI.out] at hC
 have HC := A_ hC
 clear hC HS
 go_wp2_with (first | (go_at_call 107; (with_reducible refine HC.out.mono ?_); rintro e w3 ⟨vo, pgs, rfl, he, hs3, hb3⟩; obtain ⟨Ao, co, rfl⟩ := fZ (hs3.ok (l9 vo pgs) (List.mem_append_right _ List.mem_cons_self)); have HZ := A_ (hs3.cell (T := 29) (p := g) (cs := #[.slice none 0 0]) (List.mem_append_right _ (List.mem_append_right _ List.mem_cons_self))); have hz := hs3.cell (T := 29) (p := g) (cs := #[.slice none 0 0]) (List.mem_append_right _ (List.mem_append_right _ List.mem_cons_self)); have hz1 : w3.cell? ⟨g, 0, none⟩ = some (.slice none 0 0) := (ak hz 0).trans rfl; have hf1 := aY hz 0; have HE := A_ he; have yh := A_ hs3; have HB3 := A_ hb3; clear hz he hs3 hb3))
 refine bodyPost_ret (results_cell_row rfl _ _ g 29 #[.slice Ao pgs.length co] (0, 0) _ rfl (dH (cs := #[.slice none 0 0]) HZ.out 0 _ rfl) Try.underlying29 rfl (by kernel_rfl)) rfl ?_
 have hX : Sat (w3.setCell ⟨g, 0, none⟩ (.slice Ao pgs.length co)) base (.box 29 g #[.slice Ao pgs.length co] :: (t.dI 96 70 ++ (aM (.slice Ao pgs.length co) pgs ++ L))) := Sat.put (cs := #[.slice none 0 0]) (yh.out.perm (by
  rw [<- List.append_assoc]
  refine List.perm_middle.trans ?_
  rw [List.append_assoc])) 0 _ rfl
 exact ⟨_, pgs, rfl, by rw [HE.out]; rfl, hX.tail, (HB.out.trans HB3.out).setCell (p := ⟨g, 0, none⟩) (yh.out.ok (.box 29 g #[.slice none 0 0]) (List.mem_append_right _ (List.mem_append_right _ List.mem_cons_self))).1 _⟩
set_option maxHeartbeats 8000000
set_option maxRecDepth 100000
def WP (w : World) (base T E : Nat) (L : List Ck) (r : PT) (e : Ending) (w' : World) : Prop := ∃ t' : NT, e = .returned (bG t'.p) /\ t'.erase = r /\ Sat w' base (t'.dI T E ++ L) /\ Below base w w'
theorem Sat.Ap {w : World} {base : Nat} {c : Ck} {L : List Ck} (h : Sat w base L) (hc : c.ok w base) (hb : c.blk = none) : Sat w base (c :: L) :=
 ⟨fun d hd => by
  rcases List.mem_cons.1 hd with rfl | hd
  ·exact hc
  ·exact h.ok d hd, List.pairwise_cons.2 ⟨fun d _ k hk => (by rw [hb] at hk; cases hk), h.ap⟩⟩
theorem Ar {w : World} {base : Nat} {A B : List Ck} (h : Sat w base (A ++ B)) : aa w base [A, B] := by
 unfold aa
 simp only [List.flatten_cons, List.flatten_nil, List.append_nil]
 exact h
theorem JW {w : World} {base T E g : Nat} {t : NT} {L : List Ck} {v : Value} (h : aa w base [t.dI T E, L, [.own E v (encs bG [t.p])], [.box T g #[.slice none 0 0, .slice none 0 0, v]]]) :
  Sat w base ((NT.mk g (.slice none 0 0) (.slice none 0 0) v [] [] [t]).dI T E ++ L) := by
 have h1 : aa w base [t.dI T E, L, [.jE E v (ptrs [t])], [.box T g #[.slice none 0 0, .slice none 0 0, v]]] := by
  have hq : PQ E w base v [t.p] := Kd.zI (h.Q6 2 rfl)
  have h3 := xU hq
  refine h.turn 2 rfl (Sat.one h3) (Kept.refl _ _) ?_
  rintro k ⟨d, hd, hb⟩
  rw [List.mem_singleton.1 hd] at hb
  exact .inl ⟨_, List.mem_singleton_self _, hb⟩
 have h2 : aa w base [[.box T g #[.slice none 0 0, .slice none 0 0, v]], [.jE E v (ptrs [t])], t.dI T E, L] := aa.iN h1 [3, 2, 0, 1] (by decide)
 unfold aa at h2
 simp only [List.flatten_cons, List.flatten_nil, List.append_nil, List.cons_append, List.nil_append] at h2
 have hn : Ck.ok w base (txt (.slice none 0 0) []) := rX (Kd.vI _ _ _ _ _)
 have h3 := (h2.Ap hn rfl).Ap hn rfl
 refine h3.perm ?_
 rw [NT.dI, NT.bE, NT.bE, List.append_nil]
 show List.Perm (_ :: _ :: _ :: _ :: _) (_ :: _ :: _ :: _ :: _)
 exact ((List.Perm.swap _ _ _).cons _).trans (List.Perm.swap _ _ _)
theorem Au.calls (t : NT) (key val : ByteArray) (hbd : kC t.erase) (base : Nat) (L : List Ck) (w : World) (hs : Sat w base (t.dI 96 70 ++ L)) (hbs : base <= w.heap.size) :
  Calls Try.prog 76 #[bG t.p, .string key, .string val] w (WP w base 96 70 L (ni t.erase key val)) := by
 have dE := A_ hbs
 have Vq := A_ hbd
 have hC := MK.calls key val t.erase.big t (Nat.le_refl _) hbd base L w hs hbs
 obtain ⟨R, hR⟩ : ∃ R, R = ni t.erase key val := ⟨_, rfl⟩
 rw [<- hR]
 unfold ni at hR
 have HR := A_ hR
 have Ow := lL t.erase.big t.erase key val hbd
 generalize kE t.erase.big t.erase key val = P1 at hC hR Ow HR
 obtain ⟨tp, htp⟩ : ∃ p, t.p = p := ⟨_, rfl⟩
 rw [htp] at hC ⊢
 have SI := A_ htp
 clear hR hbd hs hbs htp
 go_enter Try.func76, Try.ntmps76
 go_upto_region 2 with (first | (go_at_call 105; (with_reducible refine hC.mono ?_); rintro e w1 ⟨rfl, t1, ht1, ht2, ht3, Om⟩))
 rw [SI.out] at ht1
 cases t1 with | mk p1 Uq SK mi wS vs1 cs1 =>
 have ht1 : p1 = tp := ht1
 subst ht1
 obtain ⟨y7, ck1, SL⟩ := Kd.av ((fF ht3).sr 1 rfl)
 have SL : Uq = .slice y7 wS.length ck1 := SL
 subst SL
 obtain ⟨lk, hlk⟩ : ∃ n, wS.length = n := ⟨_, rfl⟩
 have fO : w1.cell? ⟨p1, 0, none⟩ = some (.slice y7 lk ck1) := by rw [<- hlk]; exact (fF ht3).z0 0 rfl
 obtain ⟨t1, ht0⟩ : ∃ t1, t1 = NT.mk p1 (.slice y7 wS.length ck1) SK mi wS vs1 cs1 := ⟨_, rfl⟩
 rw [<- ht0] at ht2 ht3
 have hk1 : t1.keys.length = lk := by rw [ht0]; exact hlk
 have tq : t1.p = p1 := by rw [ht0]; rfl
 have HT := A_ (And.intro ht2 (And.intro hk1 tq))
 rw [<- ht2] at Ow
 have SN := A_ Ow
 have hl5 : lk <= 5 := by have := Ow.1.2.1; rw [bA] at this; omega
 have HB := A_ Om
 have HS := A_ (Ar ht3)
 have QL := A_ ht3
 clear ht0 hk1 tq ht2 ht3 Om hlk Ow hC
 by_cases h4 : 4 < lk
 ·have ct := kZ ((4 : Int) < (lk : Int))
  go_upto_region 3 with fail
  clear fO QL
  go_upto_region 4 with (first | ((with_reducible refine dN (N := 18) rfl ?_); refine Kd.kH eT (w0 := w) base 70 ?hg (N := 18) ?hd (xs := [p1]) (inner := [bG p1]) (ok := fun _ => True) (okp := fun _ => False) ?hr (Kd.aX (enc := bG) [p1]) (fun _ h => h.elim) trivial HB.out (dS dE HB) (by simp) ?_; (case hd => rfl); (case hg => rfl); (case hr => first | (go_simp; done) | (go_simp; rfl)); intro v1 w2 ho hb hg hn; obtain ⟨A2, c3, rfl⟩ : ∃ A c, v1 = .slice A 1 c := Kd.av ho; have aj := lu (aa.DZ HS.out (tO ho) hg hn); have az : af (Below base w w2) := ⟨hb⟩; clear HS HB ho hb hg hn; have HS := aj; have HB := az; clear aj az) | (refine jf 20 #[.slice none 0 0, .slice none 0 0, .slice A2 1 c3] 96 ?_; intro g4 hg w3 aC hb; have aj := lu (aa.gI HS.out hg aC hb (dS dE HB)); have az : af (Below base w w3) := ⟨(HB.out).trans (hb.mono (dS dE HB))⟩; clear HS HB hg aC hb; have HS := aj; have HB := az; clear aj az))
  have hT : Sat w3 base ((NT.mk g4 (.slice none 0 0) (.slice none 0 0) (.slice A2 1 c3) [] [] [t1]).dI 96 70 ++ L) := JW (by rw [HT.out.2.2]; exact HS.out)
  have HT2 := A_ hT
  have hC := zP.calls (NT.mk g4 (.slice none 0 0) (.slice none 0 0) (.slice A2 1 c3) [] [] [t1]) t1 0 rfl (by have := HT.out.2.1; omega) (by have := HT.out.2.1; omega) (by have := SN.out.1.1; rw [bA, kX] at this; exact this) (by have := SN.out.1.2.2; rw [bA, bT] at this; have := HT.out.2.1; omega) (by have := SN.out.1.2.2; rw [bA, bT] at this; have := HT.out.2.1; omega) (Nat.le_refl _) (Nat.zero_le _) rfl (show (1 : Nat) <= 1001 by decide) base L w3 hT (dS dE HB)
  clear hT
  replace hC : Calls Try.prog 106 #[bG g4, .int .i64 0] w3 (WR w3 base 96 70 _ L _) := hC
  go_wp2_with (first | (go_at_call 106; (with_reducible refine hC.mono ?_); rintro e w9 ⟨rfl, t2, hu1, hu2, hu3, Xr⟩))
  have hu1 : t2.p = g4 := hu1
  rw [<- hu1]
  go_ret
  refine ⟨t2, rfl, ?_, hu3, HB.out.trans Xr⟩
  rw [hu2, HR.out, <- HT.out.1, bA, HT.out.2.1, if_pos h4]
  rfl
 ·have ct := kT ((4 : Int) < (lk : Int))
  go_wp2_with fail
  rw [<- HT.out.2.2]
  go_ret
  refine ⟨t1, rfl, ?_, QL.out, HB.out⟩
  rw [HR.out, <- HT.out.1, bA, HT.out.2.1, if_neg h4]
theorem MZ {α : Type} {A cs Z : List α} {z x : α} {i : Nat} (hi : i < cs.length) :
  ((((A ++ (cs ++ z :: Z)).take (A.length + (i + 1)) ++ cs.drop i ++ (A ++ (cs ++ z :: Z)).drop (A.length + (i + 1) + (cs.drop i).length)).take (A.length + i) ++ [x] ++
   ((A ++ (cs ++ z :: Z)).take (A.length + (i + 1)) ++ cs.drop i ++ (A ++ (cs ++ z :: Z)).drop (A.length + (i + 1) + (cs.drop i).length)).drop (A.length + i + [x].length)).drop A.length).take (cs.length + 1) = aI cs i x := by
 have e1 : (A ++ (cs ++ z :: Z)).take (A.length + (i + 1)) = A ++ cs.take (i + 1) := by
  rw [List.take_append, Nat.add_sub_cancel_left, List.take_of_length_le (by omega), List.take_append_of_le_length (by omega)]
 have e2 : (A ++ (cs ++ z :: Z)).drop (A.length + (i + 1) + (cs.drop i).length) = Z := by
  rw [List.length_drop, show A.length + (i + 1) + (cs.length - i) = A.length + (cs.length + 1) by omega, List.drop_append, List.drop_eq_nil_of_le (by omega), Nat.add_sub_cancel_left, List.nil_append, List.drop_append, List.drop_eq_nil_of_le (by omega), Nat.add_sub_cancel_left]
  rfl
 rw [e1, e2]
 have hl : (A ++ cs.take i).length = A.length + i := by rw [List.length_append, List.length_take]; omega
 have hk : cs[i]? = some (cs[i]) := List.getElem?_eq_getElem hi
 have e3 : (A ++ cs.take (i + 1) ++ cs.drop i ++ Z).take (A.length + i) = A ++ cs.take i := by
  rw [List.take_add_one, hk]
  show (A ++ (cs.take i ++ [cs[i]]) ++ cs.drop i ++ Z).take (A.length + i) = _
  rw [<- hl, show A ++ (cs.take i ++ [cs[i]]) ++ cs.drop i ++ Z = (A ++ cs.take i) ++ ([cs[i]] ++ (cs.drop i ++ Z)) by simp only [List.append_assoc]]
  exact List.take_left
 have e4 : (A ++ cs.take (i + 1) ++ cs.drop i ++ Z).drop (A.length + i + [x].length) = cs.drop i ++ Z := by
  have h2 : (A ++ cs.take (i + 1)).length = A.length + i + [x].length := by rw [List.length_append, List.length_take]; simp only [List.length_cons, List.length_nil]; omega
  rw [<- h2, show A ++ cs.take (i + 1) ++ cs.drop i ++ Z = (A ++ cs.take (i + 1)) ++ (cs.drop i ++ Z) by simp only [List.append_assoc]]
  exact List.drop_left
 rw [e3, e4, show A ++ cs.take i ++ [x] ++ (cs.drop i ++ Z) = A ++ (aI cs i x ++ Z) by unfold aI; simp only [List.append_assoc, List.cons_append, List.nil_append], List.drop_left]
 rw [<- eG x (Nat.le_of_lt hi)]
 exact List.take_left
theorem KT {α : Type} {l cs : List α} {off n : Nat} (ht : (l.drop off).take n = cs) (hn : off + n + 1 <= l.length) : ∃ A z Z, l = A ++ (cs ++ z :: Z) /\ A.length = off /\ cs.length = n := by
 have h1 : (l.take off).length = off := by rw [List.length_take]; omega
 have h2 : cs.length = n := by rw [<- ht, List.length_take, List.length_drop]; omega
 have h3 : l.drop off = cs ++ (l.drop off).drop n := by rw [<- ht, List.take_append_drop]
 cases h4 : (l.drop off).drop n with
 | nil =>
  have := congrArg List.length h4
  rw [List.length_drop, List.length_drop, List.length_nil] at this
  omega
 | cons z Z =>
  refine ⟨l.take off, z, Z, ?_, h1, h2⟩
  rw [<- h4, <- h3, List.take_append_drop]
theorem Dn {w : World} {b E off n c i : Nat} {cur : Array Value} {cs : List Value} {x : Value} (hb : w.heap[b]? = some (.cells cur E (0, 0))) (hs : cur.size = off + c) (ht : (cur.toList.drop off).take n = cs) (hroom : n + 1 <= c) (hi : i < n) :
  ∃ cur', ((w.setCells b (off + (i + 1)) (cs.drop i)).setCells b (off + i) [x]).heap[b]? = some (.cells cur' E (0, 0)) /\ cur'.size = off + c /\ (cur'.toList.drop off).take (n + 1) = aI cs i x := by
 have hl : cur.toList.length = off + c := by rw [Array.length_toList]; exact hs
 obtain ⟨A, z, Z, e, hA, hcl⟩ := KT ht (by omega)
 have hd : (cs.drop i).length = n - i := by rw [List.length_drop]; omega
 obtain ⟨c1, h1, h2, h3⟩ := fM (cs.drop i) (off + (i + 1)) w cur hb (by rw [hd]; omega)
 obtain ⟨c2, h4, h5, h6⟩ := fM [x] (off + i) _ c1 h1 (by simp only [List.length_cons, List.length_nil]; omega)
 refine ⟨c2, h4, by omega, ?_⟩
 rw [h6, h3, e]
 subst hA
 rw [<- hcl]
 exact MZ (by omega)
theorem Ih {w : World} {base b E off n c : Nat} {cur : Array Value} {xs : List Value} (hb : w.heap[b]? = some (.cells cur E (0, 0))) (hs : cur.size = off + c) (ht : (cur.toList.drop off).take n = xs) (hn : n <= c) (hm : off + c <= maxLen) (hbase : base <= b) : lZ w base E 1 (.slice (some ⟨b, off, none⟩) n c) n xs := by
 refine ⟨?_, .inr ⟨b, off, c, cur, by rw [Nat.mul_one], hbase, hb, hn, hm, by rw [Nat.mul_one]; exact hs, by rw [Nat.mul_one, Nat.mul_one]; exact ht⟩⟩
 rw [<- ht, List.length_take, List.length_drop, Array.length_toList]
 omega
theorem nZ {e : TypeId} {z : Option Value} {Xt : Nat} (h : (Try.prog.info? e).map (fun i => (i.zero, i.size, i.bytes)) = some (z, 1, Xt)) : (Try.prog.info? e).map (·.size) = some 1 := by
 obtain ⟨i0, hi, hz⟩ := Option.map_eq_some_iff.1 h
 simp only [Prod.mk.injEq] at hz
 rw [hi]
 simp [hz.2.1]
theorem run_sizeOf {e : TypeId} {z : Option Value} {Xt : Nat} (h : (Try.prog.info? e).map (fun i => (i.zero, i.size, i.bytes)) = some (z, 1, Xt)) (w : World) : (Go.sizeOf e).run Try.prog w = .ok 1 w := by
 obtain ⟨i0, hi, hz⟩ := Option.map_eq_some_iff.1 h
 simp only [Prod.mk.injEq] at hz
 simp [Go.sizeOf, typeInfo, hi, hz.2.1]
theorem tY {w : World} {b E : Nat} {cs : Array Value} (h : w.heap[b]? = some (.cells cs E (0, 0))) : w.shape? b = some (E, cs.size) := by
 simp [World.shape?, h]
theorem dP {w : World} {b E : Nat} {cs : Array Value} (h : w.heap[b]? = some (.cells cs E (0, 0))) (j : Nat) : w.cell? ⟨b, j, none⟩ = cs[j]? := by
 simp [World.cell?, h]
theorem ed {w : World} {b E : Nat} {cs : Array Value} (h : w.heap[b]? = some (.cells cs E (0, 0))) (j : Nat) : w.frozen? ⟨b, j, none⟩ = false := by
 simp [World.frozen?, h]
theorem oh {α : Type} {l xs : List α} {o n j : Nat} {v : α} (h : (l.drop o).take n = xs) (hj : xs[j]? = some v) : l[o + j]? = some v := by
 subst h
 rw [List.getElem?_take] at hj
 split at hj
 ·rwa [List.getElem?_drop] at hj
 ·cases hj
set_option maxHeartbeats 4000000 in
theorem FO (A : Option Addr) (n c : Nat) (vb vo vc : Nat) (w : World) {v1 : Value} {w1 : World} (hrun : ∀ ty, (Builtin.append_ #[38, 38] ty #[.slice A n c, .slice (some ⟨vb, vo, none⟩) 1 vc]).run Try.prog w = .ok v1 w1) :
  Calls Try.prog 136 #[.slice A n c, .int .i64 (n : Int), .slice (some ⟨vb, vo, none⟩) 1 vc] w fun e w' => e = .returned v1 /\ w' = w1 := by
 go_enter Try.func136, Try.ntmps136
 cases A with
 | none =>
  go_wp2_with (at_builtin; refine Lib.wpList_append_run _ rfl _ _ _ _ rfl _ _ rfl rfl _ _ (hrun _) ?_)
  all_goals (go_ret; exact ⟨rfl, rfl⟩)
 | some a =>
  obtain ⟨ab, ao, asp⟩ := a
  go_wp2_with (at_builtin; refine Lib.wpList_append_run _ rfl _ _ _ _ rfl _ _ rfl rfl _ _ (hrun _) ?_)
  all_goals (go_ret; exact ⟨rfl, rfl⟩)
set_option maxHeartbeats 4000000 in
theorem Ca (b off n c i vb vo vc : Nat) (cs : List Value) (x : Value) (w : World) (o5 cur : Array Value) (hi : i < n) (hroom : n + 1 <= c) (hc63 : off + c <= maxLen) (hvb : vb ≠ b)
  (wL : w.heap[vb]? = some (.cells o5 9 (0, 0))) (hx : o5[vo]? = some x) (hb : w.heap[b]? = some (.cells cur 9 (0, 0))) (hsz : cur.size = off + c) (hcs : (cur.toList.drop off).take n = cs) (hcl : cs.length = n)
  (h1c : ∀ v ∈ cs, v.oneCell' = true) (h1v : x.oneCell' = true) :
  Calls Try.prog 136 #[.slice (some ⟨b, off, none⟩) n c, .int .i64 (i : Int), .slice (some ⟨vb, vo, none⟩) 1 vc] w fun e w' =>
   e = .returned (.slice (some ⟨b, off, none⟩) (n + 1) c) /\ w' = (w.drew.setCells b (off + (i + 1)) (cs.drop i)).setCells b (off + i) [x] := by
 have hc' : c <= 9223372036854775807 := by unfold maxLen at hc63; omega
 have hn63 : n <= 9223372036854775806 := by omega
 have hsz1 := nZ dh
 have hcc : ∀ j v, cs[j]? = some v -> w.cell? ⟨b, off + j, none⟩ = some v := fun j v hj => by
  rw [dP hb, <- Array.getElem?_toList]
  exact oh hcs hj
 have hsp : ∀ j, j < n + 1 -> (w.cell? ⟨b, off + j, none⟩).isSome = true := fun j hj => by
  rw [dP hb, Array.getElem?_eq_getElem (by omega)]
  rfl
 have hfz : ∀ j, w.frozen? ⟨b, j, none⟩ = false := ed hb
 have hov : ∀ lb cb, (callFunc 143 #[.slice (some ⟨vb, vo, none⟩) 1 vc, .slice (some ⟨b, off + (i + 1), none⟩) lb cb]).run Try.prog w = .ok (.value (.bool false)) w := fun lb cb => by
  rw [run_callFunc_extern Try.func143 (by kernel_rfl) (by kernel_rfl) (by kernel_rfl) (e := Extern.SlicesOverlaps.overlaps #[38, 38] #[4]) (by kernel_rfl),
   Lib.run_overlaps_apart w 38 4 9 Try.underlying38 1 (run_sizeOf dh) ⟨vb, vo, none⟩ ⟨b, off + (i + 1), none⟩ 1 vc lb cb hvb _ _ _ _ (tY wL) (tY hb) (by omega) (ed wL vo) (ed wL _)]
  rfl
 have hdl : (cs.drop i).length = n - i := by rw [List.length_drop, hcl]
 have hz2 : ¬ ((i : Int) = (n : Int)) := by omega
 have hw1 : IntKind.i64.wrap ((i : Int) + 1) = (i : Int) + 1 := by rw [IntKind.wrap_i64]; omega
 have hw2 : IntKind.i64.wrap ((n : Int) + 1) = (n : Int) + 1 := by rw [IntKind.wrap_i64]; omega
 have hb1 : (0 : Int) <= (i : Int) + 1 := by omega
 have hin : i <= n := by omega
 have htn : ((i : Int) + 1).toNat = i + 1 := by omega
 have htn2 : ((n : Int) + 1).toNat = n + 1 := by omega
 have hb2 : ¬ (c = i + 1) := by omega
 have hb3 : (i : Int) <= (n : Int) + 1 := by omega
 have hb4 : ¬ (c = i) := by omega
 have hb5 : ¬ ((c : Int) < (n : Int) + 1) := by omega
 have hcp1 : ∀ ty dc sc, (Builtin.copy_ #[38, 38] ty #[.slice (some ⟨b, off + (i + 1), none⟩) (n - i) dc, .slice (some ⟨b, off + i, none⟩) (n + 1 - i) sc]).run Try.prog w.drew = .ok (goInt (cs.drop i).length) (w.drew.setCells b (off + (i + 1)) (cs.drop i)) := fun ty dc sc =>
  run_copy_cells w.drew _ _ ty 9 b (off + (i + 1)) (n - i) dc ⟨b, off + i, none⟩ (n + 1 - i) sc (cs.drop i) Try.underlying38 hsz1 (by rw [hdl]; simp only [Nat.min_def]; split <;> omega)
   (fun j v hj => by rw [Addr.add_lit, Nat.add_assoc]; exact hcc (i + j) v (by rwa [List.getElem?_drop] at hj))
   (fun j hj => by rw [Nat.add_assoc]; exact hsp _ (by omega)) (fun j hj => hfz _) (fun v hv => h1c v (List.mem_of_mem_drop hv))
 obtain ⟨W1, hW1⟩ : ∃ W1, W1 = w.drew.setCells b (off + (i + 1)) (cs.drop i) := ⟨_, rfl⟩
 obtain ⟨SQ, k1, k2, k3⟩ := fM (cs.drop i) (off + (i + 1)) w.drew cur hb (by rw [hdl]; omega)
 rw [<- hW1] at k1
 have hcp2 : ∀ (W : World), (∀ x, W.cell? x = W1.cell? x) -> (∀ x, W.frozen? x = W1.frozen? x) -> ∀ ty dc, (Builtin.copy_ #[38, 38] ty #[.slice (some ⟨b, off + i, none⟩) (n + 1 - i) dc, .slice (some ⟨vb, vo, none⟩) 1 vc]).run Try.prog W = .ok (goInt 1) (W.setCells b (off + i) [x]) := fun W hWc hWf ty dc =>
  run_copy_cells W _ _ ty 9 b (off + i) (n + 1 - i) dc ⟨vb, vo, none⟩ 1 vc [x] Try.underlying38 hsz1 (by simp only [Nat.min_def, List.length_cons, List.length_nil]; split <;> omega)
   (fun j v hj => by
    cases j with
    | zero =>
     injection hj with hj
     subst hj
     rw [Addr.add_lit, hWc, hW1, World.cell?_setCells_out b _ _ _ _ (fun h _ => absurd h hvb)]
     exact (dP wL _).trans hx
    | succ j => cases hj)
   (fun j hj => by
    rw [hWc, dP k1, Array.getElem?_eq_getElem (by simp only [List.length_cons, List.length_nil] at hj; omega)]
    rfl) (fun j hj => by rw [hWf]; exact ed k1 _) (fun v hv => by rw [List.mem_singleton.1 hv]; exact h1v)
 rw [<- hW1] at hcp1
 clear hcc hsp hfz k1 k2 k3 h1c h1v wL hb hsz hcs hx
 go_enter Try.func136, Try.ntmps136
 go_wp2_with (simp only [hov])
 go_region_law (refine step_copy_runI rfl _ _ 38 38 rfl _ _ (by simp [Act.eval, Act.put]) (by simp [Act.eval, Act.put]) (hcp1 _ _ _) ?_)
 go_wp2_with (at_builtin; refine wpList_copy_runI _ rfl _ _ 38 38 rfl _ _ rfl rfl (hcp2 _ (fun _ => rfl) (fun _ => rfl) _ _) ?_)
 go_ret
 first | exact ⟨rfl, rfl⟩ | exact ⟨rfl, by rw [hW1]⟩
set_option maxHeartbeats 4000000 in
theorem Ef (b off n c i vb vo vc : Nat) (cs : List Value) (x : Value) (w : World) (o5 cur : Array Value) (hi : i < n) (hnc : n <= c) (hroom : c < n + 1) (hbig : (n + 1) * 16 <= 140737488355328)
  (wL : w.heap[vb]? = some (.cells o5 9 (0, 0))) (hx : o5[vo]? = some x) (hb : w.heap[b]? = some (.cells cur 9 (0, 0))) (hcs : (cur.toList.drop off).take n = cs) (hcl : cs.length = n)
  (h1c : ∀ v ∈ cs, v.oneCell' = true) (h1v : x.oneCell' = true) :
  Calls Try.prog 136 #[.slice (some ⟨b, off, none⟩) n c, .int .i64 (i : Int), .slice (some ⟨vb, vo, none⟩) 1 vc] w fun e w' =>
   ∃ (G : Nat) (ROW : Array Value), n + 1 <= G /\ G <= maxLen /\ ROW.size = G /\ ROW.toList.take i = cs.take i /\ e = .returned (.slice (some ⟨w.heap.size, 0, none⟩) (n + 1) G) /\
   w' = (((w.alloc (.cells ROW 9)).drew.setCells w.heap.size i [x]).drew).setCells w.heap.size (i + 1) (cs.drop i) := by
 have hn63 : n <= 9223372036854775806 := by omega
 have hsz1 := nZ dh
 obtain ⟨i0, hi0, hzz⟩ := Option.map_eq_some_iff.1 dh
 simp only [Prod.mk.injEq] at hzz
 obtain ⟨hz0, hzs, hzb⟩ := hzz
 have hbw : b < w.heap.size := gF hb
 have hvw : vb < w.heap.size := gF wL
 have hcc : ∀ j v, cs[j]? = some v -> w.cell? ⟨b, off + j, none⟩ = some v := fun j v hj => by
  rw [dP hb, <- Array.getElem?_toList]
  exact oh hcs hj
 have hkk : (n : Int) + 1 - (i : Int) = ((n + 1 - i : Nat) : Int) := by omega
 have hik : i + (n + 1 - i) = n + 1 := by omega
 have hold : (Builtin.firstCells i0.size i (.slice (some ⟨b, off, none⟩) i c)).run Try.prog w.drew = .ok (cs.take i).toArray w.drew := by
  rw [hzs]
  exact run_firstCells_some w.drew 1 i ⟨b, off, none⟩ i c (cs.take i) (by rw [List.length_take]; omega) (fun j v hj => by
   rw [Addr.add_lit]
   rw [List.getElem?_take] at hj
   split at hj
   ·exact hcc j v hj
   ·cases hj)
 obtain ⟨G, hG⟩ : ∃ G, G = grownCap w (n + 1) c 9 := ⟨_, rfl⟩
 have hGn : n + 1 <= G := by rw [hG]; exact grownCap_ge w _ _ _
 have hG63 : G <= maxLen := by rw [hG]; exact grownCap_le_maxLen w (n + 1) c 9 (by unfold maxLen; omega)
 obtain ⟨ROW, hROW⟩ : ∃ ROW : Array Value, ROW = (cs.take i).toArray ++ Builtin.zeroCells (Value.cells (.string ⟨#[]⟩)) (n + 1 - i) ++ Builtin.zeroCells (Value.cells (.string ⟨#[]⟩)) (G - (n + 1)) := ⟨_, rfl⟩
 have hRs : ROW.size = G := by
  rw [hROW]
  simp [Builtin.zeroCells, Value.cells]
  omega
 have Vr : ROW.toList.take i = cs.take i := by
  have hlt : (cs.take i).length = i := by rw [List.length_take]; omega
  rw [hROW]
  simp only [Array.toList_append, List.append_assoc]
  rw [List.take_append_of_le_length (by rw [hlt]; exact Nat.le_refl _), List.take_of_length_le (by rw [hlt]; exact Nat.le_refl _)]
 have hrz : ∀ ty, (Builtin.append_ #[38, 3] ty #[.slice (some ⟨b, off, none⟩) i c, .int .i64 ((n : Int) + 1 - (i : Int))]).run Try.prog w = .ok (.slice (some ⟨w.heap.size, 0, none⟩) (n + 1) G) (w.drew.alloc (.cells ROW 9)) := fun ty => by
  have h := Lib.run_append_grow_zeros w 38 3 ty 9 i0 _ .i64 .i64 Try.underlying38 Try.underlying3 hi0 hz0 (some ⟨b, off, none⟩) i c (cs.take i) hold (n + 1 - i) (by omega) (by omega) (by omega) (by omega) (by rw [hzb]; omega) (by rw [hzb, hik]; exact growslice_fits hroom hbig)
  rw [hik, <- hG, <- hROW] at h
  rw [hkk]
  exact h
 clear hold hROW hG
 obtain ⟨W1, hW1⟩ : ∃ W1, W1 = w.drew.alloc (.cells ROW 9) := ⟨_, rfl⟩
 rw [<- hW1] at hrz
 have hnew : W1.heap[w.heap.size]? = some (.cells ROW 9 (0, 0)) := by rw [hW1]; exact heap_alloc_new w.drew _
 have hbN : b ≠ w.heap.size := by omega
 have hdl : (cs.drop i).length = n - i := by rw [List.length_drop, hcl]
 have Ox : ∀ j, W1.cell? ⟨b, j, none⟩ = w.cell? ⟨b, j, none⟩ := fun j => by rw [hW1, World.cell?_alloc_past (w := w.drew) _ b j hbw]; rfl
 have Oy : ∀ j, W1.cell? ⟨vb, j, none⟩ = w.cell? ⟨vb, j, none⟩ := fun j => by rw [hW1, World.cell?_alloc_past (w := w.drew) _ vb j hvw]; rfl
 have hcpA : ∀ (W : World), (∀ x, W.cell? x = W1.cell? x) -> (∀ x, W.frozen? x = W1.frozen? x) -> ∀ ty dc, (Builtin.copy_ #[38, 38] ty #[.slice (some ⟨w.heap.size, i, none⟩) (n + 1 - i) dc, .slice (some ⟨vb, vo, none⟩) 1 vc]).run Try.prog W = .ok (goInt 1) (W.setCells w.heap.size i [x]) := fun W hWc hWf ty dc =>
  run_copy_cells W _ _ ty 9 w.heap.size i (n + 1 - i) dc ⟨vb, vo, none⟩ 1 vc [x] Try.underlying38 hsz1 (by simp only [Nat.min_def, List.length_cons, List.length_nil]; split <;> omega)
   (fun j v hj => by
    cases j with
    | zero =>
     injection hj with hj
     subst hj
     rw [Addr.add_lit, hWc, Oy]
     exact (dP wL _).trans hx
    | succ j => cases hj)
   (fun j hj => by
    rw [hWc, dP hnew, Array.getElem?_eq_getElem (by simp only [List.length_cons, List.length_nil] at hj; omega)]
    rfl) (fun j hj => by rw [hWf]; exact ed hnew _) (fun v hv => by rw [List.mem_singleton.1 hv]; exact h1v)
 obtain ⟨SQ, k1, k2, k3⟩ := fM [x] i W1 ROW hnew (by simp only [List.length_cons, List.length_nil]; omega)
 have hcpB : ∀ (W : World), (∀ x_, W.cell? x_ = (W1.setCells w.heap.size i [x]).cell? x_) -> (∀ x_, W.frozen? x_ = (W1.setCells w.heap.size i [x]).frozen? x_) -> ∀ ty dc sc, (Builtin.copy_ #[38, 38] ty #[.slice (some ⟨w.heap.size, i + 1, none⟩) (n - i) dc, .slice (some ⟨b, off + i, none⟩) (n - i) sc]).run Try.prog W = .ok (goInt (cs.drop i).length) (W.setCells w.heap.size (i + 1) (cs.drop i)) := fun W hWc hWf ty dc sc =>
  run_copy_cells W _ _ ty 9 w.heap.size (i + 1) (n - i) dc ⟨b, off + i, none⟩ (n - i) sc (cs.drop i) Try.underlying38 hsz1 (by rw [hdl]; simp only [Nat.min_def]; split <;> omega)
   (fun j v hj => by
    rw [Addr.add_lit, hWc, World.cell?_setCells_out _ _ _ _ _ (fun h _ => absurd h hbN), Ox, Nat.add_assoc]
    exact hcc (i + j) v (by rwa [List.getElem?_drop] at hj))
   (fun j hj => by
    rw [hWc, dP k1, Array.getElem?_eq_getElem (by omega)]
    rfl)
   (fun j hj => by rw [hWf]; exact ed k1 _) (fun v hv => h1c v (List.mem_of_mem_drop hv))
 subst hW1
 have hE1 : ∀ x, ((w.alloc (.cells ROW 9)).drew).cell? x = (w.drew.alloc (.cells ROW 9)).cell? x := fun x => rfl
 have hE2 : ∀ x, ((w.alloc (.cells ROW 9)).drew).frozen? x = (w.drew.alloc (.cells ROW 9)).frozen? x := fun x => rfl
 have hF1 : ∀ x_, (((w.alloc (.cells ROW 9)).drew.setCells w.heap.size i [x]).drew).cell? x_ = ((w.drew.alloc (.cells ROW 9)).setCells w.heap.size i [x]).cell? x_ := fun x => rfl
 have hF2 : ∀ x_, (((w.alloc (.cells ROW 9)).drew.setCells w.heap.size i [x]).drew).frozen? x_ = ((w.drew.alloc (.cells ROW 9)).setCells w.heap.size i [x]).frozen? x_ := fun x => rfl
 have hz2 : ¬ ((i : Int) = (n : Int)) := by omega
 have hz3 : (c : Int) < (n : Int) + 1 := by omega
 have hw1 : IntKind.i64.wrap ((i : Int) + 1) = (i : Int) + 1 := by rw [IntKind.wrap_i64]; omega
 have hw2 : IntKind.i64.wrap ((n : Int) + 1) = (n : Int) + 1 := by rw [IntKind.wrap_i64]; omega
 have hw3 : IntKind.i64.wrap ((n : Int) + 1 - (i : Int)) = (n : Int) + 1 - (i : Int) := by rw [IntKind.wrap_i64]; omega
 have hb1 : (0 : Int) <= (i : Int) + 1 := by omega
 have hin : i <= n := by omega
 have htn : ((i : Int) + 1).toNat = i + 1 := by omega
 have hb3 : (i : Int) <= (n : Int) := by omega
 have hGi : ¬ (G = i) := by omega
 have hGim : ¬ (G = i + 1) := by omega
 have hci : ¬ (c = i) := by omega
 have hG9 : G <= 9223372036854775807 := by unfold maxLen at hG63; omega
 have HX := A_ (show n + 1 <= G /\ G <= maxLen /\ ROW.size = G /\ ROW.toList.take i = cs.take i from ⟨hGn, hG63, hRs, Vr⟩)
 clear hkk hik hcc hRs Vr hnew Ox Oy k1 k2 k3 wL hx hb hcs h1c h1v hG63
 go_enter Try.func136, Try.ntmps136
 go_wp2_with (first
  | (at_builtin; refine Lib.wpList_append_run _ rfl _ _ _ _ rfl _ _ rfl rfl _ _ (hrz _) ?_)
  | (at_builtin; refine wpList_copy_runI _ rfl _ _ 38 38 rfl _ _ rfl rfl (hcpA _ hE1 hE2 _ _) ?_)
  | (at_builtin; refine wpList_copy_runI _ rfl _ _ 38 38 rfl _ _ rfl rfl (hcpB _ (fun _ => rfl) (fun _ => rfl) _ _ _) ?_))
 go_region_law (refine step_copy_runI rfl _ _ 38 38 rfl (.slice (some ⟨w.heap.size, i + 1, none⟩) (n - i) (G - (i + 1))) (.slice (some ⟨b, off + i, none⟩) (n - i) (c - i)) (by simp [Act.eval, Act.put]) (by simp [Act.eval, Act.put]) (hcpB _ hF1 hF2 3 (G - (i + 1)) (c - i)) ?_)
 go_wp2
 go_ret
 exact ⟨G, ROW, HX.out.1, HX.out.2.1, HX.out.2.2.1, HX.out.2.2.2, rfl, rfl⟩
set_option maxHeartbeats 4000000 in
theorem FP (A : Option Addr) (n c : Nat) (vb vo vc : Nat) (w : World) {v1 : Value} {w1 : World} (hrun : ∀ ty, (Builtin.append_ #[99, 99] ty #[.slice A n c, .slice (some ⟨vb, vo, none⟩) 1 vc]).run Try.prog w = .ok v1 w1) :
  Calls Try.prog 128 #[.slice A n c, .int .i64 (n : Int), .slice (some ⟨vb, vo, none⟩) 1 vc] w fun e w' => e = .returned v1 /\ w' = w1 := by
 go_enter Try.func128, Try.ntmps128
 cases A with
 | none =>
  go_wp2_with (at_builtin; refine Lib.wpList_append_run _ rfl _ _ _ _ rfl _ _ rfl rfl _ _ (hrun _) ?_)
  all_goals (go_ret; exact ⟨rfl, rfl⟩)
 | some a =>
  obtain ⟨ab, ao, asp⟩ := a
  go_wp2_with (at_builtin; refine Lib.wpList_append_run _ rfl _ _ _ _ rfl _ _ rfl rfl _ _ (hrun _) ?_)
  all_goals (go_ret; exact ⟨rfl, rfl⟩)
set_option maxHeartbeats 4000000 in
theorem Cb (b off n c i vb vo vc : Nat) (cs : List Value) (x : Value) (w : World) (o5 cur : Array Value) (hi : i < n) (hroom : n + 1 <= c) (hc63 : off + c <= maxLen) (hvb : vb ≠ b)
  (wL : w.heap[vb]? = some (.cells o5 74 (0, 0))) (hx : o5[vo]? = some x) (hb : w.heap[b]? = some (.cells cur 74 (0, 0))) (hsz : cur.size = off + c) (hcs : (cur.toList.drop off).take n = cs) (hcl : cs.length = n)
  (h1c : ∀ v ∈ cs, v.oneCell' = true) (h1v : x.oneCell' = true) :
  Calls Try.prog 128 #[.slice (some ⟨b, off, none⟩) n c, .int .i64 (i : Int), .slice (some ⟨vb, vo, none⟩) 1 vc] w fun e w' =>
   e = .returned (.slice (some ⟨b, off, none⟩) (n + 1) c) /\ w' = (w.drew.setCells b (off + (i + 1)) (cs.drop i)).setCells b (off + i) [x] := by
 have hc' : c <= 9223372036854775807 := by unfold maxLen at hc63; omega
 have hn63 : n <= 9223372036854775806 := by omega
 have hsz1 := nZ pU
 have hcc : ∀ j v, cs[j]? = some v -> w.cell? ⟨b, off + j, none⟩ = some v := fun j v hj => by
  rw [dP hb, <- Array.getElem?_toList]
  exact oh hcs hj
 have hsp : ∀ j, j < n + 1 -> (w.cell? ⟨b, off + j, none⟩).isSome = true := fun j hj => by
  rw [dP hb, Array.getElem?_eq_getElem (by omega)]
  rfl
 have hfz : ∀ j, w.frozen? ⟨b, j, none⟩ = false := ed hb
 have hov : ∀ lb cb, (callFunc 137 #[.slice (some ⟨vb, vo, none⟩) 1 vc, .slice (some ⟨b, off + (i + 1), none⟩) lb cb]).run Try.prog w = .ok (.value (.bool false)) w := fun lb cb => by
  rw [run_callFunc_extern Try.func137 (by kernel_rfl) (by kernel_rfl) (by kernel_rfl) (e := Extern.SlicesOverlaps.overlaps #[99, 99] #[4]) (by kernel_rfl),
   Lib.run_overlaps_apart w 99 4 74 Try.underlying99 1 (run_sizeOf pU) ⟨vb, vo, none⟩ ⟨b, off + (i + 1), none⟩ 1 vc lb cb hvb _ _ _ _ (tY wL) (tY hb) (by omega) (ed wL vo) (ed wL _)]
  rfl
 have hdl : (cs.drop i).length = n - i := by rw [List.length_drop, hcl]
 have hz2 : ¬ ((i : Int) = (n : Int)) := by omega
 have hw1 : IntKind.i64.wrap ((i : Int) + 1) = (i : Int) + 1 := by rw [IntKind.wrap_i64]; omega
 have hw2 : IntKind.i64.wrap ((n : Int) + 1) = (n : Int) + 1 := by rw [IntKind.wrap_i64]; omega
 have hb1 : (0 : Int) <= (i : Int) + 1 := by omega
 have hin : i <= n := by omega
 have htn : ((i : Int) + 1).toNat = i + 1 := by omega
 have htn2 : ((n : Int) + 1).toNat = n + 1 := by omega
 have hb2 : ¬ (c = i + 1) := by omega
 have hb3 : (i : Int) <= (n : Int) + 1 := by omega
 have hb4 : ¬ (c = i) := by omega
 have hb5 : ¬ ((c : Int) < (n : Int) + 1) := by omega
 have hcp1 : ∀ ty dc sc, (Builtin.copy_ #[99, 99] ty #[.slice (some ⟨b, off + (i + 1), none⟩) (n - i) dc, .slice (some ⟨b, off + i, none⟩) (n + 1 - i) sc]).run Try.prog w.drew = .ok (goInt (cs.drop i).length) (w.drew.setCells b (off + (i + 1)) (cs.drop i)) := fun ty dc sc =>
  run_copy_cells w.drew _ _ ty 74 b (off + (i + 1)) (n - i) dc ⟨b, off + i, none⟩ (n + 1 - i) sc (cs.drop i) Try.underlying99 hsz1 (by rw [hdl]; simp only [Nat.min_def]; split <;> omega)
   (fun j v hj => by rw [Addr.add_lit, Nat.add_assoc]; exact hcc (i + j) v (by rwa [List.getElem?_drop] at hj))
   (fun j hj => by rw [Nat.add_assoc]; exact hsp _ (by omega)) (fun j hj => hfz _) (fun v hv => h1c v (List.mem_of_mem_drop hv))
 obtain ⟨W1, hW1⟩ : ∃ W1, W1 = w.drew.setCells b (off + (i + 1)) (cs.drop i) := ⟨_, rfl⟩
 obtain ⟨SQ, k1, k2, k3⟩ := fM (cs.drop i) (off + (i + 1)) w.drew cur hb (by rw [hdl]; omega)
 rw [<- hW1] at k1
 have hcp2 : ∀ (W : World), (∀ x, W.cell? x = W1.cell? x) -> (∀ x, W.frozen? x = W1.frozen? x) -> ∀ ty dc, (Builtin.copy_ #[99, 99] ty #[.slice (some ⟨b, off + i, none⟩) (n + 1 - i) dc, .slice (some ⟨vb, vo, none⟩) 1 vc]).run Try.prog W = .ok (goInt 1) (W.setCells b (off + i) [x]) := fun W hWc hWf ty dc =>
  run_copy_cells W _ _ ty 74 b (off + i) (n + 1 - i) dc ⟨vb, vo, none⟩ 1 vc [x] Try.underlying99 hsz1 (by simp only [Nat.min_def, List.length_cons, List.length_nil]; split <;> omega)
   (fun j v hj => by
    cases j with
    | zero =>
     injection hj with hj
     subst hj
     rw [Addr.add_lit, hWc, hW1, World.cell?_setCells_out b _ _ _ _ (fun h _ => absurd h hvb)]
     exact (dP wL _).trans hx
    | succ j => cases hj)
   (fun j hj => by
    rw [hWc, dP k1, Array.getElem?_eq_getElem (by simp only [List.length_cons, List.length_nil] at hj; omega)]
    rfl) (fun j hj => by rw [hWf]; exact ed k1 _) (fun v hv => by rw [List.mem_singleton.1 hv]; exact h1v)
 rw [<- hW1] at hcp1
 clear hcc hsp hfz k1 k2 k3 h1c h1v wL hb hsz hcs hx
 go_enter Try.func128, Try.ntmps128
 go_wp2_with (simp only [hov])
 go_region_law (refine step_copy_runI rfl _ _ 99 99 rfl _ _ (by simp [Act.eval, Act.put]) (by simp [Act.eval, Act.put]) (hcp1 _ _ _) ?_)
 go_wp2_with (at_builtin; refine wpList_copy_runI _ rfl _ _ 99 99 rfl _ _ rfl rfl (hcp2 _ (fun _ => rfl) (fun _ => rfl) _ _) ?_)
 go_ret
 first | exact ⟨rfl, rfl⟩ | exact ⟨rfl, by rw [hW1]⟩
set_option maxHeartbeats 4000000 in
theorem Eg (b off n c i vb vo vc : Nat) (cs : List Value) (x : Value) (w : World) (o5 cur : Array Value) (hi : i < n) (hnc : n <= c) (hroom : c < n + 1) (hbig : (n + 1) * 8 <= 140737488355328)
  (wL : w.heap[vb]? = some (.cells o5 74 (0, 0))) (hx : o5[vo]? = some x) (hb : w.heap[b]? = some (.cells cur 74 (0, 0))) (hcs : (cur.toList.drop off).take n = cs) (hcl : cs.length = n)
  (h1c : ∀ v ∈ cs, v.oneCell' = true) (h1v : x.oneCell' = true) :
  Calls Try.prog 128 #[.slice (some ⟨b, off, none⟩) n c, .int .i64 (i : Int), .slice (some ⟨vb, vo, none⟩) 1 vc] w fun e w' =>
   ∃ (G : Nat) (ROW : Array Value), n + 1 <= G /\ G <= maxLen /\ ROW.size = G /\ ROW.toList.take i = cs.take i /\ e = .returned (.slice (some ⟨w.heap.size, 0, none⟩) (n + 1) G) /\
   w' = (((w.alloc (.cells ROW 74)).drew.setCells w.heap.size i [x]).drew).setCells w.heap.size (i + 1) (cs.drop i) := by
 have hn63 : n <= 9223372036854775806 := by omega
 have hsz1 := nZ pU
 obtain ⟨i0, hi0, hzz⟩ := Option.map_eq_some_iff.1 pU
 simp only [Prod.mk.injEq] at hzz
 obtain ⟨hz0, hzs, hzb⟩ := hzz
 have hbw : b < w.heap.size := gF hb
 have hvw : vb < w.heap.size := gF wL
 have hcc : ∀ j v, cs[j]? = some v -> w.cell? ⟨b, off + j, none⟩ = some v := fun j v hj => by
  rw [dP hb, <- Array.getElem?_toList]
  exact oh hcs hj
 have hkk : (n : Int) + 1 - (i : Int) = ((n + 1 - i : Nat) : Int) := by omega
 have hik : i + (n + 1 - i) = n + 1 := by omega
 have hold : (Builtin.firstCells i0.size i (.slice (some ⟨b, off, none⟩) i c)).run Try.prog w.drew = .ok (cs.take i).toArray w.drew := by
  rw [hzs]
  exact run_firstCells_some w.drew 1 i ⟨b, off, none⟩ i c (cs.take i) (by rw [List.length_take]; omega) (fun j v hj => by
   rw [Addr.add_lit]
   rw [List.getElem?_take] at hj
   split at hj
   ·exact hcc j v hj
   ·cases hj)
 obtain ⟨G, hG⟩ : ∃ G, G = grownCap w (n + 1) c 74 := ⟨_, rfl⟩
 have hGn : n + 1 <= G := by rw [hG]; exact grownCap_ge w _ _ _
 have hG63 : G <= maxLen := by rw [hG]; exact grownCap_le_maxLen w (n + 1) c 74 (by unfold maxLen; omega)
 obtain ⟨ROW, hROW⟩ : ∃ ROW : Array Value, ROW = (cs.take i).toArray ++ Builtin.zeroCells (Value.cells (.pointer none)) (n + 1 - i) ++ Builtin.zeroCells (Value.cells (.pointer none)) (G - (n + 1)) := ⟨_, rfl⟩
 have hRs : ROW.size = G := by
  rw [hROW]
  simp [Builtin.zeroCells, Value.cells]
  omega
 have Vr : ROW.toList.take i = cs.take i := by
  have hlt : (cs.take i).length = i := by rw [List.length_take]; omega
  rw [hROW]
  simp only [Array.toList_append, List.append_assoc]
  rw [List.take_append_of_le_length (by rw [hlt]; exact Nat.le_refl _), List.take_of_length_le (by rw [hlt]; exact Nat.le_refl _)]
 have hrz : ∀ ty, (Builtin.append_ #[99, 3] ty #[.slice (some ⟨b, off, none⟩) i c, .int .i64 ((n : Int) + 1 - (i : Int))]).run Try.prog w = .ok (.slice (some ⟨w.heap.size, 0, none⟩) (n + 1) G) (w.drew.alloc (.cells ROW 74)) := fun ty => by
  have h := Lib.run_append_grow_zeros w 99 3 ty 74 i0 _ .i64 .i64 Try.underlying99 Try.underlying3 hi0 hz0 (some ⟨b, off, none⟩) i c (cs.take i) hold (n + 1 - i) (by omega) (by omega) (by omega) (by omega) (by rw [hzb]; omega) (by rw [hzb, hik]; exact growslice_fits hroom hbig)
  rw [hik, <- hG, <- hROW] at h
  rw [hkk]
  exact h
 clear hold hROW hG
 obtain ⟨W1, hW1⟩ : ∃ W1, W1 = w.drew.alloc (.cells ROW 74) := ⟨_, rfl⟩
 rw [<- hW1] at hrz
 have hnew : W1.heap[w.heap.size]? = some (.cells ROW 74 (0, 0)) := by rw [hW1]; exact heap_alloc_new w.drew _
 have hbN : b ≠ w.heap.size := by omega
 have hdl : (cs.drop i).length = n - i := by rw [List.length_drop, hcl]
 have Ox : ∀ j, W1.cell? ⟨b, j, none⟩ = w.cell? ⟨b, j, none⟩ := fun j => by rw [hW1, World.cell?_alloc_past (w := w.drew) _ b j hbw]; rfl
 have Oy : ∀ j, W1.cell? ⟨vb, j, none⟩ = w.cell? ⟨vb, j, none⟩ := fun j => by rw [hW1, World.cell?_alloc_past (w := w.drew) _ vb j hvw]; rfl
 have hcpA : ∀ (W : World), (∀ x, W.cell? x = W1.cell? x) -> (∀ x, W.frozen? x = W1.frozen? x) -> ∀ ty dc, (Builtin.copy_ #[99, 99] ty #[.slice (some ⟨w.heap.size, i, none⟩) (n + 1 - i) dc, .slice (some ⟨vb, vo, none⟩) 1 vc]).run Try.prog W = .ok (goInt 1) (W.setCells w.heap.size i [x]) := fun W hWc hWf ty dc =>
  run_copy_cells W _ _ ty 74 w.heap.size i (n + 1 - i) dc ⟨vb, vo, none⟩ 1 vc [x] Try.underlying99 hsz1 (by simp only [Nat.min_def, List.length_cons, List.length_nil]; split <;> omega)
   (fun j v hj => by
    cases j with
    | zero =>
     injection hj with hj
     subst hj
     rw [Addr.add_lit, hWc, Oy]
     exact (dP wL _).trans hx
    | succ j => cases hj)
   (fun j hj => by
    rw [hWc, dP hnew, Array.getElem?_eq_getElem (by simp only [List.length_cons, List.length_nil] at hj; omega)]
    rfl) (fun j hj => by rw [hWf]; exact ed hnew _) (fun v hv => by rw [List.mem_singleton.1 hv]; exact h1v)
 obtain ⟨SQ, k1, k2, k3⟩ := fM [x] i W1 ROW hnew (by simp only [List.length_cons, List.length_nil]; omega)
 have hcpB : ∀ (W : World), (∀ x_, W.cell? x_ = (W1.setCells w.heap.size i [x]).cell? x_) -> (∀ x_, W.frozen? x_ = (W1.setCells w.heap.size i [x]).frozen? x_) -> ∀ ty dc sc, (Builtin.copy_ #[99, 99] ty #[.slice (some ⟨w.heap.size, i + 1, none⟩) (n - i) dc, .slice (some ⟨b, off + i, none⟩) (n - i) sc]).run Try.prog W = .ok (goInt (cs.drop i).length) (W.setCells w.heap.size (i + 1) (cs.drop i)) := fun W hWc hWf ty dc sc =>
  run_copy_cells W _ _ ty 74 w.heap.size (i + 1) (n - i) dc ⟨b, off + i, none⟩ (n - i) sc (cs.drop i) Try.underlying99 hsz1 (by rw [hdl]; simp only [Nat.min_def]; split <;> omega)
   (fun j v hj => by
    rw [Addr.add_lit, hWc, World.cell?_setCells_out _ _ _ _ _ (fun h _ => absurd h hbN), Ox, Nat.add_assoc]
    exact hcc (i + j) v (by rwa [List.getElem?_drop] at hj))
   (fun j hj => by
    rw [hWc, dP k1, Array.getElem?_eq_getElem (by omega)]
    rfl)
   (fun j hj => by rw [hWf]; exact ed k1 _) (fun v hv => h1c v (List.mem_of_mem_drop hv))
 subst hW1
 have hE1 : ∀ x, ((w.alloc (.cells ROW 74)).drew).cell? x = (w.drew.alloc (.cells ROW 74)).cell? x := fun x => rfl
 have hE2 : ∀ x, ((w.alloc (.cells ROW 74)).drew).frozen? x = (w.drew.alloc (.cells ROW 74)).frozen? x := fun x => rfl
 have hF1 : ∀ x_, (((w.alloc (.cells ROW 74)).drew.setCells w.heap.size i [x]).drew).cell? x_ = ((w.drew.alloc (.cells ROW 74)).setCells w.heap.size i [x]).cell? x_ := fun x => rfl
 have hF2 : ∀ x_, (((w.alloc (.cells ROW 74)).drew.setCells w.heap.size i [x]).drew).frozen? x_ = ((w.drew.alloc (.cells ROW 74)).setCells w.heap.size i [x]).frozen? x_ := fun x => rfl
 have hz2 : ¬ ((i : Int) = (n : Int)) := by omega
 have hz3 : (c : Int) < (n : Int) + 1 := by omega
 have hw1 : IntKind.i64.wrap ((i : Int) + 1) = (i : Int) + 1 := by rw [IntKind.wrap_i64]; omega
 have hw2 : IntKind.i64.wrap ((n : Int) + 1) = (n : Int) + 1 := by rw [IntKind.wrap_i64]; omega
 have hw3 : IntKind.i64.wrap ((n : Int) + 1 - (i : Int)) = (n : Int) + 1 - (i : Int) := by rw [IntKind.wrap_i64]; omega
 have hb1 : (0 : Int) <= (i : Int) + 1 := by omega
 have hin : i <= n := by omega
 have htn : ((i : Int) + 1).toNat = i + 1 := by omega
 have hb3 : (i : Int) <= (n : Int) := by omega
 have hGi : ¬ (G = i) := by omega
 have hGim : ¬ (G = i + 1) := by omega
 have hci : ¬ (c = i) := by omega
 have hG9 : G <= 9223372036854775807 := by unfold maxLen at hG63; omega
 have HX := A_ (show n + 1 <= G /\ G <= maxLen /\ ROW.size = G /\ ROW.toList.take i = cs.take i from ⟨hGn, hG63, hRs, Vr⟩)
 clear hkk hik hcc hRs Vr hnew Ox Oy k1 k2 k3 wL hx hb hcs h1c h1v hG63
 go_enter Try.func128, Try.ntmps128
 go_wp2_with (first
  | (at_builtin; refine Lib.wpList_append_run _ rfl _ _ _ _ rfl _ _ rfl rfl _ _ (hrz _) ?_)
  | (at_builtin; refine wpList_copy_runI _ rfl _ _ 99 99 rfl _ _ rfl rfl (hcpA _ hE1 hE2 _ _) ?_)
  | (at_builtin; refine wpList_copy_runI _ rfl _ _ 99 99 rfl _ _ rfl rfl (hcpB _ (fun _ => rfl) (fun _ => rfl) _ _ _) ?_))
 go_region_law (refine step_copy_runI rfl _ _ 99 99 rfl (.slice (some ⟨w.heap.size, i + 1, none⟩) (n - i) (G - (i + 1))) (.slice (some ⟨b, off + i, none⟩) (n - i) (c - i)) (by simp [Act.eval, Act.put]) (by simp [Act.eval, Act.put]) (hcpB _ hF1 hF2 3 (G - (i + 1)) (c - i)) ?_)
 go_wp2
 go_ret
 exact ⟨G, ROW, HX.out.1, HX.out.2.1, HX.out.2.2.1, HX.out.2.2.2, rfl, rfl⟩
theorem lS (w : World) (b o : Nat) (vs : List Value) : w.grownBy (w.setCells b o vs) (some b) := by
 obtain ⟨h1, h2, h3, h4⟩ := kL b vs o w
 exact ⟨h1, h2, h3, by omega, fun k _ hk => lT vs o k fun e => hk (by rw [e])⟩
theorem Aw (w : World) (row : Option Nat) : w.grownBy w.drew row := ⟨rfl, rfl, rfl, Nat.le_refl _, fun _ _ _ => rfl⟩
theorem KU {α : Type} {R cs D : List α} {x : α} {i n : Nat} (h : R.take i = cs.take i) (hn : cs.length = n) (hi : i <= n) :
  ((R.take i ++ [x] ++ D).take (i + 1) ++ cs.drop i ++ (R.take i ++ [x] ++ D).drop (i + 1 + (cs.drop i).length)).take (n + 1) = aI cs i x := by
 have hl : (cs.take i ++ [x]).length = i + 1 := by rw [List.length_append, List.length_take]; simp only [List.length_cons, List.length_nil]; omega
 have h2 : (cs.take i ++ [x] ++ D).take (i + 1) = cs.take i ++ [x] := by rw [<- hl]; exact List.take_left
 rw [h, h2]
 have e : cs.take i ++ [x] ++ cs.drop i = aI cs i x := by unfold aI; rw [List.append_assoc]; rfl
 rw [e, <- hn, <- eG x (hn ▸ hi)]
 exact List.take_left
theorem JX {w : World} {base E : Nat} {lv x : Value} (h : w.ownsRow base E 1 lv 1 [x]) : ∃ vb vc o5, lv = .slice (some ⟨vb, 0, none⟩) 1 vc /\ w.heap[vb]? = some (.cells o5 E (0, 0)) /\ o5[0]? = some x := by
 rcases h.2 with ⟨_, h0⟩ | ⟨g, cap, cur, rfl, _, hh, _, _, _, ht⟩
 ·omega
 ·refine ⟨g, cap, cur, rfl, hh, ?_⟩
  rw [Nat.mul_one] at ht
  rw [<- Array.getElem?_toList]
  have := congrArg (fun l => l[0]?) ht
  simp only [List.getElem?_take] at this
  simpa using this
theorem FQ {w : World} {vb E : Nat} {o5 : Array Value} {x : Value} (wL : w.heap[vb]? = some (.cells o5 E (0, 0))) (hx : o5[0]? = some x) : ∀ j u, [x][j]? = some u -> w.cell? ((⟨vb, 0, none⟩ : Addr).add j) = some u := fun j u hj => by
 cases j with
 | zero =>
  injection hj with hj
  subst hj
  rw [Addr.add_lit]
  exact (dP wL _).trans hx
 | succ j => cases hj
theorem FR {w : World} {base E n G i : Nat} {ROW : Array Value} {cs : List Value} {x : Value} (hbase : base <= w.heap.size) (hi : i <= n) (hcl : cs.length = n) (h1 : n + 1 <= G) (h2 : G <= maxLen) (h3 : ROW.size = G) (h4 : ROW.toList.take i = cs.take i) :
  ((((w.alloc (.cells ROW E)).drew.setCells w.heap.size i [x]).drew).setCells w.heap.size (i + 1) (cs.drop i)).ownsRow base E 1 (.slice (some ⟨w.heap.size, 0, none⟩) (n + 1) G) (n + 1) (aI cs i x) /\
  ∀ row, w.grownBy ((((w.alloc (.cells ROW E)).drew.setCells w.heap.size i [x]).drew).setCells w.heap.size (i + 1) (cs.drop i)) row := by
 have hnew : (w.alloc (.cells ROW E)).drew.heap[w.heap.size]? = some (.cells ROW E (0, 0)) := heap_alloc_new w _
 have hdl : (cs.drop i).length = n - i := by rw [List.length_drop, hcl]
 obtain ⟨c1, k1, k2, k3⟩ := fM [x] i _ ROW hnew (by simp only [List.length_cons, List.length_nil]; omega)
 obtain ⟨c2, k4, k5, k6⟩ := fM (cs.drop i) (i + 1) (((w.alloc (.cells ROW E)).drew.setCells w.heap.size i [x]).drew) c1 k1 (by omega)
 refine ⟨⟨by rw [eG x (by omega)]; omega, .inr ⟨_, G, c2, rfl, hbase, k4, h1, h2, by omega, ?_⟩⟩, fun row => ?_⟩
 ·rw [Nat.mul_one, k6, k3]
  exact KU h4 hcl hi
 ·obtain ⟨a1, a2, a3, a4⟩ := kL w.heap.size [x] i (w.alloc (.cells ROW E)).drew
  obtain ⟨b1, b2, b3, b4⟩ := kL w.heap.size (cs.drop i) (i + 1) (((w.alloc (.cells ROW E)).drew.setCells w.heap.size i [x]).drew)
  refine ⟨b1.trans a1, b2.trans a2, b3.trans a3, ?_, fun k hk _ => ?_⟩
  ·rw [b4]
   show w.heap.size <= ((w.alloc (.cells ROW E)).drew.setCells w.heap.size i [x]).heap.size
   rw [a4]
   show w.heap.size <= (w.alloc (.cells ROW E)).heap.size
   simp
  ·rw [lT _ _ k (by omega)]
   show ((w.alloc (.cells ROW E)).drew.setCells w.heap.size i [x]).heap[k]? = _
   rw [lT _ _ k (by omega)]
   exact (World.grownBy_alloc w (.cells ROW E) none).block k hk (by simp)
theorem Eh {w : World} {base b E n c : Nat} {cur : Array Value} {xs : List Value} (hb : w.heap[b]? = some (.cells cur E (0, 0))) (hs : cur.size = 0 + c) (ht : (cur.toList.drop 0).take n = xs) (hn : n <= c) (hm : 0 + c <= maxLen) (hbase : base <= b) : w.ownsRow base E 1 (.slice (some ⟨b, 0, none⟩) n c) n xs := by
 refine ⟨?_, .inr ⟨b, c, cur, rfl, hbase, hb, hn, by omega, by omega, by rw [Nat.mul_one]; exact ht⟩⟩
 rw [<- ht, List.length_take, List.length_drop, Array.length_toList]
 omega
theorem Po {base n c i : Nat} {A : Option Addr} {cs : List Value} {lv x : Value} {w : World} (hq : w.ownsRow base 9 1 (.slice A n c) n cs) (hl : w.ownsRow base 9 1 lv 1 [x]) (hne : ∀ k, (Value.slice A n c).ownBlock = some k -> lv.ownBlock ≠ some k)
  (hi : i <= n) (hbase : base <= w.heap.size) (hbig : (n + 1) * 16 <= 140737488355328) (h1c : ∀ v ∈ cs, v.oneCell' = true) (h1v : x.oneCell' = true) :
  Calls Try.prog 136 #[.slice A n c, .int .i64 (i : Int), lv] w fun e w' => ∃ A' c', e = .returned (.slice A' (n + 1) c') /\ w'.ownsRow base 9 1 (.slice A' (n + 1) c') (n + 1) (aI cs i x) /\ w.grownBy w' (Value.slice A n c).ownBlock /\
   ((Value.slice A' (n + 1) c').ownBlock = (Value.slice A n c).ownBlock ∨ ∃ b, (Value.slice A' (n + 1) c').ownBlock = some b /\ w.heap.size <= b) := by
 obtain ⟨vb, vc, o5, rfl, wL, hx⟩ := JX hl
 have hcl : cs.length = n := by rw [hq.1, Nat.mul_one]
 obtain ⟨i0, hi0, hzz⟩ := Option.map_eq_some_iff.1 dh
 simp only [Prod.mk.injEq] at hzz
 obtain ⟨hz0, hzs, hzb⟩ := hzz
 rcases Nat.lt_or_ge i n with hin | hin
 ·rcases hq.2 with ⟨_, h0⟩ | ⟨b, cap, cur, e, hbb, hb, hnc, hmx, hsz, ht⟩
  ·omega
  injection e with e1 e2 e3
  subst e1 e3
  rw [Nat.mul_one] at hsz ht
  replace hmx : 0 + c <= maxLen := by omega
  replace hsz : cur.size = 0 + c := by omega
  rw [show cur.toList = cur.toList.drop 0 from rfl] at ht
  have hvb : vb ≠ b := fun e => hne b rfl (by rw [e]; rfl)
  rcases Nat.lt_or_ge c (n + 1) with hroom | hroom
  ·refine (Ef b 0 n c i vb 0 vc cs x w o5 cur hin hnc hroom hbig wL hx hb ht hcl h1c h1v).mono ?_
   rintro e w' ⟨G, ROW, g1, g2, g3, g4, rfl, rfl⟩
   obtain ⟨o1, o2⟩ := FR (E := 9) (x := x) hbase hi hcl g1 g2 g3 g4
   exact ⟨_, _, rfl,  o1, o2 _, .inr ⟨_, rfl, Nat.le_refl _⟩⟩
  ·refine (Ca b 0 n c i vb 0 vc cs x w o5 cur hin hroom hmx hvb wL hx hb hsz ht hcl h1c h1v).mono ?_
   rintro e w' ⟨rfl, rfl⟩
   obtain ⟨cur2, j1, j2, j3⟩ := Dn (w := w.drew) (x := x) hb hsz ht hroom hin
   refine ⟨_, _, rfl, Eh j1 j2 j3 hroom hmx hbb, ?_, .inl rfl⟩
   exact ((Aw w _).trans (lS _ _ _ _)).trans (lS _ _ _ _)
 ·obtain rfl : i = n := Nat.le_antisymm hi hin
  have hnews := FQ wL hx
  have Xu : ∀ u ∈ [x], u.oneCell' = true := fun u hu => by rw [List.mem_singleton.1 hu]; exact h1v
  have Oz := fun ty => run_append_own_at (P := Try.prog) w base 38 ty 9 i0 (.string ⟨#[]⟩) 1 16 Try.underlying38 hi0 hz0 hzs hzb rfl (by decide) (.slice A i c) i cs hq ⟨vb, 0, none⟩ 1 vc [x] rfl hnews Xu (by unfold maxLen; omega) hbig hbase
  obtain ⟨v1, w1, hrun, ho, hg, _, hat0⟩ := Oz 0
  have hrun : ∀ ty, (Builtin.append_ #[38, 38] ty #[.slice A i c, .slice (some ⟨vb, 0, none⟩) 1 vc]).run Try.prog w = .ok v1 w1 := fun ty => hrun
  have hat : v1.ownBlock = (Value.slice A i c).ownBlock ∨ ∃ b, v1.ownBlock = some b /\ w.heap.size <= b := hat0.imp id fun h => ⟨_, h, Nat.le_refl _⟩
  have Xv : aI cs i x = cs ++ [x] := by unfold aI; rw [List.take_of_length_le (by omega), List.drop_eq_nil_of_le (by omega)]
  obtain ⟨A', c', rfl⟩ : ∃ A' c', v1 = .slice A' (i + 1) c' := by
   rcases ho.2 with ⟨_, h0⟩ | ⟨g, cap, cur, e, _⟩
   ·omega
   ·exact ⟨_, _, e⟩
  refine (FO A i c vb 0 vc w hrun).mono ?_
  rintro e w' ⟨rfl, rfl⟩
  exact ⟨A', c', rfl, by rw [Xv]; exact ho, hg, hat⟩
theorem Pp {base n c i : Nat} {A : Option Addr} {cs : List Value} {lv x : Value} {w : World} (hq : lZ w base 74 1 (.slice A n c) n cs) (hl : w.ownsRow base 74 1 lv 1 [x]) (hne : ∀ k, (Value.slice A n c).ownBlock = some k -> lv.ownBlock ≠ some k)
  (hi : i <= n) (hbase : base <= w.heap.size) (hbig : (n + 1) * 8 <= 140737488355328) (h1c : ∀ v ∈ cs, v.oneCell' = true) (h1v : x.oneCell' = true) :
  Calls Try.prog 128 #[.slice A n c, .int .i64 (i : Int), lv] w fun e w' => ∃ A' c', e = .returned (.slice A' (n + 1) c') /\ lZ w' base 74 1 (.slice A' (n + 1) c') (n + 1) (aI cs i x) /\ w.grownBy w' (Value.slice A n c).ownBlock /\
   ((Value.slice A' (n + 1) c').ownBlock = (Value.slice A n c).ownBlock ∨ ∃ b, (Value.slice A' (n + 1) c').ownBlock = some b /\ w.heap.size <= b) := by
 obtain ⟨vb, vc, o5, rfl, wL, hx⟩ := JX hl
 have hcl : cs.length = n := by rw [hq.1, Nat.mul_one]
 obtain ⟨i0, hi0, hzz⟩ := Option.map_eq_some_iff.1 pU
 simp only [Prod.mk.injEq] at hzz
 obtain ⟨hz0, hzs, hzb⟩ := hzz
 rcases Nat.lt_or_ge i n with hin | hin
 ·rcases hq.2 with ⟨h0, _⟩ | ⟨b, off, cap, cur, e, hbb, hb, hnc, hmx, hsz, ht⟩
  ·omega
  rw [Nat.mul_one] at e
  injection e with e1 e2 e3
  subst e1 e3
  rw [Nat.mul_one] at hsz ht
  rw [Nat.mul_one] at ht
  have hvb : vb ≠ b := fun e => hne b rfl (by rw [e]; rfl)
  rcases Nat.lt_or_ge c (n + 1) with hroom | hroom
  ·refine (Eg b off n c i vb 0 vc cs x w o5 cur hin hnc hroom hbig wL hx hb ht hcl h1c h1v).mono ?_
   rintro e w' ⟨G, ROW, g1, g2, g3, g4, rfl, rfl⟩
   obtain ⟨o1, o2⟩ := FR (E := 74) (x := x) hbase hi hcl g1 g2 g3 g4
   exact ⟨_, _, rfl, wu o1, o2 _, .inr ⟨_, rfl, Nat.le_refl _⟩⟩
  ·refine (Cb b off n c i vb 0 vc cs x w o5 cur hin hroom hmx hvb wL hx hb hsz ht hcl h1c h1v).mono ?_
   rintro e w' ⟨rfl, rfl⟩
   obtain ⟨cur2, j1, j2, j3⟩ := Dn (w := w.drew) (x := x) hb hsz ht hroom hin
   refine ⟨_, _, rfl, Ih j1 j2 j3 hroom hmx hbb, ?_, .inl rfl⟩
   exact ((Aw w _).trans (lS _ _ _ _)).trans (lS _ _ _ _)
 ·obtain rfl : i = n := Nat.le_antisymm hi hin
  have hnews := FQ wL hx
  have Xu : ∀ u ∈ [x], u.oneCell' = true := fun u hu => by rw [List.mem_singleton.1 hu]; exact h1v
  have Oz := fun ty => zS (P := Try.prog) w base 99 ty 74 i0 (.pointer none) 1 8 Try.underlying99 hi0 hz0 hzs hzb rfl (by decide) (.slice A i c) i cs hq ⟨vb, 0, none⟩ 1 vc [x] rfl hnews Xu (by decide) (by unfold maxLen; omega) hbig hbase
  obtain ⟨v1, w1, hrun, ho, hg, hat⟩ := Oz 0
  have hrun : ∀ ty, (Builtin.append_ #[99, 99] ty #[.slice A i c, .slice (some ⟨vb, 0, none⟩) 1 vc]).run Try.prog w = .ok v1 w1 := fun ty => hrun
  have Xv : aI cs i x = cs ++ [x] := by unfold aI; rw [List.take_of_length_le (by omega), List.drop_eq_nil_of_le (by omega)]
  obtain ⟨A', c', rfl⟩ : ∃ A' c', v1 = .slice A' (i + 1) c' := by
   rcases ho.2 with ⟨h0, _⟩ | ⟨g, off, cap, cur, e, _⟩
   ·omega
   ·exact ⟨_, _, e⟩
  refine (FP A i c vb 0 vc w hrun).mono ?_
  rintro e w' ⟨rfl, rfl⟩
  exact ⟨A', c', rfl, by rw [Xv]; exact ho, hg, hat⟩
section
variable {w w0 : World} {base : Nat} {gs : List (List Ck)}
theorem Ei {ia ib i c : Nat} {A : Option Addr} {l : List ByteArray} {lv : Value} {x : ByteArray} (HS : aa w base gs) (hia : gs[ia]? = some [txt (.slice A l.length c) l]) (hib : gs[ib]? = some [txt lv [x]]) (hne : ia ≠ ib) (hi : i <= l.length) (hbase : base <= w.heap.size) (hbig : l.length <= 1000000000000) (HB : Below base w0 w) :
  Calls Try.prog 136 #[.slice A l.length c, .int .i64 (i : Int), lv] w fun e w' => ∃ A' c', e = .returned (.slice A' (aI l i x).length c') /\ aa w' base (gs.set ia [txt (.slice A' (aI l i x).length c') (aI l i x)]) /\ Below base w0 w' := by
 have h1 : w.ownsRow base 9 1 (.slice A l.length c) l.length (encs Value.string l) := by
  have := (HS.at ia hia).ok _ List.mem_cons_self
  have h2 : w.ownsRow base 9 1 (.slice A l.length c) (encs Value.string l).length (encs Value.string l) := this
  rwa [cB] at h2
 have h2 : w.ownsRow base 9 1 lv 1 [Value.string x] := (HS.at ib hib).ok _ List.mem_cons_self
 have h3 := HS.Hz hne hia hib _ List.mem_cons_self _ List.mem_cons_self
 have hin : aI (encs Value.string l) i (Value.string x) = encs Value.string (aI l i x) := by unfold encs; rw [jr]
 have hln := eG x hi
 refine (Po h1 h2 (fun k hk => h3 k hk) hi hbase (by omega) (fun v hv => by
  obtain ⟨b, _, rfl⟩ := List.mem_map.1 hv
  rfl) rfl).mono ?_
 rintro e w' ⟨A', c', rfl, ho, hg, hat⟩
 rw [hin] at ho
 rw [<- hln] at ho hat ⊢
 refine ⟨A', c', rfl, HS.turn ia hia (Sat.one (c := txt (.slice A' (aI l i x).length c') (aI l i x)) ?_) ⟨hg.size, fun k hk hnot => hg.block k hk fun he => hnot ⟨_, List.mem_singleton_self _, he.symm⟩⟩ (qV hat), HB.grown hg hbase fun k hk => ((HS.at ia hia).ge ⟨_, List.mem_cons_self, hk⟩)⟩
 show w'.ownsRow base 9 1 _ (encs Value.string (aI l i x)).length (encs Value.string (aI l i x))
 rw [cB]
 exact ho
theorem Ro {ia ib i c : Nat} {A : Option Addr} {l : List NT} {lv : Value} {r : NT} (HS : aa w base gs) (hia : gs[ia]? = some [.jE 74 (.slice A l.length c) (ptrs l)]) (hib : gs[ib]? = some [.own 74 lv [bG r.p]]) (hne : ia ≠ ib) (hi : i <= l.length) (hbase : base <= w.heap.size) (hbig : l.length <= 1000000000000) (HB : Below base w0 w) :
  Calls Try.prog 128 #[.slice A l.length c, .int .i64 (i : Int), lv] w fun e w' => ∃ A' c', e = .returned (.slice A' (aI l i r).length c') /\ aa w' base (gs.set ia [.jE 74 (.slice A' (aI l i r).length c') (ptrs (aI l i r))]) /\ Below base w0 w' := by
 have hpl : ∀ m : List NT, (ptrs m).length = m.length := fun m => by rw [fE, cB, List.length_map]
 have h1 : lZ w base 74 1 (.slice A l.length c) l.length (ptrs l) := by
  have := (HS.at ia hia).ok _ List.mem_cons_self
  have h2 : lZ w base 74 1 (.slice A l.length c) (ptrs l).length (ptrs l) := this
  rwa [hpl] at h2
 have h2 : w.ownsRow base 74 1 lv 1 [bG r.p] := (HS.at ib hib).ok _ List.mem_cons_self
 have h3 := HS.Hz hne hia hib _ List.mem_cons_self _ List.mem_cons_self
 have hin : aI (ptrs l) i (bG r.p) = ptrs (aI l i r) := by rw [fE, fE]; unfold encs; rw [jr, jr]
 have hln := eG r hi
 refine (Pp h1 h2 (fun k hk => h3 k hk) hi hbase (by omega) (fun v hv => by
  rw [fE] at hv
  obtain ⟨b, _, rfl⟩ := List.mem_map.1 hv
  rfl) rfl).mono ?_
 rintro e w' ⟨A', c', rfl, ho, hg, hat⟩
 rw [hin] at ho
 rw [<- hln] at ho hat ⊢
 refine ⟨A', c', rfl, HS.turn ia hia (Sat.one (c := .jE 74 (.slice A' (aI l i r).length c') (ptrs (aI l i r))) ?_) ⟨hg.size, fun k hk hnot => hg.block k hk fun he => hnot ⟨_, List.mem_singleton_self _, he.symm⟩⟩ (qV hat), HB.grown hg hbase fun k hk => ((HS.at ia hia).ge ⟨_, List.mem_cons_self, hk⟩)⟩
 show lZ w' base 74 1 _ (ptrs (aI l i r)).length (ptrs (aI l i r))
 rw [hpl]
 exact ho
end
section
variable {w w0 : World} {base : Nat} {gs : List (List Ck)}
end
def qD.f (l0 : List Nat) : Option (List Nat) := (some (([] : List Nat) : List Nat)).bind fun oU => (if oU.length + l0.length < 8796093022208 then (some (oU ++ l0)) else (none))
theorem qD.QZ (w : World) (a : Option Addr) (n c : Nat) : (binOp .eql 99 (.slice a n c) (.slice none 0 0)).run Try.prog w = .ok (.bool a.isNone) w := Go.Proofs.Ytoddejmlcnbdmaa.Gen.Jj w _ _ a n c Try.underlying99
attribute [local go_sem] qD.QZ
theorem qD.calls (A0 : Option Addr) (c0 : Nat) (l0 : List Nat) (r : List Nat) (w : World) (hr0 : Kd.C eT w A0 l0.length l0) (hc0 : l0.length <= c0) (h : qD.f l0 = some r) :
  Calls Try.prog 127 #[.slice A0 l0.length c0] w fun e w' => ∃ iy : Value, e = .returned (iy) /\ Kd.R eT 74 w' w.heap.size (fun _ => True) iy r /\ Below w.heap.size w w' := by
 have mV := A_ hr0
 have rG := A_ hc0
 clear hr0 hc0
 have HB := A_ (Below.refl w.heap.size w)
 have H : ((some (([] : List Nat) : List Nat)).bind fun oU => (if oU.length + l0.length < 8796093022208 then (some (oU ++ l0)) else (none))) = some r := h
 clear h
 obtain ⟨oU, sN⟩ : ∃ y_ : List Nat, y_ = (([] : List Nat)) := ⟨_, rfl⟩
 replace H : (if oU.length + l0.length < 8796093022208 then (some (oU ++ l0)) else (none)) = some r := by first | (rw [sN]; with_reducible exact H) | (have jA := (Option.bind_some _ _).symm.trans H; rw [sN]; with_reducible exact jA) | (have jA := (Option.bind_some _ _).symm.trans H; with_reducible exact jA) | with_reducible exact H | (rw [sN]; exact H) | exact H
 have Bg := A_ sN
 clear sN
 by_cases c2 : oU.length + l0.length < 8796093022208
 ·rw [if_pos c2] at H
  have RV := A_ c2
  clear c2
  obtain ⟨NA, sO⟩ : ∃ y_ : List Nat, y_ = (oU ++ l0) := ⟨_, rfl⟩
  replace H : (some NA) = some r := by first | (rw [sO]; with_reducible exact H) | (have jA := (Option.bind_some _ _).symm.trans H; rw [sO]; with_reducible exact jA) | (have jA := (Option.bind_some _ _).symm.trans H; with_reducible exact jA) | with_reducible exact H | (rw [sO]; exact H) | exact H
  have Gd := A_ sO
  clear sO
  obtain rfl := Option.some.inj H
  rcases A0 with _ | WL
  ·have WM : l0 = [] := by
    rcases Nat.eq_zero_or_pos l0.length with h_ | h_
    ·exact List.length_eq_zero_iff.1 h_
    ·obtain ⟨_, _, RX⟩ := mV.out
     obtain ⟨WL, RX, _⟩ := RX h_
     cases RX
   subst WM
   have WN : NA = [] := by rw [Gd.out, Bg.out]; rfl
   subst WN
   go_enter Try.func127, Try.ntmps127
   go_wp2
   go_ret
   exact ⟨_, rfl, Kd.vI _ _ _ _ _, HB.out⟩
  go_enter Try.func127, Try.ntmps127
  go_wp2_with (first | ((with_reducible refine dN (N := 5) rfl ?_); refine Kd.kH eT _ 74 ?hg (N := 5) ?hd (xs := ([] : List Nat)) (inner := []) (ok := fun _ => True) (okp := fun _ => True) ?hr ?hp (fun _ hk => hk) trivial (Below.refl _ _) (Nat.le_refl _) (by simp) ?_; (case hd => rfl); (case hg => rfl); (case hr => first | (go_simp; done) | (go_simp; rfl)); (case hp => exact (fq.none _ _)); intro RY w3 qf hb Lu qG; clear Lu qG; (first | rw [<- Bg.out] at qf | (simp only [Int.reduceToNat] at qf; rw [<- Bg.out] at qf)); have Gf := A_ (Kd.fI qf (BN HB.out)); replace HB := A_ (Uc HB.out hb); clear hb qf) | ((with_reducible refine bQ (b := .append) (xs := #[.tmp 5, .tmp 6]) rfl ?_); at_builtin; refine Kd.dV eT (w0 := w) w.heap.size rfl (.tmp 5) (.tmp 6) 99 74 (.pointer none) 8 rfl Try.underlying99 pU rfl (by decide) (by omega) RY oU l0 _ _ _ (fun _ => True) (fun _ => False) rfl rfl ?aO ?aR (fun _ _ h => h) (fun _ h => h.elim) ?aF ?aB ?aS ?aL ?_; (case aR => refine QY ?_; exact (Kd.ax mV.out HB.out)); (case aB => exact (zb HB.out)); (case aF => exact (fun _ _ => trivial)); (case aO => exact (rJ Gf.out)); (case aS => exact (BN HB.out)); (case aL => have := RV.out; omega); intro v183 w5 ho hb hg hat; rw [<- Gd.out] at ho; have Bh := A_ (hb); have aj := A_ (ho); clear HB; clear Gf; have HB := Bh; have NB := aj; clear Bh aj; clear ho hb hg hat))
  go_ret
  exact ⟨_, Jn, by (with_reducible repeat (first | apply Kd.nR | apply Kd.nS | apply Kd.qJ)); exact NB.out, by repeat (first | (with_reducible first | exact HB.out | apply bu | apply ah | apply bC) | exact HB.out)⟩
 ·rw [if_neg c2] at H
  exact absurd H (by simp)
theorem Ii (A : Option Addr) (c : Nat) (l : List Nat) (n : Nat) (w : World) (hn : n = l.length) (hr : eT.C w A n l) (hc : n <= c) (hl : l.length <= 1000000000000) :
  Calls Try.prog 127 #[.slice A n c] w fun e w' => ∃ iy : Value, e = .returned (iy) /\ eT.R 74 w' w.heap.size (fun _ => True) iy l /\ Below w.heap.size w w' := by
 subst hn
 refine qD.calls A c l l w hr hc ?_
 unfold qD.f
 rw [Option.bind_some, if_pos (by simp only [List.length_nil]; omega)]
 rfl
theorem u7 (A : Option Addr) (c : Nat) (l : List ByteArray) (n : Nat) (w : World) (hn : n = l.length) (hr : Kd.string.C w A n l) (hc : n <= c) (hl : l.length <= 1000000000000) :
  Calls Try.prog 74 #[.slice A n c] w fun e w' => ∃ iy : Value, e = .returned (iy) /\ Kd.string.R 9 w' w.heap.size (fun _ => True) iy l /\ Below w.heap.size w w' := by
 subst hn
 refine aZ.calls A c l l w hr hc ?_
 unfold aZ.f
 rw [Option.bind_some, if_pos (by simp only [List.length_nil]; omega)]
 rfl
set_option maxHeartbeats 8000000
set_option maxRecDepth 100000
theorem aa.pack {w : World} {base : Nat} {a b c : List Ck} {R : List (List Ck)} (h : aa w base (a :: b :: c :: R)) : aa w base [a, b, c, R.flatten] := by
 unfold aa at h ⊢
 simp only [List.flatten_cons, List.flatten_nil, List.append_nil] at h ⊢
 exact h
theorem aa.unpack {w : World} {base : Nat} {a b c : List Ck} {R : List (List Ck)} (h : aa w base [a, b, c, R.flatten]) : aa w base (a :: b :: c :: R) := by
 unfold aa at h ⊢
 simp only [List.flatten_cons, List.flatten_nil, List.append_nil] at h ⊢
 exact h
theorem xZ.calls {p : Nat} {Ak Av : Option Addr} {ck cv : Nat} {ks vs : List ByteArray} {Xw : Value} {i : Nat} {x y : ByteArray} (hi : i <= ks.length) (hv : i <= vs.length) (hk1 : ks.length <= 1000000000000) (hv1 : vs.length <= 1000000000000) (base : Nat) (R : List (List Ck)) (w : World)
  (hs : aa w base ([.box 101 p #[.slice Ak ks.length ck, .slice Av vs.length cv, Xw]] :: [txt (.slice Ak ks.length ck) ks] :: [txt (.slice Av vs.length cv) vs] :: R)) (hbs : base <= w.heap.size) :
  Calls Try.prog 126 #[bG p, .int .i64 (i : Int), .string x, .string y] w fun e w' => e = .returned (.tuple #[]) /\ ∃ Ak' QJ Av' cv', aa w' base ([.box 101 p #[.slice Ak' (aI ks i x).length QJ, .slice Av' (aI vs i y).length cv', Xw]] :: [txt (.slice Ak' (aI ks i x).length QJ) (aI ks i x)] :: [txt (.slice Av' (aI vs i y).length cv') (aI vs i y)] :: R) /\ Below base w w' := by
 have HS := A_ (aa.pack hs)
 have HB := A_ (Below.refl base w)
 have dE := A_ hbs
 obtain ⟨GR, Xx⟩ : ∃ G, G = R.flatten := ⟨_, rfl⟩
 rw [<- Xx] at HS
 have HGR := A_ Xx
 clear hs hbs Xx
 go_enter Try.func126, Try.ntmps126
 refine dz (n := 24) (S := fun w' => w'.cell? ⟨p, 0, none⟩ = some (.slice Ak ks.length ck) /\ w'.cell? ⟨p, 1, none⟩ = some (.slice Av vs.length cv)) (ds := [20, 23]) (bt 24 0) (by kernel_rfl) rfl rfl ⟨(aa.z0 (aa.drew HS.out) 0 rfl), (aa.z1 (aa.drew HS.out) 0 rfl)⟩ (fun hHeld => ?_)
 refine aV 0 8 1 ?_
 refine aV 1 9 3 ?_
 refine aV 2 10 7 ?_
 refine aV 3 11 15 ?_
 refine aV 4 12 31 ?_
 refine aV 6 14 95 ?_
 refine aV 7 15 223 ?_
 refine aV 10 18 1247 ?_
 refine aV 11 19 3295 ?_
 refine aV 12 20 7391 ?_
 refine aV 14 22 23775 ?_
 refine aV 15 23 56543 ?_
 refine ik 5 13 56575 hHeld ?_
 refine ik 13 21 64767 hHeld ?_
 refine kz (σ := Value × Value × Value) 7 (bt 24 131071) (fun z => [(16, z.1), (17, z.2.1), (24, z.2.2)]) (fun z w' => Below base w w' /\ aa w' base [[.box 101 p #[.slice Ak ks.length ck, .slice Av vs.length cv, Xw]], [txt z.2.1 (aI ks i x)], iT Av cv vs, GR, [txt z.2.2 [y]]]) ?_ ?_
 rotate_left
 ·intro jQ
  refine DJ 8 16 (some 16) (some 24) 65023 130303 (fun K hK => ?_) (fun K hK => ?_)
  ·skip
   refine Kd.bn Kd.string (w0 := w) base 9 (by rfl) (N := 16) rfl (xs := [x]) (inner := [.string x]) (ok := fun _ => True) (okp := fun _ => False) ?hr (Kd.aX (enc := Value.string) [x]) (fun _ h => h.elim) trivial (aH HB.out) (dS dE HB) (by simp) ?_
   (case hr => first | (go_simp; done) | (go_simp; rfl))
   intro vb1 Ny fB hbb hgb hnb
   have mh := A_ hbb
   have mU := A_ (aa.lit (aa.drew HS.out) fB hgb hnb)
   obtain ⟨jb, jc, rfl⟩ : ∃ A c, vb1 = .slice A 1 c := Kd.av fB
   clear fB hbb hgb hnb
   refine hK.out _ _ ⟨(aa.z0 mU.out 0 rfl), (aa.z1 mU.out 0 rfl)⟩ (fun hHeld => ?_)
   clear hK K
   refine eF 16 ?_
   refine DJ 9 16 (some 17) (some 24) 65535 130559 (fun K hK => ?_) (fun K hK => ?_)
   ·skip
    refine uj Try.func136 #[.slice Ak ks.length ck, .int .i64 (i : Int), .slice jb 1 jc] ?_
    with_reducible refine (Ei (ia := 1) (ib := 4) (i := i) mU.out rfl rfl (by decide) hi (dS dE mh) hk1 mh.out).mono ?_
    rintro e Gb ⟨A1, c1, rfl, hs_, yo⟩
    refine ⟨_, rfl, ?_⟩
    have kF := A_ yo
    have jm := A_ hs_
    clear hs_ yo
    refine hK.out _ _ ⟨(aa.z0 jm.out 0 rfl), (aa.z1 jm.out 0 rfl)⟩ (fun hHeld => ?_)
    clear hK K
    refine eF 17 ?_
    refine jg 16 (some 24) 131071 (fun K hK => ?_)
    refine Kd.bn Kd.string (w0 := w) base 9 (by rfl) (N := 24) rfl (xs := [y]) (inner := [.string y]) (ok := fun _ => True) (okp := fun _ => False) ?hr (Kd.aX (enc := Value.string) [y]) (fun _ h => h.elim) trivial kF.out (dS dE kF) (by simp) ?_
    (case hr => first | (go_simp; done) | (go_simp; rfl))
    intro rH Gc fB hbb hgb hnb
    have oQ := A_ hbb
    have lV := A_ (aa.lit jm.out fB hgb hnb)
    obtain ⟨jd, je, rfl⟩ : ∃ A c, rH = .slice A 1 c := Kd.av fB
    clear fB hbb hgb hnb
    refine hK.out _ _ ⟨(aa.z0 lV.out 0 rfl), (aa.z1 lV.out 0 rfl)⟩ (fun hHeld => ?_)
    clear hK K
    refine eF 24 ?_
    exact EW (jQ ⟨.slice jb 1 jc, .slice A1 (aI ks i x).length c1, .slice jd 1 je⟩ _ ⟨oQ.out, aa.iN lV.out [0, 1, 2, 3, 5] (by decide)⟩)
   ·skip
    refine Kd.bn Kd.string (w0 := w) base 9 (by rfl) (N := 24) rfl (xs := [y]) (inner := [.string y]) (ok := fun _ => True) (okp := fun _ => False) ?hr (Kd.aX (enc := Value.string) [y]) (fun _ h => h.elim) trivial mh.out (dS dE mh) (by simp) ?_
    (case hr => first | (go_simp; done) | (go_simp; rfl))
    intro rH Gb fB hbb hgb hnb
    have kF := A_ hbb
    have jm := A_ (aa.lit mU.out fB hgb hnb)
    obtain ⟨jd, je, rfl⟩ : ∃ A c, rH = .slice A 1 c := Kd.av fB
    clear fB hbb hgb hnb
    refine hK.out _ _ ⟨(aa.z0 jm.out 0 rfl), (aa.z1 jm.out 0 rfl)⟩ (fun hHeld => ?_)
    clear hK K
    refine eF 24 ?_
    refine jg 9 (some 17) 131071 (fun K hK => ?_)
    refine uj Try.func136 #[.slice Ak ks.length ck, .int .i64 (i : Int), .slice jb 1 jc] ?_
    with_reducible refine (Ei (ia := 1) (ib := 4) (i := i) jm.out rfl rfl (by decide) hi (dS dE kF) hk1 kF.out).mono ?_
    rintro e Gc ⟨A1, c1, rfl, hs_, yo⟩
    refine ⟨_, rfl, ?_⟩
    have oQ := A_ yo
    have lV := A_ hs_
    clear hs_ yo
    refine hK.out _ _ ⟨(aa.z0 lV.out 0 rfl), (aa.z1 lV.out 0 rfl)⟩ (fun hHeld => ?_)
    clear hK K
    refine eF 17 ?_
    exact EW (jQ ⟨.slice jb 1 jc, .slice A1 (aI ks i x).length c1, .slice jd 1 je⟩ _ ⟨oQ.out, aa.iN lV.out [0, 1, 2, 3, 5] (by decide)⟩)
  ·skip
   refine Kd.bn Kd.string (w0 := w) base 9 (by rfl) (N := 24) rfl (xs := [y]) (inner := [.string y]) (ok := fun _ => True) (okp := fun _ => False) ?hr (Kd.aX (enc := Value.string) [y]) (fun _ h => h.elim) trivial (aH HB.out) (dS dE HB) (by simp) ?_
   (case hr => first | (go_simp; done) | (go_simp; rfl))
   intro rH Ny fB hbb hgb hnb
   have mh := A_ hbb
   have mU := A_ (aa.lit (aa.drew HS.out) fB hgb hnb)
   obtain ⟨jd, je, rfl⟩ : ∃ A c, rH = .slice A 1 c := Kd.av fB
   clear fB hbb hgb hnb
   refine hK.out _ _ ⟨(aa.z0 mU.out 0 rfl), (aa.z1 mU.out 0 rfl)⟩ (fun hHeld => ?_)
   clear hK K
   refine eF 24 ?_
   refine jg 8 (some 16) 130559 (fun K hK => ?_)
   refine Kd.bn Kd.string (w0 := w) base 9 (by rfl) (N := 16) rfl (xs := [x]) (inner := [.string x]) (ok := fun _ => True) (okp := fun _ => False) ?hr (Kd.aX (enc := Value.string) [x]) (fun _ h => h.elim) trivial mh.out (dS dE mh) (by simp) ?_
   (case hr => first | (go_simp; done) | (go_simp; rfl))
   intro vb1 Gb fB hbb hgb hnb
   have kF := A_ hbb
   have jm := A_ (aa.lit mU.out fB hgb hnb)
   obtain ⟨jb, jc, rfl⟩ : ∃ A c, vb1 = .slice A 1 c := Kd.av fB
   clear fB hbb hgb hnb
   refine hK.out _ _ ⟨(aa.z0 jm.out 0 rfl), (aa.z1 jm.out 0 rfl)⟩ (fun hHeld => ?_)
   clear hK K
   refine eF 16 ?_
   refine jg 9 (some 17) 131071 (fun K hK => ?_)
   refine uj Try.func136 #[.slice Ak ks.length ck, .int .i64 (i : Int), .slice jb 1 jc] ?_
   with_reducible refine (Ei (ia := 1) (ib := 5) (i := i) jm.out rfl rfl (by decide) hi (dS dE kF) hk1 kF.out).mono ?_
   rintro e Gc ⟨A1, c1, rfl, hs_, yo⟩
   refine ⟨_, rfl, ?_⟩
   have oQ := A_ yo
   have lV := A_ hs_
   clear hs_ yo
   refine hK.out _ _ ⟨(aa.z0 lV.out 0 rfl), (aa.z1 lV.out 0 rfl)⟩ (fun hHeld => ?_)
   clear hK K
   refine eF 17 ?_
   exact EW (jQ ⟨.slice jb 1 jc, .slice A1 (aI ks i x).length c1, .slice jd 1 je⟩ _ ⟨oQ.out, aa.iN lV.out [0, 1, 2, 3, 4] (by decide)⟩)
 rintro ⟨vb1, u1, rH⟩ w8 ⟨hb, hs⟩
 obtain ⟨jd, je, rfl⟩ : ∃ A c, rH = .slice A 1 c := Kd.av (aa.sr hs 4 rfl)
 obtain ⟨A1, c1, rfl⟩ := Kd.av (aa.sr hs 1 rfl)
 have hHeld : (w8.cell? ⟨p, 0, none⟩ = some (.slice Ak ks.length ck)) /\ (w8.cell? ⟨p, 1, none⟩ = some (.slice Av vs.length cv)) := ⟨aa.z0 hs 0 rfl, aa.z1 hs 0 rfl⟩
 clear HS HB
 have HB := A_ hb
 have HS := A_ hs
 clear hb hs
 refine dG (a' := ?_) ?_ ?_
 rotate_left
 ·simp only [bz, Act.put, List.setIfInBounds_toArray, List.set_cons_zero, List.set_cons_succ]
  rfl
 refine jg 17 (some 25) 262143 (fun K hK => ?_)
 refine uj Try.func136 #[.slice Av vs.length cv, .int .i64 (i : Int), .slice jd 1 je] ?_
 with_reducible refine (Ei (ia := 2) (ib := 4) (i := i) HS.out rfl rfl (by decide) hv (dS dE HB) hv1 HB.out).mono ?_
 rintro e w9 ⟨A2, c2, rfl, hs_, yo⟩
 refine ⟨_, rfl, ?_⟩
 clear HS HB
 have HB := A_ yo
 have aj := lu hs_
 have HS := aj
 clear aj hs_ yo
 have zs0 := aa.z0 HS.out 0 rfl
 have kS := aa.f HS.out 0 rfl 0
 have zs1 := aa.z1 HS.out 0 rfl
 have fs1 := aa.f HS.out 0 rfl 1
 refine hK.out _ _ ⟨(aa.z0 HS.out 0 rfl), (aa.z1 HS.out 0 rfl)⟩ (fun hHeld => ?_)
 clear hK K
 refine eF 25 ?_
 refine aV 18 26 524287 ?_
 refine aV 19 27 1048575 ?_
 refine wW 20 none 2097151 (fun K hK => ?_)
 refine iU (w1 := ?_) (by rfl) rfl ?_ ?_
 rotate_left
 ·go_simp
  rfl
 refine hK.out _ _ ?_
 clear hK K
 refine aV 21 28 4194303 ?_
 refine aV 22 29 8388607 ?_
 refine wW 23 none 16777215 (fun K hK => ?_)
 refine iU (w1 := ?_) (by rfl) rfl ?_ ?_
 rotate_left
 ·go_simp
  rfl
 refine hK.out _ _ ?_
 clear hK K
 refine fu (by kernel_rfl) ?_
 go_end0
 have hS := aa.iN (aa.yD (aa.yC HS.out 0 rfl (.slice A1 (aI ks i x).length c1)) 0 rfl (.slice A2 (aI vs i y).length c2)) [0, 1, 2, 3] (by decide)
 exact ⟨rfl, A1, c1, A2, c2, aa.unpack (by rw [<- HGR.out]; exact hS), (HB.out.setCell (p := ⟨p, 0, none⟩) (aa.ge HS.out 0 rfl) _).setCell (p := ⟨p, 1, none⟩) (aa.ge HS.out 0 rfl) _⟩
set_option maxHeartbeats 8000000
set_option maxRecDepth 100000
section
variable {w w0 : World} {base : Nat} {gs : List (List Ck)}
theorem M0 {A A' : Option Addr} {n c c' n' : Nat} {l l' : List ByteArray} (hs : aa w base gs) (k : Nat) (hk : gs[k]? = some [txt (.slice A n c) l]) (m : Nat) (hm : m <= l.length) (hA : A' = if c = m then A else A.map (·.add (m * 1))) (hc : c' = c - m) (hl : l' = l.drop m) (hn : n' = n - m) (hb : l.length <= 1000000000000) :
  Calls Try.prog 74 #[.slice A' n' c'] w fun e w' => ∃ iy : Value, e = .returned (iy) /\ Kd.string.R 9 w' w.heap.size (fun _ => True) iy l' /\ Below w.heap.size w w' := by
 obtain ⟨h1, h2, _⟩ := hs.row k hk
 subst h1
 have h3 := MJ (hs.sr k hk) hm
 subst hA hc hl hn
 refine u7 _ _ _ _ _ (by rw [List.length_drop]) ?_ (by omega) (by rw [List.length_drop]; omega)
 rw [List.length_drop] at h3
 exact h3
theorem Rp {A A' : Option Addr} {n c c' n' : Nat} {l l' : List NT} (hs : aa w base gs) (k : Nat) (hk : gs[k]? = some [.jE 74 (.slice A n c) (ptrs l)]) (m : Nat) (hm : m <= l.length) (hA : A' = if c = m then A else A.map (·.add (m * 1))) (hc : c' = c - m) (hl : l' = l.drop m) (hn : n' = n - m) (hb : l.length <= 1000000000000) :
  Calls Try.prog 127 #[.slice A' n' c'] w fun e w' => ∃ iy : Value, e = .returned (iy) /\ eT.R 74 w' w.heap.size (fun _ => True) iy (l'.map NT.p) /\ Below w.heap.size w w' := by
 obtain ⟨h1, h2, h3⟩ := hs.iZ k hk
 subst h1
 have h3' : eT.C w A (l.map NT.p).length (l.map NT.p) := by rw [List.length_map]; exact h3
 have h4 := Kd.H9 (c := c) h3' (m := m) (by rw [List.length_map]; exact hm) (by rw [List.length_map]; omega)
 subst hA hc hl hn
 refine Ii _ _ _ _ _ (by rw [List.length_map, List.length_drop]) ?_ (by omega) (by rw [List.length_map, List.length_drop]; omega)
 rw [List.length_drop, List.length_map] at h4
 rw [List.map_drop]
 exact h4
theorem JY {ia ib i c n xp : Nat} {ai : Int} {A : Option Addr} {l : List NT} {lv : Value} {r : NT} (HS : aa w base gs) (hai : ai = (i : Int) /\ n = l.length) (hia : gs[ia]? = some [.jE 74 (.slice A n c) (ptrs l)]) (hib : gs[ib]? = some [.own 74 lv (encs bG [xp])]) (hp : r.p = xp) (hne : ia ≠ ib) (hi : i <= l.length) (hbase : base <= w.heap.size) (hbig : l.length <= 1000000000000) (HB : Below base w0 w) :
  Calls Try.prog 128 #[.slice A n c, .int .i64 ai, lv] w fun e w' => ∃ A' c', e = .returned (.slice A' (aI l i r).length c') /\ aa w' base (gs.set ia [.jE 74 (.slice A' (aI l i r).length c') (ptrs (aI l i r))]) /\ Below base w0 w' := by
 obtain ⟨rfl, rfl⟩ := hai
 subst hp
 exact Ro HS hia hib hne hi hbase hbig HB
end
section
variable {w w0 : World} {base : Nat} {gs : List (List Ck)}
end
section
variable {P : Program} {ops : Array Oper} {o : Oper} {a : Act} {Q : Exit -> Act -> World -> Prop} {Kc : Act -> World -> Prop}
end
set_option maxHeartbeats 8000000
set_option maxRecDepth 100000
theorem Ij.calls : ∀ (n : Nat) (t : NT), t.erase.big <= n -> kC t.erase -> ∀ (base : Nat) (vo : Value) (pgs : List Pg) (L : List Ck) (w : World), Sat w base (t.dI 101 74 ++ (aM vo pgs ++ L)) -> base <= w.heap.size -> pgs.length + t.erase.big <= 100000 ->
  Calls Try.prog 110 #[bG t.p, vo] w (Ye w base 101 74 t L pgs) := by
 intro n
 induction n with
 | zero =>
  intro t hb
  exact absurd t.erase.eH (by omega)
 | succ n ih =>
  intro t hbig hbd base vo pgs L w hs hbs hpl
  have h0 := Ai hs
  obtain ⟨⟨ho1, ho2, ho3⟩, qf⟩ := bL.1 hbd
  cases t with | mk tp EZ E8 E9 tks tvs bq =>
  have e0 : (NT.mk tp EZ E8 E9 tks tvs bq).erase = .mk tks tvs (NT.aQ bq) := rfl
  rw [e0] at hbig ho1 ho2 ho3 qf hpl
  simp only [NT.keys, NT.vals, NT.kids, NT.p, NT.kv, NT.vv, NT.cv] at h0 ⊢
  simp only [PT.keys, PT.vals, PT.kids] at ho1 ho2 ho3 qf
  obtain ⟨kG, il, rfl⟩ := Kd.av (h0.sr 1 rfl)
  obtain ⟨kQ, iA, rfl⟩ := Kd.av (h0.sr 2 rfl)
  obtain ⟨sZ, iM, rfl, _, _⟩ := dZ (h0.q 3 rfl)
  obtain ⟨Ao, co, rfl⟩ := fZ (h0.rowOk 5 rfl)
  have HS := A_ h0
  have HB := A_ (Below.refl base w)
  have dE := A_ hbs
  have Ma := A_ hbig
  have Vm := A_ hpl
  have QG := A_ qf
  have hnl : (NT.aQ bq).length = bq.length := by rw [aK, List.length_map]
  have IX : tvs.length <= 4 /\ bq.length <= 5 := by omega
  have hpn : pgs.length + 1 <= 100000 := by have := (PT.mk tks tvs (NT.aQ bq)).eH; omega
  clear h0 hs hbs hbig hpl ho1 ho3 qf hbd hnl e0
  go_enter Try.func110, Try.ntmps110
  go_upto_region 2 with fail
  refine dz (n := 15) (S := fun w' => w'.cell? ⟨tp, 0, none⟩ = some (.slice kG tks.length il) /\ w'.cell? ⟨tp, 1, none⟩ = some (.slice kQ tvs.length iA)) (ds := []) (bt 15 0) (by kernel_rfl) rfl rfl ⟨(aa.z0 (aa.drew HS.out) 0 rfl), (aa.z1 (aa.drew HS.out) 0 rfl)⟩ (fun hHeld => ?_)
  refine aV 0 10 1 ?_
  refine aV 1 11 3 ?_
  refine aV 2 12 7 ?_
  refine aV 3 13 15 ?_
  refine aV 6 16 79 ?_
  refine aV 7 17 207 ?_
  refine aV 8 18 463 ?_
  refine ik 4 14 479 hHeld ?_
  refine ik 9 19 991 hHeld ?_
  refine jg 5 (some 15) 1023 (fun K hK => ?_)
  refine uj Try.func74 #[.slice kG tks.length il] ?_
  with_reducible refine (u7 kG il tks tks.length _ rfl (aa.row (aa.drew HS.out) 1 rfl).2.2 (aa.row (aa.drew HS.out) 1 rfl).2.1 (by omega)).mono ?_
  rintro e w8 ⟨iy, rfl, ho, hb⟩
  refine ⟨_, rfl, ?_⟩
  obtain ⟨EK, EL, rfl⟩ := Kd.av ho
  have aj := lu (aa.gJ (aa.drew HS.out) hb (dS dE HB) ho)
  have az : af (Below base w w8) := ⟨((aH HB.out)).trans (hb.mono (dS dE HB))⟩
  clear HS HB ho hb; have HS := aj; have HB := az; clear aj az
  refine hK.out _ _ ⟨(aa.z0 HS.out 0 rfl), (aa.z1 HS.out 0 rfl)⟩ (fun hHeld => ?_)
  clear hK K
  refine eF 15 ?_
  refine jg 10 (some 20) 2047 (fun K hK => ?_)
  refine uj Try.func74 #[.slice kQ tvs.length iA] ?_
  with_reducible refine (u7 kQ iA tvs tvs.length _ rfl (aa.row HS.out 2 rfl).2.2 (aa.row HS.out 2 rfl).2.1 (by omega)).mono ?_
  rintro e w9 ⟨iy, rfl, ho, hb⟩
  refine ⟨_, rfl, ?_⟩
  obtain ⟨EM, EN, rfl⟩ := Kd.av ho
  have aj := lu (aa.gJ HS.out hb (dS dE HB) ho)
  have az : af (Below base w w9) := ⟨(HB.out).trans (hb.mono (dS dE HB))⟩
  clear HS HB ho hb; have HS := aj; have HB := az; clear aj az
  refine hK.out _ _ ⟨(aa.z0 HS.out 0 rfl), (aa.z1 HS.out 0 rfl)⟩ (fun hHeld => ?_)
  clear hK K
  refine eF 20 ?_
  refine aV 11 21 4095 ?_
  refine jg 12 (some 22) 8191 (fun K hK => ?_)
  refine wo 110 3 [.slice EK tks.length EL, .slice EM tvs.length EN, .slice none 0 0] rfl (by rfl) (N := 22) rfl ?hr ?_
  (case hr => first | (go_simp; done) | (go_simp; rfl))
  intro gp uK hg ho hb
  have aj := lu (aa.newRow HS.out hb (dS dE HB) (by rw [<- hg] at *; exact ho))
  have az : af (Below base w uK) := ⟨HB.out.trans (hb.mono (dS dE HB))⟩
  clear HS HB hg ho hb; have HS := aj; have HB := az; clear aj az
  refine hK.out _ _ ⟨(aa.z0 HS.out 0 rfl), (aa.z1 HS.out 0 rfl)⟩ (fun hHeld => ?_)
  clear hK K
  refine eF 22 ?_
  refine jg 13 (some 23) 16383 (fun K hK => ?_)
  refine rR (w0 := w) (base := base) (by rfl) (.tmp 10) (.tmp 22) 27 110 3 72 _ rfl Try.underlying27 DK rfl (by decide) (by decide) (.slice Ao pgs.length co) pgs.length 1 1 gp (pgs.flatMap Pg.cells) [.slice EK tks.length EL, .slice EM tvs.length EN, .slice none 0 0] rfl rfl (aa.rowOk HS.out 5 rfl) (aa.rowOk HS.out 10 rfl) (by intro u hu; simp only [List.mem_cons, List.not_mem_nil, or_false] at hu; rcases hu with rfl | rfl | rfl <;> rfl) HB.out (dS dE HB) (by omega) ?_
  intro vo1 xM ho hb hg hat
  obtain ⟨A1, c1, rfl⟩ := fZ ho
  have aj := lu (aa.MV 5 HS.out rfl ho hg hat)
  have az : af (Below base w xM) := ⟨hb⟩
  clear HS HB ho hb hg hat; have HS := aj; have HB := az; clear aj az
  refine hK.out _ _ ⟨(aa.z0 HS.out 0 rfl), (aa.z1 HS.out 0 rfl)⟩ (fun hHeld => ?_)
  clear hK K
  refine eF 23 ?_
  refine aV 14 1 32767 ?_
  refine fu (by kernel_rfl) ?_
  obtain ⟨K, hK⟩ : ∃ K, K = NT.aQ bq := ⟨_, rfl⟩
  have HK := A_ hK
  have GN := A_ (show K.length = bq.length by rw [hK, aK, List.length_map])
  obtain ⟨go1, rfl⟩ := qC (aa.rowOk HS.out 5 rfl) (by omega)
  have aj : af (aa xM base (xC 101 74 (NT.mk tp (.slice kG tks.length il) (.slice kQ tvs.length iA) (.slice sZ bq.length iM) tks tvs bq) (.slice (some ⟨go1, 0, none⟩) (pgs.length + 1) c1) pgs [] ⟨.slice EK tks.length EL, .slice EM tvs.length EN, .slice none 0 0, tks, tvs, []⟩ L)) := ⟨by
   have h1 := (aa.Ms (aa.tX HS.out 3)).iN [0, 1, 2, 3, 4, 5, 8, 9, 11, 6, 12, 7] (by decide)
   unfold xC
   show aa _ _ [_, _, _, _, _, [.row 110 3 (.slice (some ⟨go1, 0, none⟩) (pgs.length + 1) c1) (pgs ++ [_]).length ((pgs ++ [_]).flatMap Pg.cells)], _, _, _, _, _, _]
   rw [List.length_append, List.flatMap_append, List.flatMap_cons, List.flatMap_nil, List.append_nil]
   exact h1⟩
  clear HS hK
  have HS := aj
  clear aj
  obtain ⟨t0, ht0⟩ : ∃ t0, t0 = NT.mk tp (.slice kG tks.length il) (.slice kQ tvs.length iA) (.slice sZ bq.length iM) tks tvs bq := ⟨_, rfl⟩
  have HT0 := A_ ht0
  rw [<- ht0] at HS
  clear ht0
  go_upto_region 3 with fail
  have BS : xM.cell? ⟨tp, 2, none⟩ = some (.slice sZ bq.length iM) := by
   have h1 := HS.out
   rw [HT0.out] at h1
   exact aa.z2 h1 0 rfl
  go_wp2_with fail
  clear BS
  go_loopg [1, 29] bq.length (fun kq u1 u29 w' => ∃ (i m go co : Nat) (A B : List Pg) (kv vv cv : Value) (cs : List Int), u1 = .slice (some ⟨go, 0, none⟩) m co /\ u29 = .int .i64 (i : Int) /\ af (kq + i = bq.length) /\ af (cs = starts (K.take i) (pgs.length + 1)) /\ af (A.map Pg.erase = pgs.map Pg.erase) /\ af (B.map Pg.erase = nC (K.take i) (pgs.length + 1)) /\ af (m = pgs.length + 1 + PT.iH (K.take i)) /\ af (aa w' base (xC 101 74 t0 (.slice (some ⟨go, 0, none⟩) m co) A B ⟨kv, vv, cv, tks, tvs, cs⟩ L)) /\ af (Below base w w'))
  case atStart => exact ⟨0, pgs.length + 1, go1, c1, pgs, [], _, _, _, [], by first | rfl | (simp; done), by first | rfl | (simp; done), ⟨Nat.add_zero _⟩, ⟨rfl⟩, ⟨rfl⟩, ⟨rfl⟩, ⟨rfl⟩, HS, HB⟩
  case round =>
   clear HS HB
   obtain ⟨i, m, go, Xn, A, B, kv, vv, cv, cs, rfl, rfl, SF, SG, HA, yj, HM, HS, HB⟩ := hrel
   have Bf := A_ (show A.length = pgs.length by have := congrArg List.length HA.out; rw [List.length_map, List.length_map] at this; exact this)
   have hbt : PT.iH (K.take i) + 1 <= (PT.mk tks tvs (NT.aQ bq)).big := by rw [PT.big, <- HK.out]; have := lQ K i; omega
   have hm : pgs.length + 1 <= m /\ m <= 100000 := by have := HM.out; have := Vm.out; omega
   have ci := dJ (0 <= (i : Int))
   have hcl0 : cs.length <= 5 := by rw [SG.out, oN, List.length_take, GN.out]; omega
   by_cases hi : i < bq.length
   ·have ce := kZ ((i : Int) < (bq.length : Int))
    have xL : (i < bq.length) = True := eq_true hi
    obtain ⟨s, hsx⟩ : ∃ s, bq[i]? = some s := ⟨bq[i], List.getElem?_eq_getElem hi⟩
    have P6 := A_ hsx
    have kD : af (K[i]? = some s.erase) := ⟨by rw [HK.out, aK, List.getElem?_map, hsx]; rfl⟩
    have aj := HS.out
    rw [HT0.out] at aj
    unfold xC at aj
    simp only [NT.keys, NT.vals, NT.kids, NT.p, NT.kv, NT.vv, NT.cv] at aj
    obtain ⟨Ac, cc, rfl⟩ := Kd.av (aa.ir aj 8 rfl)
    obtain ⟨y7, ck1, rfl⟩ := Kd.av (aa.sr aj 6 rfl)
    obtain ⟨oo, mi, rfl⟩ := Kd.av (aa.sr aj 7 rfl)
    clear HS
    have HS := A_ aj
    clear aj hsx
    obtain ⟨lI, rfl⟩ := iQ (aa.q HS.out 3 rfl) (by omega)
    have vF := lC (aa.iZ HS.out 3 rfl) (And.intro P6.out rfl)
    go_upto_region 6 with fail
    clear vF
    obtain ⟨l1, hl1⟩ : ∃ r : List Int, r = cs ++ [(m : Int)] := ⟨_, rfl⟩
    have wK := A_ hl1
    clear hl1
    have b2 := dJ (0 <= (pgs.length : Int))
    have b3 := dJ ((pgs.length : Int) < (m : Int))
    have b4 := dJ (pgs.length < m)
    have sd11 : (cs.length + 1) * 8 <= 140737488355328 := by omega
    have fO := (uZ HS.out 5 rfl Bf.out)
    go_upto_region 7 with (first | ((with_reducible refine dN (N := 42) rfl ?_); refine Kd.kH (Kd.int .i64) (w0 := w) base 3 ?hg (N := 42) ?hd (xs := [(m : Int)]) (inner := [.int .i64 (m : Int)]) (ok := fun _ => True) (okp := fun _ => False) ?hr (Kd.aX (enc := (Value.int .i64)) [(m : Int)]) (fun _ h => h.elim) trivial HB.out (dS dE HB) (by simp) ?_; (case hd => rfl); (case hg => rfl); (case hr => first | (go_simp; done) | (go_simp; rfl)); intro v5 DD ho hb hg hn; obtain ⟨A6, c7, rfl⟩ : ∃ A c, v5 = .slice A 1 c := Kd.av ho; have aj := lu (aa.DZ HS.out (JQ ho) hg hn); have az : af (Below base w DD) := ⟨hb⟩; clear HS HB ho hb hg hn; have HS := aj; have HB := az; clear aj az; clear fO; have fO := (uZ HS.out 5 rfl Bf.out)) | ((with_reducible refine bQ (b := .append) (xs := #[.tmp 39, .tmp 42]) rfl ?_); at_builtin; refine Kd.dV (Kd.int .i64) (w0 := w) base rfl (.tmp 39) (.tmp 42) 108 3 (.int .i64 0) 8 rfl Try.underlying108 info3 rfl (by decide) (by omega) (.slice Ac cs.length cc) cs [(m : Int)] A6 1 c7 (fun _ => True) (fun _ => False) rfl rfl (aa.ir HS.out 8 rfl) (Rk HS.out 12 rfl) (fun _ _ h => h) (fun _ h => h.elim) (fun _ _ => trivial) HB.out (dS dE HB) sd11 ?_; intro u8 wR ho hb hg hat; rw [<- wK.out] at ho; obtain ⟨A9, c10, rfl⟩ := Kd.av ho; have aj := lu (aa.Rl 8 HS.out rfl ho hg hat); have az : af (Below base w wR) := ⟨hb⟩; clear HS HB ho hb hg hat; have HS := aj; have HB := az; clear aj az; clear fO; have fO := (uZ HS.out 5 rfl Bf.out); have GU := uZ HS.out 5 rfl Bf.out; have GV := aa.Ph HS.out 5 rfl (pgs.length * 3 + 2)))
    have aj := gK (World.setCell wR ⟨go, pgs.length * 3 + 2, none⟩ (.slice A9 l1.length c10)) (aa.yV HS.out 5 rfl Bf.out ⟨.slice y7 tks.length ck1, .slice oo tvs.length mi, .slice A9 l1.length c10, tks, tvs, l1⟩ 2 (.slice A9 l1.length c10) (by decide) rfl)
    have az : af (Below base w (World.setCell wR ⟨go, pgs.length * 3 + 2, none⟩ (.slice A9 l1.length c10))) := ⟨(HB.out).setCell (p := ⟨go, pgs.length * 3 + 2, none⟩) (aa.JR HS.out 5 rfl) _⟩
    generalize World.setCell wR ⟨go, pgs.length * 3 + 2, none⟩ (.slice A9 l1.length c10) = Gs at aj az ⊢
    clear HS HB fO GU GV; have HS := aj; have HB := az; clear aj az
    obtain ⟨p', hp'⟩ : ∃ p' : Pg, p' = ⟨.slice y7 tks.length ck1, .slice oo tvs.length mi, .slice A9 l1.length c10, tks, tvs, l1⟩ := ⟨_, rfl⟩
    have Xo := A_ hp'
    have aj : aa Gs base (xC 101 74 (NT.mk tp (.slice kG tks.length il) (.slice kQ tvs.length iA) (.slice (some lI) bq.length iM) tks tvs bq) (.slice (some ⟨go, 0, none⟩) m Xn) A B p' L) := by
     rw [hp']
     exact aa.iN HS.out [0, 1, 2, 3, 4, 5, 6, 7, 8, 9, 10, 11] (by decide)
    have hpl : (A ++ p' :: B).length = m := by
     have h1 := congrArg List.length yj.out
     rw [List.length_map, oz] at h1
     rw [List.length_append, List.length_cons, h1, Bf.out, HM.out]
     omega
    have Xp := A_ hpl
    have hbs : s.erase.big <= n /\ m + s.erase.big <= 100000 := by
     have h1 := Dm kD.out
     have h2 := lQ K (i + 1)
     have h3 := Ma.out
     have h4 := Vm.out
     rw [PT.big, <- HK.out] at h3 h4
     have := HM.out
     omega
    have hC := ih s hbs.1 (QG.out _ (by rw [<- HK.out]; exact List.mem_of_getElem? kD.out)) base _ _ _ Gs (Al P6.out aj) (dS dE HB) (by rw [hpl]; exact hbs.2)
    have HC := A_ hC
    clear hC aj hp' hpl hbs
    go_upto_region 8 with (first | (go_at_call 110; (with_reducible refine HC.out.mono ?_); rintro e Md ⟨vo2, di, rfl, he, hs2, hb2⟩))
    clear HC HS
    rw [List.map_append, List.map_cons, List.append_assoc, List.cons_append, Xp.out] at he
    obtain ⟨A2, p2, B2, rfl, hA2, hp2, hB2⟩ := xY he
    have h5 := Am P6.out hs2
    obtain ⟨Ao2, Xq, rfl⟩ := fZ (aa.rowOk h5 5 rfl)
    obtain ⟨go2, rfl⟩ := qC (aa.rowOk h5 5 rfl) (by rw [List.length_append, List.length_cons]; omega)
    cases p2 with | mk Vn Vo Cn SH vs2 cs2 =>
    have e6 : (⟨SH, vs2, cs2⟩ : bH) = ⟨tks, tvs, l1⟩ := by rw [show (⟨SH, vs2, cs2⟩ : bH) = p'.erase from hp2, Xo.out]; rfl
    injection e6 with e7 e8 e9
    subst e7
    subst e8
    subst e9
    have HS := A_ h5
    have HB3 := A_ (HB.out.trans hb2)
    have HA2 := A_ (hA2.trans HA.out)
    have HB2 := A_ (show B2.map Pg.erase = nC (K.take (i + 1)) (pgs.length + 1) by rw [hB2, yj.out, qB kD.out, uW, HM.out])
    have PI := A_ (show (A2 ++ ⟨Vn, Vo, Cn, SH, vs2, cs2⟩ :: B2).length = pgs.length + 1 + PT.iH (K.take (i + 1)) by
     have h1 := congrArg List.length HB2.out
     have h2 := congrArg List.length HA2.out
     rw [List.length_map, oz] at h1
     rw [List.length_map, List.length_map] at h2
     rw [List.length_append, List.length_cons, h1, h2]
     omega)
    have rV := A_ (show cs2 = starts (K.take (i + 1)) (pgs.length + 1) by rw [wK.out, qB kD.out, sK, <- SG.out, HM.out])
    clear he hs2 hb2 hA2 hp2 hB2 h5 HB
    go_wp2_with fail
    go_roundg (bq.length - (i + 1))
    case measure => have := SF.out; omega
    case rel => exact ⟨i + 1, _, go2, Xq, A2, B2, Vn, Vo, Cn, cs2, by first | rfl | (simp; done), by first | rfl | go_num | (simp; done), ⟨by have := SF.out; omega⟩, rV, HA2, HB2, PI, ⟨by rw [HT0.out]; exact HS.out⟩, HB3⟩
   ·have ce := kT ((i : Int) < (bq.length : Int))
    have xL : (i < bq.length) = False := eq_false hi
    have Vp : K.take i = K := List.take_of_length_le (by rw [GN.out]; omega)
    have uu := A_ Vp
    clear Vp hi
    go_wp2_with fail
    go_ret
    refine ⟨_, A ++ ⟨kv, vv, cv, tks, tvs, cs⟩ :: B, rfl, ?_, by rw [<- HT0.out]; exact Aj HS.out, HB.out⟩
    rw [List.map_append, List.map_cons, HA.out, yj.out, uu.out]
    show _ = pgs.map Pg.erase ++ iF (.mk tks tvs (NT.aQ bq)) pgs.length
    rw [iF, <- HK.out]
    show _ ++ (⟨tks, tvs, cs⟩ : bH) :: _ = _
    rw [SG.out, uu.out]
theorem KW.calls (t : NT) (hbd : kC t.erase) (hbig : t.erase.big <= 100000) (base : Nat) (L : List Ck) (w : World) (hs : Sat w base (t.dI 101 74 ++ L)) (hbs : base <= w.heap.size) :
  Calls Try.prog 81 #[bG t.p] w (Yf w base 101 74 t L) := by
 have LH : af (Sat w base (L ++ t.dI 101 74)) := ⟨hs.perm List.perm_append_comm⟩
 have HB := A_ (Below.refl base w)
 have dE := A_ hbs
 have Vq := A_ hbd
 clear hs hbs hbd
 obtain ⟨tp, htp⟩ : ∃ p, t.p = p := ⟨_, rfl⟩
 have SI := A_ htp
 rw [htp]
 clear htp
 go_enter Try.func81, Try.ntmps81
 go_upto_region 1 with (first | (refine jf 2 #[.slice none 0 0] 29 ?_; intro g hg w2 aC hb; have aj : af (Sat w2 base (t.dI 101 74 ++ (aM (.slice none 0 0) [] ++ (.box 29 g #[.slice none 0 0] :: L)))) := ⟨JV ((Sat.gI LH.out hg aC hb dE.out).perm ((List.perm_append_comm (l₁ := L)).cons _ |>.trans List.perm_middle.symm))⟩; have az := A_ (HB.out.trans (hb.mono dE.out)); clear LH HB hg aC hb; have HS := aj; have HB := az; clear aj az))
 have hC := Ij.calls t.erase.big t (Nat.le_refl _) Vq.out base _ [] _ w2 HS.out (dS dE HB) (by rw [List.length_nil]; omega)
 rw [SI.out] at hC
 have HC := A_ hC
 clear hC HS
 go_wp2_with (first | (go_at_call 110; (with_reducible refine HC.out.mono ?_); rintro e w3 ⟨vo, pgs, rfl, he, hs3, hb3⟩; obtain ⟨Ao, co, rfl⟩ := fZ (hs3.ok (l9 vo pgs) (List.mem_append_right _ List.mem_cons_self)); have HZ := A_ (hs3.cell (T := 29) (p := g) (cs := #[.slice none 0 0]) (List.mem_append_right _ (List.mem_append_right _ List.mem_cons_self))); have hz := hs3.cell (T := 29) (p := g) (cs := #[.slice none 0 0]) (List.mem_append_right _ (List.mem_append_right _ List.mem_cons_self)); have hz1 : w3.cell? ⟨g, 0, none⟩ = some (.slice none 0 0) := (ak hz 0).trans rfl; have hf1 := aY hz 0; have HE := A_ he; have yh := A_ hs3; have HB3 := A_ hb3; clear hz he hs3 hb3))
 refine bodyPost_ret (results_cell_row rfl _ _ g 29 #[.slice Ao pgs.length co] (0, 0) _ rfl (dH (cs := #[.slice none 0 0]) HZ.out 0 _ rfl) Try.underlying29 rfl (by kernel_rfl)) rfl ?_
 have hX : Sat (w3.setCell ⟨g, 0, none⟩ (.slice Ao pgs.length co)) base (.box 29 g #[.slice Ao pgs.length co] :: (t.dI 101 74 ++ (aM (.slice Ao pgs.length co) pgs ++ L))) := Sat.put (cs := #[.slice none 0 0]) (yh.out.perm (by
  rw [<- List.append_assoc]
  refine List.perm_middle.trans ?_
  rw [List.append_assoc])) 0 _ rfl
 exact ⟨_, pgs, rfl, by rw [HE.out]; rfl, hX.tail, (HB.out.trans HB3.out).setCell (p := ⟨g, 0, none⟩) (yh.out.ok (.box 29 g #[.slice none 0 0]) (List.mem_append_right _ (List.mem_append_right _ List.mem_cons_self))).1 _⟩
set_option maxHeartbeats 8000000
set_option maxRecDepth 100000
theorem yE.calls (t k : NT) (i : Nat) (hk : t.kids[i]? = some k) (h4 : k.keys.length <= 4) (htk : t.kids.length <= 1001) (base : Nat) (L : List Ck) (w : World) (hs : Sat w base (t.dI 101 74 ++ L)) (hbs : base <= w.heap.size) :
  Calls Try.prog 109 #[bG t.p, .int .i64 (i : Int)] w fun e w' => e = .returned (.tuple #[]) /\ w' = w := by
 have h0 := qo hk hs
 clear hs
 cases t with | mk tp EZ E8 E9 tks tvs bq =>
 cases k with | mk kp kkv V9 Wd mH nE nH =>
 unfold vT at h0
 simp only [NT.keys, NT.vals, NT.kids, NT.p, NT.kv, NT.vv, NT.cv] at hk h4 h0 htk ⊢
 obtain ⟨sZ, iM, rfl, _, _⟩ := dZ (h0.q 3 rfl)
 have hil : i < bq.length := (List.getElem?_eq_some_iff.1 hk).1
 obtain ⟨lI, rfl⟩ := iQ (h0.q 3 rfl) (by omega)
 obtain ⟨U9, lY, rfl⟩ := Kd.av (h0.sr 6 rfl)
 have HK : af (bq[i]? = some (NT.mk kp (.slice U9 mH.length lY) V9 Wd mH nE nH) /\ (NT.mk kp (.slice U9 mH.length lY) V9 Wd mH nE nH).p = kp) := ⟨hk, rfl⟩
 have vF := aa.z2 h0 0 rfl
 have BS := lC (aa.iZ h0 3 rfl) HK.out
 have LJ := aa.z0 h0 5 rfl
 have b1 := dJ (0 <= (i : Int))
 have b2 := dJ ((i : Int) < (bq.length : Int))
 have b3 := dJ (i < bq.length)
 have c1 := kZ ((mH.length : Int) <= 4)
 have c2 := dJ (mH.length <= 4)
 have c3 := dJ ((mH.length : Int) <= 4)
 clear h0 hk HK hil h4
 go_enter Try.func109, Try.ntmps109
 go_wp2
 refine bodyPost_ret (results_none rfl _ _ _) rfl ?_
 exact ⟨rfl, rfl⟩
end Go.Proofs.Ytoddejmlcnbdmaa.Tree

