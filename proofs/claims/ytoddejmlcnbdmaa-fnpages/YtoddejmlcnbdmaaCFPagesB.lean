/- The law FnPages holds of the given program: at every input it answers true and leaves its arguments as they were; no condition. This text: part 2 of what its proof reaches. -/
import Derived.Deep.QuietTactic
import Derived.BigQuiet
import Derived.Test.YtoddejmlcnbdmaaQWWords
import Derived.Test.YtoddejmlcnbdmaaQWMore
import Derived.OpenShut
import Derived.WideShapes
import Derived.Lib.Strings
import Derived.Laws.BitsLemmas
import Derived.Laws.BytesArg
import Derived.Test.YtoddejmlcnbdmaaCFPagesA
set_option maxHeartbeats 8000000
set_option maxRecDepth 100000
set_option linter.unusedVariables false
set_option linter.unusedSimpArgs false
open Go.RowKit Go.Proofs.YtoddejmlcnbdmaaW.PrintWords Go.Proofs.YtoddejmlcnbdmaaW.PrintLast Go.Proofs.YtoddejmlcnbdmaaW.PrintMore Go.Proofs.Ytoddejmlcnbdmaa.Gen Go.Proofs.Ytoddejmlcnbdmaa.Fn Go.Proofs.Ytoddejmlcnbdmaa.Tree
namespace Go.Proofs.Ytoddejmlcnbdmaa.Tree
theorem mW {p0 q : Prop} (h0 : p0) (h : p0 -> q := by intro uu; repeat (first | exact uu | (with_reducible refine Rd.drewN ?_ _) | (with_reducible refine Rd.drew ?_))) : q := h h0
theorem om.FN {t : PT} (h : om t) : JS t := om.few (n := SizeOf.sizeOf t) (Nat.le_refl _) h
def OfR (T E : Nat) (w : World) (r : Option PT) (e : Ending) (w' : World) : Prop :=
 Below w.heap.size w w' /\ ((r = none /\ e = .returned (.tuple #[.pointer none, .bool false])) \/
  ∃ nt : NT, r = some nt.erase /\ e = .returned (.tuple #[bu nt.p, .bool true]) /\ Sat w' w.heap.size (nt.dH T E))
theorem Tj (v : Value) : tZ (.slice none 0 0) v := fun k hk => by cases hk
theorem oD.jB (t : PT) (hs : om t) {p : Nat} (w : World) (h : Rd 96 w p t) (hb1 : (bB t).length <= 8796093022208) (hb2 : (eD t).length <= 8796093022208) : Calls Try.prog 65 #[bu p, .slice none 0 0, .slice none 0 0] w (Rx w (bB t) (eD t)) :=
 oD.calls _ t (Nat.le_refl _) hs w w (.slice none 0 0) (.slice none 0 0) [] [] h (Below.refl _ _) (SR.nil _ _) (SR.nil _ _) (Tj _) hb1 hb2
theorem oC.jB (P : List bC) (hN : P.length <= 1000000000000) (A : Option Addr) (c : Nat) (w : World) (hp : Kd.C j4 w A P.length P) (hm : ∀ p ∈ P, p.f0.length <= 1000000000000 /\ p.f1.length <= 1000000000000 /\ p.f2.length <= 1000000000000) :
  Calls Try.prog 95 #[.agg #[.slice A P.length c], .int .i64 0, .int .i64 1] w (Tg 96 70 w (bZ P 10 0)) :=
 oC.calls P hN 10 1 (by omega) (by omega) 0 A c w hp hm (Nat.zero_le _)
theorem gI.calls (P : List bC) (hN : P.length <= 1000000000000) (A : Option Addr) (c : Nat) (w : World) (hp : Kd.C j4 w A P.length P) (hm : ∀ p ∈ P, p.f0.length <= 1000000000000 /\ p.f1.length <= 1000000000000 /\ p.f2.length <= 1000000000000) :
  Calls Try.prog 57 #[.agg #[.slice A P.length c]] w (OfR 96 70 w (mq P)) := by
 have HP := A_ hp;have HM := A_ hm;have nA := A_ hN;have Us : P.length <= 1000000000000 := hN
 obtain ⟨R, hR⟩ : ∃ R, R = mq P := ⟨_, rfl⟩
 rw [<- hR];unfold mq at hR
 cases hrs : bZ P 10 0 with
 | none =>
  rw [hrs] at hR;have HE := A_ hR;have jP := A_ hrs;have tn : ((-1 : Int) != (P.length : Int)) = true := by rw [bne_iff_ne]; omega
  clear hp hm hN hR hrs;go_enter Try.func57, Try.ntmps57
  go_wp2_with (first | (refine jl 1 #[.slice A P.length c] 29 ?_; intro b3 hg w1 aA hb; have vP := A_ aA; have HB := A_ hb; have hz3 : w1.cell? ⟨b3, 0, none⟩ = some (.slice A P.length c) := (au aA 0).trans rfl; clear hg aA hb) | (go_at_call 95; (with_reducible refine (oC.jB P nA.out A c _ (Kd.aN HP.out HB.out) HM.out).mono ?_); rintro e w2 ⟨hb, hr⟩; rw [jP.out] at hr; obtain ⟨-, rfl⟩ := hr.resolve_right (by rintro ⟨_, _, h, _⟩; cases h); have hz3b : w2.cell? ⟨b3, 0, none⟩ = some (.slice A P.length c) := (au (bG vP.out hb) 0).trans rfl; have ah := A_ (ay HB.out hb); clear HB; have HB := ah; clear ah hb hr))
  go_ret2
  exact ⟨HB.out, .inl ⟨HE.out, rfl⟩⟩
 | some tn =>
  obtain ⟨t, n⟩ := tn;rw [hrs] at hR;simp only at hR;have jP := A_ hrs;have GJ := A_ (jS 10 0 t n hrs).2;have z8 := A_ (j5 10 0 t n hrs);have hn0 := kS ((n : Int) < 0)
  by_cases hn : n = P.length
  ·rw [if_neg (by simp [hn])] at hR
   have Zb : ((n : Int) != (P.length : Int)) = false := MV hn;have Zc : (n != P.length) = false := xC hn;have HZ1 := A_ (show (bB t).length <= 8796093022208 by have := GJ.out.k; omega);have HZ2 := A_ (show (eD t).length <= 8796093022208 by have := GJ.out.v; omega);have KO := A_ (show (bB t).length <= 4000000000000 by have := GJ.out.k; omega);have HRR := A_ hR;clear hp hm hN hR hrs hn;go_enter Try.func57, Try.ntmps57
   go_upto_region 6 with (first | (refine jl 1 #[.slice A P.length c] 29 ?_; intro b3 hg w1 aA hb; have vP := A_ aA; have HB := A_ hb; have hz3 : w1.cell? ⟨b3, 0, none⟩ = some (.slice A P.length c) := (au aA 0).trans rfl; clear hg aA hb) | (go_at_call 95; (with_reducible refine (oC.jB P nA.out A c _ (Kd.aN HP.out HB.out) HM.out).mono ?_); rintro e w2 ⟨hb, hr⟩; rw [jP.out] at hr; obtain ⟨nt, n9, h9, rfl, hs⟩ := hr.resolve_left (by rintro ⟨h, _⟩; cases h); injection h9 with h9; injection h9 with h9 h8; subst h9; subst h8; have hz3b : w2.cell? ⟨b3, 0, none⟩ = some (.slice A P.length c) := (au (bG vP.out hb) 0).trans rfl; have HS2 := A_ (hs.lower HB.out.size); have ah := A_ (ay HB.out hb); clear HB; have HB := ah; clear ah hb hr hs) | (go_at_call 65; (with_reducible refine (oD.jB nt.erase GJ.out.BC w2 (jc HS2.out) HZ1.out HZ2.out).mono ?_); rintro e w3 ⟨u1, u2, rfl, ho1, ho2, hne, hb⟩; obtain ⟨B1, d1, rfl, hl1, hc1⟩ := Kd.fP ho1; obtain ⟨B2, d2, rfl, hl2, hc2⟩ := Kd.fP ho2; have Aa := A_ hc1; have um := A_ hc2; have ah := A_ (ay HB.out hb); have HR3 := A_ ((jc HS2.out).under hb); have zJ := A_ (HS2.out.under hb); clear HB; have HB := ah; clear ah hb ho1 ho2 hne hl1 hl2 hc1 hc2 HS2))
   have hkb : (bB nt.erase).length <= 4000000000000 := KO.out
   obtain ⟨B, hB⟩ : ∃ B, B = pJ (bB nt.erase) (eD nt.erase) none := ⟨_, rfl⟩
   have zK := A_ hB;have Dy := A_ (iW GJ.out.BC);have Tz := A_ (show B = pJ ((bB nt.erase).drop 0) ((eD nt.erase).drop 0) (mo (bB nt.erase) 0) from hB);clear hz3 hz3b hB
   go_loopg [31] (bB nt.erase).length (fun kq u31 w' => ∃ (i m : Nat), u31 = .int .i64 (i : Int) /\ af (i <= (bB nt.erase).length /\ kq + i = (bB nt.erase).length) /\ af (B = pJ ((bB nt.erase).drop i) ((eD nt.erase).drop i) (mo (bB nt.erase) i)) /\ w' = w3.drewN m)
   case atStart => exact ⟨0, 0, by first | rfl | (simp; done), ⟨by omega⟩, Tz, rfl⟩
   case round =>
    clear Tz;obtain ⟨i, m, rfl, HK, Tz, rfl⟩ := hrel;have ci := bV (0 <= (i : Int))
    by_cases hi : i < (bB nt.erase).length
    ·have ce := lQ ((i : Int) < ((bB nt.erase).length : Int))
     have zg : (i < (bB nt.erase).length) = True := eq_true hi;have hil : i < 4000000000000 := by omega
     have Xx : i < (eD nt.erase).length := by rw [Dy.out]; exact hi
     have cva := bV ((i : Int) < ((eD nt.erase).length : Int));have cvb : (i < (eD nt.erase).length) = True := eq_true Xx;have HI := A_ hi;obtain ⟨Wt, hA1, hk0⟩ := Kd.bH Aa.out (i : Int) (by omega) (by omega);obtain ⟨Mx, hA2, hv0⟩ := Kd.bH um.out (i : Int) (by omega) (by omega);subst hA1;subst hA2;rw [Int.toNat_natCast] at hk0 hv0;have hks : (bB nt.erase)[i]? = some (bO ByteArray.empty (bB nt.erase) (i : Int)) := by unfold bO; rw [Int.toNat_natCast, List.getD_eq_getElem?_getD, List.getElem?_eq_getElem hi]; rfl
     have hvs : (eD nt.erase)[i]? = some (bO ByteArray.empty (eD nt.erase) (i : Int)) := by unfold bO; rw [Int.toNat_natCast, List.getD_eq_getElem?_getD, List.getElem?_eq_getElem Xx]; rfl
     generalize bO ByteArray.empty (bB nt.erase) (i : Int) = kx at hk0 hks;generalize bO ByteArray.empty (eD nt.erase) (i : Int) = vx at hv0 hvs;have jw := A_ hks;have Zd := A_ hvs;clear hks hvs hi Xx
     cases hpr : oF kx vx with
     | false =>
      have NV := A_ ((sQ kx vx).trans (by rw [hpr]));have hbf := OO Tz.out jw.out Zd.out hpr;have HE := A_ (show R = none by have := HRR.out; rw [if_pos (by rw [<- zK.out]; exact hbf)] at this; exact this);clear hpr hbf
      go_wp2_with (go_at_call 75; (with_reducible refine (eP.calls kx vx false _ NV.out).mono ?_); rintro e w' ⟨rfl, ⟨nd, rfl⟩⟩)
      go_ret2
      exact ⟨aj HB.out _, .inl ⟨HE.out, rfl⟩⟩
     | true =>
      have NV := A_ ((sQ kx vx).trans (by rw [hpr]));have HPRT := A_ hpr;clear hpr
      by_cases hi0 : 0 < i
      ·have t0 := lQ (0 < (i : Int))
       have t0b : (0 < i) = True := eq_true hi0
       obtain ⟨ji, hji⟩ : ∃ j : Int, j = (i : Int) - 1 := ⟨_, rfl⟩
       have hjw : IntKind.i64.wrap ((i : Int) - 1) = ji := by rw [IntWalk.i64_in _ (by omega)]; exact hji.symm
       obtain ⟨adp, hA3, hp0⟩ := Kd.bH Aa.out ji (by omega) (by have := HI.out; omega);obtain rfl : Wt = adp := Option.some.inj hA3
       have hps : mo (bB nt.erase) i = some (bO ByteArray.empty (bB nt.erase) ji) := by
        obtain ⟨j, rfl⟩ : ∃ j, i = j + 1 := ⟨i - 1, by omega⟩
        have e : ji.toNat = j := by omega
        show (bB nt.erase)[j]? = _;unfold bO;rw [e, List.getD_eq_getElem?_getD, List.getElem?_eq_getElem (by have := HI.out; omega)];rfl
       generalize bO ByteArray.empty (bB nt.erase) ji = px at hp0 hps;have cj0 := bV (0 <= ji);have cj1 : (ji < ((bB nt.erase).length : Int)) = True := eq_true (by have := HI.out; omega);have cj2 := lQ (0 <= ji);have cj3 : decide (ji < ((bB nt.erase).length : Int)) = true := decide_eq_true (by have := HI.out; omega);have Wu := A_ hps;clear hps hi0 hji
       cases hlt : yK px kx with
       | true =>
        have Ze := A_ (OM Tz.out jw.out Zd.out HPRT.out (fun p hp => by rw [Wu.out] at hp; injection hp with hp; rw [<- hp]; exact hlt));have hl' : Op.bytesLess px.toList kx.toList = true := hlt;clear hlt
        go_wp2_with (go_at_call 75; (with_reducible refine (eP.calls kx vx true _ NV.out).mono ?_); rintro e w' ⟨rfl, ⟨nd, rfl⟩⟩)
        go_roundg ((bB nt.erase).length - (i + 1))
        case measure => have := HK.out; have := HI.out; omega
        case rel => exact ⟨i + 1, _, by first | rfl | go_num | (simp; done), ⟨by have := HK.out; have := HI.out; omega⟩, Ze, rfl⟩
       | false =>
        have hbf := OP Tz.out jw.out Wu.out hlt;have HE := A_ (show R = none by have := HRR.out; rw [if_pos (by rw [<- zK.out]; exact hbf)] at this; exact this);have hl' : Op.bytesLess px.toList kx.toList = false := hlt;clear hlt hbf
        go_wp2_with (go_at_call 75; (with_reducible refine (eP.calls kx vx true _ NV.out).mono ?_); rintro e w' ⟨rfl, ⟨nd, rfl⟩⟩)
        go_ret2
        exact ⟨aj HB.out _, .inl ⟨HE.out, rfl⟩⟩
      ·have t0 := kS (0 < (i : Int))
       have t0b : (0 < i) = False := eq_false hi0;have Ze := A_ (OM Tz.out jw.out Zd.out HPRT.out (fun p hp => by have h_ : i = 0 := (by omega); rw [h_] at hp; cases hp));clear hi0
       go_wp2_with (go_at_call 75; (with_reducible refine (eP.calls kx vx true _ NV.out).mono ?_); rintro e w' ⟨rfl, ⟨nd, rfl⟩⟩)
       go_roundg ((bB nt.erase).length - (i + 1))
       case measure => have := HK.out; have := HI.out; omega
       case rel => exact ⟨i + 1, _, by first | rfl | go_num | (simp; done), ⟨by have := HK.out; have := HI.out; omega⟩, Ze, rfl⟩
    ·have ce := kS ((i : Int) < ((bB nt.erase).length : Int))
     have zg : (i < (bB nt.erase).length) = False := eq_false hi;have hbt := RA Tz.out (by omega);have hrr := HRR.out;rw [if_neg (by rw [<- zK.out, hbt]; decide)] at hrr;obtain ⟨Ak, ck, Av, cv, Ac, cc, ps, HN3⟩ := HR3.out.open;have hzn := HN3.z0;clear hi hbt HN3
     by_cases h1 : iJ nt.erase < 0
     ·have HE := A_ (show R = none by rw [hrr, if_pos (.inl h1)])
      have t1 : decide (iJ nt.erase < 0) = true := decide_eq_true h1;clear h1 hrr
      go_wp2_with (go_at_call 61; (with_reducible refine (pY.calls _ nt.erase (Nat.le_refl _) GJ.out.BC.FN _ ?az).mono ?_); (case az => exact mW HR3.out); rintro e w' ⟨rfl, ⟨nd, rfl⟩⟩)
      go_ret2
      exact ⟨aj HB.out _, .inl ⟨HE.out, rfl⟩⟩
     ·have t1 : decide (iJ nt.erase < 0) = false := decide_eq_false h1
      by_cases h2 : nt.erase.kids.length = 0
      ·have hbl := A_ (show decide ((nt.erase.kids.length : Int) = 0) = true from decide_eq_true (by omega))
       by_cases h4 : 40 < (bB nt.erase).length
       ·have HE := A_ (show R = none by rw [hrr, if_pos (.inr (.inr h4))])
        have t4 := lQ (40 < ((bB nt.erase).length : Int));have Ux : (40 < (bB nt.erase).length) = True := eq_true h4;clear h1 h2 h4 hrr
        go_wp2_with (first | (go_at_call 61; (with_reducible refine (pY.calls _ nt.erase (Nat.le_refl _) GJ.out.BC.FN _ ?az).mono ?_); (case az => exact mW HR3.out); rintro e w' ⟨rfl, ⟨nd, rfl⟩⟩) | (go_at_call 84; (with_reducible refine (dm.cK true hbl.out _ ?az).mono ?_); (case az => exact mW HR3.out); rintro e w' ⟨rfl, ⟨nd, rfl⟩⟩))
        go_ret2
        exact ⟨aj HB.out _, .inl ⟨HE.out, rfl⟩⟩
       ·have HE := A_ (show R = some nt.erase by rw [hrr, if_neg (by omega)])
        have t4 := kS (40 < ((bB nt.erase).length : Int));have Ux : (40 < (bB nt.erase).length) = False := eq_false h4;clear h1 h2 h4 hrr
        go_wp2_with (first | (go_at_call 61; (with_reducible refine (pY.calls _ nt.erase (Nat.le_refl _) GJ.out.BC.FN _ ?az).mono ?_); (case az => exact mW HR3.out); rintro e w' ⟨rfl, ⟨nd, rfl⟩⟩) | (go_at_call 84; (with_reducible refine (dm.cK true hbl.out _ ?az).mono ?_); (case az => exact mW HR3.out); rintro e w' ⟨rfl, ⟨nd, rfl⟩⟩))
        go_ret2
        exact ⟨aj HB.out _, .inr ⟨nt, HE.out, rfl, (zJ.out.drewN _).lower (Nat.le_refl _)⟩⟩
      ·have hbl := A_ (show decide ((nt.erase.kids.length : Int) = 0) = false from decide_eq_false (by omega))
       by_cases h3 : nt.erase.keys.length = 0
       ·have HE := A_ (show R = none by rw [hrr, if_pos (.inr (.inl ⟨h2, h3⟩))])
        have t3 : ((nt.erase.keys.length : Int) == 0) = true := by rw [beq_iff_eq]; omega
        have Wq := bV ((nt.erase.keys.length : Int) = 0);have t3c := lQ ((nt.erase.keys.length : Int) = 0);clear h1 h2 h3 hrr
        go_wp2_with (first | (go_at_call 61; (with_reducible refine (pY.calls _ nt.erase (Nat.le_refl _) GJ.out.BC.FN _ ?az).mono ?_); (case az => exact mW HR3.out); rintro e w' ⟨rfl, ⟨nd, rfl⟩⟩) | (go_at_call 84; (with_reducible refine (dm.cK false hbl.out _ ?az).mono ?_); (case az => exact mW HR3.out); rintro e w' ⟨rfl, ⟨nd, rfl⟩⟩))
        go_ret2
        exact ⟨aj HB.out _, .inl ⟨HE.out, rfl⟩⟩
       ·have t3 : ((nt.erase.keys.length : Int) == 0) = false := by rw [beq_eq_false_iff_ne]; omega
        have t3c := kS ((nt.erase.keys.length : Int) = 0)
        by_cases h4 : 40 < (bB nt.erase).length
        ·have HE := A_ (show R = none by rw [hrr, if_pos (.inr (.inr h4))])
         have t4 := lQ (40 < ((bB nt.erase).length : Int));have Ux : (40 < (bB nt.erase).length) = True := eq_true h4;clear h1 h2 h3 h4 hrr
         go_wp2_with (first | (go_at_call 61; (with_reducible refine (pY.calls _ nt.erase (Nat.le_refl _) GJ.out.BC.FN _ ?az).mono ?_); (case az => exact mW HR3.out); rintro e w' ⟨rfl, ⟨nd, rfl⟩⟩) | (go_at_call 84; (with_reducible refine (dm.cK false hbl.out _ ?az).mono ?_); (case az => exact mW HR3.out); rintro e w' ⟨rfl, ⟨nd, rfl⟩⟩))
         go_ret2
         exact ⟨aj HB.out _, .inl ⟨HE.out, rfl⟩⟩
        ·have HE := A_ (show R = some nt.erase by rw [hrr, if_neg (by omega)])
         have t4 := kS (40 < ((bB nt.erase).length : Int));have Ux : (40 < (bB nt.erase).length) = False := eq_false h4;clear h1 h2 h3 h4 hrr
         go_wp2_with (first | (go_at_call 61; (with_reducible refine (pY.calls _ nt.erase (Nat.le_refl _) GJ.out.BC.FN _ ?az).mono ?_); (case az => exact mW HR3.out); rintro e w' ⟨rfl, ⟨nd, rfl⟩⟩) | (go_at_call 84; (with_reducible refine (dm.cK false hbl.out _ ?az).mono ?_); (case az => exact mW HR3.out); rintro e w' ⟨rfl, ⟨nd, rfl⟩⟩))
         go_ret2
         exact ⟨aj HB.out _, .inr ⟨nt, HE.out, rfl, (zJ.out.drewN _).lower (Nat.le_refl _)⟩⟩
  ·rw [if_pos (by simpa using hn)] at hR
   have HE := A_ hR;have Zb : ((n : Int) != (P.length : Int)) = true := Rw hn;have Zc : (n != P.length) = true := zx hn;clear hp hm hN hR hrs hn;go_enter Try.func57, Try.ntmps57
   go_wp2_with (first | (refine jl 1 #[.slice A P.length c] 29 ?_; intro b3 hg w1 aA hb; have vP := A_ aA; have HB := A_ hb; have hz3 : w1.cell? ⟨b3, 0, none⟩ = some (.slice A P.length c) := (au aA 0).trans rfl; clear hg aA hb) | (go_at_call 95; (with_reducible refine (oC.jB P nA.out A c _ (Kd.aN HP.out HB.out) HM.out).mono ?_); rintro e w2 ⟨hb, hr⟩; rw [jP.out] at hr; obtain ⟨nt, n9, h9, rfl, hs⟩ := hr.resolve_left (by rintro ⟨h, _⟩; cases h); injection h9 with h9; injection h9 with h9 h8; subst h9; subst h8; have hz3b : w2.cell? ⟨b3, 0, none⟩ = some (.slice A P.length c) := (au (bG vP.out hb) 0).trans rfl; have HS2 := A_ (hs.lower HB.out.size); have ah := A_ (ay HB.out hb); clear HB; have HB := ah; clear ah hb hr hs))
   go_ret2
   exact ⟨HB.out, .inl ⟨HE.out, rfl⟩⟩
theorem FO {p0 q : Prop} (h0 : p0) (h : p0 -> q := by intro uu; repeat (first | exact uu | (with_reducible refine Rd.drewN ?_ _) | (with_reducible refine Rd.drew ?_))) : q := h h0
theorem rM.jB (t : PT) (hs : om t) {p : Nat} (w : World) (h : Rd 101 w p t) (hb1 : (bB t).length <= 8796093022208) (hb2 : (eD t).length <= 8796093022208) : Calls Try.prog 66 #[bu p, .slice none 0 0, .slice none 0 0] w (Rx w (bB t) (eD t)) :=
 rM.calls _ t (Nat.le_refl _) hs w w (.slice none 0 0) (.slice none 0 0) [] [] h (Below.refl _ _) (SR.nil _ _) (SR.nil _ _) (Tj _) hb1 hb2
theorem nO.jB (P : List bC) (hN : P.length <= 1000000000000) (w0 : World) (A : Option Addr) (c : Nat) (hp : Kd.C j4 w0 A P.length P) (hm : ∀ p ∈ P, p.f0.length <= 1000000000000 /\ p.f1.length <= 1000000000000 /\ p.f2.length <= 1000000000000) (gb : Nat) (w : World) (hb : Below w0.heap.size w0 w) (hgb : w0.heap.size <= gb) (hg : w.heap[gb]? = some (.cells #[.slice A P.length c, .int .i64 0] 121 (0, 0))) :
  Calls Try.prog 97 #[bu gb] w (Ti w0 w gb (.slice A P.length c) (bZ P (P.length + 1) 0)) :=
 nO.calls P hN w0 A c hp hm (P.length + 1) 0 (by omega) (Nat.zero_le _) gb w hb hgb hg
theorem iP.calls (k : Nat) (P : List bC) (hN : P.length <= 1000000000000) (A : Option Addr) (c : Nat) (w : World) (hp : Kd.C j4 w A P.length P) (hm : ∀ p ∈ P, p.f0.length <= 1000000000000 /\ p.f1.length <= 1000000000000 /\ p.f2.length <= 1000000000000) (r : Option PT) (h : mK k P = some r) :
  Calls Try.prog 59 #[.agg #[.slice A P.length c]] w (OfR 101 74 w r) := by
 have HP := A_ hp;have HM := A_ hm;have nA := A_ hN;have Us : P.length <= 1000000000000 := hN;unfold mK at h
 cases hrs : bZ P (P.length + 1) 0 with
 | none =>
  rw [hrs] at h;have HE := A_ (Option.some.inj h);have jP := A_ hrs;clear hp hm hN h hrs;go_enter Try.func59, Try.ntmps59
  go_wp2_with (first | (refine jl 1 #[.slice A P.length c] 29 ?_; intro b3 hg w1 aA hb; have vP := A_ aA; have HB := A_ hb; have hz3 : w1.cell? ⟨b3, 0, none⟩ = some (.slice A P.length c) := (au aA 0).trans rfl; clear hg aA hb) | (refine jl 12 #[.slice A P.length c, .int .i64 0] 121 ?_; intro gb hg w2 aA hb; have Fs := A_ (show w.heap.size <= gb by rw [hg]; exact HB.out.size); have Om := A_ (show b3 ≠ gb by have := gU vP.out; omega); have HG := A_ aA; have bT := A_ (bG vP.out hb); have ah := A_ (ay HB.out hb); clear HB; clear vP; have HB := ah; have vP := bT; clear ah bT hg aA hb) | (go_at_call 97; (with_reducible refine (nO.jB P nA.out w A c HP.out HM.out gb _ HB.out Fs.out HG.out).mono ?_); rintro e w3 ⟨hb, hr⟩; rw [jP.out] at hr; obtain ⟨-, rfl⟩ := hr.resolve_right (by rintro ⟨_, _, h, _⟩; cases h); clear HB; have HB := A_ hb; clear hb hr))
  go_quiet (fail)
  go_wp2
  go_ret2
  exact ⟨aj HB.out _, .inl ⟨HE.out.symm, rfl⟩⟩
 | some tn =>
  obtain ⟨t, n⟩ := tn;rw [hrs] at h;simp only at h;have jP := A_ hrs;have GJ := A_ (jS _ 0 t n hrs).2;have z8 := A_ (j5 _ 0 t n hrs)
  by_cases hn : n = P.length
  ·rw [if_neg (by simp [hn])] at h
   have Zb : ((n : Int) != (P.length : Int)) = false := MV hn;have Zc : (n != P.length) = false := xC hn;have HZ1 := A_ (show (bB t).length <= 8796093022208 by have := GJ.out.k; omega);have HZ2 := A_ (show (eD t).length <= 8796093022208 by have := GJ.out.v; omega)
   obtain ⟨dd, bb, hdp⟩ : ∃ d b, jy t = (d, b) := ⟨_, _, rfl⟩
   have Zf := A_ hdp;rw [hdp] at h
   cases bb with
   | false =>
    have HE := A_ (Option.some.inj h);clear hp hm hN h hrs hn hdp;go_enter Try.func59, Try.ntmps59
    go_wp2_with (first | (refine jl 1 #[.slice A P.length c] 29 ?_; intro b3 hg w1 aA hb; have vP := A_ aA; have HB := A_ hb; have hz3 : w1.cell? ⟨b3, 0, none⟩ = some (.slice A P.length c) := (au aA 0).trans rfl; clear hg aA hb) | (refine jl 12 #[.slice A P.length c, .int .i64 0] 121 ?_; intro gb hg w2 aA hb; have Fs := A_ (show w.heap.size <= gb by rw [hg]; exact HB.out.size); have Om := A_ (show b3 ≠ gb by have := gU vP.out; omega); have HG := A_ aA; have bT := A_ (bG vP.out hb); have ah := A_ (ay HB.out hb); clear HB; clear vP; have HB := ah; have vP := bT; clear ah bT hg aA hb) | (go_at_call 97; (with_reducible refine (nO.jB P nA.out w A c HP.out HM.out gb _ HB.out Fs.out HG.out).mono ?_); rintro e w3 ⟨hb, hr⟩; rw [jP.out] at hr; obtain ⟨nt, n9, h9, rfl, hs, hk, hg⟩ := hr.resolve_left (by rintro ⟨h, _⟩; cases h); injection h9 with h9; injection h9 with h9 h8; subst h9; subst h8; have hz3b : w3.cell? ⟨b3, 0, none⟩ = some (.slice A P.length c) := (au (uD vP.out hk Om.out) 0).trans rfl; have hzg : w3.cell? ⟨gb, 1, none⟩ = some (.int .i64 (n : Int)) := (au hg 1).trans rfl; have HS2 := A_ (hs.lower HB.out.size); clear HB; have HB := A_ hb; have HR3 := A_ (jc HS2.out); clear hb hr hs hk hg))
    go_quiet (fail)
    go_wp2_with (go_at_call 62; (with_reducible refine (wQ.calls _ nt.erase (Nat.le_refl _) GJ.out.BC.FN dd false Zf.out _ ?az).mono ?_); (case az => exact FO HR3.out); rintro e w' ⟨rfl, ⟨nd, rfl⟩⟩)
    go_ret2
    exact ⟨aj HB.out _, .inl ⟨HE.out.symm, rfl⟩⟩
   | true =>
    rw [if_neg (by simp)] at h;obtain ⟨b, hap, h⟩ := Option.bind_eq_some_iff.mp h;have HAP := A_ hap
    cases b with
    | false =>
     have HE := A_ (Option.some.inj h);clear hp hm hN h hrs hn hdp hap;go_enter Try.func59, Try.ntmps59
     go_wp2_with (first | (refine jl 1 #[.slice A P.length c] 29 ?_; intro b3 hg w1 aA hb; have vP := A_ aA; have HB := A_ hb; have hz3 : w1.cell? ⟨b3, 0, none⟩ = some (.slice A P.length c) := (au aA 0).trans rfl; clear hg aA hb) | (refine jl 12 #[.slice A P.length c, .int .i64 0] 121 ?_; intro gb hg w2 aA hb; have Fs := A_ (show w.heap.size <= gb by rw [hg]; exact HB.out.size); have Om := A_ (show b3 ≠ gb by have := gU vP.out; omega); have HG := A_ aA; have bT := A_ (bG vP.out hb); have ah := A_ (ay HB.out hb); clear HB; clear vP; have HB := ah; have vP := bT; clear ah bT hg aA hb) | (go_at_call 97; (with_reducible refine (nO.jB P nA.out w A c HP.out HM.out gb _ HB.out Fs.out HG.out).mono ?_); rintro e w3 ⟨hb, hr⟩; rw [jP.out] at hr; obtain ⟨nt, n9, h9, rfl, hs, hk, hg⟩ := hr.resolve_left (by rintro ⟨h, _⟩; cases h); injection h9 with h9; injection h9 with h9 h8; subst h9; subst h8; have hz3b : w3.cell? ⟨b3, 0, none⟩ = some (.slice A P.length c) := (au (uD vP.out hk Om.out) 0).trans rfl; have hzg : w3.cell? ⟨gb, 1, none⟩ = some (.int .i64 (n : Int)) := (au hg 1).trans rfl; have HS2 := A_ (hs.lower HB.out.size); clear HB; have HB := A_ hb; have HR3 := A_ (jc HS2.out); clear hb hr hs hk hg))
     have Zg := fun m => HR3.out.drewN m
     go_quiet (fail)
     go_wp2_with (first | (go_at_call 62; (with_reducible refine (wQ.calls _ nt.erase (Nat.le_refl _) GJ.out.BC.FN dd true Zf.out _ ?az).mono ?_); (case az => exact FO HR3.out); rintro e w' ⟨rfl, ⟨nd, rfl⟩⟩) | (go_at_call 66; (with_reducible refine (rM.jB nt.erase GJ.out.BC _ (Zg _) HZ1.out HZ2.out).mono ?_); rintro e w5 ⟨u1, u2, rfl, ho1, ho2, hne, hb⟩; obtain ⟨B1, d1, rfl, hl1, hc1⟩ := Kd.fP ho1; obtain ⟨B2, d2, rfl, hl2, hc2⟩ := Kd.fP ho2; have Aa := A_ hc1; have um := A_ hc2; have HD1 := A_ hl1; have HD2 := A_ hl2; have ah := A_ (ay (aj HB.out _) hb); have zJ := A_ ((HS2.out.drewN _).under hb); clear HB; have HB := ah; clear ah hb ho1 ho2 hne hl1 hl2 hc1 hc2 HS2) | (go_at_call 86; (with_reducible refine (eZ.calls k _ _ (bB nt.erase) _ _ (eD nt.erase) false _ Aa.out HD1.out um.out HD2.out HAP.out).mono ?_); rintro e w' ⟨rfl, ⟨nd, rfl⟩⟩))
     go_ret2
     exact ⟨aj HB.out _, .inl ⟨HE.out.symm, rfl⟩⟩
    | true =>
     have HE := A_ (Option.some.inj h);clear hp hm hN h hrs hn hdp hap;go_enter Try.func59, Try.ntmps59
     go_wp2_with (first | (refine jl 1 #[.slice A P.length c] 29 ?_; intro b3 hg w1 aA hb; have vP := A_ aA; have HB := A_ hb; have hz3 : w1.cell? ⟨b3, 0, none⟩ = some (.slice A P.length c) := (au aA 0).trans rfl; clear hg aA hb) | (refine jl 12 #[.slice A P.length c, .int .i64 0] 121 ?_; intro gb hg w2 aA hb; have Fs := A_ (show w.heap.size <= gb by rw [hg]; exact HB.out.size); have Om := A_ (show b3 ≠ gb by have := gU vP.out; omega); have HG := A_ aA; have bT := A_ (bG vP.out hb); have ah := A_ (ay HB.out hb); clear HB; clear vP; have HB := ah; have vP := bT; clear ah bT hg aA hb) | (go_at_call 97; (with_reducible refine (nO.jB P nA.out w A c HP.out HM.out gb _ HB.out Fs.out HG.out).mono ?_); rintro e w3 ⟨hb, hr⟩; rw [jP.out] at hr; obtain ⟨nt, n9, h9, rfl, hs, hk, hg⟩ := hr.resolve_left (by rintro ⟨h, _⟩; cases h); injection h9 with h9; injection h9 with h9 h8; subst h9; subst h8; have hz3b : w3.cell? ⟨b3, 0, none⟩ = some (.slice A P.length c) := (au (uD vP.out hk Om.out) 0).trans rfl; have hzg : w3.cell? ⟨gb, 1, none⟩ = some (.int .i64 (n : Int)) := (au hg 1).trans rfl; have HS2 := A_ (hs.lower HB.out.size); clear HB; have HB := A_ hb; have HR3 := A_ (jc HS2.out); clear hb hr hs hk hg))
     have Zg := fun m => HR3.out.drewN m
     go_quiet (fail)
     go_wp2_with (first | (go_at_call 62; (with_reducible refine (wQ.calls _ nt.erase (Nat.le_refl _) GJ.out.BC.FN dd true Zf.out _ ?az).mono ?_); (case az => exact FO HR3.out); rintro e w' ⟨rfl, ⟨nd, rfl⟩⟩) | (go_at_call 66; (with_reducible refine (rM.jB nt.erase GJ.out.BC _ (Zg _) HZ1.out HZ2.out).mono ?_); rintro e w5 ⟨u1, u2, rfl, ho1, ho2, hne, hb⟩; obtain ⟨B1, d1, rfl, hl1, hc1⟩ := Kd.fP ho1; obtain ⟨B2, d2, rfl, hl2, hc2⟩ := Kd.fP ho2; have Aa := A_ hc1; have um := A_ hc2; have HD1 := A_ hl1; have HD2 := A_ hl2; have ah := A_ (ay (aj HB.out _) hb); have zJ := A_ ((HS2.out.drewN _).under hb); clear HB; have HB := ah; clear ah hb ho1 ho2 hne hl1 hl2 hc1 hc2 HS2) | (go_at_call 86; (with_reducible refine (eZ.calls k _ _ (bB nt.erase) _ _ (eD nt.erase) true _ Aa.out HD1.out um.out HD2.out HAP.out).mono ?_); rintro e w' ⟨rfl, ⟨nd, rfl⟩⟩))
     go_ret2
     exact ⟨aj HB.out _, .inr ⟨nt, by rw [<- HE.out]; rfl, rfl, zJ.out.drewN _⟩⟩
  ·rw [if_pos (by simpa using hn)] at h
   have HE := A_ (Option.some.inj h);have Zb : ((n : Int) != (P.length : Int)) = true := Rw hn;have Zc : (n != P.length) = true := zx hn;clear hp hm hN h hrs hn;go_enter Try.func59, Try.ntmps59
   go_wp2_with (first | (refine jl 1 #[.slice A P.length c] 29 ?_; intro b3 hg w1 aA hb; have vP := A_ aA; have HB := A_ hb; have hz3 : w1.cell? ⟨b3, 0, none⟩ = some (.slice A P.length c) := (au aA 0).trans rfl; clear hg aA hb) | (refine jl 12 #[.slice A P.length c, .int .i64 0] 121 ?_; intro gb hg w2 aA hb; have Fs := A_ (show w.heap.size <= gb by rw [hg]; exact HB.out.size); have Om := A_ (show b3 ≠ gb by have := gU vP.out; omega); have HG := A_ aA; have bT := A_ (bG vP.out hb); have ah := A_ (ay HB.out hb); clear HB; clear vP; have HB := ah; have vP := bT; clear ah bT hg aA hb) | (go_at_call 97; (with_reducible refine (nO.jB P nA.out w A c HP.out HM.out gb _ HB.out Fs.out HG.out).mono ?_); rintro e w3 ⟨hb, hr⟩; rw [jP.out] at hr; obtain ⟨nt, n9, h9, rfl, hs, hk, hg⟩ := hr.resolve_left (by rintro ⟨h, _⟩; cases h); injection h9 with h9; injection h9 with h9 h8; subst h9; subst h8; have hz3b : w3.cell? ⟨b3, 0, none⟩ = some (.slice A P.length c) := (au (uD vP.out hk Om.out) 0).trans rfl; have hzg : w3.cell? ⟨gb, 1, none⟩ = some (.int .i64 (n : Int)) := (au hg 1).trans rfl; have HS2 := A_ (hs.lower HB.out.size); clear HB; have HB := A_ hb; have HR3 := A_ (jc HS2.out); clear hb hr hs hk hg))
   go_quiet (fail)
   go_wp2
   go_ret2
   exact ⟨aj HB.out _, .inl ⟨HE.out.symm, rfl⟩⟩
theorem pK {p0 q : Prop} (h0 : p0) (h : p0 -> q := by intro uu; repeat (first | exact uu | (with_reducible refine Rd.drewN ?_ _) | (with_reducible refine Rd.drew ?_))) : q := h h0
theorem vB {p0 q : Prop} (h0 : p0) (h : p0 -> q := by intro uu; repeat (first | exact uu.hk | (with_reducible refine Kd.dB ?_ _) | (with_reducible refine Kd.gD ?_))) : q := h h0
theorem qF.calls (t : PT) (hm : t.keys.length <= 1000000000000) (key : ByteArray) (i0 : Nat) (b : Bool) (hi0 : dG key t.keys = i0) (hb : jg t.keys i0 key = b) {p : Nat} (w : World) (h : Rd 96 w p t) :
  Calls Try.prog 100 #[bu p, .string key] w fun e w' => e = .returned (.tuple #[.int .i64 (i0 : Int), .bool b]) /\ av w w' := by
 obtain ⟨Ak, ck, Av, cv, Ac, cc, ps, ym⟩ := h.open;have HN := A_ ym;have hz0 := ym.z0;have HE := A_ (show i0 = 0 + dG key (t.keys.drop 0) by rw [List.drop_zero, Nat.zero_add]; exact hi0.symm);have zK := A_ hb;clear h ym hi0 hb;go_enter Try.func100, Try.ntmps100;go_wp2
 go_loopg [6] t.keys.length (fun kq u6 w' => ∃ (i m : Nat), u6 = .int .i64 (i : Int) /\ af (i <= t.keys.length /\ kq + i = t.keys.length) /\ af (i0 = i + dG key (t.keys.drop i)) /\ w' = w.drewN m)
 case atStart => exact ⟨0, 0, by first | rfl | (simp; done), ⟨by omega⟩, HE, rfl⟩
 case round =>
  clear HE;obtain ⟨i, m, rfl, HK, HE, rfl⟩ := hrel;have ci := bV (0 <= (i : Int))
  by_cases hi : i < t.keys.length
  ·have ce := lQ ((i : Int) < (t.keys.length : Int))
   have zg : (i < t.keys.length) = True := eq_true hi;have hil : i < 1000000000000 := by omega
   have HI := A_ hi;obtain ⟨Wt, rfl, hk0⟩ := HN.out.key i (by omega) (by omega);rw [Int.toNat_natCast] at hk0;have hks : t.keys[i]? = some (bO ByteArray.empty t.keys (i : Int)) := by unfold bO; rw [Int.toNat_natCast, List.getD_eq_getElem?_getD, List.getElem?_eq_getElem hi]; rfl
   generalize bO ByteArray.empty t.keys (i : Int) = k at hk0 hks;have jw := A_ hks;clear hks hi
   cases hlt : yK k key with
   | true =>
    have oQ := A_ (TJ jw.out HE.out hlt);have hlt' : Op.bytesLess k.toList key.toList = true := hlt;clear hlt;go_wp2
    go_roundg (t.keys.length - (i + 1))
    case measure => have := HK.out; have := HI.out; omega
    case rel => exact ⟨i + 1, _, by first | rfl | go_num | (simp; done), ⟨by have := HK.out; have := HI.out; omega⟩, oQ, rfl⟩
   | false =>
    have he := Ry jw.out HE.out hlt;subst he;have hlt' : Op.bytesLess k.toList key.toList = false := hlt;have hbb : (k.toList == key.toList) = b := by have := zK.out; unfold jg at this; rw [jw.out] at this; exact this
    clear hlt;go_wp2
    go_quiet (fail)
    go_wp2
    go_ret2
    exact ⟨rfl, by repeat (first | exact av.refl _ | apply av.step | exact ⟨_, rfl⟩)⟩
  ·have ce := kS ((i : Int) < (t.keys.length : Int))
   have zg : (i < t.keys.length) = False := eq_false hi;have he := Rz (by omega) HE.out;subst he
   obtain rfl : b = false := by
    cases b with
    | false => rfl
    | true => exact absurd (jQ zK.out) hi
   clear hi;go_wp2
   go_quiet (fail)
   go_wp2
   go_ret2
   exact ⟨rfl, by repeat (first | exact av.refl _ | apply av.step | exact ⟨_, rfl⟩)⟩
theorem BF.calls : ∀ (n : Nat) (t : PT), t.big <= n -> om t -> ∀ (key v : ByteArray) (b : Bool), xH n t key = (v, b) -> ∀ {p : Nat} (w : World), Rd 96 w p t ->
  Calls Try.prog 63 #[bu p, .string key] w fun e w' => e = .returned (.tuple #[.string v, .bool b]) /\ av w w' := by
 intro n
 induction n with
 | zero =>
  intro t hs;exact absurd (PT.fB t) (by omega)
 | succ n ih =>
  intro t hs hf key v b hr p w h;obtain ⟨Ak, ck, Av, cv, Ac, cc, ps, ym⟩ := h.open;have h1 := hf.one;unfold wN at h1;have hle := lS key t.keys;have HN := A_ ym;have HO := A_ h;have HF := A_ hf;have Hd := A_ hs;have hz1 := ym.z1;have hz2 := ym.z2
  obtain ⟨i, hi⟩ : ∃ i, dG key t.keys = i := ⟨_, rfl⟩
  rw [xH, hi] at hr;rw [hi] at hle;have HI := A_ hi;have ci := bV (0 <= (i : Int))
  cases hh : jg t.keys i key with
  | true =>
   have hlt := jQ hh;rw [hh, if_pos rfl] at hr
   injection hr with e1 e2
   subst e2;obtain ⟨Mx, rfl, hv0⟩ := ym.val i (by omega) (by omega);rw [Int.toNat_natCast] at hv0;rw [e1] at hv0;have cvb := bV (i < t.vals.length);have cva := bV ((i : Int) < (t.vals.length : Int));have HH := A_ hh;have HM := A_ (show t.keys.length <= 1000000000000 by omega);clear h1 hle hlt hh hi h hf hs ym e1;go_enter Try.func63, Try.ntmps63
   go_wp2_with (go_at_call 100; (with_reducible refine (qF.calls t HM.out key i true HI.out HH.out _ ?az).mono ?_); (case az => exact pK HO.out); rintro e w' ⟨rfl, ⟨nd, rfl⟩⟩)
   go_ret2
   exact ⟨rfl, by repeat (first | exact av.refl _ | apply av.step | exact ⟨_, rfl⟩)⟩
  | false =>
   rw [hh, if_neg (by decide)] at hr;have HH := A_ hh;have HM := A_ (show t.keys.length <= 1000000000000 by omega)
   by_cases h0 : t.kids.length = 0
   ·rw [if_pos h0] at hr
    injection hr with e1 e2
    subst e1; subst e2;have hb0 := A_ (show decide ((t.kids.length : Int) = 0) = true from decide_eq_true (by omega));clear h1 hle hh hi h hf hs ym h0;go_enter Try.func63, Try.ntmps63
    go_wp2_with (first | (go_at_call 100; (with_reducible refine (qF.calls t HM.out key i false HI.out HH.out _ ?az).mono ?_); (case az => exact pK HO.out); rintro e w' ⟨rfl, ⟨nd, rfl⟩⟩) | (go_at_call 84; (with_reducible refine (dm.cK true hb0.out _ ?az).mono ?_); (case az => exact pK HO.out); rintro e w' ⟨rfl, ⟨nd, rfl⟩⟩))
    go_ret2
    exact ⟨by first | rfl | (simp; done), by repeat (first | exact av.refl _ | apply av.step | exact ⟨_, rfl⟩)⟩
   ·rw [if_neg h0] at hr
    have hb0 := A_ (show decide ((t.kids.length : Int) = 0) = false from decide_eq_false (by omega));have hkl : t.kids.length = t.keys.length + 1 := h1.2.2.resolve_left h0;obtain ⟨adc, q, s, rfl, hc0, hs', hrs⟩ := ym.kid i (by omega) (by omega);rw [Int.toNat_natCast] at hc0 hs';rw [hs'] at hr;have HS := A_ hs';have Re := A_ hrs;have HR := A_ (show xH n s key = (v, b) from hr);have Yn := bV ((i : Int) < (t.kids.length : Int));have hcb := bV (i < t.kids.length);clear h1 hle hh hi h hf hs ym h0 hr hkl hs' hrs;go_enter Try.func63, Try.ntmps63
    go_wp2_with (first | (go_at_call 100; (with_reducible refine (qF.calls t HM.out key i false HI.out HH.out _ ?az).mono ?_); (case az => exact pK HO.out); rintro e w' ⟨rfl, ⟨nd, rfl⟩⟩) | (go_at_call 84; (with_reducible refine (dm.cK false hb0.out _ ?az).mono ?_); (case az => exact pK HO.out); rintro e w' ⟨rfl, ⟨nd, rfl⟩⟩) | (go_at_call 63; (with_reducible refine (ih s (by have := PT.gH HS.out; have := Hd.out; omega) (HF.out.kid HS.out) key v b HR.out _ ?az).mono ?_); (case az => exact pK Re.out); rintro e w' ⟨rfl, ⟨nd, rfl⟩⟩))
    go_ret2
    exact ⟨by first | rfl | (simp; done), by repeat (first | exact av.refl _ | apply av.step | exact ⟨_, rfl⟩)⟩
theorem BG.calls (k : Nat) : ∀ (n : Nat) (t : PT) (key v : ByteArray) (b : Bool), vT k n t key = some (v, b) -> ∀ {p : Nat} (w : World), Rd 101 w p t ->
  Calls Try.prog 64 #[bu p, .string key] w fun e w' => e = .returned (.tuple #[.string v, .bool b]) /\ av w w' := by
 intro n
 induction n with
 | zero =>
  intro t key v b hr
  cases hr
 | succ n ih =>
  intro t key v b hr p w h;obtain ⟨Ak, ck, Av, cv, Ac, cc, ps, ym⟩ := h.open;have HN := A_ ym;have HO := A_ h;have hz0 := ym.z0;have hz1 := ym.z1;have hz2 := ym.z2;rw [vT] at hr;obtain ⟨a, hl, hr⟩ := Option.bind_eq_some_iff.mp hr;obtain ⟨hh, hha, hr⟩ := Option.bind_eq_some_iff.mp hr;have z8 := A_ hl;have JM := A_ hha;clear hl hha
  cases hh with
  | true =>
   rw [if_pos rfl] at hr
   by_cases ha : 0 <= a /\ a < (t.vals.length : Int)
   ·rw [if_pos ha] at hr
    injection hr with hr
    injection hr with e1 e2
    subst e2;obtain ⟨Mx, rfl, hv0⟩ := ym.val a ha.1 ha.2;rw [e1] at hv0;have cva : (a < (t.vals.length : Int)) = True := eq_true ha.2;have ci : (0 <= a) = True := eq_true ha.1;clear ha h ym e1;go_enter Try.func64, Try.ntmps64
    go_wp2_with (first | (go_at_call 73; (with_reducible refine (ed.calls k _ _ t.keys key a _ ?az ?bW z8.out).mono ?_); (case az => exact vB HN.out); (case bW => exact HN.out.h1); rintro e w' ⟨rfl, ⟨nd, rfl⟩⟩) | (go_at_call 101; (with_reducible refine (eH.calls _ _ t.keys a key true _ ?az ?bW JM.out).mono ?_); (case az => exact vB HN.out); (case bW => exact HN.out.h1); rintro e w' ⟨rfl, ⟨nd, rfl⟩⟩))
    go_ret2
    exact ⟨rfl, by repeat (first | exact av.refl _ | apply av.step | exact ⟨_, rfl⟩)⟩
   ·rw [if_neg ha] at hr
    cases hr
  | false =>
   rw [if_neg (by decide)] at hr
   by_cases h0 : t.kids.length = 0
   ·rw [if_pos h0] at hr
    injection hr with hr
    injection hr with e1 e2
    subst e1; subst e2;have hb0 := A_ (show decide ((t.kids.length : Int) = 0) = true from decide_eq_true (by omega));clear h ym h0;go_enter Try.func64, Try.ntmps64
    go_wp2_with (first | (go_at_call 73; (with_reducible refine (ed.calls k _ _ t.keys key a _ ?az ?bW z8.out).mono ?_); (case az => exact vB HN.out); (case bW => exact HN.out.h1); rintro e w' ⟨rfl, ⟨nd, rfl⟩⟩) | (go_at_call 101; (with_reducible refine (eH.calls _ _ t.keys a key false _ ?az ?bW JM.out).mono ?_); (case az => exact vB HN.out); (case bW => exact HN.out.h1); rintro e w' ⟨rfl, ⟨nd, rfl⟩⟩) | (go_at_call 99; (with_reducible refine (cz.cK true hb0.out _ ?az).mono ?_); (case az => exact pK HO.out); rintro e w' ⟨rfl, ⟨nd, rfl⟩⟩))
    go_ret2
    exact ⟨by first | rfl | (simp; done), by repeat (first | exact av.refl _ | apply av.step | exact ⟨_, rfl⟩)⟩
   ·rw [if_neg h0] at hr
    by_cases ha : 0 <= a
    ·rw [if_pos ha] at hr
     have hb0 := A_ (show decide ((t.kids.length : Int) = 0) = false from decide_eq_false (by omega))
     rcases Nat.lt_or_ge a.toNat t.kids.length with hlt | hge
     ·obtain ⟨adc, q, s, rfl, hc0, hs', hrs⟩ := ym.kid a ha (by omega)
      rw [hs'] at hr;have Re := A_ hrs;have HR := A_ (show vT k n s key = some (v, b) from hr);have Yn := bV (a < (t.kids.length : Int));have ci : (0 <= a) = True := eq_true ha;clear ha h ym h0 hr hs' hrs hlt;go_enter Try.func64, Try.ntmps64
      go_wp2_with (first | (go_at_call 73; (with_reducible refine (ed.calls k _ _ t.keys key a _ ?az ?bW z8.out).mono ?_); (case az => exact vB HN.out); (case bW => exact HN.out.h1); rintro e w' ⟨rfl, ⟨nd, rfl⟩⟩) | (go_at_call 101; (with_reducible refine (eH.calls _ _ t.keys a key false _ ?az ?bW JM.out).mono ?_); (case az => exact vB HN.out); (case bW => exact HN.out.h1); rintro e w' ⟨rfl, ⟨nd, rfl⟩⟩) | (go_at_call 99; (with_reducible refine (cz.cK false hb0.out _ ?az).mono ?_); (case az => exact pK HO.out); rintro e w' ⟨rfl, ⟨nd, rfl⟩⟩) | (go_at_call 64; (with_reducible refine (ih s key v b HR.out _ ?az).mono ?_); (case az => exact pK Re.out); rintro e w' ⟨rfl, ⟨nd, rfl⟩⟩))
      go_ret2
      exact ⟨by first | rfl | (simp; done), by repeat (first | exact av.refl _ | apply av.step | exact ⟨_, rfl⟩)⟩
     ·rw [List.getElem?_eq_none hge] at hr
      cases hr
    ·rw [if_neg ha] at hr
     cases hr
end Go.Proofs.Ytoddejmlcnbdmaa.Tree
namespace Go.Proofs.Ytoddejmlcnbdmaa.Fn
def zP (P : List bC) : Bool := decide (P.length <= 1000000000000) && P.all fun p => decide (p.f0.length <= 1000000000000) && decide (p.f1.length <= 1000000000000) && decide (p.f2.length <= 1000000000000)
theorem dN {P : List bC} (h : zP P = true) : P.length <= 1000000000000 /\ ∀ p ∈ P, p.f0.length <= 1000000000000 /\ p.f1.length <= 1000000000000 /\ p.f2.length <= 1000000000000 := by
 unfold zP at h;simp only [Bool.and_eq_true, decide_eq_true_eq, List.all_eq_true] at h;exact ⟨h.1, fun p hp => ⟨(h.2 p hp).1.1, (h.2 p hp).1.2, (h.2 p hp).2⟩⟩
theorem JX (P : List bC) (k : Nat) : j6 (mK k P) (mK (k + 1) P) := by
 unfold mK
 cases bZ P (P.length + 1) 0 with
 | none => exact j6.refl _
 | some r =>
  refine j6.ite (j6.refl _) (j6.ite (j6.refl _) (j6.bind (eZ.mono _ _ _) fun _ => j6.refl _))
theorem Eg : ∀ (k n : Nat) (t : PT) (key : ByteArray), j6 (vT k n t key) (vT (k + 1) (n + 1) t key)
 | k, 0, t, key => j6.none _
 | k, n + 1, t, key => by
  rw [vT, vT]
  refine j6.bind (ed.mono _ _ _) fun a => j6.bind (j6.refl _) fun h => j6.ite (j6.refl _) (j6.ite (j6.refl _) (j6.ite ?_ (j6.refl _)))
  cases t.kids[a.toNat]? with
  | none => exact j6.refl _
  | some s => exact Eg k n s key
def kH.f (aW : List bC) : Option Bool := if zP aW = true then some (mq aW).isSome else none
theorem kH.calls (bL : Option Addr) (bM : Nat) (aW : List (bC)) (r : Bool) (w : World) (iO : Kd.C j4 w bL aW.length aW) (mg : aW.length <= bM) (h : kH.f aW = some r) :
  Calls Try.prog 16 #[.agg #[.slice bL aW.length bM]] w fun e w' => e = .returned (.bool r) /\ Below w.heap.size w w' := by
 unfold kH.f at h;have HP := A_ iO;clear iO mg
 by_cases hok : zP aW = true
 ·rw [if_pos hok] at h
  have nA := A_ (dN hok).1;have HM := A_ (dN hok).2
  cases hrs : mq aW with
  | none =>
   rw [hrs] at h;obtain rfl := Option.some.inj h;have jP := A_ hrs;clear h hrs hok;go_enter Try.func16, Try.ntmps16
   go_wp2_with (first | (refine jl 1 #[.slice bL aW.length bM] 29 ?_; intro b3 hg w1 aA hb; have HB := A_ hb; have hz3 : w1.cell? ⟨b3, 0, none⟩ = some (.slice bL aW.length bM) := (au aA 0).trans rfl; clear hg aA hb) | (go_at_call 57; (with_reducible refine (gI.calls aW nA.out bL bM _ (Kd.aN HP.out HB.out) HM.out).mono ?_); rintro e w2 ⟨hb, hr⟩; rw [jP.out] at hr; obtain ⟨-, rfl⟩ := hr.resolve_right (by rintro ⟨_, h, _⟩; cases h); have ah := A_ (ay HB.out hb); clear HB; have HB := ah; clear ah hb hr))
   go_ret;exact ⟨by first | rfl | (simp; done), HB.out⟩
  | some t =>
   rw [hrs] at h;obtain rfl := Option.some.inj h;have jP := A_ hrs;clear h hrs hok;go_enter Try.func16, Try.ntmps16
   go_wp2_with (first | (refine jl 1 #[.slice bL aW.length bM] 29 ?_; intro b3 hg w1 aA hb; have HB := A_ hb; have hz3 : w1.cell? ⟨b3, 0, none⟩ = some (.slice bL aW.length bM) := (au aA 0).trans rfl; clear hg aA hb) | (go_at_call 57; (with_reducible refine (gI.calls aW nA.out bL bM _ (Kd.aN HP.out HB.out) HM.out).mono ?_); rintro e w2 ⟨hb, hr⟩; rw [jP.out] at hr; obtain ⟨nt, h9, rfl, hs⟩ := hr.resolve_left (by rintro ⟨h, _⟩; cases h); injection h9 with h9; subst h9; have HR2 := A_ (jc hs); have ah := A_ (ay HB.out hb); clear HB; have HB := ah; clear ah hb hr hs))
   go_ret;exact ⟨by first | rfl | (simp; done), HB.out⟩
 ·rw [if_neg hok] at h
  cases h
def fo.f (k : Nat) (aW : List bC) : Option Bool := if zP aW = true then (mK k aW).bind fun r => some r.isSome else none
theorem fo.calls (k : Nat) (bL : Option Addr) (bM : Nat) (aW : List (bC)) (r : Bool) (w : World) (iO : Kd.C j4 w bL aW.length aW) (mg : aW.length <= bM) (h : fo.f k aW = some r) :
  Calls Try.prog 18 #[.agg #[.slice bL aW.length bM]] w fun e w' => e = .returned (.bool r) /\ Below w.heap.size w w' := by
 unfold fo.f at h;have HP := A_ iO;clear iO mg
 by_cases hok : zP aW = true
 ·rw [if_pos hok] at h
  have nA := A_ (dN hok).1;have HM := A_ (dN hok).2;obtain ⟨o, hrs, h⟩ := Option.bind_eq_some_iff.mp h
  cases o with
  | none =>
   obtain rfl := Option.some.inj h;have jP := A_ hrs;clear h hrs hok;go_enter Try.func18, Try.ntmps18
   go_wp2_with (first | (refine jl 1 #[.slice bL aW.length bM] 29 ?_; intro b3 hg w1 aA hb; have HB := A_ hb; have hz3 : w1.cell? ⟨b3, 0, none⟩ = some (.slice bL aW.length bM) := (au aA 0).trans rfl; clear hg aA hb) | (go_at_call 59; (with_reducible refine (iP.calls k aW nA.out bL bM _ (Kd.aN HP.out HB.out) HM.out _ jP.out).mono ?_); rintro e w2 ⟨hb, hr⟩; obtain ⟨-, rfl⟩ := hr.resolve_right (by rintro ⟨_, h, _⟩; cases h); have ah := A_ (ay HB.out hb); clear HB; have HB := ah; clear ah hb hr))
   go_ret;exact ⟨by first | rfl | (simp; done), HB.out⟩
  | some t =>
   obtain rfl := Option.some.inj h;have jP := A_ hrs;clear h hrs hok;go_enter Try.func18, Try.ntmps18
   go_wp2_with (first | (refine jl 1 #[.slice bL aW.length bM] 29 ?_; intro b3 hg w1 aA hb; have HB := A_ hb; have hz3 : w1.cell? ⟨b3, 0, none⟩ = some (.slice bL aW.length bM) := (au aA 0).trans rfl; clear hg aA hb) | (go_at_call 59; (with_reducible refine (iP.calls k aW nA.out bL bM _ (Kd.aN HP.out HB.out) HM.out _ jP.out).mono ?_); rintro e w2 ⟨hb, hr⟩; obtain ⟨nt, h9, rfl, hs⟩ := hr.resolve_left (by rintro ⟨h, _⟩; cases h); injection h9 with h9; subst h9; have HR2 := A_ (jc hs); have ah := A_ (ay HB.out hb); clear HB; have HB := ah; clear ah hb hr hs))
   go_ret;exact ⟨by first | rfl | (simp; done), HB.out⟩
 ·rw [if_neg hok] at h
  cases h
theorem FP {P : List bC} {t : PT} (h : mq P = some t) : om t := by
 unfold mq at h
 cases hrs : bZ P 10 0 with
 | none => rw [hrs] at h; cases h
 | some r =>
  rw [hrs] at h;simp only at h;obtain ⟨r1, r2⟩ := r;have hf := (jS 10 0 r1 r2 hrs).2.BC
  split at h
  ·cases h
  ·split at h
   ·cases h
   ·split at h
    ·cases h
    ·obtain rfl := Option.some.inj h
     exact hf
theorem Eh {k : Nat} {P : List bC} {t : PT} (h : mK k P = some (some t)) : om t := by
 unfold mK at h
 cases hrs : bZ P (P.length + 1) 0 with
 | none => rw [hrs] at h; cases h
 | some r =>
  rw [hrs] at h;simp only at h;obtain ⟨r1, r2⟩ := r;have hf := (jS _ 0 r1 r2 hrs).2.BC
  split at h
  ·cases h
  ·split at h
   ·cases h
   ·obtain ⟨b, _, h⟩ := Option.bind_eq_some_iff.mp h
    cases b with
    | false => cases h
    | true =>
     obtain rfl : r1 = t := by simpa using h
     exact hf
def RB.f (aW : List bC) : Option (Int × Bool) := if zP aW = true then (match mq aW with | none => some (0, false) | some t => some ((iJ t, true))) else none
def mM.f (aW : List bC) (a1 : ByteArray) : Option (ByteArray × Bool) := if zP aW = true then (match mq aW with | none => some (⟨#[]⟩, false) | some t => some (xH t.big t a1)) else none
theorem mM.calls (bL : Option Addr) (bM : Nat) (aW : List (bC)) (a1 : ByteArray) (r1 : ByteArray) (r2 : Bool) (w : World) (iO : Kd.C j4 w bL aW.length aW) (mg : aW.length <= bM) (h : mM.f aW a1 = some (r1, r2)) :
  Calls Try.prog 22 #[.agg #[.slice bL aW.length bM], .string a1] w fun e w' => e = .returned (.tuple #[.string r1, .bool r2]) /\ Below w.heap.size w w' := by
 unfold mM.f at h;have HP := A_ iO;clear iO mg
 by_cases hok : zP aW = true
 ·rw [if_pos hok] at h
  have nA := A_ (dN hok).1;have HM := A_ (dN hok).2
  cases hrs : mq aW with
  | none =>
   rw [hrs] at h
   injection h with h
   injection h with e1 e2
   subst e1; subst e2;have jP := A_ hrs;clear hrs hok;go_enter Try.func22, Try.ntmps22
   go_wp2_with (first | (refine jl 2 #[.slice bL aW.length bM] 29 ?_; intro b3 hg w1 aA hb; have HB := A_ hb; have hz3 : w1.cell? ⟨b3, 0, none⟩ = some (.slice bL aW.length bM) := (au aA 0).trans rfl; clear hg aA hb) | (go_at_call 57; (with_reducible refine (gI.calls aW nA.out bL bM _ (Kd.aN HP.out HB.out) HM.out).mono ?_); rintro e w2 ⟨hb, hr⟩; rw [jP.out] at hr; obtain ⟨-, rfl⟩ := hr.resolve_right (by rintro ⟨_, h, _⟩; cases h); have ah := A_ (ay HB.out hb); clear HB; have HB := ah; clear ah hb hr))
   go_ret2
   exact ⟨by first | rfl | (simp; done), HB.out⟩
  | some t =>
   rw [hrs] at h;have HX := A_ (Option.some.inj h);have jP := A_ hrs;have HOF := A_ (FP hrs);(try clear h);clear hrs hok;go_enter Try.func22, Try.ntmps22
   go_wp2_with (first | (refine jl 2 #[.slice bL aW.length bM] 29 ?_; intro b3 hg w1 aA hb; have HB := A_ hb; have hz3 : w1.cell? ⟨b3, 0, none⟩ = some (.slice bL aW.length bM) := (au aA 0).trans rfl; clear hg aA hb) | (go_at_call 57; (with_reducible refine (gI.calls aW nA.out bL bM _ (Kd.aN HP.out HB.out) HM.out).mono ?_); rintro e w2 ⟨hb, hr⟩; rw [jP.out] at hr; obtain ⟨nt, h9, rfl, hs⟩ := hr.resolve_left (by rintro ⟨h, _⟩; cases h); injection h9 with h9; subst h9; have HR2 := A_ (jc hs); have ah := A_ (ay HB.out hb); clear HB; have HB := ah; clear ah hb hr hs) | (go_at_call 63; (with_reducible refine (BF.calls _ nt.erase (Nat.le_refl _) HOF.out a1 r1 r2 HX.out _ ?az).mono ?_); (case az => repeat (first | exact HR2.out | (with_reducible refine Rd.drewN ?_ _) | (with_reducible refine Rd.drew ?_))); rintro e w' ⟨rfl, ⟨nd, rfl⟩⟩))
   go_ret2
   exact ⟨by first | rfl | (simp; done), aj HB.out _⟩
 ·rw [if_neg hok] at h
  cases h
def fC.f (k : Nat) (aW : List bC) (a1 : ByteArray) : Option (ByteArray × Bool) := if zP aW = true then (mK k aW).bind fun r => (match r with | none => some (⟨#[]⟩, false) | some t => vT k k t a1) else none
theorem fC.calls (k : Nat) (bL : Option Addr) (bM : Nat) (aW : List (bC)) (a1 : ByteArray) (r1 : ByteArray) (r2 : Bool) (w : World) (iO : Kd.C j4 w bL aW.length aW) (mg : aW.length <= bM) (h : fC.f k aW a1 = some (r1, r2)) :
  Calls Try.prog 23 #[.agg #[.slice bL aW.length bM], .string a1] w fun e w' => e = .returned (.tuple #[.string r1, .bool r2]) /\ Below w.heap.size w w' := by
 unfold fC.f at h;have HP := A_ iO;clear iO mg
 by_cases hok : zP aW = true
 ·rw [if_pos hok] at h
  have nA := A_ (dN hok).1;have HM := A_ (dN hok).2;obtain ⟨o, hrs, h⟩ := Option.bind_eq_some_iff.mp h
  cases o with
  | none =>
   injection h with h
   injection h with e1 e2
   subst e1; subst e2;have jP := A_ hrs;clear hrs hok;go_enter Try.func23, Try.ntmps23
   go_wp2_with (first | (refine jl 2 #[.slice bL aW.length bM] 29 ?_; intro b3 hg w1 aA hb; have HB := A_ hb; have hz3 : w1.cell? ⟨b3, 0, none⟩ = some (.slice bL aW.length bM) := (au aA 0).trans rfl; clear hg aA hb) | (go_at_call 59; (with_reducible refine (iP.calls k aW nA.out bL bM _ (Kd.aN HP.out HB.out) HM.out _ jP.out).mono ?_); rintro e w2 ⟨hb, hr⟩; obtain ⟨-, rfl⟩ := hr.resolve_right (by rintro ⟨_, h, _⟩; cases h); have ah := A_ (ay HB.out hb); clear HB; have HB := ah; clear ah hb hr))
   go_ret2
   exact ⟨by first | rfl | (simp; done), HB.out⟩
  | some t =>
   have HX := A_ h;have jP := A_ hrs;have HOF := A_ (Eh hrs);(try clear h);clear hrs hok;go_enter Try.func23, Try.ntmps23
   go_wp2_with (first | (refine jl 2 #[.slice bL aW.length bM] 29 ?_; intro b3 hg w1 aA hb; have HB := A_ hb; have hz3 : w1.cell? ⟨b3, 0, none⟩ = some (.slice bL aW.length bM) := (au aA 0).trans rfl; clear hg aA hb) | (go_at_call 59; (with_reducible refine (iP.calls k aW nA.out bL bM _ (Kd.aN HP.out HB.out) HM.out _ jP.out).mono ?_); rintro e w2 ⟨hb, hr⟩; obtain ⟨nt, h9, rfl, hs⟩ := hr.resolve_left (by rintro ⟨h, _⟩; cases h); injection h9 with h9; subst h9; have HR2 := A_ (jc hs); have ah := A_ (ay HB.out hb); clear HB; have HB := ah; clear ah hb hr hs) | (go_at_call 64; (with_reducible refine (BG.calls k k nt.erase a1 r1 r2 HX.out _ ?az).mono ?_); (case az => repeat (first | exact HR2.out | (with_reducible refine Rd.drewN ?_ _) | (with_reducible refine Rd.drew ?_))); rintro e w' ⟨rfl, ⟨nd, rfl⟩⟩))
   go_ret2
   exact ⟨by first | rfl | (simp; done), aj HB.out _⟩
 ·rw [if_neg hok] at h
  cases h
theorem xI {p0 q : Prop} (h0 : p0) (h : p0 -> q := by intro uu; repeat (first | exact uu | (with_reducible refine Rd.drewN ?_ _) | (with_reducible refine Rd.drew ?_))) : q := h h0
theorem oo {p0 q : Prop} (h0 : p0) (h : p0 -> q := by intro uu; repeat (first | (with_reducible exact uu) | (with_reducible apply aj) | (with_reducible apply bD))) : q := h h0
theorem LG {P : List bC} {t : PT} (h : mq P = some t) (hN : P.length <= 1000000000000) : (bB t).length <= 4000000000000 := by
 unfold mq at h
 cases hrs : bZ P 10 0 with
 | none => rw [hrs] at h; cases h
 | some r =>
  rw [hrs] at h;simp only at h;obtain ⟨r1, r2⟩ := r;have hf := (jS 10 0 r1 r2 hrs).2.k;have hl := (j5 10 0 r1 r2 hrs).2
  split at h
  ·cases h
  ·split at h
   ·cases h
   ·split at h
    ·cases h
    ·obtain rfl := Option.some.inj h
     omega
theorem MW {k : Nat} {P : List bC} {t : PT} (h : mK k P = some (some t)) (hN : P.length <= 1000000000000) : (bB t).length <= 4000000000000 := by
 unfold mK at h
 cases hrs : bZ P (P.length + 1) 0 with
 | none => rw [hrs] at h; cases h
 | some r =>
  rw [hrs] at h;simp only at h;obtain ⟨r1, r2⟩ := r;have hf := (jS _ 0 r1 r2 hrs).2.k;have hl := (j5 _ 0 r1 r2 hrs).2
  split at h
  ·cases h
  ·split at h
   ·cases h
   ·obtain ⟨b, _, h⟩ := Option.bind_eq_some_iff.mp h
    cases b with
    | false => cases h
    | true =>
     obtain rfl : r1 = t := by simpa using h
     omega
def YN (t : PT) (i : Int) : ByteArray × ByteArray × Bool := if 0 <= i /\ i < ((bB t).length : Int) then (bO ByteArray.empty (bB t) i, bO ByteArray.empty (eD t) i, true) else (⟨#[]⟩, ⟨#[]⟩, false)
def sS.f (aW : List bC) (a1 : Int) : Option (ByteArray × ByteArray × Bool) := if zP aW = true then (match mq aW with | none => some (⟨#[]⟩, ⟨#[]⟩, false) | some t => some (YN t a1)) else none
theorem sS.calls (bL : Option Addr) (bM : Nat) (aW : List (bC)) (a1 : Int) (r1 : ByteArray) (r2 : ByteArray) (r3 : Bool) (w : World) (iO : Kd.C j4 w bL aW.length aW) (mg : aW.length <= bM) (h : sS.f aW a1 = some (r1, r2, r3)) :
  Calls Try.prog 30 #[.agg #[.slice bL aW.length bM], .int .i64 a1] w fun e w' => e = .returned (.tuple #[.string r1, .string r2, .bool r3]) /\ Below w.heap.size w w' := by
 unfold sS.f at h;have HP := A_ iO;clear iO mg
 by_cases hok : zP aW = true
 ·rw [if_pos hok] at h
  have nA := A_ (dN hok).1;have HM := A_ (dN hok).2
  cases hrs : mq aW with
  | none =>
   rw [hrs] at h
   injection h with h
   injection h with e1 h
   injection h with e2 e3
   subst e1;subst e2;subst e3;have jP := A_ hrs;clear hrs hok;go_enter Try.func30, Try.ntmps30
   go_wp2_with (first | (refine jl 2 #[.slice bL aW.length bM] 29 ?_; intro b3 hg w1 aA hb; have HB := A_ hb; have hz3 : w1.cell? ⟨b3, 0, none⟩ = some (.slice bL aW.length bM) := (au aA 0).trans rfl; clear hg aA hb) | (go_at_call 57; (with_reducible refine (gI.calls aW nA.out bL bM _ (Kd.aN HP.out HB.out) HM.out).mono ?_); rintro e w2 ⟨hb, hr⟩; rw [jP.out] at hr; obtain ⟨-, rfl⟩ := hr.resolve_right (by rintro ⟨_, h, _⟩; cases h); have ah := A_ (ay HB.out hb); clear HB; have HB := ah; clear ah hb hr hz3))
   go_ret3
   exact ⟨by first | rfl | (simp; done), HB.out⟩
  | some t =>
   rw [hrs] at h;have jP := A_ hrs;have CV := A_ (FP hrs);have Qg := A_ (LG hrs nA.out);have HZ1 := A_ (show (bB t).length <= 8796093022208 by have := Qg.out; omega);have HZ2 := A_ (show (eD t).length <= 8796093022208 by rw [iW CV.out]; have := Qg.out; omega);have hln : (bB t).length <= 4000000000000 := Qg.out;have Dy := A_ (iW CV.out);replace h : some (YN t a1) = some (r1, r2, r3) := h;unfold YN at h;clear hrs hok
   by_cases c1 : 0 <= a1 /\ a1 < ((bB t).length : Int)
   ·rw [if_pos c1] at h
    injection h with h
    injection h with e1 h
    injection h with e2 e3
    subst e1;subst e2;subst e3;have HI0 := A_ c1.1;have HI1 := A_ c1.2;have t1 := kS (a1 < 0);have t2 := kS (((bB t).length : Int) <= a1);have p0 : (0 <= a1) = True := eq_true c1.1;clear c1;go_enter Try.func30, Try.ntmps30
    go_wp2_with (first | (refine jl 2 #[.slice bL aW.length bM] 29 ?_; intro b3 hg w1 aA hb; have HB := A_ hb; have hz3 : w1.cell? ⟨b3, 0, none⟩ = some (.slice bL aW.length bM) := (au aA 0).trans rfl; clear hg aA hb) | (go_at_call 57; (with_reducible refine (gI.calls aW nA.out bL bM _ (Kd.aN HP.out HB.out) HM.out).mono ?_); rintro e w2 ⟨hb, hr⟩; rw [jP.out] at hr; obtain ⟨nt, h9, rfl, hs⟩ := hr.resolve_left (by rintro ⟨h, _⟩; cases h); injection h9 with h9; subst h9; have HR2 := A_ (jc hs); have ah := A_ (ay HB.out hb); clear HB; have HB := ah; clear ah hb hr hs hz3) | (go_at_call 65; (with_reducible refine (oD.jB nt.erase CV.out _ ?az HZ1.out HZ2.out).mono ?_); (case az => exact xI HR2.out); rintro e w5 ⟨u1, u2, rfl, ho1, ho2, hne, hb⟩; have mE := A_ (Kd.gW ho1 (show w.heap.size <= _ from HB.out.size)); have mR := A_ (Kd.gW ho2 (show w.heap.size <= _ from HB.out.size)); have qA := A_ hne; have ah := A_ (ay (oo HB.out) hb); clear HB; have HB := ah; clear ah hb ho1 ho2 hne; obtain ⟨B1, d1, rfl, hl1, hc1⟩ := Kd.fP mE.out; obtain ⟨B2, d2, rfl, hl2, hc2⟩ := Kd.fP mR.out; have Aa := A_ hc1; have um := A_ hc2; have HD1 := A_ hl1; have HD2 := A_ hl2; clear hl1 hl2 hc1 hc2; have q0 : (a1 < ((bB nt.erase).length : Int)) = True := eq_true HI1.out; have q1 : (a1 < ((eD nt.erase).length : Int)) = True := eq_true (by rw [Dy.out]; exact HI1.out); obtain ⟨Wt, hA1, hk0⟩ := Kd.bH Aa.out a1 HI0.out HI1.out; obtain ⟨Mx, hA2, hv0⟩ := Kd.bH um.out a1 HI0.out (by rw [Dy.out]; exact HI1.out); subst hA1; subst hA2))
    go_quiet (fail)
    go_wp2
    go_ret3
    exact ⟨by first | rfl | (simp; done), (oo HB.out)⟩
   ·rw [if_neg c1] at h
    injection h with h
    injection h with e1 h
    injection h with e2 e3
    subst e1;subst e2;subst e3
    by_cases c2 : a1 < 0
    ·have t1 : decide (a1 < 0) = true := decide_eq_true c2
     clear c1 c2;go_enter Try.func30, Try.ntmps30
     go_wp2_with (first | (refine jl 2 #[.slice bL aW.length bM] 29 ?_; intro b3 hg w1 aA hb; have HB := A_ hb; have hz3 : w1.cell? ⟨b3, 0, none⟩ = some (.slice bL aW.length bM) := (au aA 0).trans rfl; clear hg aA hb) | (go_at_call 57; (with_reducible refine (gI.calls aW nA.out bL bM _ (Kd.aN HP.out HB.out) HM.out).mono ?_); rintro e w2 ⟨hb, hr⟩; rw [jP.out] at hr; obtain ⟨nt, h9, rfl, hs⟩ := hr.resolve_left (by rintro ⟨h, _⟩; cases h); injection h9 with h9; subst h9; have HR2 := A_ (jc hs); have ah := A_ (ay HB.out hb); clear HB; have HB := ah; clear ah hb hr hs hz3) | (go_at_call 65; (with_reducible refine (oD.jB nt.erase CV.out _ ?az HZ1.out HZ2.out).mono ?_); (case az => exact xI HR2.out); rintro e w5 ⟨u1, u2, rfl, ho1, ho2, hne, hb⟩; have mE := A_ (Kd.gW ho1 (show w.heap.size <= _ from HB.out.size)); have mR := A_ (Kd.gW ho2 (show w.heap.size <= _ from HB.out.size)); have qA := A_ hne; have ah := A_ (ay (oo HB.out) hb); clear HB; have HB := ah; clear ah hb ho1 ho2 hne; obtain ⟨B1, d1, rfl, hl1, hc1⟩ := Kd.fP mE.out; obtain ⟨B2, d2, rfl, hl2, hc2⟩ := Kd.fP mR.out; have Aa := A_ hc1; have um := A_ hc2; have HD1 := A_ hl1; have HD2 := A_ hl2; clear hl1 hl2 hc1 hc2))
     go_ret3
     exact ⟨by first | rfl | (simp; done), (oo HB.out)⟩
    ·have t1 : decide (a1 < 0) = false := decide_eq_false c2
     have t2 := lQ (((bB t).length : Int) <= a1);clear c1 c2;go_enter Try.func30, Try.ntmps30
     go_wp2_with (first | (refine jl 2 #[.slice bL aW.length bM] 29 ?_; intro b3 hg w1 aA hb; have HB := A_ hb; have hz3 : w1.cell? ⟨b3, 0, none⟩ = some (.slice bL aW.length bM) := (au aA 0).trans rfl; clear hg aA hb) | (go_at_call 57; (with_reducible refine (gI.calls aW nA.out bL bM _ (Kd.aN HP.out HB.out) HM.out).mono ?_); rintro e w2 ⟨hb, hr⟩; rw [jP.out] at hr; obtain ⟨nt, h9, rfl, hs⟩ := hr.resolve_left (by rintro ⟨h, _⟩; cases h); injection h9 with h9; subst h9; have HR2 := A_ (jc hs); have ah := A_ (ay HB.out hb); clear HB; have HB := ah; clear ah hb hr hs hz3) | (go_at_call 65; (with_reducible refine (oD.jB nt.erase CV.out _ ?az HZ1.out HZ2.out).mono ?_); (case az => exact xI HR2.out); rintro e w5 ⟨u1, u2, rfl, ho1, ho2, hne, hb⟩; have mE := A_ (Kd.gW ho1 (show w.heap.size <= _ from HB.out.size)); have mR := A_ (Kd.gW ho2 (show w.heap.size <= _ from HB.out.size)); have qA := A_ hne; have ah := A_ (ay (oo HB.out) hb); clear HB; have HB := ah; clear ah hb ho1 ho2 hne; obtain ⟨B1, d1, rfl, hl1, hc1⟩ := Kd.fP mE.out; obtain ⟨B2, d2, rfl, hl2, hc2⟩ := Kd.fP mR.out; have Aa := A_ hc1; have um := A_ hc2; have HD1 := A_ hl1; have HD2 := A_ hl2; clear hl1 hl2 hc1 hc2))
     go_ret3
     exact ⟨by first | rfl | (simp; done), (oo HB.out)⟩
 ·rw [if_neg hok] at h
  cases h
def mO.f (aW : List bC) : Option (List ByteArray × Bool) := if zP aW = true then (match mq aW with | none => some ([], false) | some t => some (bB t, true)) else none
def ic.f (k : Nat) (aW : List bC) : Option (List ByteArray × Bool) := if zP aW = true then (mK k aW).bind fun r => (match r with | none => some ([], false) | some t => some (bB t, true)) else none
theorem mO.calls (bL : Option Addr) (bM : Nat) (aW : List (bC)) (r1 : List ByteArray) (r2 : Bool) (w : World) (iO : Kd.C j4 w bL aW.length aW) (mg : aW.length <= bM) (h : mO.f aW = some (r1, r2)) :
  Calls Try.prog 24 #[.agg #[.slice bL aW.length bM]] w fun e w' => ∃ ja : Value, e = .returned (.tuple #[ja, .bool r2]) /\ Kd.R Kd.string 9 w' w.heap.size (fun _ => True) ja r1 /\ Below w.heap.size w w' := by
 unfold mO.f at h;have HP := A_ iO;clear iO mg
 by_cases hok : zP aW = true
 ·rw [if_pos hok] at h
  have nA := A_ (dN hok).1;have HM := A_ (dN hok).2
  cases hrs : mq aW with
  | none =>
   rw [hrs] at h
   injection h with h
   injection h with e1 e2
   subst e1;subst e2;have jP := A_ hrs;clear hrs hok;go_enter Try.func24, Try.ntmps24
   go_wp2_with (first | (refine jl 1 #[.slice bL aW.length bM] 29 ?_; intro b3 hg w1 aA hb; have HB := A_ hb; have hz3 : w1.cell? ⟨b3, 0, none⟩ = some (.slice bL aW.length bM) := (au aA 0).trans rfl; clear hg aA hb) | (go_at_call 57; (with_reducible refine (gI.calls aW nA.out bL bM _ (Kd.aN HP.out HB.out) HM.out).mono ?_); rintro e w2 ⟨hb, hr⟩; rw [jP.out] at hr; obtain ⟨-, rfl⟩ := hr.resolve_right (by rintro ⟨_, h, _⟩; cases h); have ah := A_ (ay HB.out hb); clear HB; have HB := ah; clear ah hb hr hz3))
   go_ret2
   exact ⟨_, rfl, Kd.xz _ _ _ _ _, HB.out⟩
  | some t =>
   rw [hrs] at h;have jP := A_ hrs;have CV := A_ (FP hrs);have Qg := A_ (LG hrs nA.out);have HZ1 := A_ (show (bB t).length <= 8796093022208 by have := Qg.out; omega);have HZ2 := A_ (show (eD t).length <= 8796093022208 by rw [iW CV.out]; have := Qg.out; omega);have hln : (bB t).length <= 4000000000000 := Qg.out;have Dy := A_ (iW CV.out)
   injection h with h
   injection h with e1 e2
   subst e1;subst e2;clear hrs hok;go_enter Try.func24, Try.ntmps24
   go_wp2_with (first | (refine jl 1 #[.slice bL aW.length bM] 29 ?_; intro b3 hg w1 aA hb; have HB := A_ hb; have hz3 : w1.cell? ⟨b3, 0, none⟩ = some (.slice bL aW.length bM) := (au aA 0).trans rfl; clear hg aA hb) | (go_at_call 57; (with_reducible refine (gI.calls aW nA.out bL bM _ (Kd.aN HP.out HB.out) HM.out).mono ?_); rintro e w2 ⟨hb, hr⟩; rw [jP.out] at hr; obtain ⟨nt, h9, rfl, hs⟩ := hr.resolve_left (by rintro ⟨h, _⟩; cases h); injection h9 with h9; subst h9; have HR2 := A_ (jc hs); have ah := A_ (ay HB.out hb); clear HB; have HB := ah; clear ah hb hr hs hz3) | (go_at_call 65; (with_reducible refine (oD.jB nt.erase CV.out _ ?az HZ1.out HZ2.out).mono ?_); (case az => exact xI HR2.out); rintro e w5 ⟨u1, u2, rfl, ho1, ho2, hne, hb⟩; have mE := A_ (Kd.gW ho1 (show w.heap.size <= _ from HB.out.size)); have mR := A_ (Kd.gW ho2 (show w.heap.size <= _ from HB.out.size)); have qA := A_ hne; have ah := A_ (ay (oo HB.out) hb); clear HB; have HB := ah; clear ah hb ho1 ho2 hne; obtain ⟨B1, d1, rfl, hl1, hc1⟩ := Kd.fP mE.out; obtain ⟨B2, d2, rfl, hl2, hc2⟩ := Kd.fP mR.out; have Aa := A_ hc1; have um := A_ hc2; have HD1 := A_ hl1; have HD2 := A_ hl2; clear hl1 hl2 hc1 hc2))
   go_ret2
   exact ⟨_, rfl, by (with_reducible repeat (first | apply Kd.pE | apply Kd.pF | apply Kd.sI)); exact mE.out, (oo HB.out)⟩
 ·rw [if_neg hok] at h
  cases h
theorem ic.calls (k : Nat) (bL : Option Addr) (bM : Nat) (aW : List (bC)) (r1 : List ByteArray) (r2 : Bool) (w : World) (iO : Kd.C j4 w bL aW.length aW) (mg : aW.length <= bM) (h : ic.f k aW = some (r1, r2)) :
  Calls Try.prog 25 #[.agg #[.slice bL aW.length bM]] w fun e w' => ∃ ja : Value, e = .returned (.tuple #[ja, .bool r2]) /\ Kd.R Kd.string 9 w' w.heap.size (fun _ => True) ja r1 /\ Below w.heap.size w w' := by
 unfold ic.f at h;have HP := A_ iO;clear iO mg
 by_cases hok : zP aW = true
 ·rw [if_pos hok] at h
  have nA := A_ (dN hok).1;have HM := A_ (dN hok).2;obtain ⟨o, hrs, h⟩ := Option.bind_eq_some_iff.mp h
  cases o with
  | none =>
   injection h with h
   injection h with e1 e2
   subst e1;subst e2;have jP := A_ hrs;clear hrs hok;go_enter Try.func25, Try.ntmps25
   go_wp2_with (first | (refine jl 1 #[.slice bL aW.length bM] 29 ?_; intro b3 hg w1 aA hb; have HB := A_ hb; have hz3 : w1.cell? ⟨b3, 0, none⟩ = some (.slice bL aW.length bM) := (au aA 0).trans rfl; clear hg aA hb) | (go_at_call 59; (with_reducible refine (iP.calls k aW nA.out bL bM _ (Kd.aN HP.out HB.out) HM.out _ jP.out).mono ?_); rintro e w2 ⟨hb, hr⟩; obtain ⟨-, rfl⟩ := hr.resolve_right (by rintro ⟨_, h, _⟩; cases h); have ah := A_ (ay HB.out hb); clear HB; have HB := ah; clear ah hb hr hz3))
   go_ret2
   exact ⟨_, rfl, Kd.xz _ _ _ _ _, HB.out⟩
  | some t =>
   have jP := A_ hrs;have CV := A_ (Eh hrs);have Qg := A_ (MW hrs nA.out);have HZ1 := A_ (show (bB t).length <= 8796093022208 by have := Qg.out; omega);have HZ2 := A_ (show (eD t).length <= 8796093022208 by rw [iW CV.out]; have := Qg.out; omega);have hln : (bB t).length <= 4000000000000 := Qg.out;have Dy := A_ (iW CV.out)
   injection h with h
   injection h with e1 e2
   subst e1;subst e2;clear hrs hok;go_enter Try.func25, Try.ntmps25
   go_wp2_with (first | (refine jl 1 #[.slice bL aW.length bM] 29 ?_; intro b3 hg w1 aA hb; have HB := A_ hb; have hz3 : w1.cell? ⟨b3, 0, none⟩ = some (.slice bL aW.length bM) := (au aA 0).trans rfl; clear hg aA hb) | (go_at_call 59; (with_reducible refine (iP.calls k aW nA.out bL bM _ (Kd.aN HP.out HB.out) HM.out _ jP.out).mono ?_); rintro e w2 ⟨hb, hr⟩; obtain ⟨nt, h9, rfl, hs⟩ := hr.resolve_left (by rintro ⟨h, _⟩; cases h); injection h9 with h9; subst h9; have HR2 := A_ (jc hs); have ah := A_ (ay HB.out hb); clear HB; have HB := ah; clear ah hb hr hs hz3) | (go_at_call 66; (with_reducible refine (rM.jB nt.erase CV.out _ ?az HZ1.out HZ2.out).mono ?_); (case az => exact xI HR2.out); rintro e w5 ⟨u1, u2, rfl, ho1, ho2, hne, hb⟩; have mE := A_ (Kd.gW ho1 (show w.heap.size <= _ from HB.out.size)); have mR := A_ (Kd.gW ho2 (show w.heap.size <= _ from HB.out.size)); have qA := A_ hne; have ah := A_ (ay (oo HB.out) hb); clear HB; have HB := ah; clear ah hb ho1 ho2 hne; obtain ⟨B1, d1, rfl, hl1, hc1⟩ := Kd.fP mE.out; obtain ⟨B2, d2, rfl, hl2, hc2⟩ := Kd.fP mR.out; have Aa := A_ hc1; have um := A_ hc2; have HD1 := A_ hl1; have HD2 := A_ hl2; clear hl1 hl2 hc1 hc2))
   go_ret2
   exact ⟨_, rfl, by (with_reducible repeat (first | apply Kd.pE | apply Kd.pF | apply Kd.sI)); exact mE.out, (oo HB.out)⟩
 ·rw [if_neg hok] at h
  cases h
end Go.Proofs.Ytoddejmlcnbdmaa.Fn
namespace Go.Proofs.Ytoddejmlcnbdmaa.Tree
def NT.head (T E : Nat) (t : NT) : List Ck := [.box T t.p #[t.kv, t.vv, t.cv], txt t.kv t.keys, txt t.vv t.vals, .jL E t.cv (ptrs t.kids)]
theorem NT.kJ (T E : Nat) (t : NT) : t.dH T E = t.head T E ++ NT.aZ T E t.kids := by
 cases t
 rw [NT.dH];rfl
def NT.hole (T E : Nat) (t : NT) (i : Nat) (L : List Ck) : List Ck := t.head T E ++ (NT.aZ T E (t.kids.take i) ++ (NT.aZ T E (t.kids.drop (i + 1)) ++ L))
def NT.eQ (t : NT) (i : Nat) (s : NT) : NT := .mk t.p t.kv t.vv t.cv t.keys t.vals (t.kids.set i s)
theorem OQ {l : List NT} {i : Nat} {s : NT} (h : l[i]? = some s) : l = l.take i ++ s :: l.drop (i + 1) := by
 rw [<- fO h, List.take_append_drop]
theorem lW (T E : Nat) {l : List NT} {i : Nat} {s : NT} (h : l[i]? = some s) : NT.aZ T E l = NT.aZ T E (l.take i) ++ (s.dH T E ++ NT.aZ T E (l.drop (i + 1))) := by
 conv => lhs; rw [OQ h]
 rw [gZ, NT.aZ]
theorem sU {T E : Nat} {t s : NT} {i : Nat} (L : List Ck) (h : t.kids[i]? = some s) : (t.dH T E ++ L).Perm (s.dH T E ++ t.hole T E i L) := by
 rw [NT.kJ, lW T E h];unfold NT.hole;simp only [List.append_assoc];refine (List.Perm.append_left _ (List.perm_append_comm_assoc _ _ _)).trans ?_;exact List.perm_append_comm_assoc _ _ _
theorem qG {l : List NT} {i : Nat} {s s' : NT} (h : l[i]? = some s) : (l.set i s')[i]? = some s' /\ (l.set i s').take i = l.take i /\ (l.set i s').drop (i + 1) = l.drop (i + 1) := by
 have hl : i < l.length := (List.getElem?_eq_some_iff.1 h).1;refine ⟨by rw [List.getElem?_set_self hl], ?_, ?_⟩
 ·rw [List.take_set_of_le (Nat.le_refl _)]
 ·rw [List.drop_set_of_lt (Nat.lt_succ_self _)]
theorem OT {l : List NT} {i : Nat} {s s' : NT} (h : l[i]? = some s) (hp : s'.p = s.p) : ptrs (l.set i s') = ptrs l := by
 unfold ptrs;rw [List.map_set]
 refine List.ext_getElem? fun j => ?_
 rw [List.getElem?_set]
 by_cases hj : i = j
 ·subst hj
  have hl : i < l.length := (List.getElem?_eq_some_iff.1 h).1;rw [if_pos rfl, if_pos (by rw [List.length_map]; exact hl), List.getElem?_map, h, hp];rfl
 ·rw [if_neg hj]
theorem BH {T E : Nat} {t s s' : NT} {i : Nat} (L : List Ck) (h : t.kids[i]? = some s) (hp : s'.p = s.p) : (s'.dH T E ++ t.hole T E i L).Perm ((t.eQ i s').dH T E ++ L) := by
 obtain ⟨h1, h2, h3⟩ := qG (s' := s') h
 have hh : (t.eQ i s').hole T E i L = t.hole T E i L := by
  unfold NT.hole NT.head NT.eQ NT.p NT.kv NT.vv NT.cv NT.keys NT.vals NT.kids
  cases t with | mk p kv vv cv keys vals kids =>
  simp only [NT.kids] at h h1 h2 h3;simp only;rw [OT h hp, h2, h3]
 rw [<- hh];refine (sU L ?_).symm
 cases t
 exact h1
theorem mX {t s' : NT} {i : Nat} : (t.eQ i s').erase = .mk t.keys t.vals (t.erase.kids.set i s'.erase) := by
 cases t with | mk p kv vv cv keys vals kids =>
 show PT.mk keys vals (NT.ax (kids.set i s')) = PT.mk keys vals ((NT.ax kids).set i s'.erase);rw [aC, aC, List.map_set]
section
variable {w w1 W : World} {base : Nat} {L : List Ck}
theorem Sat.BI {g c : Nat} {l : List ByteArray} (h : Sat w base (txt (.slice (some ⟨g, 0, none⟩) l.length c) l :: L)) (i : Nat) (x : ByteArray) :
  Sat (w.setCell ⟨g, i, none⟩ (.string x)) base (txt (.slice (some ⟨g, 0, none⟩) (l.set i x).length c) (l.set i x) :: L) := by
 have h1 := LC (h.ok _ List.mem_cons_self);obtain ⟨h2, hg⟩ := Kd.WV (enc := Value.string) (h1 := fun _ => rfl) h1 (i : Int) x;rw [Int.toNat_natCast] at h2 hg;have hl : (l.set i x).length = l.length := List.length_set;rw [hl];refine Sat.frame (A := [txt (.slice (some ⟨g, 0, none⟩) l.length c) l]) (A' := [txt (.slice (some ⟨g, 0, none⟩) l.length c) (l.set i x)]) (R := L) (w := w) h (Sat.one (wo h2)) ⟨hg.size, fun k hk hnot => hg.block k hk fun he => hnot ⟨_, List.mem_singleton_self _, ?_⟩⟩ ?_
 ·exact he.symm
 ·rintro k ⟨c', hc, hb⟩
  rw [List.mem_singleton.1 hc] at hb;exact .inl ⟨_, List.mem_singleton_self _, hb⟩
end
def aa (w : World) (base : Nat) (gs : List (List Ck)) : Prop := Sat w base gs.flatten
section
variable {w w1 W : World} {base : Nat} {gs gs' : List (List Ck)} {A B : List Ck} {c c' : Ck}
theorem aa.under (h : aa w base gs) (hb : Below w.heap.size w w1) : aa w1 base gs := Sat.under h hb
theorem aa.drew (h : aa w base gs) : aa w.drew base gs := Sat.drew h
theorem aa.drewN (h : aa w base gs) (m : Nat) : aa (w.drewN m) base gs := Sat.drewN h m
theorem qd {i : Nat} (hi : gs[i]? = some A) (B : List Ck) : gs.flatten.Perm (A ++ (gs.eraseIdx i).flatten) /\ (gs.set i B).flatten.Perm (B ++ (gs.eraseIdx i).flatten) := by
 obtain ⟨h1, h2⟩ := set_perm (y := B) hi;exact ⟨h1.flatten, h2.flatten⟩
theorem aa.at (h : aa w base gs) (i : Nat) (hi : gs[i]? = some A) : Sat w base A :=
 Sat.left (Sat.perm h (qd hi A).1)
theorem aa.z (h : aa w base gs) (i : Nat) {T p : Nat} {cs : Array Value} (hi : gs[i]? = some [.box T p cs]) (j : Nat) : w.cell? ⟨p, j, none⟩ = cs[j]? := (h.at i hi).z 0 rfl j
theorem aa.f (h : aa w base gs) (i : Nat) {T p : Nat} {cs : Array Value} (hi : gs[i]? = some [.box T p cs]) (j : Nat) : w.frozen? ⟨p, j, none⟩ = false := (h.at i hi).f 0 rfl j
theorem aa.blk (h : aa w base gs) (i : Nat) {T p : Nat} {cs : Array Value} (hi : gs[i]? = some [.box T p cs]) : w.heap[p]? = some (.cells cs T (0, 0)) := (h.at i hi).OJ 0 rfl
theorem aa.ge (h : aa w base gs) (i : Nat) {T p : Nat} {cs : Array Value} (hi : gs[i]? = some [.box T p cs]) : base <= p := ((h.at i hi).ok _ List.mem_cons_self).1
theorem aa.sr (h : aa w base gs) (i : Nat) {v : Value} {l : List ByteArray} (hi : gs[i]? = some [txt v l]) : SR w base v l := (h.at i hi).sr 0 rfl
theorem aa.row (h : aa w base gs) (i : Nat) {Ad : Option Addr} {n c : Nat} {l : List ByteArray} (hi : gs[i]? = some [txt (.slice Ad n c) l]) : n = l.length /\ n <= c /\ Kd.C Kd.string w Ad l.length l := Kd.dS (h.sr i hi)
theorem aa.q (h : aa w base gs) (i : Nat) {E : Nat} {v : Value} {l : List NT} (hi : gs[i]? = some [.jL E v (ptrs l)]) : PQ E w base v (l.map NT.p) := by
 have := (h.at i hi).ok _ List.mem_cons_self;rw [dM] at this;exact Bw this
theorem aa.fH (h : aa w base gs) (i : Nat) {E : Nat} {Ad : Option Addr} {n c : Nat} {l : List NT} (hi : gs[i]? = some [.jL E (.slice Ad n c) (ptrs l)]) : n = l.length /\ n <= c /\ dZ.C w Ad n (l.map NT.p) := by
 obtain ⟨h1, h2, h3⟩ := Kd.uE (h.q i hi);rw [List.length_map] at h1 h3;subst h1;exact ⟨rfl, h2, h3⟩
theorem aa.turn (h : aa w base gs) (i : Nat) (hi : gs[i]? = some A) (ha : Sat w1 base B) (hk : Kept w w1 (vS A)) (hb : ∀ k, vS B k -> vS A k \/ w.heap.size <= k) : aa w1 base (gs.set i B) :=
 Sat.perm (Sat.frame (Sat.perm h (qd hi B).1) ha hk hb) (qd hi B).2.symm
theorem aa.put (h : aa w base gs) (i : Nat) {T p : Nat} {cs cs' : Array Value} (hi : gs[i]? = some [.box T p cs]) (j : Nat) (u : Value) (e : cs.setIfInBounds j u = cs') : aa (w.setCell ⟨p, j, none⟩ u) base (gs.set i [.box T p cs']) := by
 obtain ⟨h1, h2⟩ := qd hi [.box T p cs'];exact Sat.perm (Sat.put (Sat.perm h h1) j u e) h2.symm
theorem aa.BI (h : aa w base gs) (i : Nat) {g c : Nat} {l : List ByteArray} (hi : gs[i]? = some [txt (.slice (some ⟨g, 0, none⟩) l.length c) l]) (j : Nat) (x : ByteArray) :
  aa (w.setCell ⟨g, j, none⟩ (.string x)) base (gs.set i [txt (.slice (some ⟨g, 0, none⟩) (l.set j x).length c) (l.set j x)]) := by
 obtain ⟨h1, h2⟩ := qd hi [txt (.slice (some ⟨g, 0, none⟩) (l.set j x).length c) (l.set j x)];exact Sat.perm (Sat.BI (Sat.perm h h1) j x) h2.symm
theorem aa.new (h : aa w base gs) (hb : Below w.heap.size w w1) (hbase : base <= w.heap.size) (hn : Sat w1 w.heap.size A) : aa w1 base (gs ++ [A]) := by
 have := Sat.behind h hb hbase hn;unfold aa;rw [List.flatten_append, List.flatten_singleton];exact this
theorem aa.eG {v : Value} {l : List ByteArray} (h : aa w base gs) (hb : Below w.heap.size w w1) (hbase : base <= w.heap.size) (ho : Kd.string.R 9 w1 w.heap.size (fun _ => True) v l) : aa w1 base (gs ++ [[txt v l]]) :=
 h.new hb hbase (Sat.one (wo ho))
theorem aa.je {T g : Nat} {cs : Array Value} (h : aa W base gs) (hg : g = W.heap.size) (aA : w1.heap[g]? = some (.cells cs T (0, 0))) (hb : Below W.heap.size W w1) (hbase : base <= W.heap.size) : aa w1 base (gs ++ [[.box T g cs]]) :=
 h.new hb hbase (Sat.one ⟨by omega, aA⟩)
theorem aa.xJ {Ad : Option Addr} {c : Nat} {l : List ByteArray} (h : aa w base gs) (i : Nat) (hi : gs[i]? = some [txt (.slice Ad l.length c) l]) (m : Nat) (hm : m <= l.length) : aa w base (gs.set i [txt (.slice Ad m c) (l.take m)]) := by
 have h1 := h.sr i hi;have h2 : SR w base (.slice Ad m c) (l.take m) := Kd.TK h1 hm;refine h.turn i hi (Sat.one (wo h2)) (Kept.refl _ _) ?_;rintro k ⟨d, hd, hb⟩;rw [List.mem_singleton.1 hd] at hb;exact .inl ⟨_, List.mem_singleton_self _, by cases Ad <;> exact hb⟩
theorem aa.lit {xs : List ByteArray} {vb : Value} (h : aa W base gs) (ho : Kd.string.R 9 w1 base (fun _ => True) vb xs) (hg : W.grownBy w1 none) (hn : ∃ b, vb.ownBlock = some b /\ W.heap.size <= b) : aa w1 base (gs ++ [[txt vb xs]]) := by
 have := Sat.lit h ho hg hn;unfold aa;rw [List.flatten_append, List.flatten_singleton];exact this
theorem pM {c c' : Ck} (hat : c'.blk = c.blk \/ ∃ b, c'.blk = some b /\ W.heap.size <= b) : ∀ k, vS [c'] k -> vS [c] k \/ W.heap.size <= k := by
 rintro k ⟨d, hd, hb⟩;rw [List.mem_singleton.1 hd] at hb
 rcases hat with h | ⟨b, h1, h2⟩
 ·exact .inl ⟨_, List.mem_singleton_self _, by rw [<- h]; exact hb⟩
 ·rw [h1] at hb
  injection hb with hb
  exact .inr (by omega)
theorem aa.app {x y : List ByteArray} {u u1 : Value} (i : Nat) (h : aa W base gs) (hi : gs[i]? = some [txt u x]) (ho : Kd.string.R 9 w1 base (fun _ => True) u1 y) (hg : W.grownBy w1 u.ownBlock) (hat : u1.ownBlock = u.ownBlock \/ ∃ b, u1.ownBlock = some b /\ W.heap.size <= b) : aa w1 base (gs.set i [txt u1 y]) :=
 h.turn i hi (Sat.one (wo ho)) ⟨hg.size, fun k hk hnot => hg.block k hk fun he => hnot ⟨_, List.mem_singleton_self _, he.symm⟩⟩ (pM hat)
theorem aa.Tk {E : Nat} {Ad : Option Addr} {n c : Nat} {l : List NT} (h : aa w base gs) (i : Nat) (hi : gs[i]? = some [.jL E (.slice Ad n c) (ptrs l)]) (m : Nat) (hm : m <= l.length) : aa w base (gs.set i [.jL E (.slice Ad m c) (ptrs (l.take m))]) := by
 have h1 := h.q i hi;have h2 : PQ E w base (.slice Ad m c) ((l.map NT.p).take m) := Kd.TL h1 (by rw [List.length_map]; exact hm);rw [<- List.map_take] at h2;have h3 := zu h2;rw [<- dM] at h3;refine h.turn i hi (Sat.one h3) (Kept.refl _ _) ?_;rintro k ⟨d, hd, hb⟩;rw [List.mem_singleton.1 hd] at hb;exact .inl ⟨_, List.mem_singleton_self _, by cases Ad <;> exact hb⟩
theorem aa.wS {E : Nat} {v : Value} {l : List NT} (h : aa w base gs) (hb : Below w.heap.size w w1) (hbase : base <= w.heap.size) (ho : dZ.R E w1 w.heap.size (fun _ => True) v (l.map NT.p)) : aa w1 base (gs ++ [[.jL E v (ptrs l)]]) := by
 have h2 : PQ E w1 w.heap.size v (l.map NT.p) := Kd.FQ ho;have h3 := zu h2;rw [<- dM] at h3;exact h.new hb hbase (Sat.one h3)
theorem aa.nH {c : Ck} (h : aa W base gs) (hc : c.ok w1 base) (hg : W.grownBy w1 none) (hn : ∃ b, c.blk = some b /\ W.heap.size <= b) : aa w1 base (gs ++ [[c]]) := by
 have hk : Kept W w1 (fun _ => False) := ⟨hg.size, fun i hi _ => hg.block i hi (by simp)⟩
 have h2 := Sat.perm (Sat.add h hk (Sat.one hc) (by
  rintro k ⟨d, hd, hb⟩;rw [List.mem_singleton.1 hd] at hb;obtain ⟨b, h1, h2⟩ := hn;rw [h1] at hb
  injection hb with hb
  omega)) List.perm_append_comm
 unfold aa;rw [List.flatten_append, List.flatten_singleton];exact h2
theorem qH {E : Nat} {v : Value} {l : List Nat} (h : dZ.R E w base (fun _ => True) v l) : Ck.ok w base (.own E v (encs bu l)) := by
 have h2 := Kd.uB (enc := bu) (h1 := fun _ => rfl) h;show w.ownsRow base E 1 v (encs bu l).length (encs bu l);rw [bY];exact h2
theorem RD {E : Nat} {v : Value} {l : List Nat} (h : Ck.ok w base (.own E v (encs bu l))) : dZ.R E w base (fun _ => True) v l :=
 Kd.oz (enc := bu) (h1 := fun _ => rfl) (by have h2 : w.ownsRow base E 1 v (encs bu l).length (encs bu l) := h; rw [bY] at h2; exact h2) (fun _ _ => trivial)
theorem aa.TM (h : aa w base gs) (i : Nat) {E : Nat} {v : Value} {l : List Nat} (hi : gs[i]? = some [.own E v (encs bu l)]) : dZ.R E w base (fun _ => True) v l := RD ((h.at i hi).ok _ List.mem_cons_self)
theorem aa.appOwn {E : Nat} {x : List Nat} {y : List NT} {u u1 : Value} (i : Nat) (h : aa W base gs) (hi : gs[i]? = some [.own E u (encs bu x)]) (ho : dZ.R E w1 base (fun _ => True) u1 (y.map NT.p)) (hg : W.grownBy w1 u.ownBlock) (hat : u1.ownBlock = u.ownBlock \/ ∃ b, u1.ownBlock = some b /\ W.heap.size <= b) : aa w1 base (gs.set i [.jL E u1 (ptrs y)]) := by
 have h3 := zu (Kd.FQ ho : PQ E w1 base u1 (y.map NT.p));rw [<- dM] at h3;exact h.turn i hi (Sat.one h3) ⟨hg.size, fun k hk hnot => hg.block k hk fun he => hnot ⟨_, List.mem_singleton_self _, he.symm⟩⟩ (pM hat)
theorem aa.cut (h : aa w base gs) (i : Nat) (hi : gs[i]? = some (A ++ B)) : aa w base (gs.set i A ++ [B]) := by
 obtain ⟨h1, h2⟩ := qd hi A;unfold aa;rw [List.flatten_append, List.flatten_singleton];have h3 := Sat.perm h h1;rw [List.append_assoc] at h3;refine Sat.perm h3 ?_;refine (List.Perm.append_left A List.perm_append_comm).trans ?_;rw [<- List.append_assoc];exact h2.symm.append_right B
theorem aa.Bz (h : aa w base gs) (E : Nat) : aa w base (gs ++ [[.jL E (.slice none 0 0) []]]) := by
 unfold aa;rw [List.flatten_append, List.flatten_singleton];exact (Sat.Bz h E).perm (List.perm_append_comm (l₁ := [Ck.jL E (.slice none 0 0) []]))
theorem aa.OU (h : aa w base gs) : aa w base (gs ++ [[]]) := by
 unfold aa;rw [List.flatten_append, List.flatten_singleton, List.append_nil];exact h
theorem aa.Ol {T E p : Nat} {kv vv cv : Value} {keys vals : List ByteArray} {kids : List NT} (h : aa w base [[.box T p #[kv, vv, cv]], [txt kv keys], [txt vv vals], [.jL E cv (ptrs kids)], NT.aZ T E kids]) : Rd T w p (NT.mk p kv vv cv keys vals kids).erase := by
 refine jc (base := base) (E := E) (t := NT.mk p kv vv cv keys vals kids) ?_;rw [NT.dH];unfold aa at h;simp only [List.flatten_cons, List.flatten_nil, List.cons_append, List.nil_append, List.append_nil] at h;exact h
def gJ (gs : List (List Ck)) (is : List Nat) : List (List Ck) := is.map fun i => gs.getD i []
theorem aa.JY (h : aa w base gs) {i j : Nat} (hij : i ≠ j) (hi : gs[i]? = some A) (hj : gs[j]? = some B) : ∀ a ∈ A, ∀ b ∈ B, Apart a b := by
 intro a ha b hb
 have key : ∀ {i j : Nat} {A B : List Ck}, i < j -> gs[i]? = some A -> gs[j]? = some B -> ∀ a ∈ A, ∀ b ∈ B, Apart a b := by
  intro i j A B hij hi hj a ha b hb
  have hp : gs.Pairwise fun l m => ∀ x ∈ l, ∀ y ∈ m, Apart x y := (List.pairwise_flatten.1 h.ap).2
  obtain ⟨h1, h2⟩ := List.getElem?_eq_some_iff.1 hi;obtain ⟨h3, h4⟩ := List.getElem?_eq_some_iff.1 hj;subst h2;subst h4;exact List.pairwise_iff_getElem.1 hp i j h1 h3 hij a ha b hb
 rcases Nat.lt_or_gt_of_ne hij with hlt | hlt
 ·exact key hlt hi hj a ha b hb
 ·exact Apart.symm (key hlt hj hi b hb a ha)
theorem getD_at {i : Nat} {c : Ck} (h : c ∈ gs.getD i []) : ∃ g, gs[i]? = some g /\ c ∈ g := by
 rw [List.getD_eq_getElem?_getD] at h
 cases hg : gs[i]? with
 | none => rw [hg] at h; cases h
 | some g => rw [hg] at h; exact ⟨g, rfl, h⟩
theorem aa.gJ (h : aa w base gs) (is : List Nat) (hn : is.Nodup) : aa w base (gJ gs is) := by
 refine ⟨fun c hc => ?_, List.pairwise_flatten.2 ⟨fun g hg => ?_, ?_⟩⟩
 ·obtain ⟨g, hg, hcg⟩ := List.mem_flatten.1 hc
  obtain ⟨i, _, rfl⟩ := List.mem_map.1 hg;obtain ⟨g, hi, hcg⟩ := getD_at hcg;exact (h.at i hi).ok c hcg
 ·obtain ⟨i, _, rfl⟩ := List.mem_map.1 hg
  cases hi : gs[i]? with
  | none =>
   rw [List.getD_eq_getElem?_getD, hi];exact .nil
  | some g =>
   rw [List.getD_eq_getElem?_getD, hi];exact (h.at i hi).ap
 ·unfold Tree.gJ
  rw [List.pairwise_map]
  refine hn.imp fun {i j} hij a ha b hb => ?_
  obtain ⟨g, hi, hag⟩ := getD_at ha;obtain ⟨g', hj, hbg⟩ := getD_at hb;exact h.JY hij hi hj a hag b hbg
end
abbrev iX (g : Nat) : Option Addr := some ⟨g, 0, none⟩
abbrev gK (A : Option Addr) (c : Nat) (l : List ByteArray) : List Ck := [txt (.slice A l.length c) l]
abbrev uw (A : Option Addr) (n c : Nat) (l : List ByteArray) : List Ck := [txt (.slice A n c) l]
abbrev lX (t : Nat) (A : Option Addr) (c : Nat) (l : List NT) : List Ck := [.jL t (.slice A l.length c) (ptrs l)]
abbrev WW (t : Nat) (A : Option Addr) (n c : Nat) (l : List NT) : List Ck := [.jL t (.slice A n c) (ptrs l)]
abbrev jM (t p : Nat) (A : Option Addr) (a c : Nat) (B : Option Addr) (b d : Nat) (C : Option Addr) (e f : Nat) : List Ck := [.box t p #[.slice A a c, .slice B b d, .slice C e f]]
theorem yL {w : World} {base : Nat} {gs gs' : List (List Ck)} (h : aa w base gs) (e : gs = gs' := by (try simp only [gJ, List.map_cons, List.map_nil, List.getElem?_cons_succ, List.getElem?_cons_zero, List.getD_cons_succ, List.getD_cons_zero, Option.getD_some, List.set_cons_zero, List.set_cons_succ, List.cons_append, List.nil_append]); rfl) : aa w base gs' := e ▸ h
theorem aan (w : World) {base : Nat} {gs gs' : List (List Ck)} (h : aa w base gs) (e : gs = gs' := by (try simp only [gJ, List.map_cons, List.map_nil, List.getElem?_cons_succ, List.getElem?_cons_zero, List.getD_cons_succ, List.getD_cons_zero, Option.getD_some, List.set_cons_zero, List.set_cons_succ, List.cons_append, List.nil_append]); rfl) : aa w base gs' := e ▸ h
theorem jN {w : World} {base : Nat} {gs gs' : List (List Ck)} (h : aa w base gs) (e : gs = gs' := by (try simp only [gJ, List.map_cons, List.map_nil, List.getElem?_cons_succ, List.getElem?_cons_zero, List.getD_cons_succ, List.getD_cons_zero, Option.getD_some, List.set_cons_zero, List.set_cons_succ, List.cons_append, List.nil_append]); rfl) : af (aa w base gs') := ⟨e ▸ h⟩
theorem gq (w : World) {base : Nat} {gs gs' : List (List Ck)} (h : aa w base gs) (e : gs = gs' := by (try simp only [gJ, List.map_cons, List.map_nil, List.getElem?_cons_succ, List.getElem?_cons_zero, List.getD_cons_succ, List.getD_cons_zero, Option.getD_some, List.set_cons_zero, List.set_cons_succ, List.cons_append, List.nil_append]); rfl) : af (aa w base gs') := ⟨e ▸ h⟩
end Go.Proofs.Ytoddejmlcnbdmaa.Tree
namespace Go.Proofs.Ytoddejmlcnbdmaa.Fn
def fI.f (l0 : List ByteArray) (a1 : Int) (a2 : ByteArray) : Option (List ByteArray) := (some (([] : List ByteArray) : List ByteArray)).bind fun qx => (if 0 <= a1 then (if a1 <= (l0.length : Int) then (if qx.length + (l0.take (a1 : Int).toNat).length < 8796093022208 then ((some (qx ++ (l0.take (a1 : Int).toNat) : List ByteArray)).bind fun nC => (if nC.length < 8796093022208 then ((some (nC ++ [a2] : List ByteArray)).bind fun lG => (if lG.length + (l0.drop (a1 : Int).toNat).length < 8796093022208 then (some (lG ++ (l0.drop (a1 : Int).toNat))) else (none))) else (none))) else (none)) else (none)) else (none))
theorem fI.calls (A0 : Option Addr) (c0 : Nat) (l0 : List ByteArray) (a1 : Int) (a2 : ByteArray) (r : List ByteArray) (w : World) (hr0 : Kd.C Kd.string w A0 l0.length l0) (hc0 : l0.length <= c0) (h : fI.f l0 a1 a2 = some r) :
  Calls Try.prog 124 #[.slice A0 l0.length c0, .int .i64 a1, .string a2] w fun e w' => ∃ ja : Value, e = .returned (ja) /\ Kd.R Kd.string 9 w' w.heap.size (fun _ => True) ja r /\ Below w.heap.size w w' := by
 have nJ := A_ hr0;have qP := A_ hc0;clear hr0 hc0;have HB := A_ (Below.refl w.heap.size w);have H : ((some (([] : List ByteArray) : List ByteArray)).bind fun qx => (if 0 <= a1 then (if a1 <= (l0.length : Int) then (if qx.length + (l0.take (a1 : Int).toNat).length < 8796093022208 then ((some (qx ++ (l0.take (a1 : Int).toNat) : List ByteArray)).bind fun nC => (if nC.length < 8796093022208 then ((some (nC ++ [a2] : List ByteArray)).bind fun lG => (if lG.length + (l0.drop (a1 : Int).toNat).length < 8796093022208 then (some (lG ++ (l0.drop (a1 : Int).toNat))) else (none))) else (none))) else (none)) else (none)) else (none))) = some r := h;clear h
 obtain ⟨qx, uS⟩ : ∃ y_ : List ByteArray, y_ = (([] : List ByteArray)) := ⟨_, rfl⟩
 replace H : (if 0 <= a1 then (if a1 <= (l0.length : Int) then (if qx.length + (l0.take (a1 : Int).toNat).length < 8796093022208 then ((some (qx ++ (l0.take (a1 : Int).toNat) : List ByteArray)).bind fun nC => (if nC.length < 8796093022208 then ((some (nC ++ [a2] : List ByteArray)).bind fun lG => (if lG.length + (l0.drop (a1 : Int).toNat).length < 8796093022208 then (some (lG ++ (l0.drop (a1 : Int).toNat))) else (none))) else (none))) else (none)) else (none)) else (none)) = some r := by first | (rw [uS]; with_reducible exact H) | (have kN := (Option.bind_some _ _).symm.trans H; rw [uS]; with_reducible exact kN) | (have kN := (Option.bind_some _ _).symm.trans H; with_reducible exact kN) | with_reducible exact H | (rw [uS]; exact H) | exact H
 have Jd := A_ uS;clear uS
 by_cases c4 : 0 <= a1
 ·rw [if_pos c4] at H
  have tV := eq_true c4;have Qf : decide (0 <= a1) = true := decide_eq_true c4;clear c4
  by_cases c5 : a1 <= (l0.length : Int)
  ·rw [if_pos c5] at H
   have DY := eq_true c5;have c5b1 : decide (a1 <= (l0.length : Int)) = true := decide_eq_true c5;clear c5
   by_cases c6 : qx.length + (l0.take (a1 : Int).toNat).length < 8796093022208
   ·rw [if_pos c6] at H
    have UK := A_ c6;clear c6
    obtain ⟨nC, uT⟩ : ∃ y_ : List ByteArray, y_ = (qx ++ (l0.take (a1 : Int).toNat)) := ⟨_, rfl⟩
    replace H : (if nC.length < 8796093022208 then ((some (nC ++ [a2] : List ByteArray)).bind fun lG => (if lG.length + (l0.drop (a1 : Int).toNat).length < 8796093022208 then (some (lG ++ (l0.drop (a1 : Int).toNat))) else (none))) else (none)) = some r := by first | (rw [uT]; with_reducible exact H) | (have kN := (Option.bind_some _ _).symm.trans H; rw [uT]; with_reducible exact kN) | (have kN := (Option.bind_some _ _).symm.trans H; with_reducible exact kN) | with_reducible exact H | (rw [uT]; exact H) | exact H
    have Qh := A_ uT;clear uT
    by_cases c7 : nC.length < 8796093022208
    ·rw [if_pos c7] at H
     have UL := A_ c7;clear c7
     obtain ⟨lG, uU⟩ : ∃ y_ : List ByteArray, y_ = (nC ++ [a2]) := ⟨_, rfl⟩
     replace H : (if lG.length + (l0.drop (a1 : Int).toNat).length < 8796093022208 then (some (lG ++ (l0.drop (a1 : Int).toNat))) else (none)) = some r := by first | (rw [uU]; with_reducible exact H) | (have kN := (Option.bind_some _ _).symm.trans H; rw [uU]; with_reducible exact kN) | (have kN := (Option.bind_some _ _).symm.trans H; with_reducible exact kN) | with_reducible exact H | (rw [uU]; exact H) | exact H
     have Qi := A_ uU;clear uU;have KP := eq_true (of_decide_eq_true jh : 0 <= a1);have Sw := eq_true (of_decide_eq_true jh : a1 <= (l0.length : Int))
     by_cases c10 : lG.length + (l0.drop (a1 : Int).toNat).length < 8796093022208
     ·rw [if_pos c10] at H
      have Qj := A_ c10;clear c10
      obtain ⟨UM, uV⟩ : ∃ y_ : List ByteArray, y_ = (lG ++ (l0.drop (a1 : Int).toNat)) := ⟨_, rfl⟩
      replace H : (some UM) = some r := by first | (rw [uV]; with_reducible exact H) | (have kN := (Option.bind_some _ _).symm.trans H; rw [uV]; with_reducible exact kN) | (have kN := (Option.bind_some _ _).symm.trans H; with_reducible exact kN) | with_reducible exact H | (rw [uV]; exact H) | exact H
      have Qk := A_ uV;clear uV;obtain rfl := Option.some.inj H;go_enter Try.func124, Try.ntmps124
      go_wp2_with (first | ((with_reducible refine iK (N := 8) rfl ?_); refine Kd.Bf Kd.string _ 9 ?hg (N := 8) ?hd (xs := ([] : List ByteArray)) (inner := []) (ok := fun _ => True) (okp := fun _ => True) ?hr ?hp (fun _ hk => hk) trivial (Below.refl _ _) (Nat.le_refl _) (by simp) ?_; (case hd => rfl); (case hg => rfl); (case hr => first | (go_simp; done) | (go_simp; rfl)); (case hp => exact (gm.none _ _)); intro UN Ab CW hb NM sF; clear NM sF; (first | rw [<- Jd.out] at CW | (simp only [Int.reduceToNat] at CW; rw [<- Jd.out] at CW)); have Je := A_ (Kd.gW CW (Dw HB.out)); replace HB := A_ (Wm HB.out hb); clear hb CW; obtain ⟨i013, Jf, _, Jg, _⟩ := info_parts dC; obtain ⟨hcut13, Ql, Qm⟩ := oq (P := Try.prog) Value.string (⟨#[]⟩ : ByteArray) 38 9 .i64 Try.underlying38 Jf Jg A0 c0 l0 a1 (of_decide_eq_true jh) (of_decide_eq_true jh) qP.out; have CX := A_ (Kd.lh (h1 := fun _ => rfl) (Ql _ (Kd.iU nJ.out))); have HC226 := A_ Qm; clear Ql Qm Jf Jg) | ((with_reducible refine bP (b := .append) (xs := #[.tmp 8, .tmp 11]) rfl ?_); at_builtin; refine Kd.eY Kd.string (w0 := w) w.heap.size rfl (.tmp 8) (.tmp 11) 38 9 (.string ⟨#[]⟩) 16 rfl Try.underlying38 dC rfl (by decide) (by omega) UN qx (l0.take (a1 : Int).toNat) _ _ _ (fun _ => True) (fun _ => False) rfl rfl ?aO ?aR (fun _ _ h => h) (fun _ h => h.elim) ?aF ?aB ?aS ?aL ?_; (case aR => first | (have UO := (show (l0.take (a1 : Int).toNat).length = a1.toNat from (by rw [List.length_take]; have h_ : (a1 : Int) <= (l0.length : Int) := of_decide_eq_true jh; omega)); have Qn := (Kd.aN CX.out HB.out); rw [UO] at Qn; exact Qn) | (rw [<- show (l0.take (a1 : Int).toNat).length = a1.toNat from (by rw [List.length_take]; have h_ : (a1 : Int) <= (l0.length : Int) := of_decide_eq_true jh; omega)]; repeat (first | exact (Kd.aN CX.out HB.out) | (with_reducible refine Kd.jk ?_ _) | (with_reducible refine Kd.dB ?_ _) | (with_reducible refine Kd.gD ?_))) | (repeat (first | exact (Kd.aN CX.out HB.out) | (with_reducible refine Kd.jk ?_ _) | (with_reducible refine Kd.dB ?_ _) | (with_reducible refine Kd.gD ?_)))); (case aB => exact (Be HB.out)); (case aF => exact (fun _ _ => trivial)); (case aO => exact (tY Je.out)); (case aS => exact (Dw HB.out)); (case aL => have := UK.out; have KQ := (show (l0.take (a1 : Int).toNat).length = a1.toNat from (by rw [List.length_take]; have h_ : (a1 : Int) <= (l0.length : Int) := of_decide_eq_true jh; omega)); omega); intro v228 yB ho hb hg hat; rw [<- Qh.out] at ho; have CP := A_ (hb); have ah := A_ (ho); clear HB; clear Je; have HB := CP; have Jh := ah; clear CP ah; clear ho hb hg hat) | ((with_reducible refine bP (b := .append) (xs := #[.tmp 13, .tmp 15]) rfl ?_); at_builtin; refine Kd.rJ Kd.string (w0 := w) w.heap.size rfl (.tmp 13) (.tmp 15) 38 9 (.string ⟨#[]⟩) 16 rfl Try.underlying38 dC rfl (by decide) (by omega) v228 nC a2 [.string a2] (fun _ => True) (fun _ => False) rfl rfl ?aP (fun _ hk => hk.elim) ?aF ?aO ?aB ?aS ?aL ?_; (case aP => exact rfl); (case aB => exact (Be HB.out)); (case aF => exact (fun _ _ => trivial)); (case aO => exact (tY Jh.out)); (case aS => exact (Dw HB.out)); (case aL => have := UL.out; omega); intro UQ Ji ho hb hg hat; rw [<- Qi.out] at ho; have CP := A_ (hb); have ah := A_ (ho); clear HB; clear Jh; have HB := CP; have Jj := ah; clear CP ah; clear ho hb hg hat; obtain ⟨i016, Jk, _, Jl, _⟩ := info_parts dC; obtain ⟨TA, CY, Qo, Qp⟩ := ou (P := Try.prog) Value.string (⟨#[]⟩ : ByteArray) 38 9 .i64 Try.underlying38 Jk Jl A0 c0 l0 a1 (of_decide_eq_true jh) (of_decide_eq_true jh) qP.out; have Jm := A_ (Kd.lh (h1 := fun _ => rfl) (Qo _ (Kd.iU nJ.out))); have HC233 := A_ Qp; clear Qo Qp Jk Jl) | ((with_reducible refine bP (b := .append) (xs := #[.tmp 17, .tmp 20]) rfl ?_); at_builtin; refine Kd.eY Kd.string (w0 := w) w.heap.size rfl (.tmp 17) (.tmp 20) 38 9 (.string ⟨#[]⟩) 16 rfl Try.underlying38 dC rfl (by decide) (by omega) UQ lG (l0.drop (a1 : Int).toNat) _ _ _ (fun _ => True) (fun _ => False) rfl rfl ?aO ?aR (fun _ _ h => h) (fun _ h => h.elim) ?aF ?aB ?aS ?aL ?_; (case aR => first | (rw [<- show (l0.drop (a1 : Int).toNat).length = (l0.length - a1.toNat) from List.length_drop]; repeat (first | exact (Kd.aN Jm.out HB.out) | (with_reducible refine Kd.jk ?_ _) | (with_reducible refine Kd.dB ?_ _) | (with_reducible refine Kd.gD ?_))) | (repeat (first | exact (Kd.aN Jm.out HB.out) | (with_reducible refine Kd.jk ?_ _) | (with_reducible refine Kd.dB ?_ _) | (with_reducible refine Kd.gD ?_)))); (case aB => exact (Be HB.out)); (case aF => exact (fun _ _ => trivial)); (case aO => exact (tY Jj.out)); (case aS => exact (Dw HB.out)); (case aL => have := Qj.out; have KQ := (show (l0.drop (a1 : Int).toNat).length = (l0.length - a1.toNat) from List.length_drop); omega); intro v235 MC ho hb hg hat; rw [<- Qk.out] at ho; have CP := A_ (hb); have ah := A_ (ho); clear HB; clear Jj; have HB := CP; have Qq := ah; clear CP ah; clear ho hb hg hat))
      go_ret;exact ⟨_, Lx, by (with_reducible repeat (first | apply Kd.pE | apply Kd.pF | apply Kd.sI)); exact Qq.out, by repeat (first | (with_reducible first | exact HB.out | apply bz | apply aj | apply bD) | exact HB.out)⟩
     ·rw [if_neg c10] at H
      exact absurd H (by simp)
    ·rw [if_neg c7] at H
     exact absurd H (by simp)
   ·rw [if_neg c6] at H
    exact absurd H (by simp)
  ·rw [if_neg c5] at H
   exact absurd H (by simp)
 ·rw [if_neg c4] at H
  exact absurd H (by simp)
def dD.f (l0 : List ByteArray) (a1 : Int) : Option (List ByteArray) := (some (([] : List ByteArray) : List ByteArray)).bind fun CZ => (if 0 <= a1 then (if a1 <= (l0.length : Int) then (if CZ.length + (l0.take (a1 : Int).toNat).length < 8796093022208 then ((some (CZ ++ (l0.take (a1 : Int).toNat) : List ByteArray)).bind fun vV => (if 0 <= (wrap64 (a1 + 1)) then (if (wrap64 (a1 + 1)) <= (l0.length : Int) then (if vV.length + (l0.drop ((wrap64 (a1 + 1)) : Int).toNat).length < 8796093022208 then (some (vV ++ (l0.drop ((wrap64 (a1 + 1)) : Int).toNat))) else (none)) else (none)) else (none))) else (none)) else (none)) else (none))
def dD.T1 : Bool × List (List Nat × List Nat) := (true, [([], []), ([], []), ([], []), ([1, 2], [1, 2]), ([0, 3], [0, 3]), ([], []), ([], []), ([6], [6]), ([5, 7], [5, 7]), ([4, 8, 4], [4, 8]), ([9, 9, 0, 1, 2, 3, 4, 5, 6, 7, 8, 9], [9])])
def dD.B1 : List Nat := [0, 0, 0, 6, 15, 0, 0, 64, 224, 511, 1023]
theorem dD.TN : sV .any (opsOf Try.f112 1) = dD.T1 := by kernel_rfl
theorem dD.OV : AA dD.T1.2 dD.B1 = true := by kernel_rfl
theorem dD.calls (A0 : Option Addr) (c0 : Nat) (l0 : List ByteArray) (a1 : Int) (r : List ByteArray) (w : World) (hr0 : Kd.C Kd.string w A0 l0.length l0) (hc0 : l0.length <= c0) (h : dD.f l0 a1 = some r) :
  Calls Try.prog 112 #[.slice A0 l0.length c0, .int .i64 a1] w fun e w' => ∃ ja : Value, e = .returned (ja) /\ Kd.R Kd.string 9 w' w.heap.size (fun _ => True) ja r /\ Below w.heap.size w w' := by
 have nJ := A_ hr0;have qP := A_ hc0;clear hr0 hc0;have HB := A_ (Below.refl w.heap.size w);have H : ((some (([] : List ByteArray) : List ByteArray)).bind fun CZ => (if 0 <= a1 then (if a1 <= (l0.length : Int) then (if CZ.length + (l0.take (a1 : Int).toNat).length < 8796093022208 then ((some (CZ ++ (l0.take (a1 : Int).toNat) : List ByteArray)).bind fun vV => (if 0 <= (wrap64 (a1 + 1)) then (if (wrap64 (a1 + 1)) <= (l0.length : Int) then (if vV.length + (l0.drop ((wrap64 (a1 + 1)) : Int).toNat).length < 8796093022208 then (some (vV ++ (l0.drop ((wrap64 (a1 + 1)) : Int).toNat))) else (none)) else (none)) else (none))) else (none)) else (none)) else (none))) = some r := h;clear h
 obtain ⟨CZ, Jn⟩ : ∃ y_ : List ByteArray, y_ = (([] : List ByteArray)) := ⟨_, rfl⟩
 replace H : (if 0 <= a1 then (if a1 <= (l0.length : Int) then (if CZ.length + (l0.take (a1 : Int).toNat).length < 8796093022208 then ((some (CZ ++ (l0.take (a1 : Int).toNat) : List ByteArray)).bind fun vV => (if 0 <= (wrap64 (a1 + 1)) then (if (wrap64 (a1 + 1)) <= (l0.length : Int) then (if vV.length + (l0.drop ((wrap64 (a1 + 1)) : Int).toNat).length < 8796093022208 then (some (vV ++ (l0.drop ((wrap64 (a1 + 1)) : Int).toNat))) else (none)) else (none)) else (none))) else (none)) else (none)) else (none)) = some r := by first | (rw [Jn]; with_reducible exact H) | (have kN := (Option.bind_some _ _).symm.trans H; rw [Jn]; with_reducible exact kN) | (have kN := (Option.bind_some _ _).symm.trans H; with_reducible exact kN) | with_reducible exact H | (rw [Jn]; exact H) | exact H
 have Ny317 := A_ Jn;clear Jn
 by_cases c3 : 0 <= a1
 ·rw [if_pos c3] at H
  have tT := eq_true c3;have GI : decide (0 <= a1) = true := decide_eq_true c3;clear c3
  by_cases c4 : a1 <= (l0.length : Int)
  ·rw [if_pos c4] at H
   have tV := eq_true c4;have Qf : decide (a1 <= (l0.length : Int)) = true := decide_eq_true c4;clear c4
   by_cases c5 : CZ.length + (l0.take (a1 : Int).toNat).length < 8796093022208
   ·rw [if_pos c5] at H
    have UR := A_ c5;clear c5
    obtain ⟨vV, Jo⟩ : ∃ y_ : List ByteArray, y_ = (CZ ++ (l0.take (a1 : Int).toNat)) := ⟨_, rfl⟩
    replace H : (if 0 <= (wrap64 (a1 + 1)) then (if (wrap64 (a1 + 1)) <= (l0.length : Int) then (if vV.length + (l0.drop ((wrap64 (a1 + 1)) : Int).toNat).length < 8796093022208 then (some (vV ++ (l0.drop ((wrap64 (a1 + 1)) : Int).toNat))) else (none)) else (none)) else (none)) = some r := by first | (rw [Jo]; with_reducible exact H) | (have kN := (Option.bind_some _ _).symm.trans H; rw [Jo]; with_reducible exact kN) | (have kN := (Option.bind_some _ _).symm.trans H; with_reducible exact kN) | with_reducible exact H | (rw [Jo]; exact H) | exact H
    have Ny321 := A_ Jo;clear Jo
    obtain ⟨uW, GK⟩ : ∃ j_ : Int, (wrap64 (a1 + 1)) = j_ := ⟨_, rfl⟩
    replace H : (if 0 <= (uW) then (if (uW) <= (l0.length : Int) then (if vV.length + (l0.drop ((uW) : Int).toNat).length < 8796093022208 then (some (vV ++ (l0.drop ((uW) : Int).toNat))) else (none)) else (none)) else (none)) = some r := by first | (rw [GK] at H; exact H) | (simp only [GK] at H ⊢; exact H)
    have hji6w : (IntKind.i64.wrap (a1 + 1)) = uW := (uA _).trans GK
    by_cases c7 : 0 <= (uW)
    ·rw [if_pos c7] at H
     have Ja := eq_true c7;have c7b1 : decide (0 <= (uW)) = true := decide_eq_true c7;clear c7
     by_cases c8 : (uW) <= (l0.length : Int)
     ·rw [if_pos c8] at H
      have KP := eq_true c8;have Qr : decide ((uW) <= (l0.length : Int)) = true := decide_eq_true c8;clear c8
      by_cases c9 : vV.length + (l0.drop ((uW) : Int).toNat).length < 8796093022208
      ·rw [if_pos c9] at H
       have UT := A_ c9;clear c9
       obtain ⟨y325, Jp⟩ : ∃ y_ : List ByteArray, y_ = (vV ++ (l0.drop ((uW) : Int).toNat)) := ⟨_, rfl⟩
       replace H : (some y325) = some r := by first | (rw [Jp]; with_reducible exact H) | (have kN := (Option.bind_some _ _).symm.trans H; rw [Jp]; with_reducible exact kN) | (have kN := (Option.bind_some _ _).symm.trans H; with_reducible exact kN) | with_reducible exact H | (rw [Jp]; exact H) | exact H
       have Ny325 := A_ Jp;clear Jp;obtain rfl := Option.some.inj H;go_enter Try.func112, Try.ntmps112
       try go_wp2
       replace HB := A_ (bD HB.out);obtain ⟨i011, Jq, _, Jr, _⟩ := info_parts dC;obtain ⟨C8, Qs, Qt⟩ := oq (P := Try.prog) Value.string (⟨#[]⟩ : ByteArray) 38 9 .i64 Try.underlying38 Jq Jr A0 c0 l0 a1 (of_decide_eq_true jh) (of_decide_eq_true jh) qP.out;have ME := A_ (Kd.lh (h1 := fun _ => rfl) (Qs _ (Kd.iU nJ.out)));have HC320 := A_ Qt;clear Qs Qt Jq Jr;obtain ⟨i012, Js, _, Jt, _⟩ := info_parts dC;obtain ⟨Zh, hcut12, GL, Qu⟩ := ou (P := Try.prog) Value.string (⟨#[]⟩ : ByteArray) 38 9 .i64 Try.underlying38 Js Jt A0 c0 l0 (uW) (of_decide_eq_true jh) (of_decide_eq_true jh) qP.out;have Qv := A_ (Kd.lh (h1 := fun _ => rfl) (GL _ (Kd.iU nJ.out)));have HC324 := A_ Qu;clear GL Qu Js Jt;refine bS (n := 11) (S := fun w' => True) (ds := []) (bt 11 0) (by kernel_rfl) rfl rfl trivial (fun hHeld => ?_); refine Ei dD.TN dD.OV (fun Sy HW_ => ?_);generalize w.drew = yn at HB ME Qv hHeld ⊢;refine aH 1 6 2 ?_;refine aH 2 7 6 ?_;refine aH 3 8 14 ?_;refine aH 5 10 46 ?_;refine aH 6 11 110 ?_;refine aH 7 12 238 ?_;refine aH 8 13 494 ?_;refine JR (i := 0) (N := some 5) (bt 11 495) rfl rfl (yM Sy.out (by kernel_rfl)) (by decide) (fun K hK => ?_);refine Kd.dO Kd.string _ 9 ?hg (N := 5) ?hd (xs := ([] : List ByteArray)) (inner := []) (ok := fun _ => True) (okp := fun _ => True) ?hr ?hp (fun _ hk => hk) trivial (Below.refl _ _) (Nat.le_refl _) (by simp) ?_; (case hd => rfl); (case hg => rfl); (case hr => first | (go_simp; done) | (go_simp; rfl)); (case hp => exact (gm.none _ _));intro v318 Fu C9 hb NM sF;clear NM sF
       (first | rw [<- Ny317.out] at C9 | (simp only [Int.reduceToNat] at C9; rw [<- Ny317.out] at C9))
       have HO319 := A_ (Kd.gW C9 (Dw HB.out));replace HB := A_ (Wm HB.out hb);clear hb C9;refine dh 5 hK trivial (fun hHeld => ?_);refine JR (i := 4) (N := some 9) (bt 11 511) rfl rfl (yM Sy.out (by kernel_rfl)) (by decide) (fun K hK => ?_);refine Kd.aM Kd.string (w0 := w) w.heap.size (by rfl) (.tmp 5) (.tmp 8) 38 9 (.string ⟨#[]⟩) 16 rfl Try.underlying38 dC rfl (by decide) (by omega) v318 CZ (l0.take (a1 : Int).toNat) _ _ _ (fun _ => True) (fun _ => False) rfl rfl ?aO ?aR (fun _ _ h => h) (fun _ h => h.elim) ?aF ?aB ?aS ?aL ?_
       (case aR => first | (have UO := (show (l0.take (a1 : Int).toNat).length = a1.toNat from (by rw [List.length_take]; have h_ : (a1 : Int) <= (l0.length : Int) := of_decide_eq_true jh; omega)); have Qn := (Kd.aN ME.out HB.out); rw [UO] at Qn; exact Qn) | (rw [<- show (l0.take (a1 : Int).toNat).length = a1.toNat from (by rw [List.length_take]; have h_ : (a1 : Int) <= (l0.length : Int) := of_decide_eq_true jh; omega)]; repeat (first | exact (Kd.aN ME.out HB.out) | (with_reducible refine Kd.jk ?_ _) | (with_reducible refine Kd.dB ?_ _) | (with_reducible refine Kd.gD ?_))) | (repeat (first | exact (Kd.aN ME.out HB.out) | (with_reducible refine Kd.jk ?_ _) | (with_reducible refine Kd.dB ?_ _) | (with_reducible refine Kd.gD ?_))))
       (case aB => exact (Be HB.out))
       (case aF => exact (fun _ _ => trivial))
       (case aO => exact (tY HO319.out))
       (case aS => exact (Dw HB.out))
       (case aL => have := UR.out; have KQ := (show (l0.take (a1 : Int).toNat).length = a1.toNat from (by rw [List.length_take]; have h_ : (a1 : Int) <= (l0.length : Int) := of_decide_eq_true jh; omega)); omega)
       intro v322 Ji ho hb hg hat;rw [<- Ny321.out] at ho;replace HB := A_ (hb);have HO323 := A_ (ho);clear HO319;clear ho hb hg hat;refine dh 9 hK trivial (fun hHeld => ?_);refine JR (i := 9) (N := some 14) (bt 11 1023) rfl rfl (yM Sy.out (by kernel_rfl)) (by decide) (fun K hK => ?_);refine Kd.aM Kd.string (w0 := w) w.heap.size (by rfl) (.tmp 9) (.tmp 13) 38 9 (.string ⟨#[]⟩) 16 rfl Try.underlying38 dC rfl (by decide) (by omega) v322 vV (l0.drop ((uW) : Int).toNat) _ _ _ (fun _ => True) (fun _ => False) rfl rfl ?aO ?aR (fun _ _ h => h) (fun _ h => h.elim) ?aF ?aB ?aS ?aL ?_
       (case aR => first | (rw [<- show (l0.drop ((uW) : Int).toNat).length = (l0.length - (uW).toNat) from List.length_drop]; repeat (first | exact (Kd.aN Qv.out HB.out) | (with_reducible refine Kd.jk ?_ _) | (with_reducible refine Kd.dB ?_ _) | (with_reducible refine Kd.gD ?_))) | (repeat (first | exact (Kd.aN Qv.out HB.out) | (with_reducible refine Kd.jk ?_ _) | (with_reducible refine Kd.dB ?_ _) | (with_reducible refine Kd.gD ?_))))
       (case aB => exact (Be HB.out))
       (case aF => exact (fun _ _ => trivial))
       (case aO => exact (tY HO323.out))
       (case aS => exact (Dw HB.out))
       (case aL => have := UT.out; have KQ := (show (l0.drop ((uW) : Int).toNat).length = (l0.length - (uW).toNat) from List.length_drop); omega)
       intro v326 w16 ho hb hg hat;rw [<- Ny325.out] at ho;replace HB := A_ (hb);have HO327 := A_ (ho);clear HO323;clear ho hb hg hat;refine dh 14 hK trivial (fun hHeld => ?_);refine aH 10 4 2047 ?_;refine dL (LH Sy.out (by kernel_rfl)) ?_
       try go_wp2
       go_ret;exact ⟨_, by first | rfl | (simp [mI, mJ] <;> rfl) | (simp only [<- GK]; first | rfl | (simp [mI, mJ] <;> rfl)) | (simp [*, mI, mJ] <;> rfl), by (with_reducible repeat (first | apply Kd.pE | apply Kd.pF | apply Kd.sI)); exact HO327.out, by repeat (first | (with_reducible first | exact HB.out | apply bz | apply aj | apply bD) | exact HB.out)⟩
      ·rw [if_neg c9] at H
       exact absurd H (by simp)
     ·rw [if_neg c8] at H
      exact absurd H (by simp)
    ·rw [if_neg c7] at H
     exact absurd H (by simp)
   ·rw [if_neg c5] at H
    exact absurd H (by simp)
  ·rw [if_neg c4] at H
   exact absurd H (by simp)
 ·rw [if_neg c3] at H
  exact absurd H (by simp)
end Go.Proofs.Ytoddejmlcnbdmaa.Fn
namespace Go.Proofs.Ytoddejmlcnbdmaa.Tree
def iQ.f (l0 : List Nat) (a1 : Int) (a2 : Nat) : Option (List Nat) := (some (([] : List Nat) : List Nat)).bind fun qx => (if 0 <= a1 then (if a1 <= (l0.length : Int) then (if qx.length + (l0.take (a1 : Int).toNat).length < 8796093022208 then ((some (qx ++ (l0.take (a1 : Int).toNat) : List Nat)).bind fun nC => (if nC.length < 8796093022208 then ((some (nC ++ [a2] : List Nat)).bind fun lG => (if lG.length + (l0.drop (a1 : Int).toNat).length < 8796093022208 then (some (lG ++ (l0.drop (a1 : Int).toNat))) else (none))) else (none))) else (none)) else (none)) else (none))
theorem iQ.calls (A0 : Option Addr) (c0 : Nat) (l0 : List Nat) (a1 : Int) (a2 : Nat) (r : List Nat) (w : World) (hr0 : Kd.C dZ w A0 l0.length l0) (hc0 : l0.length <= c0) (h : iQ.f l0 a1 a2 = some r) :
  Calls Try.prog 125 #[.slice A0 l0.length c0, .int .i64 a1, bu a2] w fun e w' => ∃ ja : Value, e = .returned (ja) /\ Kd.R dZ 70 w' w.heap.size (fun _ => True) ja r /\ Below w.heap.size w w' := by
 have nJ := A_ hr0;have qP := A_ hc0;clear hr0 hc0;have HB := A_ (Below.refl w.heap.size w);have H : ((some (([] : List Nat) : List Nat)).bind fun qx => (if 0 <= a1 then (if a1 <= (l0.length : Int) then (if qx.length + (l0.take (a1 : Int).toNat).length < 8796093022208 then ((some (qx ++ (l0.take (a1 : Int).toNat) : List Nat)).bind fun nC => (if nC.length < 8796093022208 then ((some (nC ++ [a2] : List Nat)).bind fun lG => (if lG.length + (l0.drop (a1 : Int).toNat).length < 8796093022208 then (some (lG ++ (l0.drop (a1 : Int).toNat))) else (none))) else (none))) else (none)) else (none)) else (none))) = some r := h;clear h
 obtain ⟨qx, uS⟩ : ∃ y_ : List Nat, y_ = (([] : List Nat)) := ⟨_, rfl⟩
 replace H : (if 0 <= a1 then (if a1 <= (l0.length : Int) then (if qx.length + (l0.take (a1 : Int).toNat).length < 8796093022208 then ((some (qx ++ (l0.take (a1 : Int).toNat) : List Nat)).bind fun nC => (if nC.length < 8796093022208 then ((some (nC ++ [a2] : List Nat)).bind fun lG => (if lG.length + (l0.drop (a1 : Int).toNat).length < 8796093022208 then (some (lG ++ (l0.drop (a1 : Int).toNat))) else (none))) else (none))) else (none)) else (none)) else (none)) = some r := by first | (rw [uS]; with_reducible exact H) | (have kN := (Option.bind_some _ _).symm.trans H; rw [uS]; with_reducible exact kN) | (have kN := (Option.bind_some _ _).symm.trans H; with_reducible exact kN) | with_reducible exact H | (rw [uS]; exact H) | exact H
 have Jd := A_ uS;clear uS
 by_cases c4 : 0 <= a1
 ·rw [if_pos c4] at H
  have tV := eq_true c4;have Qf : decide (0 <= a1) = true := decide_eq_true c4;clear c4
  by_cases c5 : a1 <= (l0.length : Int)
  ·rw [if_pos c5] at H
   have DY := eq_true c5;have c5b1 : decide (a1 <= (l0.length : Int)) = true := decide_eq_true c5;clear c5
   by_cases c6 : qx.length + (l0.take (a1 : Int).toNat).length < 8796093022208
   ·rw [if_pos c6] at H
    have UK := A_ c6;clear c6
    obtain ⟨nC, uT⟩ : ∃ y_ : List Nat, y_ = (qx ++ (l0.take (a1 : Int).toNat)) := ⟨_, rfl⟩
    replace H : (if nC.length < 8796093022208 then ((some (nC ++ [a2] : List Nat)).bind fun lG => (if lG.length + (l0.drop (a1 : Int).toNat).length < 8796093022208 then (some (lG ++ (l0.drop (a1 : Int).toNat))) else (none))) else (none)) = some r := by first | (rw [uT]; with_reducible exact H) | (have kN := (Option.bind_some _ _).symm.trans H; rw [uT]; with_reducible exact kN) | (have kN := (Option.bind_some _ _).symm.trans H; with_reducible exact kN) | with_reducible exact H | (rw [uT]; exact H) | exact H
    have Qh := A_ uT;clear uT
    by_cases c7 : nC.length < 8796093022208
    ·rw [if_pos c7] at H
     have UL := A_ c7;clear c7
     obtain ⟨lG, uU⟩ : ∃ y_ : List Nat, y_ = (nC ++ [a2]) := ⟨_, rfl⟩
     replace H : (if lG.length + (l0.drop (a1 : Int).toNat).length < 8796093022208 then (some (lG ++ (l0.drop (a1 : Int).toNat))) else (none)) = some r := by first | (rw [uU]; with_reducible exact H) | (have kN := (Option.bind_some _ _).symm.trans H; rw [uU]; with_reducible exact kN) | (have kN := (Option.bind_some _ _).symm.trans H; with_reducible exact kN) | with_reducible exact H | (rw [uU]; exact H) | exact H
     have Qi := A_ uU;clear uU;have KP := eq_true (of_decide_eq_true jh : 0 <= a1);have Sw := eq_true (of_decide_eq_true jh : a1 <= (l0.length : Int))
     by_cases c10 : lG.length + (l0.drop (a1 : Int).toNat).length < 8796093022208
     ·rw [if_pos c10] at H
      have Qj := A_ c10;clear c10
      obtain ⟨UM, uV⟩ : ∃ y_ : List Nat, y_ = (lG ++ (l0.drop (a1 : Int).toNat)) := ⟨_, rfl⟩
      replace H : (some UM) = some r := by first | (rw [uV]; with_reducible exact H) | (have kN := (Option.bind_some _ _).symm.trans H; rw [uV]; with_reducible exact kN) | (have kN := (Option.bind_some _ _).symm.trans H; with_reducible exact kN) | with_reducible exact H | (rw [uV]; exact H) | exact H
      have Qk := A_ uV;clear uV;obtain rfl := Option.some.inj H;go_enter Try.func125, Try.ntmps125
      go_wp2_with (first | ((with_reducible refine iK (N := 8) rfl ?_); refine Kd.Bf dZ _ 70 ?hg (N := 8) ?hd (xs := ([] : List Nat)) (inner := []) (ok := fun _ => True) (okp := fun _ => True) ?hr ?hp (fun _ hk => hk) trivial (Below.refl _ _) (Nat.le_refl _) (by simp) ?_; (case hd => rfl); (case hg => rfl); (case hr => first | (go_simp; done) | (go_simp; rfl)); (case hp => exact (gm.none _ _)); intro UN Ab CW hb NM sF; clear NM sF; (first | rw [<- Jd.out] at CW | (simp only [Int.reduceToNat] at CW; rw [<- Jd.out] at CW)); have Je := A_ (Kd.gW CW (Dw HB.out)); replace HB := A_ (Wm HB.out hb); clear hb CW; obtain ⟨i013, Jf, _, Jg, _⟩ := info_parts kY; obtain ⟨hcut13, Ql, Qm⟩ := oq (P := Try.prog) bu (0 : Nat) 94 70 .i64 jm Jf Jg A0 c0 l0 a1 (of_decide_eq_true jh) (of_decide_eq_true jh) qP.out; have CX := A_ (Kd.lh (h1 := fun _ => rfl) (Ql _ (Kd.iU nJ.out))); have HC226 := A_ Qm; clear Ql Qm Jf Jg) | ((with_reducible refine bP (b := .append) (xs := #[.tmp 8, .tmp 11]) rfl ?_); at_builtin; refine Kd.eY dZ (w0 := w) w.heap.size rfl (.tmp 8) (.tmp 11) 94 70 (.pointer none) 8 rfl jm kY rfl (by decide) (by omega) UN qx (l0.take (a1 : Int).toNat) _ _ _ (fun _ => True) (fun _ => False) rfl rfl ?aO ?aR (fun _ _ h => h) (fun _ h => h.elim) ?aF ?aB ?aS ?aL ?_; (case aR => first | (have UO := (show (l0.take (a1 : Int).toNat).length = a1.toNat from (by rw [List.length_take]; have h_ : (a1 : Int) <= (l0.length : Int) := of_decide_eq_true jh; omega)); have Qn := (Kd.aN CX.out HB.out); rw [UO] at Qn; exact Qn) | (rw [<- show (l0.take (a1 : Int).toNat).length = a1.toNat from (by rw [List.length_take]; have h_ : (a1 : Int) <= (l0.length : Int) := of_decide_eq_true jh; omega)]; repeat (first | exact (Kd.aN CX.out HB.out) | (with_reducible refine Kd.jk ?_ _) | (with_reducible refine Kd.dB ?_ _) | (with_reducible refine Kd.gD ?_))) | (repeat (first | exact (Kd.aN CX.out HB.out) | (with_reducible refine Kd.jk ?_ _) | (with_reducible refine Kd.dB ?_ _) | (with_reducible refine Kd.gD ?_)))); (case aB => exact (Be HB.out)); (case aF => exact (fun _ _ => trivial)); (case aO => exact (tY Je.out)); (case aS => exact (Dw HB.out)); (case aL => have := UK.out; have KQ := (show (l0.take (a1 : Int).toNat).length = a1.toNat from (by rw [List.length_take]; have h_ : (a1 : Int) <= (l0.length : Int) := of_decide_eq_true jh; omega)); omega); intro v228 yB ho hb hg hat; rw [<- Qh.out] at ho; have CP := A_ (hb); have ah := A_ (ho); clear HB; clear Je; have HB := CP; have Jh := ah; clear CP ah; clear ho hb hg hat) | ((with_reducible refine bP (b := .append) (xs := #[.tmp 13, .tmp 15]) rfl ?_); at_builtin; refine Kd.rJ dZ (w0 := w) w.heap.size rfl (.tmp 13) (.tmp 15) 94 70 (.pointer none) 8 rfl jm kY rfl (by decide) (by omega) v228 nC a2 [bu a2] (fun _ => True) (fun _ => False) rfl rfl ?aP (fun _ hk => hk.elim) ?aF ?aO ?aB ?aS ?aL ?_; (case aP => exact rfl); (case aB => exact (Be HB.out)); (case aF => exact (fun _ _ => trivial)); (case aO => exact (tY Jh.out)); (case aS => exact (Dw HB.out)); (case aL => have := UL.out; omega); intro UQ Ji ho hb hg hat; rw [<- Qi.out] at ho; have CP := A_ (hb); have ah := A_ (ho); clear HB; clear Jh; have HB := CP; have Jj := ah; clear CP ah; clear ho hb hg hat; obtain ⟨i016, Jk, _, Jl, _⟩ := info_parts kY; obtain ⟨TA, CY, Qo, Qp⟩ := ou (P := Try.prog) bu (0 : Nat) 94 70 .i64 jm Jk Jl A0 c0 l0 a1 (of_decide_eq_true jh) (of_decide_eq_true jh) qP.out; have Jm := A_ (Kd.lh (h1 := fun _ => rfl) (Qo _ (Kd.iU nJ.out))); have HC233 := A_ Qp; clear Qo Qp Jk Jl) | ((with_reducible refine bP (b := .append) (xs := #[.tmp 17, .tmp 20]) rfl ?_); at_builtin; refine Kd.eY dZ (w0 := w) w.heap.size rfl (.tmp 17) (.tmp 20) 94 70 (.pointer none) 8 rfl jm kY rfl (by decide) (by omega) UQ lG (l0.drop (a1 : Int).toNat) _ _ _ (fun _ => True) (fun _ => False) rfl rfl ?aO ?aR (fun _ _ h => h) (fun _ h => h.elim) ?aF ?aB ?aS ?aL ?_; (case aR => first | (rw [<- show (l0.drop (a1 : Int).toNat).length = (l0.length - a1.toNat) from List.length_drop]; repeat (first | exact (Kd.aN Jm.out HB.out) | (with_reducible refine Kd.jk ?_ _) | (with_reducible refine Kd.dB ?_ _) | (with_reducible refine Kd.gD ?_))) | (repeat (first | exact (Kd.aN Jm.out HB.out) | (with_reducible refine Kd.jk ?_ _) | (with_reducible refine Kd.dB ?_ _) | (with_reducible refine Kd.gD ?_)))); (case aB => exact (Be HB.out)); (case aF => exact (fun _ _ => trivial)); (case aO => exact (tY Jj.out)); (case aS => exact (Dw HB.out)); (case aL => have := Qj.out; have KQ := (show (l0.drop (a1 : Int).toNat).length = (l0.length - a1.toNat) from List.length_drop); omega); intro v235 MC ho hb hg hat; rw [<- Qk.out] at ho; have CP := A_ (hb); have ah := A_ (ho); clear HB; clear Jj; have HB := CP; have Qq := ah; clear CP ah; clear ho hb hg hat))
      go_ret;exact ⟨_, Lx, by (with_reducible repeat (first | apply Kd.pE | apply Kd.pF | apply Kd.sI)); exact Qq.out, by repeat (first | (with_reducible first | exact HB.out | apply bz | apply aj | apply bD) | exact HB.out)⟩
     ·rw [if_neg c10] at H
      exact absurd H (by simp)
    ·rw [if_neg c7] at H
     exact absurd H (by simp)
   ·rw [if_neg c6] at H
    exact absurd H (by simp)
  ·rw [if_neg c5] at H
   exact absurd H (by simp)
 ·rw [if_neg c4] at H
  exact absurd H (by simp)
def bR.f (l0 : List Nat) (a1 : Int) : Option (List Nat) := (some (([] : List Nat) : List Nat)).bind fun Da => (if 0 <= a1 then (if a1 <= (l0.length : Int) then (if Da.length + (l0.take (a1 : Int).toNat).length < 8796093022208 then ((some (Da ++ (l0.take (a1 : Int).toNat) : List Nat)).bind fun vW => (if 0 <= (wrap64 (a1 + 1)) then (if (wrap64 (a1 + 1)) <= (l0.length : Int) then (if vW.length + (l0.drop ((wrap64 (a1 + 1)) : Int).toNat).length < 8796093022208 then (some (vW ++ (l0.drop ((wrap64 (a1 + 1)) : Int).toNat))) else (none)) else (none)) else (none))) else (none)) else (none)) else (none))
def bR.T1 : Bool × List (List Nat × List Nat) := (true, [([], []), ([], []), ([], []), ([1, 2], [1, 2]), ([0, 3], [0, 3]), ([], []), ([], []), ([6], [6]), ([5, 7], [5, 7]), ([4, 8, 4], [4, 8]), ([9, 9, 0, 1, 2, 3, 4, 5, 6, 7, 8, 9], [9])])
def bR.B1 : List Nat := [0, 0, 0, 6, 15, 0, 0, 64, 224, 511, 1023]
theorem bR.TN : sV .any (opsOf Try.f129 1) = bR.T1 := by kernel_rfl
theorem bR.OV : AA bR.T1.2 bR.B1 = true := by kernel_rfl
theorem bR.calls (A0 : Option Addr) (c0 : Nat) (l0 : List Nat) (a1 : Int) (r : List Nat) (w : World) (hr0 : Kd.C dZ w A0 l0.length l0) (hc0 : l0.length <= c0) (h : bR.f l0 a1 = some r) :
  Calls Try.prog 129 #[.slice A0 l0.length c0, .int .i64 a1] w fun e w' => ∃ ja : Value, e = .returned (ja) /\ Kd.R dZ 70 w' w.heap.size (fun _ => True) ja r /\ Below w.heap.size w w' := by
 have nJ := A_ hr0;have qP := A_ hc0;clear hr0 hc0;have HB := A_ (Below.refl w.heap.size w);have H : ((some (([] : List Nat) : List Nat)).bind fun Da => (if 0 <= a1 then (if a1 <= (l0.length : Int) then (if Da.length + (l0.take (a1 : Int).toNat).length < 8796093022208 then ((some (Da ++ (l0.take (a1 : Int).toNat) : List Nat)).bind fun vW => (if 0 <= (wrap64 (a1 + 1)) then (if (wrap64 (a1 + 1)) <= (l0.length : Int) then (if vW.length + (l0.drop ((wrap64 (a1 + 1)) : Int).toNat).length < 8796093022208 then (some (vW ++ (l0.drop ((wrap64 (a1 + 1)) : Int).toNat))) else (none)) else (none)) else (none))) else (none)) else (none)) else (none))) = some r := h;clear h
 obtain ⟨Da, Ju⟩ : ∃ y_ : List Nat, y_ = (([] : List Nat)) := ⟨_, rfl⟩
 replace H : (if 0 <= a1 then (if a1 <= (l0.length : Int) then (if Da.length + (l0.take (a1 : Int).toNat).length < 8796093022208 then ((some (Da ++ (l0.take (a1 : Int).toNat) : List Nat)).bind fun vW => (if 0 <= (wrap64 (a1 + 1)) then (if (wrap64 (a1 + 1)) <= (l0.length : Int) then (if vW.length + (l0.drop ((wrap64 (a1 + 1)) : Int).toNat).length < 8796093022208 then (some (vW ++ (l0.drop ((wrap64 (a1 + 1)) : Int).toNat))) else (none)) else (none)) else (none))) else (none)) else (none)) else (none)) = some r := by first | (rw [Ju]; with_reducible exact H) | (have kN := (Option.bind_some _ _).symm.trans H; rw [Ju]; with_reducible exact kN) | (have kN := (Option.bind_some _ _).symm.trans H; with_reducible exact kN) | with_reducible exact H | (rw [Ju]; exact H) | exact H
 have Ny328 := A_ Ju;clear Ju
 by_cases c3 : 0 <= a1
 ·rw [if_pos c3] at H
  have tT := eq_true c3;have GI : decide (0 <= a1) = true := decide_eq_true c3;clear c3
  by_cases c4 : a1 <= (l0.length : Int)
  ·rw [if_pos c4] at H
   have tV := eq_true c4;have Qf : decide (a1 <= (l0.length : Int)) = true := decide_eq_true c4;clear c4
   by_cases c5 : Da.length + (l0.take (a1 : Int).toNat).length < 8796093022208
   ·rw [if_pos c5] at H
    have UR := A_ c5;clear c5
    obtain ⟨vW, Jv⟩ : ∃ y_ : List Nat, y_ = (Da ++ (l0.take (a1 : Int).toNat)) := ⟨_, rfl⟩
    replace H : (if 0 <= (wrap64 (a1 + 1)) then (if (wrap64 (a1 + 1)) <= (l0.length : Int) then (if vW.length + (l0.drop ((wrap64 (a1 + 1)) : Int).toNat).length < 8796093022208 then (some (vW ++ (l0.drop ((wrap64 (a1 + 1)) : Int).toNat))) else (none)) else (none)) else (none)) = some r := by first | (rw [Jv]; with_reducible exact H) | (have kN := (Option.bind_some _ _).symm.trans H; rw [Jv]; with_reducible exact kN) | (have kN := (Option.bind_some _ _).symm.trans H; with_reducible exact kN) | with_reducible exact H | (rw [Jv]; exact H) | exact H
    have Ny332 := A_ Jv;clear Jv
    obtain ⟨uW, GK⟩ : ∃ j_ : Int, (wrap64 (a1 + 1)) = j_ := ⟨_, rfl⟩
    replace H : (if 0 <= (uW) then (if (uW) <= (l0.length : Int) then (if vW.length + (l0.drop ((uW) : Int).toNat).length < 8796093022208 then (some (vW ++ (l0.drop ((uW) : Int).toNat))) else (none)) else (none)) else (none)) = some r := by first | (rw [GK] at H; exact H) | (simp only [GK] at H ⊢; exact H)
    have hji6w : (IntKind.i64.wrap (a1 + 1)) = uW := (uA _).trans GK
    by_cases c7 : 0 <= (uW)
    ·rw [if_pos c7] at H
     have Ja := eq_true c7;have c7b1 : decide (0 <= (uW)) = true := decide_eq_true c7;clear c7
     by_cases c8 : (uW) <= (l0.length : Int)
     ·rw [if_pos c8] at H
      have KP := eq_true c8;have Qr : decide ((uW) <= (l0.length : Int)) = true := decide_eq_true c8;clear c8
      by_cases c9 : vW.length + (l0.drop ((uW) : Int).toNat).length < 8796093022208
      ·rw [if_pos c9] at H
       have UT := A_ c9;clear c9
       obtain ⟨y336, Jw⟩ : ∃ y_ : List Nat, y_ = (vW ++ (l0.drop ((uW) : Int).toNat)) := ⟨_, rfl⟩
       replace H : (some y336) = some r := by first | (rw [Jw]; with_reducible exact H) | (have kN := (Option.bind_some _ _).symm.trans H; rw [Jw]; with_reducible exact kN) | (have kN := (Option.bind_some _ _).symm.trans H; with_reducible exact kN) | with_reducible exact H | (rw [Jw]; exact H) | exact H
       have Ny336 := A_ Jw;clear Jw;obtain rfl := Option.some.inj H;go_enter Try.func129, Try.ntmps129
       try go_wp2
       replace HB := A_ (bD HB.out);obtain ⟨i011, Jq, _, Jr, _⟩ := info_parts kY;obtain ⟨C8, Qs, Qt⟩ := oq (P := Try.prog) bu (0 : Nat) 94 70 .i64 jm Jq Jr A0 c0 l0 a1 (of_decide_eq_true jh) (of_decide_eq_true jh) qP.out;have MF := A_ (Kd.lh (h1 := fun _ => rfl) (Qs _ (Kd.iU nJ.out)));have HC331 := A_ Qt;clear Qs Qt Jq Jr;obtain ⟨i012, Js, _, Jt, _⟩ := info_parts kY;obtain ⟨Zh, hcut12, GL, Qu⟩ := ou (P := Try.prog) bu (0 : Nat) 94 70 .i64 jm Js Jt A0 c0 l0 (uW) (of_decide_eq_true jh) (of_decide_eq_true jh) qP.out;have Qw := A_ (Kd.lh (h1 := fun _ => rfl) (GL _ (Kd.iU nJ.out)));have HC335 := A_ Qu;clear GL Qu Js Jt;refine bS (n := 11) (S := fun w' => True) (ds := []) (bt 11 0) (by kernel_rfl) rfl rfl trivial (fun hHeld => ?_); refine Ei bR.TN bR.OV (fun Sy HW_ => ?_);generalize w.drew = yn at HB MF Qw hHeld ⊢;refine aH 1 6 2 ?_;refine aH 2 7 6 ?_;refine aH 3 8 14 ?_;refine aH 5 10 46 ?_;refine aH 6 11 110 ?_;refine aH 7 12 238 ?_;refine aH 8 13 494 ?_;refine JR (i := 0) (N := some 5) (bt 11 495) rfl rfl (yM Sy.out (by kernel_rfl)) (by decide) (fun K hK => ?_);refine Kd.dO dZ _ 70 ?hg (N := 5) ?hd (xs := ([] : List Nat)) (inner := []) (ok := fun _ => True) (okp := fun _ => True) ?hr ?hp (fun _ hk => hk) trivial (Below.refl _ _) (Nat.le_refl _) (by simp) ?_; (case hd => rfl); (case hg => rfl); (case hr => first | (go_simp; done) | (go_simp; rfl)); (case hp => exact (gm.none _ _));intro v329 Fu C9 hb NM sF;clear NM sF
       (first | rw [<- Ny328.out] at C9 | (simp only [Int.reduceToNat] at C9; rw [<- Ny328.out] at C9))
       have HO330 := A_ (Kd.gW C9 (Dw HB.out));replace HB := A_ (Wm HB.out hb);clear hb C9;refine dh 5 hK trivial (fun hHeld => ?_);refine JR (i := 4) (N := some 9) (bt 11 511) rfl rfl (yM Sy.out (by kernel_rfl)) (by decide) (fun K hK => ?_);refine Kd.aM dZ (w0 := w) w.heap.size (by rfl) (.tmp 5) (.tmp 8) 94 70 (.pointer none) 8 rfl jm kY rfl (by decide) (by omega) v329 Da (l0.take (a1 : Int).toNat) _ _ _ (fun _ => True) (fun _ => False) rfl rfl ?aO ?aR (fun _ _ h => h) (fun _ h => h.elim) ?aF ?aB ?aS ?aL ?_
       (case aR => first | (have UO := (show (l0.take (a1 : Int).toNat).length = a1.toNat from (by rw [List.length_take]; have h_ : (a1 : Int) <= (l0.length : Int) := of_decide_eq_true jh; omega)); have Qn := (Kd.aN MF.out HB.out); rw [UO] at Qn; exact Qn) | (rw [<- show (l0.take (a1 : Int).toNat).length = a1.toNat from (by rw [List.length_take]; have h_ : (a1 : Int) <= (l0.length : Int) := of_decide_eq_true jh; omega)]; repeat (first | exact (Kd.aN MF.out HB.out) | (with_reducible refine Kd.jk ?_ _) | (with_reducible refine Kd.dB ?_ _) | (with_reducible refine Kd.gD ?_))) | (repeat (first | exact (Kd.aN MF.out HB.out) | (with_reducible refine Kd.jk ?_ _) | (with_reducible refine Kd.dB ?_ _) | (with_reducible refine Kd.gD ?_))))
       (case aB => exact (Be HB.out))
       (case aF => exact (fun _ _ => trivial))
       (case aO => exact (tY HO330.out))
       (case aS => exact (Dw HB.out))
       (case aL => have := UR.out; have KQ := (show (l0.take (a1 : Int).toNat).length = a1.toNat from (by rw [List.length_take]; have h_ : (a1 : Int) <= (l0.length : Int) := of_decide_eq_true jh; omega)); omega)
       intro v333 Ji ho hb hg hat;rw [<- Ny332.out] at ho;replace HB := A_ (hb);have HO334 := A_ (ho);clear HO330;clear ho hb hg hat;refine dh 9 hK trivial (fun hHeld => ?_);refine JR (i := 9) (N := some 14) (bt 11 1023) rfl rfl (yM Sy.out (by kernel_rfl)) (by decide) (fun K hK => ?_);refine Kd.aM dZ (w0 := w) w.heap.size (by rfl) (.tmp 9) (.tmp 13) 94 70 (.pointer none) 8 rfl jm kY rfl (by decide) (by omega) v333 vW (l0.drop ((uW) : Int).toNat) _ _ _ (fun _ => True) (fun _ => False) rfl rfl ?aO ?aR (fun _ _ h => h) (fun _ h => h.elim) ?aF ?aB ?aS ?aL ?_
       (case aR => first | (rw [<- show (l0.drop ((uW) : Int).toNat).length = (l0.length - (uW).toNat) from List.length_drop]; repeat (first | exact (Kd.aN Qw.out HB.out) | (with_reducible refine Kd.jk ?_ _) | (with_reducible refine Kd.dB ?_ _) | (with_reducible refine Kd.gD ?_))) | (repeat (first | exact (Kd.aN Qw.out HB.out) | (with_reducible refine Kd.jk ?_ _) | (with_reducible refine Kd.dB ?_ _) | (with_reducible refine Kd.gD ?_))))
       (case aB => exact (Be HB.out))
       (case aF => exact (fun _ _ => trivial))
       (case aO => exact (tY HO334.out))
       (case aS => exact (Dw HB.out))
       (case aL => have := UT.out; have KQ := (show (l0.drop ((uW) : Int).toNat).length = (l0.length - (uW).toNat) from List.length_drop); omega)
       intro v337 w16 ho hb hg hat;rw [<- Ny336.out] at ho;replace HB := A_ (hb);have HO338 := A_ (ho);clear HO334;clear ho hb hg hat;refine dh 14 hK trivial (fun hHeld => ?_);refine aH 10 4 2047 ?_;refine dL (LH Sy.out (by kernel_rfl)) ?_
       try go_wp2
       go_ret;exact ⟨_, by first | rfl | (simp [mI, mJ] <;> rfl) | (simp only [<- GK]; first | rfl | (simp [mI, mJ] <;> rfl)) | (simp [*, mI, mJ] <;> rfl), by (with_reducible repeat (first | apply Kd.pE | apply Kd.pF | apply Kd.sI)); exact HO338.out, by repeat (first | (with_reducible first | exact HB.out | apply bz | apply aj | apply bD) | exact HB.out)⟩
      ·rw [if_neg c9] at H
       exact absurd H (by simp)
     ·rw [if_neg c8] at H
      exact absurd H (by simp)
    ·rw [if_neg c7] at H
     exact absurd H (by simp)
   ·rw [if_neg c5] at H
    exact absurd H (by simp)
  ·rw [if_neg c4] at H
   exact absurd H (by simp)
 ·rw [if_neg c3] at H
  exact absurd H (by simp)
def aI {α : Type} (l : List α) (i : Nat) (x : α) : List α := l.take i ++ x :: l.drop i
theorem gu {α : Type} {l : List α} {i : Nat} (x : α) (h : i <= l.length) : (aI l i x).length = l.length + 1 := by
 unfold aI;rw [List.length_append, List.length_cons, List.length_take, List.length_drop];omega
theorem jI {α β : Type} (f : α -> β) (l : List α) (i : Nat) (x : α) : (aI l i x).map f = aI (l.map f) i (f x) := by
 unfold aI;rw [List.map_append, List.map_cons, List.map_take, List.map_drop]
theorem mr {l : List ByteArray} {i : Nat} (x : ByteArray) (h : i <= l.length) (hl : l.length <= 1000000000000) : fI.f l (i : Int) x = some (aI l i x) := by
 unfold fI.f aI;simp only [Option.bind_some, Int.toNat_natCast, List.length_nil, List.nil_append, List.length_take, List.length_drop, List.length_append, List.length_singleton, List.length_cons];rw [if_pos (by omega), if_pos (by omega), if_pos (by omega), if_pos (by omega), if_pos (by omega)];simp
theorem wu {l : List Nat} {i : Nat} (x : Nat) (h : i <= l.length) (hl : l.length <= 1000000000000) : iQ.f l (i : Int) x = some (aI l i x) := by
 unfold iQ.f aI;simp only [Option.bind_some, Int.toNat_natCast, List.length_nil, List.nil_append, List.length_take, List.length_drop, List.length_append, List.length_singleton, List.length_cons];rw [if_pos (by omega), if_pos (by omega), if_pos (by omega), if_pos (by omega), if_pos (by omega)];simp
theorem H6 (A : Option Addr) (c : Nat) (l : List Nat) (i x n : Nat) (w : World) (hn : n = l.length) (hr : dZ.C w A n l) (hc : n <= c) (hi : i + 1 <= l.length) (hl : l.length <= 1000000000000) :
  Calls Try.prog 125 #[.slice A n c, .int .i64 ((i : Int) + 1), bu x] w fun e w' => ∃ ja : Value, e = .returned (ja) /\ dZ.R 70 w' w.heap.size (fun _ => True) ja (aI l (i + 1) x) /\ Below w.heap.size w w' := by
 subst hn;exact iQ.calls A c l ((i + 1 : Nat) : Int) x _ w hr hc (wu x hi hl)
def splitK (t k : PT) (i : Nat) : PT :=
 .mk (aI t.keys i (k.keys.getD 2 ByteArray.empty)) (aI t.vals i (k.vals.getD 2 ByteArray.empty)) (aI (t.kids.set i (.mk (k.keys.take 2) (k.vals.take 2) (k.kids.take 3))) (i + 1) (.mk (k.keys.drop 3) (k.vals.drop 3) (k.kids.drop 3)))
theorem LJ {α : Type} {l : List α} {i : Nat} {x x' y : α} (h : l[i]? = some x) : aI (l.set i x') (i + 1) y = l.take i ++ (x' :: (y :: l.drop (i + 1))) := by
 have hl : i < l.length := (List.getElem?_eq_some_iff.1 h).1;unfold aI;rw [List.take_add_one, List.getElem?_set_self hl, List.take_set_of_le (Nat.le_refl _), List.drop_set_of_lt (Nat.lt_succ_self _)];simp
theorem xK {T E : Nat} {l : List NT} {i : Nat} {k k' r' : NT} (h : l[i]? = some k) : NT.aZ T E (aI (l.set i k') (i + 1) r') = NT.aZ T E (l.take i) ++ (k'.dH T E ++ (r'.dH T E ++ NT.aZ T E (l.drop (i + 1)))) := by
 rw [LJ h, gZ, NT.aZ, NT.aZ]
theorem sW {l : List NT} {i : Nat} {k' r' : NT} : NT.ax (aI (l.set i k') (i + 1) r') = aI ((NT.ax l).set i k'.erase) (i + 1) r'.erase := by
 rw [aC, jI, List.map_set, <- aC]
section
variable {w : World} {base T E : Nat} {L : List Ck}
def xL (T E : Nat) (t k : NT) (i : Nat) (L : List Ck) : List (List Ck) :=
 [[.box T t.p #[t.kv, t.vv, t.cv]], [txt t.kv t.keys], [txt t.vv t.vals], [.jL E t.cv (ptrs t.kids)], NT.aZ T E (t.kids.take i),
   [.box T k.p #[k.kv, k.vv, k.cv]], [txt k.kv k.keys], [txt k.vv k.vals], [.jL E k.cv (ptrs k.kids)], NT.aZ T E k.kids, NT.aZ T E (t.kids.drop (i + 1)), L]
theorem JZ {t k : NT} {i : Nat} (h : t.kids[i]? = some k) : (xL T E t k i L).flatten = t.dH T E ++ L := by
 rw [NT.kJ, lW T E h, NT.kJ T E k];unfold xL NT.head;simp only [List.flatten_cons, List.flatten_nil, List.append_assoc, List.cons_append, List.nil_append, List.append_nil]
theorem rO {t k : NT} {i : Nat} (h : t.kids[i]? = some k) (hs : Sat w base (t.dH T E ++ L)) : aa w base (xL T E t k i L) := by
 unfold aa;rw [JZ h];exact hs
end
def One (m : Nat) (t : PT) : Prop := t.vals.length = t.keys.length /\ t.keys.length <= m /\ (t.kids.length = 0 \/ t.kids.length = t.keys.length + 1)
mutual
def kV : PT -> Prop
 | .mk keys vals kids => One 4 (.mk keys vals kids) /\ OW kids
def OW : List PT -> Prop
 | [] => True
 | c :: cs => kV c /\ OW cs
end
theorem H7 : ∀ {l : List PT}, OW l ↔ ∀ c ∈ l, kV c
 | [] => by simp [OW]
 | c :: cs => by simp only [OW, List.forall_mem_cons, H7 (l := cs)]
theorem bJ {t : PT} : kV t ↔ One 4 t /\ ∀ c ∈ t.kids, kV c := by
 cases t with | mk keys vals kids =>
 rw [kV, H7];rfl
def H8 (t : PT) : Prop := One 5 t /\ ∀ c ∈ t.kids, kV c
theorem One.mono {a b : Nat} {t : PT} (h : One a t) (hab : a <= b) : One b t := ⟨h.1, Nat.le_trans h.2.1 hab, h.2.2⟩
theorem kV.five {t : PT} (h : kV t) : H8 t := ⟨(bJ.1 h).1.mono (by omega), (bJ.1 h).2⟩
theorem Ej {α : Type} {l : List α} {i : Nat} {x y : α} (h : y ∈ aI l i x) : y = x \/ y ∈ l := by
 unfold aI at h
 rcases List.mem_append.1 h with h | h
 ·exact .inr (List.mem_of_mem_take h)
 ·rcases List.mem_cons.1 h with h | h
  ·exact .inl h
  ·exact .inr (List.mem_of_mem_drop h)
theorem El {t k : PT} {i : Nat} (ht : t.vals.length = t.keys.length /\ t.keys.length <= 4 /\ t.kids.length = t.keys.length + 1) (hi : i <= t.keys.length) (hk : t.kids.length = t.kids.length) (hc : ∀ (j : Nat) (c : PT), j ≠ i -> t.kids[j]? = some c -> kV c) (h5 : H8 k) (hk5 : k.keys.length = 5) : H8 (splitK t k i) := by
 obtain ⟨⟨k1, k2, k3⟩, k4⟩ := h5
 cases k with | mk kk kv kc =>
 simp only [PT.keys, PT.vals, PT.kids] at k1 k2 k3 k4 hk5
 have l : kV (.mk (kk.take 2) (kv.take 2) (kc.take 3)) := by
  refine bJ.2 ⟨⟨?_, ?_, ?_⟩, fun c hc => k4 c (List.mem_of_mem_take hc)⟩
  ·simp only [PT.keys, PT.vals, List.length_take]; omega
  ·simp only [PT.keys, List.length_take]; omega
  ·simp only [PT.keys, PT.kids, List.length_take]; omega
 have r : kV (.mk (kk.drop 3) (kv.drop 3) (kc.drop 3)) := by
  refine bJ.2 ⟨⟨?_, ?_, ?_⟩, fun c hc => k4 c (List.mem_of_mem_drop hc)⟩
  ·simp only [PT.keys, PT.vals, List.length_drop]; omega
  ·simp only [PT.keys, List.length_drop]; omega
  ·simp only [PT.keys, PT.kids, List.length_drop]; omega
 refine ⟨⟨?_, ?_, ?_⟩, ?_⟩
 ·show (aI _ _ _).length = (aI _ _ _).length
  rw [gu _ (by omega), gu _ hi];omega
 ·show (aI _ _ _).length <= 5
  rw [gu _ hi];omega
 ·right
  show (aI _ _ _).length = (aI _ _ _).length + 1;rw [gu _ (by rw [List.length_set]; omega), gu _ hi, List.length_set];omega
 ·intro c hm
  have hm : c ∈ aI (t.kids.set i _) (i + 1) _ := hm
  rcases Ej hm with rfl | hm
  ·exact r
  ·obtain ⟨j, hj⟩ := List.getElem?_of_mem hm
   rw [List.getElem?_set] at hj
   split at hj
   ·split at hj
    ·obtain rfl := Option.some.inj hj
     exact l
    ·cases hj
   ·rename_i hne
    exact hc j c (fun e => hne e.symm) hj
def lT : Nat -> PT -> ByteArray -> ByteArray -> PT
 | 0, t, _, _ => t
 | n + 1, t, key, val =>
  if jg t.keys (dG key t.keys) key = true then .mk t.keys (t.vals.set (dG key t.keys) val) t.kids
  else if t.kids.length = 0 then .mk (aI t.keys (dG key t.keys) key) (aI t.vals (dG key t.keys) val) t.kids
  else match t.kids[dG key t.keys]? with
   | none => t
   | some s => if 4 < (lT n s key val).keys.length then splitK t (lT n s key val) (dG key t.keys) else .mk t.keys t.vals (t.kids.set (dG key t.keys) (lT n s key val))
theorem mY : ∀ (n : Nat) (t : PT) (key val : ByteArray), kV t -> H8 (lT n t key val)
 | 0, t, key, val, h => h.five
 | n + 1, t, key, val, h => by
  obtain ⟨⟨h1, h2, h3⟩, h4⟩ := bJ.1 h;have hle := lS key t.keys;rw [lT]
  split
  ·exact ⟨⟨by show (t.vals.set _ _).length = _; rw [List.length_set]; exact h1, by show t.keys.length <= 5; omega, h3⟩, h4⟩
  ·split
   ·rename_i h0
    refine ⟨⟨?_, ?_, .inl h0⟩, h4⟩
    ·show (aI _ _ _).length = (aI _ _ _).length
     rw [gu _ (by omega), gu _ hle];omega
    ·show (aI _ _ _).length <= 5
     rw [gu _ hle];omega
   ·rename_i h0
    cases hs : t.kids[dG key t.keys]? with
    | none => exact h.five
    | some s =>
     have ih := mY n s key val (h4 s (List.mem_of_getElem? hs));simp only
     split
     ·rename_i h5
      exact El ⟨h1, h2, by omega⟩ hle rfl (fun j c _ hj => h4 c (List.mem_of_getElem? hj)) ih (by have := ih.1.2.1; omega)
     ·rename_i h5
      refine ⟨⟨h1, by show t.keys.length <= 5; omega, by show (t.kids.set _ _).length = 0 \/ (t.kids.set _ _).length = _; rw [List.length_set]; exact h3⟩, fun c hm => ?_⟩
      rcases List.mem_or_eq_of_mem_set hm with hm | rfl
      ·exact h4 c hm
      ·exact bJ.2 ⟨⟨ih.1.1, by omega, ih.1.2.2⟩, ih.2⟩
end Go.Proofs.Ytoddejmlcnbdmaa.Tree
namespace Go.Proofs.Ytoddejmlcnbdmaa.Pure
theorem gP {n : Int} (h0 : -9223372036854775808 <= n) (h1 : n <= 9223372036854775807) : wrap64 n = n := IntWalk.wrap64_in n ⟨h0, h1⟩
theorem nP {i : Nat} (h : i <= 9223372036854775806) : wrap64 ((i : Int) + 1) = ((i + 1 : Nat) : Int) := by
 rw [gP (by omega) (by omega)]; omega
section
variable {α : Type} {l t : List α} {i : Nat} {x z : α}
theorem drop_nil (h : l.drop i = []) : ¬ ((i : Int) < (l.length : Int)) := by
 have := List.drop_eq_nil_iff.1 h;omega
theorem drop_cons (h : l.drop i = x :: t) : ((i : Int) < (l.length : Int)) /\ l[i]? = some x /\ l.drop (i + 1) = t := by
 have hlt : i < l.length := by
  rcases Nat.lt_or_ge i l.length with h1 | h1
  ·exact h1
  ·rw [List.drop_eq_nil_of_le h1] at h; cases h
 rw [List.drop_eq_getElem_cons hlt] at h
 injection h with h1 h2
 exact ⟨by omega, by rw [List.getElem?_eq_getElem hlt, h1], h2⟩
theorem getD_at (h : l[i]? = some x) : l.getD ((i : Nat) : Int).toNat z = x := by
 rw [Int.toNat_natCast, List.getD_eq_getElem?_getD, h]; rfl
end
theorem WX {l : List Int} {i : Nat} {x : Int} (h : l[i]? = some x) : rd l (i : Int) = x := getD_at h
theorem ow {α : Type} {l : List α} {i : Nat} {x z : α} (h : l[i]? = some x) : bO z l (i : Int) = x := getD_at h
theorem LK (n : Nat) (P : Nat -> Prop) (hn : P n) (hs : ∀ i, i < n -> P (i + 1) -> P i) : P 0 := by
 have : ∀ d, d <= n -> P (n - d) := by
  intro d
  induction d with
  | zero => intro _; simpa using hn
  | succ d ih =>
   intro hd;refine hs _ (by omega) ?_;have e : n - (d + 1) + 1 = n - d := by omega
   rw [e];exact ih (by omega)
 have := this n (Nat.le_refl _);simpa using this
theorem Ev.all {α : Type} {g : Nat -> Option α} {r : α} (h : ∀ k, g k = some r) : Ev g r := ⟨0, fun k _ => h k⟩
theorem Ev.next {α : Type} {g f : Nat -> Option α} {r : α} {K : Nat} (h : ∀ k, K <= k -> g (k + 1) = f k) (hf : Ev f r) : Ev g r := by
 obtain ⟨K', hf⟩ := hf;refine ⟨max K K' + 1, fun k hk => ?_⟩
 obtain ⟨m, rfl⟩ : ∃ m, k = m + 1 := ⟨k - 1, by omega⟩
 rw [h m (by omega)];exact hf m (by omega)
theorem Ev.same {α : Type} {g f : Nat -> Option α} {r : α} {K : Nat} (h : ∀ k, K <= k -> g k = f k) (hf : Ev f r) : Ev g r := by
 obtain ⟨K', hf⟩ := hf;exact ⟨max K K', fun k hk => (h k (by omega)).trans (hf k (by omega))⟩
theorem Yi {α β : Type} (L : Nat -> List β -> Int -> Option (List β)) (f : α -> β) (z : β) (l : List α)
  (hend : ∀ k x3, L (k + 1) x3 (l.length : Int) = some x3)
  (hstep : ∀ (i : Nat) (x : α), l[i]? = some x -> ∃ K, ∀ k (x3 : List β), K <= k -> x3.length = l.length -> L (k + 1) x3 (i : Int) = L k (x3.set i (f x)) ((i + 1 : Nat) : Int)) :
  Ev (fun k => L k (List.replicate l.length z) 0) (l.map f) := by
 have := LK l.length (fun i => Ev (fun k => L k ((l.take i).map f ++ List.replicate (l.length - i) z) (i : Int)) (l.map f)) ?_ ?_
 ·simpa using this
 ·refine ⟨1, fun k hk => ?_⟩
  obtain ⟨m, rfl⟩ : ∃ m, k = m + 1 := ⟨k - 1, by omega⟩
  dsimp only;rw [hend];simp
 ·intro i hi ih
  have hx : l[i]? = some l[i] := List.getElem?_eq_getElem hi;obtain ⟨K, hK⟩ := hstep i _ hx;refine Ev.next (K := K) (fun k hk => ?_) ih;rw [hK k _ hk (by simp; omega)]
  congr 1
  have h0 : i = ((l.take i).map f).length := by simp; omega
  rw [List.set_append_right _ _ (by omega)];have h1 : i - ((l.take i).map f).length = 0 := by omega
  have h2 : l.length - i = (l.length - (i + 1)) + 1 := by omega
  rw [h1, h2, List.replicate_succ, List.set_cons_zero, List.take_succ_eq_append_getElem hi, List.map_append];simp
theorem OX {ρ : Type} (L : Nat -> Int -> Option ρ) (n : Nat) (r : ρ) (hend : ∀ k, L (k + 1) (n : Int) = some r)
  (hstep : ∀ (i : Nat), i < n -> ∃ K, ∀ k, K <= k -> L (k + 1) (i : Int) = L k ((i + 1 : Nat) : Int)) : Ev (fun k => L k 0) r := by
 have := LK n (fun i => Ev (fun k => L k (i : Int)) r) ⟨1, fun k hk => by obtain ⟨m, rfl⟩ : ∃ m, k = m + 1 := ⟨k - 1, by omega⟩; exact hend m⟩ (fun i hi ih => by
  obtain ⟨K, hK⟩ := hstep i hi
  exact Ev.next hK ih)
 simpa using this
theorem iy {p : Prop} (h : p := by first | omega | assumption | rfl | (simp only [List.length_map, List.length_replicate, List.length_take, List.length_drop, List.length_append, List.length_cons, List.length_nil, List.length_set]; omega) | (simp <;> fail)) : p := h
section
variable {α β γ δ : Type}
theorem Ev.up {g : Nat -> Option α} {r : α} (h : Ev (fun k => g (k + 1)) r) : Ev g r := Ev.next (K := 0) (fun _ _ => rfl) h
theorem Ev.wT {c : Prop} {dc : Decidable c} {A B : Nat -> Option α} {r : α} (hc : c) (h : Ev A r) : Ev (fun k => if c then A k else B k) r :=
 Ev.same (K := 0) (fun k _ => by rw [if_pos hc]) h
theorem Ev.xw {c : Prop} {dc : Decidable c} {A B : Nat -> Option α} {r : α} (hc : ¬ c) (h : Ev B r) : Ev (fun k => if c then A k else B k) r :=
 Ev.same (K := 0) (fun k _ => by rw [if_neg hc]) h
theorem Ev.val {a r : α} (h : a = r) : Ev (fun _ => some a) r := Ev.all fun _ => by rw [h]
theorem Ev.jO {a : α} {f : Nat -> α -> Option β} {r : β} (h : Ev (fun k => f k a) r) : Ev (fun k => (some a).bind (f k)) r := Ev.bind (Ev.val rfl) h
variable {R : α -> β -> Prop} {A A1 A2 : Nat -> Option α} {B B1 B2 : Nat -> Option β}
end
theorem zQ {p : Prop} [Decidable p] : (decide p = true) = p := decide_eq_true_eq
def nm (s : ByteArray) : List Int := s.data.toList.map fun b => (b.toNat : Int)
theorem Em (s : ByteArray) : (nm s).length = s.size := by
 rw [nm, List.length_map, Array.length_toList]; rfl
theorem toList_nil {s : ByteArray} : s.toList = ([] : List UInt8) ↔ nm s = [] := by
 rw [Lib.toList_data, nm];simp
theorem MX (a b c : Int) : lg.f a b c = some (decide (b <= a /\ a <= c)) := by
 unfold lg.f
 by_cases h : b <= a
 ·rw [if_pos h]; simp [h]
 ·rw [if_neg h]; simp [h]
def jJ (s : ByteArray) : Bool := decide (1 <= s.size /\ s.size <= 12)
def lM (s : ByteArray) : Bool := decide (s.size <= 12)
theorem H9 (s : ByteArray) : iF.f s = some (jJ s) := by
 simp only [iF.f, MX, Option.bind_some, jJ, Option.some.injEq, decide_eq_decide];omega
theorem xM (s : ByteArray) : jR.f s = some (lM s) := by
 simp only [jR.f, lM, Option.some.injEq, decide_eq_decide];omega
theorem RF (s : ByteArray) : eO.f s = some (lM s) := xM s
theorem OY (s : ByteArray) : (s.toList != ([] : List UInt8)) = decide (1 <= s.size) := by
 rw [Bool.eq_iff_iff];simp only [bne_iff_ne, ne_eq, toList_nil, decide_eq_true_eq];rw [<- Em]
 cases h : nm s with
 | nil => simp
 | cons x t => simp
theorem RG (a b : ByteArray) : eP.f a b = some (jJ a && lM b) := by
 simp only [eP.f, RF, Option.bind_some, OY]
 cases ha : lM a with
 | false =>
  have : jJ a = false := by
   simp only [lM, decide_eq_false_iff_not] at ha;simp only [jJ, decide_eq_false_iff_not];omega
  simp [this]
 | true =>
  have : jJ a = decide (1 <= a.size) := by
   simp only [lM, decide_eq_true_eq] at ha;simp only [jJ, decide_eq_decide];omega
  cases hb : lM b <;> simp [this]
theorem rP (a b : ByteArray) : oF a b = (jJ a && lM b) := by
 have := (sQ a b).symm.trans (RG a b);exact Option.some.inj this
def qI : List ByteArray -> Option ByteArray -> Bool
 | [], _ => true
 | k :: ks, prev => jJ k && (wR prev k && qI ks (some k))
theorem vC : ∀ (ks vs : List ByteArray) (prev : Option ByteArray), ks.length = vs.length -> pJ ks vs prev = (qI ks prev && vs.all lM)
 | [], [], _, _ => rfl
 | [], v :: vs, _, h => by simp at h
 | k :: ks, [], _, h => by simp at h
 | k :: ks, v :: vs, prev, h => by
  have := vC ks vs (some k) (by simpa using h);rw [pJ, List.headD_cons, List.drop_succ_cons, List.drop_zero, this, rP, qI, List.all_cons]
  cases jJ k <;> cases lM v <;> cases wR prev k <;> simp
theorem MZ (K : List ByteArray) (hK : K.length <= 1048576000) : Ev (fun k => aT.f k K) (qI K none) := by
 have key : ∀ (t : List ByteArray) (i : Nat), K.drop i = t -> i <= K.length -> Ev (fun k => aT.l0 k K K K.length i) (qI t (mo K i)) := by
  intro t
  induction t with
  | nil =>
   intro i h hi;have := drop_nil h
   (refine Ev.up ?_; simp only [aT.l0, zQ])
   (repeat (first | with_reducible refine Ev.jO ?_ | (with_reducible refine Ev.wT ?_ ?_; (· exact iy)) | (with_reducible refine Ev.xw ?_ ?_; (· exact iy))))
   exact Ev.val rfl
  | cons x t ih =>
   intro i h hi;obtain ⟨p1, p2, p3⟩ := drop_cons h;have ih := ih (i + 1) p3 (by omega);have hn : mo K (i + 1) = some x := p2;rw [hn] at ih
   (refine Ev.up ?_; simp only [aT.l0, zQ])
   rw [ow p2, nP (by omega), H9];simp only [qI]
   cases hp : jJ x with
   | false =>
    (repeat (first | with_reducible refine Ev.jO ?_ | (with_reducible refine Ev.wT ?_ ?_; (· exact iy)) | (with_reducible refine Ev.xw ?_ ?_; (· exact iy))))
    exact Ev.val (by simp)
   | true =>
    rw [Bool.true_and]
    (repeat (first | with_reducible refine Ev.jO ?_ | (with_reducible refine Ev.wT ?_ ?_; (· exact iy)) | (with_reducible refine Ev.xw ?_ ?_; (· exact iy))))
    rcases Nat.eq_zero_or_pos i with h0 | h0
    ·subst h0
     simp only [mo, wR, Bool.true_and]
     (repeat (first | with_reducible refine Ev.jO ?_ | (with_reducible refine Ev.wT ?_ ?_; (· exact iy)) | (with_reducible refine Ev.xw ?_ ?_; (· exact iy))))
     exact ih
    ·obtain ⟨j, rfl⟩ : ∃ j, i = j + 1 := ⟨i - 1, by omega⟩
     have e : wrap64 (((j + 1 : Nat) : Int) - 1) = (j : Int) := by rw [gP (by omega) (by omega)]; omega
     have hj : j < K.length := by omega
     have hj2 : K[j]? = some K[j] := List.getElem?_eq_getElem hj;simp only [mo, hj2, wR];rw [e, ow hj2]
     (repeat (first | with_reducible refine Ev.jO ?_ | (with_reducible refine Ev.wT ?_ ?_; (· exact iy)) | (with_reducible refine Ev.xw ?_ ?_; (· exact iy))))
     cases hb : yK K[j] x with
     | true =>
      have hb' : Op.bytesLess K[j].toList x.toList = true := hb;rw [Bool.true_and]
      (repeat (first | with_reducible refine Ev.jO ?_ | (with_reducible refine Ev.wT ?_ ?_; (· exact iy)) | (with_reducible refine Ev.xw ?_ ?_; (· exact iy))))
      exact ih
     | false =>
      have hb' : ¬ Op.bytesLess K[j].toList x.toList = true := by
       have : Op.bytesLess K[j].toList x.toList = false := hb;rw [this]; simp
      (repeat (first | with_reducible refine Ev.jO ?_ | (with_reducible refine Ev.wT ?_ ?_; (· exact iy)) | (with_reducible refine Ev.xw ?_ ?_; (· exact iy))))
      exact Ev.val (by simp)
 exact key K 0 rfl (by omega)
theorem RH (l : List ByteArray) (hl : l.length <= 1048576000) : Ev (fun k => bn.f k l) (!(l.all lM)) := by
 have key : ∀ (t : List ByteArray) (i : Nat), l.drop i = t -> i <= l.length -> ∃ r : Int, Ev (fun k => aD.l0 k l l.length i) r /\ decide (r >= 0) = !(t.all lM) := by
  intro t
  induction t with
  | nil =>
   intro i h hi;have := drop_nil h;refine ⟨-1, ?_, by simp⟩
   (refine Ev.up ?_; simp only [aD.l0, zQ])
   (repeat (first | with_reducible refine Ev.jO ?_ | (with_reducible refine Ev.wT ?_ ?_; (· exact iy)) | (with_reducible refine Ev.xw ?_ ?_; (· exact iy))))
   exact Ev.val rfl
  | cons x t ih =>
   intro i h hi;obtain ⟨p1, p2, p3⟩ := drop_cons h;obtain ⟨r, ih, hr⟩ := ih (i + 1) p3 (by omega)
   cases hx : lM x with
   | true =>
    refine ⟨r, ?_, by rw [List.all_cons, hx, hr]; simp⟩
    (refine Ev.up ?_; simp only [aD.l0, zQ])
    simp only [ow p2, nP (i := i) (by omega), iG.f, xM, hx, Option.bind_some]
    (repeat (first | with_reducible refine Ev.jO ?_ | (with_reducible refine Ev.wT ?_ ?_; (· exact iy)) | (with_reducible refine Ev.xw ?_ ?_; (· exact iy))))
    exact ih
   | false =>
    refine ⟨i, ?_, by rw [List.all_cons, hx]; simp⟩
    (refine Ev.up ?_; simp only [aD.l0, zQ])
    simp only [ow p2, nP (i := i) (by omega), iG.f, xM, hx, Option.bind_some]
    (repeat (first | with_reducible refine Ev.jO ?_ | (with_reducible refine Ev.wT ?_ ?_; (· exact iy)) | (with_reducible refine Ev.xw ?_ ?_; (· exact iy))))
    exact Ev.val rfl
 obtain ⟨r, h1, h2⟩ := key l 0 rfl (by omega);simp only [bn.f];refine Ev.bind (g := fun k => aD.f k l) h1 ?_;exact Ev.val h2
def vD (K V : List ByteArray) : Bool := decide (K.length <= 40) && (decide (V.length = K.length) && (qI K none && V.all lM))
theorem Ia (K V : List ByteArray) (hK : K.length <= 1048576000) (hV : V.length <= 1048576000) : Ev (fun k => eZ.f k K V) (vD K V) := by
 simp only [eZ.f, vD]
 by_cases h : K.length <= 40
 ·rw [decide_eq_true h, Bool.true_and]
  (repeat (first | with_reducible refine Ev.jO ?_ | (with_reducible refine Ev.wT ?_ ?_; (· exact iy)) | (with_reducible refine Ev.xw ?_ ?_; (· exact iy))))
  by_cases h2 : V.length = K.length
  ·rw [decide_eq_true h2, Bool.true_and]
   (repeat (first | with_reducible refine Ev.jO ?_ | (with_reducible refine Ev.wT ?_ ?_; (· exact iy)) | (with_reducible refine Ev.xw ?_ ?_; (· exact iy))))
   refine Ev.bind (MZ K hK) ?_
   cases qI K none with
   | false => (repeat (first | with_reducible refine Ev.jO ?_ | (with_reducible refine Ev.wT ?_ ?_; (· exact iy)) | (with_reducible refine Ev.xw ?_ ?_; (· exact iy)))); exact Ev.val (by simp)
   | true =>
    (repeat (first | with_reducible refine Ev.jO ?_ | (with_reducible refine Ev.wT ?_ ?_; (· exact iy)) | (with_reducible refine Ev.xw ?_ ?_; (· exact iy))))
    refine Ev.bind (RH V hV) ?_;exact Ev.val (by simp)
  ·rw [decide_eq_false h2]
   (repeat (first | with_reducible refine Ev.jO ?_ | (with_reducible refine Ev.wT ?_ ?_; (· exact iy)) | (with_reducible refine Ev.xw ?_ ?_; (· exact iy))))
   exact Ev.val (by simp)
 ·rw [decide_eq_false h]
  (repeat (first | with_reducible refine Ev.jO ?_ | (with_reducible refine Ev.wT ?_ ?_; (· exact iy)) | (with_reducible refine Ev.xw ?_ ?_; (· exact iy))))
  exact Ev.val (by simp)
theorem M0 (K V : List ByteArray) (h : V.length = K.length) : vD K V = (decide (K.length <= 40) && pJ K V none) := by
 rw [vD, vC K V none h.symm, decide_eq_true h, Bool.true_and]
theorem Ib : ∀ (x y : List UInt8), Op.bytesLess x y = decide (x < y)
 | [], [] => by simp [Op.bytesLess]
 | _ :: _, [] => by simp [Op.bytesLess]
 | [], _ :: _ => by simp [Op.bytesLess]
 | a :: x, b :: y => by
  rw [Op.bytesLess, Ib x y];simp only [List.cons_lt_cons_iff]
  by_cases h1 : a < b <;> by_cases h2 : a = b <;> by_cases h3 : x < y <;> simp [h1, h2, h3]
def qZ (a b : ByteArray) : Prop := a.toList < b.toList
theorem jT (a b : ByteArray) : yK a b = true ↔ qZ a b := by
 unfold yK qZ;rw [Ib, decide_eq_true_eq]
theorem lt_trans {a b c : ByteArray} (h : qZ a b) (k : qZ b c) : qZ a c := List.lt_trans h k
theorem lt_irrefl (a : ByteArray) : ¬ qZ a a := List.lt_irrefl _
theorem lt_asymm {a b : ByteArray} (h : qZ a b) : ¬ qZ b a := fun k => lt_irrefl a (lt_trans h k)
abbrev DC (K : List ByteArray) : Prop := K.Pairwise qZ
theorem Ic : ∀ (K : List ByteArray) (prev : Option ByteArray), qI K prev = true -> DC K /\ ∀ p, prev = some p -> ∀ k ∈ K, qZ p k
 | [], prev, _ => ⟨.nil, fun _ _ k hk => by cases hk⟩
 | k :: ks, prev, h => by
  rw [qI, Bool.and_eq_true, Bool.and_eq_true] at h;obtain ⟨h1, h2, h3⟩ := h;obtain ⟨i1, i2⟩ := Ic ks (some k) h3;refine ⟨List.pairwise_cons.2 ⟨fun x hx => i2 k rfl x hx, i1⟩, ?_⟩;rintro p rfl x hx;have hp : qZ p k := (jT _ _).1 h2
  rcases List.mem_cons.1 hx with rfl | hx
  ·exact hp
  ·exact lt_trans hp (i2 k rfl x hx)
theorem J2 (key : ByteArray) : ∀ (K : List ByteArray) (i : Nat) (x : ByteArray), i < dG key K -> K[i]? = some x -> yK x key = true
 | [], i, x, h, _ => by rw [dG] at h; omega
 | k :: ks, i, x, h, hx => by
  rw [dG] at h
  split at h
  ·rename_i hk
   cases i with
   | zero =>
    obtain rfl := Option.some.inj hx;exact hk
   | succ i => exact J2 key ks i x (by omega) (by simpa using hx)
  ·omega
theorem FR (key : ByteArray) : ∀ (K : List ByteArray), DC K -> ∀ (i : Nat) (x : ByteArray), dG key K <= i -> K[i]? = some x -> yK x key = false
 | [], _, i, x, _, hx => by simp at hx
 | k :: ks, hs, i, x, h, hx => by
  obtain ⟨h1, h2⟩ := List.pairwise_cons.1 hs;rw [dG] at h
  split at h
  ·cases i with
   | zero => omega
   | succ i => exact FR key ks h2 i x (by omega) (by simpa using hx)
  ·rename_i hk
   cases hlt : yK x key with
   | false => rfl
   | true =>
    cases i with
    | zero =>
     obtain rfl := Option.some.inj hx;exact absurd hlt hk
    | succ i =>
     have hx' : x ∈ ks := List.mem_of_getElem? (i := i) (by simpa using hx);exact absurd ((jT _ _).2 (lt_trans (h1 x hx') ((jT _ _).1 hlt))) hk
theorem OZ (a b : ByteArray) : cmp_Less_string.f a b = some (yK a b) := by
 simp [cmp_Less_string.f, cmp_isNaN_string.f, yK]
theorem WY (a : ByteArray) : slices_isNaN_string.f a = some false := by simp [slices_isNaN_string.f]
theorem TP (i j : Nat) (h1 : i < j) (h2 : j <= 1048576000) : wrap64 ((IntKind.u64.wrap (wrap64 ((i : Int) + (j : Int)))) / 2) = (((i + j) / 2 : Nat) : Int) := by
 rw [gP (n := (i : Int) + j) (by omega) (by omega)]
 have e : IntKind.u64.wrap ((i : Int) + j) = (i : Int) + j := by
  simp only [IntKind.wrap, IntKind.bits, IntKind.signed];simp;omega
 rw [e, gP (by omega) (by omega)];omega
theorem M3 (K : List ByteArray) (key : ByteArray) (hK : K.length <= 1048576000) (hs : DC K) : ∃ b, Ev (fun k => ag.f k K key) ((dG key K : Int), b) := by
 have hle := lS key K
 have KR : ∀ (d i j : Nat), j - i <= d -> i <= dG key K -> dG key K <= j -> j <= K.length -> ∃ b, Ev (fun k => ag.l0 k K key (K.length : Int) (i : Int) (j : Int)) ((dG key K : Int), b) := by
  intro d
  induction d with
  | zero =>
   intro i j h1 h2 h3 h4;have hi : i = dG key K := by omega
   have hj : j = i := by omega
   subst hj
   by_cases hlt : j < K.length
   ·have hx : K[j]? = some K[j] := List.getElem?_eq_getElem hlt
    by_cases he : K[j].toList = key.toList
    ·refine ⟨true, ?_⟩
     (refine Ev.up ?_; simp only [ag.l0, zQ])
     simp only [ow hx]
     (repeat (first | with_reducible refine Ev.jO ?_ | (with_reducible refine Ev.wT ?_ ?_; (· exact iy)) | (with_reducible refine Ev.xw ?_ ?_; (· exact iy))))
     exact Ev.val (by rw [hi])
    ·refine ⟨false, ?_⟩
     (refine Ev.up ?_; simp only [ag.l0, zQ])
     simp only [ow hx, WY, Option.bind_some]
     (repeat (first | with_reducible refine Ev.jO ?_ | (with_reducible refine Ev.wT ?_ ?_; (· exact iy)) | (with_reducible refine Ev.xw ?_ ?_; (· exact iy))))
     exact Ev.val (by rw [hi])
   ·refine ⟨false, ?_⟩
    (refine Ev.up ?_; simp only [ag.l0, zQ])
    (repeat (first | with_reducible refine Ev.jO ?_ | (with_reducible refine Ev.wT ?_ ?_; (· exact iy)) | (with_reducible refine Ev.xw ?_ ?_; (· exact iy))))
    exact Ev.val (by rw [hi])
  | succ d ih =>
   intro i j h1 h2 h3 h4
   by_cases hij : i < j
   ·have hm := TP i j hij (by omega)
    obtain ⟨m, hm2⟩ : ∃ m, m = (i + j) / 2 := ⟨_, rfl⟩
    rw [<- hm2] at hm;have hlt : m < K.length := by omega
    have hx : K[m]? = some K[m] := List.getElem?_eq_getElem hlt
    cases hb : yK K[m] key with
    | true =>
     have hge : m < dG key K := by
      rcases Nat.lt_or_ge m (dG key K) with h | h
      ·exact h
      ·have := FR key K hs m _ h hx
       rw [hb] at this
       cases this
     obtain ⟨b, h⟩ := ih (m + 1) j (by omega) (by omega) h3 h4;refine ⟨b, ?_⟩
     (refine Ev.up ?_; simp only [ag.l0, zQ])
     simp only [hm, ow hx, OZ, hb, Option.bind_some, nP (i := m) (by omega)]
     (repeat (first | with_reducible refine Ev.jO ?_ | (with_reducible refine Ev.wT ?_ ?_; (· exact iy)) | (with_reducible refine Ev.xw ?_ ?_; (· exact iy))))
     exact h
    | false =>
     have hge : dG key K <= m := by
      rcases Nat.lt_or_ge m (dG key K) with h | h
      ·have := J2 key K m _ h hx
       rw [hb] at this
       cases this
      ·exact h
     obtain ⟨b, h⟩ := ih i m (by omega) h2 hge (by omega);refine ⟨b, ?_⟩
     (refine Ev.up ?_; simp only [ag.l0, zQ])
     simp only [hm, ow hx, OZ, hb, Option.bind_some]
     (repeat (first | with_reducible refine Ev.jO ?_ | (with_reducible refine Ev.wT ?_ ?_; (· exact iy)) | (with_reducible refine Ev.xw ?_ ?_; (· exact iy))))
     exact h
   ·exact ih i j (by omega) h2 h3 h4
 exact KR K.length 0 K.length (by omega) (by omega) hle (Nat.le_refl _)
theorem Ie (K : List ByteArray) (key : ByteArray) (hK : K.length <= 1048576000) (hs : DC K) : Ev (fun k => ed.f k K key) (dG key K : Int) := by
 obtain ⟨b, h⟩ := M3 K key hK hs;simp only [ed.f];exact Ev.bind h (Ev.val rfl)
theorem xN (K : List ByteArray) (i : Nat) (key : ByteArray) : eH.f K (i : Int) key = some (jg K i key) := by
 unfold eH.f jg
 rcases Nat.lt_or_ge i K.length with h | h
 ·have hx : K[i]? = some K[i] := List.getElem?_eq_getElem h
  rw [if_pos (by omega), if_pos (by omega), ow hx, hx]
 ·rw [if_neg (by omega), List.getElem?_eq_none h]
theorem BJ {α : Type} : ∀ (cs : List (List α)) (ks : List α), ks.Sublist (bN cs ks)
 | [], ks => List.Sublist.refl _
 | c :: cs, [] => List.nil_sublist _
 | c :: cs, k :: ks => by
  rw [bN];exact ((BJ cs ks).cons_cons k).trans (List.sublist_append_right _ _)
theorem En {α : Type} : ∀ (cs : List (List α)) (ks : List α), cs.length <= ks.length + 1 -> ∀ c ∈ cs, c.Sublist (bN cs ks)
 | [], ks, _, c, hc => by cases hc
 | [d], [], _, c, hc => by rw [List.mem_singleton.1 hc]; exact List.Sublist.refl _
 | d :: e :: cs, [], h, c, hc => by simp at h
 | d :: cs, k :: ks, h, c, hc => by
  rw [bN]
  rcases List.mem_cons.1 hc with rfl | hc
  ·exact List.sublist_append_left _ _
  ·exact ((En cs ks (by simpa using h) c hc).trans (List.sublist_cons_self _ _)).trans (List.sublist_append_right _ _)
theorem oG {t : PT} (h : DC (bB t)) : DC t.keys := by
 rw [pI] at h;exact h.sublist (BJ _ _)
theorem RI {t s : PT} {i : Nat} (hs : om t) (h : DC (bB t)) (hi : t.kids[i]? = some s) : DC (bB s) := by
 rw [pI] at h;have h1 := hs.one;unfold wN at h1;refine h.sublist (En _ _ (by rw [List.length_map]; omega) _ ?_);exact List.mem_map_of_mem (List.mem_of_getElem? hi)
theorem FT : ∀ (n : Nat) (t : PT) (key : ByteArray), t.big <= n -> om t -> DC (bB t) -> ∃ K, ∀ k, K <= k -> ∀ m, n <= m -> vT k m t key = some (xH n t key)
 | 0, t, key, hb, _, _ => absurd t.fB (by omega)
 | n + 1, t, key, hb, hs, hsrt => by
  have h1 := hs.one;unfold wN at h1;obtain ⟨K1, g1⟩ := Ie t.keys key (by omega) (oG hsrt);have hle := lS key t.keys
  by_cases h0 : t.kids.length = 0
  ·refine ⟨K1, fun k hk m hm => ?_⟩
   obtain ⟨m, rfl⟩ : ∃ j, m = j + 1 := ⟨m - 1, by omega⟩
   have e1 := g1 k hk;dsimp only at e1;rw [vT, e1, Option.bind_some, xN, Option.bind_some, xH]
   cases hh : jg t.keys (dG key t.keys) key with
   | true =>
    have := jQ hh;rw [if_pos rfl, if_pos rfl, if_pos (by omega)]
   | false => rw [if_neg (show ¬ (false = true) by decide), if_neg (show ¬ (false = true) by decide), if_pos h0, if_pos h0]
  ·have hkl : t.kids.length = t.keys.length + 1 := h1.2.2.resolve_left h0
   have hlt : dG key t.keys < t.kids.length := by omega
   have hx : t.kids[dG key t.keys]? = some t.kids[dG key t.keys] := List.getElem?_eq_getElem hlt;have hkb := PT.gH hx;obtain ⟨K2, g2⟩ := FT n _ key (by omega) (hs.kid hx) (RI hs hsrt hx);refine ⟨max K1 K2, fun k hk m hm => ?_⟩
   obtain ⟨m, rfl⟩ : ∃ j, m = j + 1 := ⟨m - 1, by omega⟩
   have e1 := g1 k (by omega);dsimp only at e1;rw [vT, e1, Option.bind_some, xN, Option.bind_some, xH]
   cases hh : jg t.keys (dG key t.keys) key with
   | true =>
    have := jQ hh;rw [if_pos rfl, if_pos rfl, if_pos (by omega)]
   | false =>
    rw [if_neg (show ¬ (false = true) by decide), if_neg (show ¬ (false = true) by decide), if_neg h0, if_neg h0, if_pos (by omega), Int.toNat_natCast, hx];exact g2 k (by omega) m (by omega)
abbrev KV := ByteArray × ByteArray
def bI (t : PT) : List KV := t.keys.zip t.vals
def aX (t : PT) : List KV := (bB t).zip (eD t)
theorem Eo {α β : Type} : ∀ (cs : List (List α)) (ds : List (List β)) (ks : List α) (vs : List β), cs.map List.length = ds.map List.length -> ks.length = vs.length ->
  (bN cs ks).zip (bN ds vs) = bN (List.zipWith List.zip cs ds) (ks.zip vs)
 | [], [], ks, vs, _, _ => by simp [bN]
 | [], d :: ds, _, _, h, _ => by simp at h
 | c :: cs, [], _, _, h, _ => by simp at h
 | c :: cs, d :: ds, [], [], h, _ => by simp [bN]
 | c :: cs, d :: ds, [], v :: vs, _, h => by simp at h
 | c :: cs, d :: ds, k :: ks, [], _, h => by simp at h
 | c :: cs, d :: ds, k :: ks, v :: vs, h1, h2 => by
  simp only [List.map_cons, List.cons.injEq] at h1;have := Eo cs ds ks vs h1.2 (by simpa using h2);simp only [bN, List.zipWith_cons_cons, List.zip_cons_cons];rw [List.zip_append h1.1, List.zip_cons_cons, this]
theorem Ig : ∀ l : List PT, List.zipWith List.zip (l.map bB) (l.map eD) = l.map aX
 | [] => rfl
 | c :: cs => by
  rw [List.map_cons, List.map_cons, List.zipWith_cons_cons, Ig cs];rfl
theorem dV {t : PT} (h : om t) : aX t = bN (t.kids.map aX) (bI t) := by
 unfold aX bI;have h1 := h.one;unfold wN at h1;rw [pI, Am, Eo _ _ _ _ ?_ h1.1]
 ·rw [Ig]
  rfl
 ·rw [List.map_map, List.map_map]
  refine List.map_congr_left fun s hm => ?_
  obtain ⟨i, hi⟩ := List.getElem?_of_mem hm;exact (iW (h.kid hi)).symm
theorem rQ {t : PT} (h : om t) : bB t = (aX t).map Prod.fst := by
 unfold aX;rw [List.map_fst_zip (by rw [iW h]; exact Nat.le_refl _)]
theorem Ep {t : PT} (h : om t) : eD t = (aX t).map Prod.snd := by
 unfold aX;rw [List.map_snd_zip (by rw [iW h]; exact Nat.le_refl _)]
theorem ko {t : PT} (h : om t) : (aX t).length = (bB t).length := by rw [rQ h, List.length_map]
theorem LM {m : Nat} {t : PT} (hm : m <= 1000) (h : One m t) : wN t := ⟨h.1.symm, by have := h.2.1; omega, h.2.2⟩
theorem Ih : ∀ (n : Nat) {t : PT}, t.big <= n -> kV t -> om t
 | 0, t, hb, _ => absurd t.fB (by omega)
 | n + 1, t, hb, h => by
  obtain ⟨h1, h2⟩ := bJ.1 h
  exact om.mk' (LM (by omega) h1) fun i s hi => Ih n (by have := PT.gH hi; omega) (h2 s (List.mem_of_getElem? hi))
theorem bA {t : PT} (h : kV t) : om t := Ih _ (Nat.le_refl _) h
theorem Ii {t : PT} (h : H8 t) : om t := om.mk' (LM (by omega) h.1) fun i s hi => bA (h.2 s (List.mem_of_getElem? hi))
def rR {α : Type} : List (List α) -> List α -> List α
 | a :: A, k :: K => a ++ k :: rR A K
 | _, _ => []
def tailW {α : Type} (Q : List (List α)) : List α -> List α
 | [] => []
 | k :: ks => k :: bN Q ks
theorem Er {α : Type} : ∀ (A B : List (List α)) (K1 K2 : List α), A.length = K1.length -> bN (A ++ B) (K1 ++ K2) = rR A K1 ++ bN B K2
 | [], B, [], K2, _ => rfl
 | [], B, k :: K1, K2, h => by simp at h
 | a :: A, B, [], K2, h => by simp at h
 | a :: A, B, k :: K1, K2, h => by
  have := Er A B K1 K2 (by simpa using h);simp only [List.cons_append, bN, rR, this, List.append_assoc]
theorem sZ {α : Type} (c : List α) (Q : List (List α)) (K : List α) : bN (c :: Q) K = c ++ tailW Q K := by cases K <;> simp [bN, tailW]
theorem nQ {α : Type} (K : List α) : bN [] K = K := by cases K <;> rfl
theorem tq {P Q : List PT} {s : PT} {I J : List KV} (h : P.length = I.length) : bN ((P ++ s :: Q).map aX) (I ++ J) = rR (P.map aX) I ++ (aX s ++ tailW (Q.map aX) J) := by
 rw [List.map_append, List.map_cons, Er _ _ _ _ (by rw [List.length_map]; exact h), sZ]
theorem xO {P Q : List PT} {l r : PT} {I J : List KV} {x : KV} (h : P.length = I.length) : bN ((P ++ l :: r :: Q).map aX) (I ++ x :: J) = rR (P.map aX) I ++ (aX l ++ x :: (aX r ++ tailW (Q.map aX) J)) := by
 rw [tq h];simp only [List.map_cons, tailW, sZ]
theorem oH {α : Type} : ∀ (A B : List (List α)) (K1 K2 : List α) (k : α), A.length = K1.length + 1 -> bN (A ++ B) (K1 ++ k :: K2) = bN A K1 ++ k :: bN B K2
 | [], B, K1, K2, k, h => by simp at h
 | [a], B, [], K2, k, _ => by simp [bN]
 | a :: b :: A, B, [], K2, k, h => by simp at h
 | [a], B, x :: K1, K2, k, h => by simp at h
 | a :: b :: A, B, x :: K1, K2, k, h => by
  have := oH (b :: A) B K1 K2 k (by simpa using h);simp only [List.cons_append, bN] at this ⊢;rw [this, List.append_assoc];simp
theorem wU {α : Type} : ∀ (C : List (List α)) (I J : List α), C = [] \/ I.length < C.length -> ∃ A B, ∀ y, bN C (I ++ y :: J) = A ++ y :: B
 | [], I, J, _ => ⟨I, J, fun y => by rw [nQ]⟩
 | c :: C, [], J, _ => ⟨c, bN C J, fun y => by rw [List.nil_append, bN]⟩
 | [c], z :: I, J, h => by simp at h
 | c :: d :: C, z :: I, J, h => by
  obtain ⟨A, B, e⟩ := wU (d :: C) I J (.inr (by simpa using h));exact ⟨c ++ z :: A, B, fun y => by rw [List.cons_append, bN, e, List.append_assoc, List.cons_append]⟩
theorem Es {α : Type} : ∀ (A : List (List α)) (K : List α) (k : α), A.length = K.length + 1 -> ∃ X, rR A (K ++ [k]) = X ++ [k]
 | [], K, k, h => by simp at h
 | [a], [], k, _ => ⟨a, rfl⟩
 | a :: b :: A, [], k, h => by simp at h
 | a :: A, x :: K, k, h => by
  obtain ⟨X, e⟩ := Es A K k (by simpa using h);exact ⟨a ++ x :: X, by rw [List.cons_append, rR, e, List.append_assoc, List.cons_append]⟩
theorem O0 {α : Type} (A : List (List α)) : rR A [] = [] := by cases A <;> rfl
abbrev kK (l : List KV) : Prop := l.Pairwise fun a b => qZ a.1 b.1
theorem ku {t : PT} (h : om t) : DC (bB t) ↔ kK (aX t) := by
 rw [rQ h];exact List.pairwise_map
def fD (k v : ByteArray) : List KV -> List KV
 | [] => [(k, v)]
 | x :: r => if yK x.1 k = true then x :: fD k v r else if x.1.toList == k.toList then (x.1, v) :: r else (k, v) :: x :: r
theorem M4 {a b : ByteArray} (h : qZ b a) : yK a b = false := by
 cases hh : yK a b with
 | false => rfl
 | true => exact absurd ((jT a b).1 hh) (lt_asymm h)
theorem xP {a b : ByteArray} (h : qZ a b) : (b.toList == a.toList) = false := by
 cases hh : (b.toList == a.toList) with
 | false => rfl
 | true =>
  have e := eq_of_beq hh;unfold qZ at h;rw [e] at h;exact absurd h (List.lt_irrefl _)
theorem LP {a b : ByteArray} (h1 : yK a b = false) (h2 : (a.toList == b.toList) = false) : qZ b a := by
 have h1' : ¬ qZ a b := fun h => by rw [(jT a b).2 h] at h1; cases h1
 have h2' : a.toList ≠ b.toList := fun h => by rw [h] at h2; simp at h2
 unfold qZ at h1' ⊢
 rcases Std.lt_trichotomy a.toList b.toList with h | h | h
 ·exact absurd h h1'
 ·exact absurd h h2'
 ·exact h
theorem xQ {k v : ByteArray} : ∀ {l1 l2 : List KV}, (∀ x ∈ l1, qZ x.1 k) -> fD k v (l1 ++ l2) = l1 ++ fD k v l2
 | [], l2, _ => rfl
 | x :: l1, l2, h => by
  rw [List.cons_append, fD, if_pos ((jT _ _).2 (h x List.mem_cons_self)), xQ fun y hy => h y (List.mem_cons_of_mem _ hy), List.cons_append]
theorem Et {k v : ByteArray} {l : List KV} (h : ∀ x ∈ l, qZ k x.1) : fD k v l = (k, v) :: l := by
 cases l with
 | nil => rfl
 | cons x r =>
  have := h x List.mem_cons_self;rw [fD, if_neg (by rw [M4 this]; decide), if_neg (by rw [xP this]; decide)]
theorem Ij {k v : ByteArray} : ∀ {l1 l2 : List KV}, (∀ x ∈ l2, qZ k x.1) -> fD k v (l1 ++ l2) = fD k v l1 ++ l2
 | [], l2, h => by rw [List.nil_append, Et h]; rfl
 | x :: l1, l2, h => by
  rw [List.cons_append, fD, fD]
  split
  ·rw [Ij h]; rfl
  ·split <;> rfl
theorem O1 {k v : ByteArray} {x : KV} {l : List KV} (h : (x.1.toList == k.toList) = true) : fD k v (x :: l) = (x.1, v) :: l := by
 have hn : yK x.1 k = false := by
  cases hh : yK x.1 k with
  | false => rfl
  | true =>
   have := (jT _ _).1 hh;unfold qZ at this;rw [eq_of_beq h] at this;exact absurd this (List.lt_irrefl _)
 rw [fD, if_neg (by rw [hn]; decide), if_pos h]
theorem yN {k v : ByteArray} {y : KV} : ∀ {l : List KV}, y ∈ fD k v l -> y = (k, v) \/ y ∈ l \/ ∃ x ∈ l, y = (x.1, v)
 | [], h => by rw [fD, List.mem_singleton] at h; exact .inl h
 | x :: r, h => by
  rw [fD] at h
  split at h
  ·rcases List.mem_cons.1 h with h | h
   ·exact .inr (.inl (by rw [h]; exact List.mem_cons_self))
   ·rcases yN h with h | h | ⟨z, hz, e⟩
    ·exact .inl h
    ·exact .inr (.inl (List.mem_cons_of_mem _ h))
    ·exact .inr (.inr ⟨z, List.mem_cons_of_mem _ hz, e⟩)
  ·split at h
   ·rcases List.mem_cons.1 h with h | h
    ·exact .inr (.inr ⟨x, List.mem_cons_self, h⟩)
    ·exact .inr (.inl (List.mem_cons_of_mem _ h))
   ·rcases List.mem_cons.1 h with h | h
    ·exact .inl h
    ·exact .inr (.inl h)
theorem Eu {k v : ByteArray} : ∀ {l : List KV}, kK l -> kK (fD k v l)
 | [], h => by rw [fD]; exact List.pairwise_singleton _ _
 | x :: r, h => by
  obtain ⟨h1, h2⟩ := List.pairwise_cons.1 h;rw [fD]
  split
  ·rename_i hlt
   refine List.pairwise_cons.2 ⟨fun y hy => ?_, Eu h2⟩
   rcases yN hy with rfl | hy | ⟨z, hz, rfl⟩
   ·exact (jT _ _).1 hlt
   ·exact h1 y hy
   ·exact h1 z hz
  ·split
   ·exact List.pairwise_cons.2 ⟨h1, h2⟩
   ·rename_i hn he
    have hk : qZ k x.1 := LP (by simpa using hn) (by simpa using he);refine List.pairwise_cons.2 ⟨fun y hy => ?_, h⟩
    rcases List.mem_cons.1 hy with rfl | hy
    ·exact hk
    ·exact lt_trans hk (h1 y hy)
theorem rT {t : PT} (h : t.vals.length = t.keys.length) : (bI t).length = t.keys.length := by
 unfold bI;rw [List.length_zip];omega
theorem M5 {t : PT} (h : t.vals.length = t.keys.length) {i : Nat} {x : ByteArray} (hx : t.keys[i]? = some x) : ∃ v, t.vals[i]? = some v /\ (bI t)[i]? = some (x, v) := by
 have hi : i < t.keys.length := (List.getElem?_eq_some_iff.1 hx).1;have hv : t.vals[i]? = some t.vals[i] := List.getElem?_eq_getElem (by omega);refine ⟨_, hv, ?_⟩;unfold bI;exact List.getElem?_zip_eq_some.2 ⟨hx, hv⟩
theorem qJ {t : PT} (hv : t.vals.length = t.keys.length) {key : ByteArray} : ∀ x ∈ (bI t).take (dG key t.keys), qZ x.1 key := by
 intro x hx;obtain ⟨j, hj⟩ := List.getElem?_of_mem hx
 have hlt : j < dG key t.keys := by
  have := (List.getElem?_eq_some_iff.1 hj).1;rw [List.length_take] at this;omega
 rw [List.getElem?_take_of_lt hlt] at hj;unfold bI at hj;obtain ⟨h1, _⟩ := List.getElem?_zip_eq_some.1 hj;exact (jT _ _).1 (J2 key t.keys j x.1 hlt h1)
theorem pO {t : PT} (hs : DC t.keys) {key : ByteArray} (hn : jg t.keys (dG key t.keys) key = false) : ∀ x ∈ (bI t).drop (dG key t.keys), qZ key x.1 := by
 intro x hx;obtain ⟨j, hj⟩ := List.getElem?_of_mem hx;rw [List.getElem?_drop] at hj;unfold bI at hj;obtain ⟨h1, _⟩ := List.getElem?_zip_eq_some.1 hj;have hge := FR key t.keys hs (dG key t.keys + j) x.1 (by omega) h1;refine LP hge ?_
 cases hh : (x.1.toList == key.toList) with
 | false => rfl
 | true =>
  have e := eq_of_beq hh;have hi : dG key t.keys + j < t.keys.length := (List.getElem?_eq_some_iff.1 h1).1;have hy : t.keys[dG key t.keys]? = some t.keys[dG key t.keys] := List.getElem?_eq_getElem (by omega);have hge2 := FR key t.keys hs (dG key t.keys) _ (Nat.le_refl _) hy;unfold jg at hn;rw [hy] at hn;simp only at hn;have hlt := LP hge2 hn
  by_cases h0 : j = 0
  ·subst h0
   rw [Nat.add_zero, hy] at h1;rw [Option.some.inj h1] at hn;rw [hn] at hh
   cases hh
  ·have h2 : qZ t.keys[dG key t.keys] x.1 := by
    have := List.pairwise_iff_getElem.1 hs (dG key t.keys) (dG key t.keys + j) (by omega) hi (by omega);rw [(List.getElem?_eq_some_iff.1 h1).2] at this;exact this
   have h3 := lt_trans hlt h2;unfold qZ at h3;rw [e] at h3;exact absurd h3 (List.lt_irrefl _)
theorem O3 {P : List (List KV)} {I R : List KV} {key : ByteArray} (hl : P.length = I.length) (hs : kK (rR P I ++ R)) (hI : ∀ x ∈ I, qZ x.1 key) : ∀ x ∈ rR P I, qZ x.1 key := by
 rcases List.eq_nil_or_concat I with rfl | ⟨K, k, hk0⟩
 ·rw [O0]
  intro x hx
  cases hx
 ·rw [List.concat_eq_append] at hk0
  subst hk0;obtain ⟨X, e⟩ := Es P K k (by rw [hl, List.length_append]; rfl);intro x hx;have hk := hI k (by simp);rw [e] at hx hs
  rcases List.mem_append.1 hx with hx | hx
  ·exact lt_trans ((List.pairwise_append.1 (List.pairwise_append.1 hs).1).2.2 x hx k (List.mem_singleton_self _)) hk
  ·rw [List.mem_singleton.1 hx]
   exact hk
theorem LQ {Q : List (List KV)} {J L : List KV} {key : ByteArray} (hs : kK (L ++ tailW Q J)) (hJ : ∀ x ∈ J, qZ key x.1) : ∀ x ∈ tailW Q J, qZ key x.1 := by
 cases J with
 | nil => intro x hx; cases hx
 | cons y J =>
  rw [tailW] at hs ⊢;have hk := hJ y List.mem_cons_self;intro x hx
  rcases List.mem_cons.1 hx with rfl | hx
  ·exact hk
  ·exact lt_trans hk ((List.pairwise_cons.1 (List.pairwise_append.1 hs).2.1).1 x hx)
def q9 : Nat -> PT -> Prop
 | 0, _ => False
 | h + 1, t => (t.kids = [] /\ h = 0) \/ (t.kids ≠ [] /\ ∀ s ∈ t.kids, q9 h s /\ 2 <= s.keys.length)
theorem AB {h : Nat} {t : PT} (hl : q9 h t) : 1 <= h := by
 cases h with
 | zero => exact hl.elim
 | succ h => omega
theorem qf : ∀ {h g : Nat} {t : PT}, q9 h t -> q9 g t -> h = g
 | 0, _, t, a, _ => a.elim
 | h + 1, 0, t, _, b => b.elim
 | h + 1, g + 1, t, a, b => by
  rcases a with ⟨a1, a2⟩ | ⟨a1, a2⟩ <;> rcases b with ⟨b1, b2⟩ | ⟨b1, b2⟩
  ·omega
  ·exact absurd a1 b1
  ·exact absurd b1 a1
  ·cases hk : t.kids with
   | nil => exact absurd hk a1
   | cons c cs =>
    have := qf (a2 c (by rw [hk]; exact List.mem_cons_self)).1 (b2 c (by rw [hk]; exact List.mem_cons_self)).1;omega
theorem FU : ∀ {h : Nat} {t : PT}, q9 h t -> h <= t.big
 | 0, t, a => a.elim
 | h + 1, t, a => by
  rcases a with ⟨a1, a2⟩ | ⟨a1, a2⟩
  ·have := t.fB
   omega
  ·cases hk : t.kids with
   | nil => exact absurd hk a1
   | cons c cs =>
    have h0 : t.kids[0]? = some c := by rw [hk]; rfl
    have := FU (a2 c (by rw [hk]; exact List.mem_cons_self)).1;have := PT.gH h0;omega
theorem xR : ∀ (n : Nat) (t : PT), t.big <= n -> t.big <= 1000000000000 -> (∃ h, q9 h t /\ iJ t = (h : Int)) \/ ((∀ h, ¬ q9 h t) /\ iJ t = -1)
 | 0, t, hn, _ => absurd t.fB (by omega)
 | n + 1, t, hn, hb => by
  cases hk : t.kids with
  | nil =>
   exact .inl ⟨1, .inl ⟨hk, rfl⟩, Bg (by rw [hk]; rfl)⟩
  | cons c cs =>
   have h0 : t.kids[0]? = some c := by rw [hk]; rfl
   have he := Bh h0;have hc := PT.gH h0
   have kid : ∀ s ∈ t.kids, (∃ h, q9 h s /\ iJ s = (h : Int)) \/ ((∀ h, ¬ q9 h s) /\ iJ s = -1) := fun s hs => by
    obtain ⟨i, hi⟩ := List.getElem?_of_mem hs;have := PT.gH hi;exact xR n s (by omega) (by omega)
   have hall : ∀ (l : List PT) (d : Int), pq d l = true ↔ ∀ s ∈ l, ¬ d < 0 /\ iJ s = d /\ ¬ s.keys.length < 2 := by
    intro l d
    induction l with
    | nil => simp [pq]
    | cons a l ih =>
     rw [pq, Bool.and_eq_true, ih];simp [and_assoc]
   rw [List.drop_zero] at he;have hcm : c ∈ t.kids := by rw [hk]; exact List.mem_cons_self
   rcases kid c hcm with ⟨h, hl, hev⟩ | ⟨hno, hev⟩
   ·by_cases hL : pq (iJ c) t.kids = true
    ·rw [if_pos hL] at he
     refine .inl ⟨h + 1, .inr ⟨by rw [hk]; simp, fun s hs => ?_⟩, ?_⟩
     ·obtain ⟨a1, a2, a3⟩ := (hall _ _).1 hL s hs
      rcases kid s hs with ⟨g, gl, gev⟩ | ⟨_, gev⟩
      ·have : g = h := by omega
       subst this;exact ⟨gl, by omega⟩
      ·omega
     ·have := FU hl
      rw [he, hev, gP (by omega) (by omega)];omega
    ·rw [if_neg hL] at he
     refine .inr ⟨fun g hg => hL ((hall _ _).2 fun s hs => ?_), he⟩
     cases g with
     | zero => exact hg.elim
     | succ g =>
      rcases hg with ⟨hg, _⟩ | ⟨_, hg⟩
      ·rw [hk] at hg; cases hg
      ·have hgc := qf (hg c hcm).1 hl
       subst hgc;obtain ⟨s1, s2⟩ := hg s hs;have s3 := AB s1
       rcases kid s hs with ⟨f, fl, fev⟩ | ⟨fno, _⟩
       ·have := qf fl s1
        exact ⟨by omega, by omega, by omega⟩
       ·exact absurd s1 (fno g)
   ·refine .inr ⟨fun g hg => ?_, ?_⟩
    ·cases g with
     | zero => exact hg.elim
     | succ g =>
      rcases hg with ⟨hg, _⟩ | ⟨_, hg⟩
      ·rw [hk] at hg; cases hg
      ·exact hno g (hg c hcm).1
    ·rw [he, if_neg]
     rw [hall];intro h;have := (h c hcm).1;omega
def qg (t : PT) : Bool := t.kids.isEmpty || decide (0 < t.keys.length)
theorem yO : ∀ (n : Nat) (t : PT), t.big <= n -> t.big <= 1000000000000 -> (∃ h, q9 h t /\ jy t = ((h : Int), qg t)) \/ ((∀ h, ¬ q9 h t) /\ jy t = (0, false))
 | 0, t, hn, _ => absurd t.fB (by omega)
 | n + 1, t, hn, hb => by
  cases hk : t.kids with
  | nil =>
   refine .inl ⟨1, .inl ⟨hk, rfl⟩, ?_⟩;rw [zq (by rw [hk]; rfl), qg, hk];rfl
  | cons c cs =>
   have kid : ∀ s ∈ t.kids, (∃ h, q9 h s /\ jy s = ((h : Int), qg s)) \/ ((∀ h, ¬ q9 h s) /\ jy s = (0, false)) := fun s hs => by
    obtain ⟨i, hi⟩ := List.getElem?_of_mem hs;have := PT.gH hi;exact yO n s (by omega) (by omega)
   have hne : t.kids.length ≠ 0 := by rw [hk]; simp
   have he := zt hne;rw [List.drop_zero] at he
   -- the loop, from a kid on: all of level h, or none
   have loop : ∀ (l : List PT), (∀ s ∈ l, s ∈ t.kids) -> ∀ (i : Nat) (f : Int), (∃ h : Nat, (∀ s ∈ l, q9 h s /\ 2 <= s.keys.length) /\ (0 < i -> f = (h : Int)) /\ jd i f l = some (if l = [] then f else (h : Int))) \/
     ((∀ h : Nat, (0 < i -> f = (h : Int)) -> ¬ ∀ s ∈ l, q9 h s /\ 2 <= s.keys.length) /\ (l ≠ [] -> jd i f l = none)) := by
    intro l
    induction l with
    | nil =>
     intro _ i f
     by_cases hi : 0 < i -> ∃ h : Nat, f = (h : Int)
     ·rcases Nat.eq_zero_or_pos i with h0 | h0
      ·exact .inl ⟨0, by simp, by omega, by rw [if_pos rfl, jd]⟩
      ·obtain ⟨h, hf⟩ := hi h0
       exact .inl ⟨h, by simp, fun _ => hf, by rw [if_pos rfl, jd]⟩
     ·refine .inr ⟨fun h hf _ => hi fun hi => ⟨h, hf hi⟩, fun h => absurd rfl h⟩
    | cons a l ih =>
     intro hsub i f;have ha := hsub a List.mem_cons_self
     have hsub' : ∀ s ∈ l, s ∈ t.kids := fun s hs => hsub s (List.mem_cons_of_mem _ hs)
     rcases kid a ha with ⟨h, hl, hd⟩ | ⟨hno, hd⟩
     ·by_cases h2 : a.keys.length < 2
      ·refine .inr ⟨fun g _ hg => ?_, fun _ => ?_⟩
       ·have := (hg a List.mem_cons_self).2
        omega
       ·rw [jd, if_pos]
        simp [h2]
      ·have hro : qg a = true := by rw [qg, decide_eq_true (by omega), Bool.or_true]
       by_cases h3 : 0 < i /\ (h : Int) ≠ f
       ·refine .inr ⟨fun g hf hg => ?_, fun _ => ?_⟩
        ·have := qf hl (hg a List.mem_cons_self).1
         have := hf h3.1;omega
        ·rw [jd, if_pos]
         simp [hd, h3.1, h3.2]
       ·have hstep : jd i f (a :: l) = jd (i + 1) (h : Int) l := by
         rw [jd, if_neg, hd]
         rcases Nat.eq_zero_or_pos i with h0 | h0
         ·simp [hd, hro, h2, h0]
         ·have : (h : Int) = f := by
           rcases Decidable.em ((h : Int) = f) with h4 | h4
           ·exact h4
           ·exact absurd ⟨h0, h4⟩ h3
          simp [hd, hro, h2, this]
        rcases ih hsub' (i + 1) (h : Int) with ⟨g, g1, g2, g3⟩ | ⟨g1, g2⟩
        ·have hgh : h = g := by have := g2 (by omega); omega
         subst hgh;refine .inl ⟨h, fun s hs => ?_, fun hi => ?_, ?_⟩
         ·rcases List.mem_cons.1 hs with rfl | hs
          ·exact ⟨hl, by omega⟩
          ·exact g1 s hs
         ·rcases Decidable.em ((h : Int) = f) with h4 | h4
          ·exact h4.symm
          ·exact absurd ⟨hi, h4⟩ h3
         ·rw [hstep, g3]
          simp
        ·by_cases hl0 : l = []
         ·subst hl0
          exact absurd (by simp) (g1 h (fun _ => rfl))
         ·refine .inr ⟨fun g hf hg => ?_, fun _ => by rw [hstep]; exact g2 hl0⟩
          have hgh := qf hl (hg a List.mem_cons_self).1;subst hgh
          exact g1 h (fun _ => rfl) fun s hs => hg s (List.mem_cons_of_mem _ hs)
     ·refine .inr ⟨fun g _ hg => hno g (hg a List.mem_cons_self).1, fun _ => ?_⟩
      rw [jd, if_pos];simp [hd]
   rcases loop t.kids (fun s hs => hs) 0 0 with ⟨h, h1, _, h3⟩ | ⟨h1, h2⟩
   ·rw [if_neg (by rw [hk]; simp)] at h3
    refine .inl ⟨h + 1, .inr ⟨by rw [hk]; simp, h1⟩, ?_⟩;have hc : c ∈ t.kids := by rw [hk]; exact List.mem_cons_self
    have hcb := FU (h1 c hc).1;obtain ⟨i, hi⟩ := List.getElem?_of_mem hc;have := PT.gH hi;rw [he, h3, wL, qg, hk, gP (by omega) (by omega)];simp
   ·refine .inr ⟨fun g hg => ?_, by rw [he, h2 (by rw [hk]; simp)]; rfl⟩
    cases g with
    | zero => exact hg.elim
    | succ g =>
     rcases hg with ⟨hg, _⟩ | ⟨_, hg⟩
     ·rw [hk] at hg; cases hg
     ·exact h1 g (fun h => by omega) hg
end Go.Proofs.Ytoddejmlcnbdmaa.Pure
namespace Go.Proofs.Ytoddejmlcnbdmaa.Tree
def gy (t : PT) (j : Nat) : PT := t.kids.getD j (.mk [] [] [])
def bq (l : List ByteArray) (j : Nat) : ByteArray := l.getD j ByteArray.empty
def TQ (t : PT) (i : Nat) (s : PT) : PT := .mk t.keys t.vals (t.kids.set i s)
def uf (l : PT) : PT := .mk (l.keys.take (l.keys.length - 1)) (l.vals.take (l.keys.length - 1)) (l.kids.take l.keys.length)
def ug (l r : PT) (x y : ByteArray) : PT := .mk (aI r.keys 0 x) (aI r.vals 0 y) (if l.kids.length = 0 then r.kids else aI r.kids 0 (gy l l.keys.length))
def rU (l r : PT) (x y : ByteArray) : PT := .mk (l.keys ++ [x]) (l.vals ++ [y]) (if r.kids.length = 0 then l.kids else l.kids ++ [gy r 0])
def uh (r : PT) : PT := .mk (r.keys.drop 1) (r.vals.drop 1) (r.kids.drop 1)
def zy (l r : PT) (x y : ByteArray) : PT := .mk (l.keys ++ x :: r.keys) (l.vals ++ y :: r.vals) (l.kids ++ r.kids)
def BK (t : PT) (j : Nat) : PT :=
 .mk (t.keys.set j (bq (gy t j).keys ((gy t j).keys.length - 1))) (t.vals.set j (bq (gy t j).vals ((gy t j).keys.length - 1)))
  (t.kids.take j ++ uf (gy t j) :: ug (gy t j) (gy t (j + 1)) (bq t.keys j) (bq t.vals j) :: t.kids.drop (j + 2))
def BL (t : PT) (j : Nat) : PT :=
 .mk (t.keys.set j (bq (gy t (j + 1)).keys 0)) (t.vals.set j (bq (gy t (j + 1)).vals 0))
  (t.kids.take j ++ rU (gy t j) (gy t (j + 1)) (bq t.keys j) (bq t.vals j) :: uh (gy t (j + 1)) :: t.kids.drop (j + 2))
def wy (t : PT) (j : Nat) : PT :=
 .mk (t.keys.eraseIdx j) (t.vals.eraseIdx j) (t.kids.take j ++ zy (gy t j) (gy t (j + 1)) (bq t.keys j) (bq t.vals j) :: t.kids.drop (j + 2))
def Ik (t : PT) (i : Nat) : PT :=
 if 0 < i /\ 2 < (gy t (i - 1)).keys.length then BK t (i - 1)
 else if i < t.keys.length /\ 2 < (gy t (i + 1)).keys.length then BL t i
 else if i < t.keys.length then wy t i else wy t (i - 1)
def tu (t : PT) (i : Nat) : PT := if (gy t i).keys.length < 2 then Ik t i else t
def jC : Nat -> PT -> PT
 | 0, t => t
 | n + 1, t => if t.kids.length = 0 then t else jC n (gy t (t.kids.length - 1))
def kT (n : Nat) (t : PT) : ByteArray := bq (jC n t).keys ((jC n t).keys.length - 1)
def oW (n : Nat) (t : PT) : ByteArray := bq (jC n t).vals ((jC n t).keys.length - 1)
def mP : Nat -> PT -> ByteArray -> Option PT
 | 0, _, _ => none
 | n + 1, t, key =>
  if t.kids.length = 0 then (if dG key t.keys < t.keys.length then some (.mk (t.keys.eraseIdx (dG key t.keys)) (t.vals.eraseIdx (dG key t.keys)) t.kids) else none)
  else if jg t.keys (dG key t.keys) key = true then
   (mP n (gy t (dG key t.keys)) (kT n (gy t (dG key t.keys)))).map fun s =>
    tu (.mk (t.keys.set (dG key t.keys) (kT n (gy t (dG key t.keys)))) (t.vals.set (dG key t.keys) (oW n (gy t (dG key t.keys)))) (t.kids.set (dG key t.keys) s)) (dG key t.keys)
  else (mP n (gy t (dG key t.keys)) key).map fun s => tu (TQ t (dG key t.keys) s) (dG key t.keys)
def uF : Nat -> PT -> PT
 | 0, t => t
 | n + 1, t => if t.kids.length = 0 then .mk (t.keys.eraseIdx (t.keys.length - 1)) (t.vals.eraseIdx (t.keys.length - 1)) t.kids
  else tu (TQ t (t.kids.length - 1) (uF n (gy t (t.kids.length - 1)))) (t.kids.length - 1)
def wz : Nat -> PT -> ByteArray -> Option PT
 | 0, _, _ => none
 | n + 1, t, key =>
  if jg t.keys (dG key t.keys) key = true then
   (if t.kids.length = 0 then some (.mk (t.keys.eraseIdx (dG key t.keys)) (t.vals.eraseIdx (dG key t.keys)) t.kids)
       else some (tu (.mk (t.keys.set (dG key t.keys) (kT n (gy t (dG key t.keys)))) (t.vals.set (dG key t.keys) (oW n (gy t (dG key t.keys)))) (t.kids.set (dG key t.keys) (uF n (gy t (dG key t.keys))))) (dG key t.keys)))
  else if t.kids.length = 0 then none
  else (wz n (gy t (dG key t.keys)) key).map fun s => tu (TQ t (dG key t.keys) s) (dG key t.keys)
def pz (t : PT) (key val : ByteArray) : PT := if 4 < (lT t.big t key val).keys.length then splitK (.mk [] [] [lT t.big t key val]) (lT t.big t key val) 0 else lT t.big t key val
def lq (t : PT) : PT := if t.keys.length = 0 /\ t.kids.length ≠ 0 then gy t 0 else t
end Go.Proofs.Ytoddejmlcnbdmaa.Tree
namespace Go.Proofs.Ytoddejmlcnbdmaa.Pure
theorem uG {α β : Type} (l : List α) (m : List β) (n : Nat) : (l.zip m).take n = (l.take n).zip (m.take n) := by simp [List.zip, List.take_zipWith]
theorem uH {α β : Type} (l : List α) (m : List β) (n : Nat) : (l.zip m).drop n = (l.drop n).zip (m.drop n) := by simp [List.zip, List.drop_zipWith]
theorem rV {α : Type} {l : List α} {i : Nat} {x : α} (h : l[i]? = some x) : l = l.take i ++ x :: l.drop (i + 1) := by rw [<- fO h, List.take_append_drop]
theorem p8 {α : Type} {l : List α} {i : Nat} (y : α) (h : i < l.length) : l.set i y = l.take i ++ y :: l.drop (i + 1) := by rw [List.set_eq_take_append_cons_drop, if_pos h]
theorem FV {l m : List ByteArray} {i : Nat} (a b : ByteArray) (h : i < l.length) (hm : m.length = l.length) : (l.set i a).zip (m.set i b) = (l.zip m).take i ++ (a, b) :: (l.zip m).drop (i + 1) := by
 rw [p8 a h, p8 b (by omega), List.zip_append (by rw [List.length_take, List.length_take, hm]), List.zip_cons_cons, uG, uH]
theorem Ew {l m : List ByteArray} {i : Nat} (hm : m.length = l.length) : (l.eraseIdx i).zip (m.eraseIdx i) = (l.zip m).take i ++ (l.zip m).drop (i + 1) := by
 rw [List.eraseIdx_eq_take_drop_succ, List.eraseIdx_eq_take_drop_succ, List.zip_append (by rw [List.length_take, List.length_take, hm]), uG, uH]
theorem LU {l m : List ByteArray} {i : Nat} (a b : ByteArray) (hm : m.length = l.length) : (aI l i a).zip (aI m i b) = (l.zip m).take i ++ (a, b) :: (l.zip m).drop i := by
 unfold aI;rw [List.zip_append (by rw [List.length_take, List.length_take, hm]), List.zip_cons_cons, uG, uH]
theorem pQ {l : List ByteArray} {i : Nat} (h : i < l.length) : l[i]? = some (bq l i) := by
 unfold bq;rw [List.getD_eq_getElem?_getD, List.getElem?_eq_getElem h];rfl
theorem rf {l m : List ByteArray} {i : Nat} (h : i < l.length) (hm : m.length = l.length) : l.zip m = (l.zip m).take i ++ (bq l i, bq m i) :: (l.zip m).drop (i + 1) :=
 rV (List.getElem?_zip_eq_some.2 ⟨pQ h, pQ (by omega)⟩)
theorem vE {l m : List ByteArray} (hm : m.length = l.length) : (l.zip m).length = l.length := by rw [List.length_zip]; omega
theorem Ex {t : PT} (h : H8 t) (h5 : t.keys.length = 5) :
  aX t = aX (.mk (t.keys.take 2) (t.vals.take 2) (t.kids.take 3)) ++ (bq t.keys 2, bq t.vals 2) :: aX (.mk (t.keys.drop 3) (t.vals.drop 3) (t.kids.drop 3)) := by
 have hs : om t := Ii h;obtain ⟨⟨h1, h2, h3⟩, h4⟩ := h
 cases t with | mk ks vs cs =>
 simp only [PT.keys, PT.vals, PT.kids] at h1 h2 h3 h4 h5 ⊢
 have l : om (.mk (ks.take 2) (vs.take 2) (cs.take 3)) := by
  refine om.mk' ⟨?_, ?_, ?_⟩ fun i s hi => bA (h4 s (List.mem_of_mem_take (List.mem_of_getElem? hi)))
  ·simp only [PT.keys, PT.vals, List.length_take]; omega
  ·simp only [PT.keys, List.length_take]; omega
  ·simp only [PT.keys, PT.kids, List.length_take]; omega
 have r : om (.mk (ks.drop 3) (vs.drop 3) (cs.drop 3)) := by
  refine om.mk' ⟨?_, ?_, ?_⟩ fun i s hi => bA (h4 s (List.mem_of_mem_drop (List.mem_of_getElem? hi)))
  ·simp only [PT.keys, PT.vals, List.length_drop]; omega
  ·simp only [PT.keys, List.length_drop]; omega
  ·simp only [PT.keys, PT.kids, List.length_drop]; omega
 rw [dV hs, dV l, dV r];unfold bI;simp only [PT.keys, PT.vals, PT.kids];rw [<- uG, <- uH];have e := rf (l := ks) (m := vs) (i := 2) (by omega) h1
 conv => lhs; rw [e]
 rw [List.map_take, List.map_drop]
 rcases h3 with h0 | h0
 ·have : cs = [] := List.length_eq_zero_iff.1 h0
  rw [this];simp only [List.map_nil, List.take_nil, List.drop_nil, nQ]
 ·conv => lhs; rw [<- List.take_append_drop 3 (cs.map aX)]
  refine oH _ _ _ _ _ ?_;rw [List.length_take, List.length_take, List.length_map, vE h1];omega
theorem TR {a b c : ByteArray} (h : qZ a b) (e : (b.toList == c.toList) = true) : qZ a c := by
 unfold qZ at h ⊢;rw [<- eq_of_beq e];exact h
theorem LV : ∀ (n : Nat) (t : PT) (key val : ByteArray), t.big <= n -> kV t -> kK (aX t) -> aX (lT n t key val) = fD key val (aX t)
 | 0, t, key, val, hb, _, _ => absurd t.fB (by omega)
 | n + 1, t, key, val, hb, hbd, hs => by
  obtain ⟨⟨h1, h2, h3⟩, h4⟩ := bJ.1 hbd;have Qx := bA hbd;have hsk : DC t.keys := oG ((ku Qx).2 hs);have hle := lS key t.keys;have hr := Ii (mY (n + 1) t key val hbd);have hlen := rT h1;have hah := qJ (key := key) h1;rw [lT] at hr ⊢;generalize hi : dG key t.keys = i at hr hle hah ⊢
  by_cases hb0 : jg t.keys i key = true
  ·rw [if_pos hb0] at hr ⊢
   have hlt := jQ hb0;rw [dV hr, dV Qx];rw [dV Qx] at hs;have ek := pQ hlt;have e1 : bI t = (bI t).take i ++ (bq t.keys i, bq t.vals i) :: (bI t).drop (i + 1) := rf hlt h1
   have e2 : bI (.mk t.keys (t.vals.set i val) t.kids) = (bI t).take i ++ (bq t.keys i, val) :: (bI t).drop (i + 1) := by
    show t.keys.zip (t.vals.set i val) = _
    have : t.keys = t.keys.set i (bq t.keys i) := by
     rw [p8 _ hlt];exact rV ek
    conv => lhs; rw [this]
    exact FV _ _ hlt h1
   obtain ⟨A, B, Yp⟩ := wU (t.kids.map aX) ((bI t).take i) ((bI t).drop (i + 1)) (by
    rw [List.length_take, List.length_map, hlen]
    rcases h3 with h | h
    ·exact .inl (by rw [List.length_eq_zero_iff.1 h]; rfl)
    ·right; omega)
   have hk : ((bq t.keys i).toList == key.toList) = true := by
    unfold jg at hb0;rw [ek] at hb0;exact hb0
   have hW : bN (t.kids.map aX) (bI t) = A ++ (bq t.keys i, bq t.vals i) :: B := by
    rw [e1];exact Yp _
   rw [e2, hW];rw [hW] at hs;show bN (t.kids.map aX) _ = _;rw [Yp, xQ (fun x hx => TR ((List.pairwise_append.1 hs).2.2 x hx _ List.mem_cons_self) hk), O1 hk]
  ·rw [if_neg hb0] at hr ⊢
   have hb0' : jg t.keys i key = false := by cases h : jg t.keys i key <;> simp_all
   have hbe : ∀ x ∈ (bI t).drop i, qZ key x.1 := by
    have := pO (t := t) (key := key) hsk (by rw [hi]; exact hb0');rw [hi] at this;exact this
   by_cases h0 : t.kids.length = 0
   ·rw [if_pos h0] at hr ⊢
    have hk : t.kids = [] := List.length_eq_zero_iff.1 h0;rw [dV hr, dV Qx];show bN (t.kids.map aX) ((aI t.keys i key).zip (aI t.vals i val)) = _;rw [LU _ _ h1, hk, List.map_nil, nQ, nQ];show (bI t).take i ++ (key, val) :: (bI t).drop i = fD key val (bI t)
    conv => rhs; rw [<- List.take_append_drop i (bI t)]
    rw [xQ hah, Et hbe]
   ·rw [if_neg h0] at hr ⊢
    have hkl : t.kids.length = t.keys.length + 1 := h3.resolve_left h0;have hx : t.kids[i]? = some t.kids[i] := List.getElem?_eq_getElem (by omega);generalize t.kids[i] = s at hx;rw [hx] at hr ⊢;simp only at hr ⊢;have Db : (t.kids.take i).length = ((bI t).take i).length := by rw [List.length_take, List.length_take, hlen]; omega
    have e0 : aX t = rR ((t.kids.take i).map aX) ((bI t).take i) ++ (aX s ++ tailW ((t.kids.drop (i + 1)).map aX) ((bI t).drop i)) := by
     rw [dV Qx]
     conv => lhs; rw [rV hx, <- List.take_append_drop i (bI t)]
     exact tq Db
    have hsb : kV s := h4 s (List.mem_of_getElem? hx)
    have hss : kK (aX s) := by
     rw [e0] at hs;exact (List.pairwise_append.1 (List.pairwise_append.1 hs).2.1).1
    have ih := LV n s key val (by have := PT.gH hx; omega) hsb hss;have hpre := O3 (P := (t.kids.take i).map aX) (I := (bI t).take i) (key := key) (by rw [List.length_map]; exact Db) (by rw [e0] at hs; exact hs) hah;have zL := LQ (Q := (t.kids.drop (i + 1)).map aX) (J := (bI t).drop i) (L := rR ((t.kids.take i).map aX) ((bI t).take i) ++ aX s) (key := key) (by rw [e0] at hs; rw [List.append_assoc]; exact hs) hbe
    have e3 : fD key val (aX t) = rR ((t.kids.take i).map aX) ((bI t).take i) ++ (aX (lT n s key val) ++ tailW ((t.kids.drop (i + 1)).map aX) ((bI t).drop i)) := by
     rw [e0, xQ hpre, Ij zL, ih]
    rw [e3];have h5 := mY n s key val hsb
    by_cases h4' : 4 < (lT n s key val).keys.length
    ·rw [if_pos h4'] at hr ⊢
     rw [dV hr, Ex h5 (by have := h5.1.2.1; omega)];show bN ((aI (t.kids.set i _) (i + 1) _).map aX) ((aI t.keys i _).zip (aI t.vals i _)) = _;rw [LJ hx, LU _ _ h1];refine (xO (by rw [List.length_take, List.length_take, vE h1]; omega)).trans ?_;rw [List.append_assoc, List.cons_append];rfl
    ·rw [if_neg h4'] at hr ⊢
     rw [dV hr];show bN ((t.kids.set i _).map aX) (t.keys.zip t.vals) = _;rw [p8 _ (by omega)]
     conv => lhs; rw [<- List.take_append_drop i (t.keys.zip t.vals)]
     exact tq (by rw [List.length_take, List.length_take, vE h1]; omega)
theorem Il {h : Nat} {t r : PT} (e : r.kids = t.kids) (hl : q9 h t) : q9 h r := by
 cases h with
 | zero => exact hl.elim
 | succ h =>
  unfold q9 at hl ⊢;rw [e];exact hl
theorem LW : ∀ (n : Nat) (t : PT) (key val : ByteArray) (h : Nat), t.big <= n -> kV t -> q9 h t -> q9 h (lT n t key val) /\ t.keys.length <= (lT n t key val).keys.length
 | 0, t, key, val, h, hb, _, _ => absurd t.fB (by omega)
 | n + 1, t, key, val, h, hb, hbd, hl => by
  obtain ⟨⟨h1, h2, h3⟩, h4⟩ := bJ.1 hbd;have hle := lS key t.keys;rw [lT];generalize dG key t.keys = i at hle ⊢
  split
  ·exact ⟨Il (t := t) rfl hl, Nat.le_refl _⟩
  ·split
   ·refine ⟨Il (t := t) rfl hl, ?_⟩
    show t.keys.length <= (aI _ _ _).length;rw [gu _ hle];omega
   ·rename_i h0
    have hkl : t.kids.length = t.keys.length + 1 := h3.resolve_left h0;have hx : t.kids[i]? = some t.kids[i] := List.getElem?_eq_getElem (by omega);generalize t.kids[i] = s at hx;rw [hx];simp only
    cases h with
    | zero => exact hl.elim
    | succ h =>
    have hks : ∀ s ∈ t.kids, q9 h s /\ 2 <= s.keys.length := by
     rcases hl with ⟨a, _⟩ | ⟨_, a⟩
     ·rw [a] at h0
      exact absurd rfl h0
     ·exact a
    have hsb : kV s := h4 s (List.mem_of_getElem? hx);obtain ⟨i1, i2⟩ := LW n s key val h (by have := PT.gH hx; omega) hsb (hks s (List.mem_of_getElem? hx)).1;have hs2 := (hks s (List.mem_of_getElem? hx)).2;have h5 := mY n s key val hsb
    split
    ·rename_i hg
     refine ⟨.inr ⟨?_, ?_⟩, ?_⟩
     ·intro e
      have : (aI (t.kids.set i _) (i + 1) _).length = 0 := congrArg List.length e;rw [gu _ (by rw [List.length_set]; omega)] at this;omega
     ·intro c hc
      have hc : c ∈ aI (t.kids.set i _) (i + 1) _ := hc
      have hl3 : ∀ (k v : List ByteArray) (b : Bool), q9 h (.mk k v (if b then (lT n s key val).kids.take 3 else (lT n s key val).kids.drop 3)) := by
       intro k v b
       cases h with
       | zero => exact i1.elim
       | succ h =>
        rcases i1 with ⟨a, a'⟩ | ⟨a, a'⟩
        ·refine .inl ⟨?_, a'⟩
         show (if b then _ else _) = [];rw [a]
         cases b <;> rfl
        ·have hl6 := h5.1.2.2.resolve_left (fun e => a (List.length_eq_zero_iff.1 e))
         refine .inr ⟨?_, fun c hc => a' c ?_⟩
         ·intro e
          have e' : (if b then (lT n s key val).kids.take 3 else (lT n s key val).kids.drop 3).length = 0 := congrArg List.length e
          cases b
          ·simp only [Bool.false_eq_true, if_false, List.length_drop] at e'; omega
          ·simp only [if_true, List.length_take] at e'; omega
         ·cases b
          ·exact List.mem_of_mem_drop hc
          ·exact List.mem_of_mem_take hc
      rcases Ej hc with rfl | hc
      ·exact ⟨hl3 _ _ false, by show 2 <= (List.drop 3 _).length; rw [List.length_drop]; omega⟩
      ·rcases List.mem_or_eq_of_mem_set hc with hc | rfl
       ·exact hks c hc
       ·exact ⟨hl3 _ _ true, by show 2 <= (List.take 2 _).length; rw [List.length_take]; omega⟩
     ·show t.keys.length <= (aI _ _ _).length
      rw [gu _ hle];omega
    ·refine ⟨.inr ⟨?_, ?_⟩, Nat.le_refl _⟩
     ·intro e
      have : (t.kids.set i (lT n s key val)).length = 0 := congrArg List.length e;rw [List.length_set] at this;omega
     ·intro c hc
      rcases List.mem_or_eq_of_mem_set hc with hc | rfl
      ·exact hks c hc
      ·exact ⟨i1, by omega⟩
theorem jU {h : Nat} {t : PT} (hb : kV t) (hl : q9 (h + 1) t) : (h = 0 /\ t.kids = []) \/ (h ≠ 0 /\ t.kids.length = t.keys.length + 1 /\ ∀ s ∈ t.kids, q9 h s /\ 2 <= s.keys.length) := by
 rcases hl with ⟨a, b⟩ | ⟨a, b⟩
 ·exact .inl ⟨b, a⟩
 ·have hk := (bJ.1 hb).1.2.2.resolve_left (fun e => a (List.length_eq_zero_iff.1 e))
  refine .inr ⟨?_, hk, b⟩;rintro rfl
  cases hc : t.kids with
  | nil => exact a hc
  | cons c cs => exact (b c (by rw [hc]; exact List.mem_cons_self)).1
theorem vF {t : PT} (h : t.kids = []) : q9 1 t := .inl ⟨h, rfl⟩
theorem oI {h : Nat} {t : PT} (h0 : h ≠ 0) (hk : 0 < t.kids.length) (ha : ∀ s ∈ t.kids, q9 h s /\ 2 <= s.keys.length) : q9 (h + 1) t :=
 .inr ⟨fun e => by rw [e] at hk; exact absurd hk (by decide), ha⟩
theorem iR {t : PT} (h : om t) (h0 : t.kids = []) : aX t = bI t := by rw [dV h, h0, List.map_nil, nQ]
theorem nR {k v : List ByteArray} {c : List PT} (h1 : v.length = k.length) (h2 : k.length <= 4) (h3 : c.length = 0 \/ c.length = k.length + 1) (h4 : ∀ s ∈ c, kV s) : kV (.mk k v c) := bJ.2 ⟨⟨h1, h2, h3⟩, h4⟩
theorem Im {l m : List ByteArray} (hm : m.length = l.length) (h0 : 0 < l.length) : l.zip m = (l.take (l.length - 1)).zip (m.take (l.length - 1)) ++ [(bq l (l.length - 1), bq m (l.length - 1))] := by
 have := rf (l := l) (m := m) (i := l.length - 1) (by omega) hm;rw [List.drop_eq_nil_of_le (by rw [vE hm]; omega), uG] at this;exact this
theorem M6 {l m : List ByteArray} (hm : m.length = l.length) (h0 : 0 < l.length) : l.zip m = (bq l 0, bq m 0) :: (l.drop 1).zip (m.drop 1) := by
 have := rf (l := l) (m := m) (i := 0) h0 hm;rw [List.take_zero, List.nil_append, uH] at this;exact this
structure qD (h : Nat) (t : PT) : Prop where
 b : kV t
 l : q9 h t
theorem M7 {h : Nat} {l r : PT} (hl : qD (h + 1) l) (hr : qD (h + 1) r) (h2 : 2 < l.keys.length) (hr4 : r.keys.length <= 3) (x y : ByteArray) :
  (qD (h + 1) (uf l) /\ 2 <= (uf l).keys.length) /\ (qD (h + 1) (ug l r x y) /\ (ug l r x y).keys.length = r.keys.length + 1) /\
   aX (uf l) ++ (bq l.keys (l.keys.length - 1), bq l.vals (l.keys.length - 1)) :: aX (ug l r x y) = aX l ++ (x, y) :: aX r := by
 obtain ⟨bl, ll⟩ := hl;obtain ⟨br, lr⟩ := hr;obtain ⟨⟨a1, a2, a3⟩, a4⟩ := bJ.1 bl;obtain ⟨⟨b1, b2, b3⟩, b4⟩ := bJ.1 br;have kl := jU bl ll;have kr := jU br lr;have sl := bA bl;have sr := bA br
 cases l with | mk lk lv lc =>
 cases r with | mk rk rv rc =>
 simp only [PT.keys, PT.vals, PT.kids] at a1 a2 a3 a4 b1 b2 b3 b4 kl kr h2 hr4;have zl := Im a1 (by omega)
 have ins : ∀ (k : List ByteArray) (z : ByteArray), aI k 0 z = z :: k := fun k z => rfl
 have WZ : (lk.take (lk.length - 1)).length = lk.length - 1 := by rw [List.length_take]; omega
 have YO : (lv.take (lk.length - 1)).length = lk.length - 1 := by rw [List.length_take]; omega
 rcases kl with ⟨rfl, rfl⟩ | ⟨h0, kl, la⟩
 ·rcases kr with ⟨_, rfl⟩ | ⟨h0, _⟩
  ·have e1 : uf (.mk lk lv []) = .mk (lk.take (lk.length - 1)) (lv.take (lk.length - 1)) [] := by simp [uf, PT.keys, PT.vals, PT.kids]
   have e2 : ug (.mk lk lv []) (.mk rk rv []) x y = .mk (x :: rk) (y :: rv) [] := by simp [ug, PT.keys, PT.vals, PT.kids, aI]
   have k1 : kV (.mk (lk.take (lk.length - 1)) (lv.take (lk.length - 1)) []) := nR (by omega) (by omega) (.inl rfl) (fun s hs => by cases hs);have k2 : kV (.mk (x :: rk) (y :: rv) []) := nR (by simp only [List.length_cons]; omega) (by simp only [List.length_cons]; omega) (.inl rfl) (fun s hs => by cases hs);rw [e1, e2];refine ⟨⟨⟨k1, vF rfl⟩, by show 2 <= (lk.take _).length; omega⟩, ⟨⟨k2, vF rfl⟩, rfl⟩, ?_⟩;rw [iR (bA k1) rfl, iR (bA k2) rfl, iR sl rfl, iR sr rfl];show (lk.take _).zip (lv.take _) ++ _ :: (x, y) :: rk.zip rv = lk.zip lv ++ (x, y) :: rk.zip rv;rw [zl, List.append_assoc];rfl
  ·exact absurd rfl h0
 ·rcases kr with ⟨e, _⟩ | ⟨_, kr, ra⟩
  ·exact absurd e h0
  ·obtain ⟨c, hc⟩ : ∃ c, lc[lk.length]? = some c := ⟨lc[lk.length]'(by omega), List.getElem?_eq_getElem (by omega)⟩
   have hcm := List.mem_of_getElem? hc;have hs := rV hc;rw [List.drop_eq_nil_of_le (by omega)] at hs;have e1 : uf (.mk lk lv lc) = .mk (lk.take (lk.length - 1)) (lv.take (lk.length - 1)) (lc.take lk.length) := rfl
   have e2 : ug (.mk lk lv lc) (.mk rk rv rc) x y = .mk (x :: rk) (y :: rv) (c :: rc) := by
    show PT.mk (aI rk 0 x) (aI rv 0 y) (if lc.length = 0 then rc else aI rc 0 (lc.getD lk.length _)) = _;rw [if_neg (by omega), List.getD_eq_getElem?_getD, hc];rfl
   have k1 : kV (.mk (lk.take (lk.length - 1)) (lv.take (lk.length - 1)) (lc.take lk.length)) := nR (by omega) (by omega) (.inr (by rw [List.length_take]; omega)) (fun s hs => a4 s (List.mem_of_mem_take hs))
   have k2 : kV (.mk (x :: rk) (y :: rv) (c :: rc)) := nR (by simp only [List.length_cons]; omega) (by simp only [List.length_cons]; omega) (.inr (by simp only [List.length_cons]; omega)) (fun s hs => by
    rcases List.mem_cons.1 hs with rfl | hs
    ·exact a4 s hcm
    ·exact b4 s hs)
   rw [e1, e2];refine ⟨⟨⟨k1, oI h0 (by show 0 < (lc.take _).length; rw [List.length_take]; omega) fun s hs => la s (List.mem_of_mem_take hs)⟩, by show 2 <= (lk.take _).length; omega⟩, ⟨⟨k2, oI h0 (Nat.succ_pos _) fun s hs => ?_⟩, rfl⟩, ?_⟩
   ·rcases List.mem_cons.1 hs with rfl | hs
    ·exact la s hcm
    ·exact ra s hs
   rw [dV (bA k1), dV (bA k2), dV sl, dV sr];show bN ((lc.take lk.length).map aX) ((lk.take _).zip (lv.take _)) ++ _ :: bN (aX c :: rc.map aX) ((x, y) :: rk.zip rv) = bN (lc.map aX) (lk.zip lv) ++ (x, y) :: bN (rc.map aX) (rk.zip rv);rw [zl]
   conv => rhs; rw [hs]
   rw [List.map_append, oH _ _ _ _ _ (by rw [List.length_map, List.length_take, List.length_zip]; omega), List.append_assoc];show _ ++ _ :: (aX c ++ _) = _ ++ (_ :: _ ++ _);rw [List.map_cons, List.map_nil, sZ (aX c) []];simp [tailW, PT.keys, PT.vals]
theorem M8 {h : Nat} {l r : PT} (hl : qD (h + 1) l) (hr : qD (h + 1) r) (h2 : 2 < r.keys.length) (hl4 : l.keys.length <= 3) (x y : ByteArray) :
  (qD (h + 1) (rU l r x y) /\ (rU l r x y).keys.length = l.keys.length + 1) /\ (qD (h + 1) (uh r) /\ 2 <= (uh r).keys.length) /\
   aX (rU l r x y) ++ (bq r.keys 0, bq r.vals 0) :: aX (uh r) = aX l ++ (x, y) :: aX r := by
 obtain ⟨bl, ll⟩ := hl;obtain ⟨br, lr⟩ := hr;obtain ⟨⟨a1, a2, a3⟩, a4⟩ := bJ.1 bl;obtain ⟨⟨b1, b2, b3⟩, b4⟩ := bJ.1 br;have kl := jU bl ll;have kr := jU br lr;have sl := bA bl;have sr := bA br
 cases l with | mk lk lv lc =>
 cases r with | mk rk rv rc =>
 simp only [PT.keys, PT.vals, PT.kids] at a1 a2 a3 a4 b1 b2 b3 b4 kl kr h2 hl4;have zr := M6 b1 (by omega);have zl : (lk ++ [x]).zip (lv ++ [y]) = lk.zip lv ++ [(x, y)] := List.zip_append (by omega)
 have NW : (lv ++ [y]).length = (lk ++ [x]).length /\ (lk ++ [x]).length = lk.length + 1 := ⟨by simp [a1], by simp⟩
 rcases kl with ⟨rfl, rfl⟩ | ⟨h0, kl, la⟩
 ·rcases kr with ⟨_, rfl⟩ | ⟨h0, _⟩
  ·have e1 : rU (.mk lk lv []) (.mk rk rv []) x y = .mk (lk ++ [x]) (lv ++ [y]) [] := by simp [rU, PT.keys, PT.vals, PT.kids]
   have e2 : uh (.mk rk rv []) = .mk (rk.drop 1) (rv.drop 1) [] := by simp [uh, PT.keys, PT.vals, PT.kids]
   have k1 : kV (.mk (lk ++ [x]) (lv ++ [y]) []) := nR NW.1 (by omega) (.inl rfl) (fun s hs => by cases hs);have k2 : kV (.mk (rk.drop 1) (rv.drop 1) []) := nR (by rw [List.length_drop, List.length_drop]; omega) (by rw [List.length_drop]; omega) (.inl rfl) (fun s hs => by cases hs);rw [e1, e2];refine ⟨⟨⟨k1, vF rfl⟩, NW.2⟩, ⟨⟨k2, vF rfl⟩, by show 2 <= (rk.drop 1).length; rw [List.length_drop]; omega⟩, ?_⟩;rw [iR (bA k1) rfl, iR (bA k2) rfl, iR sl rfl, iR sr rfl];show (lk ++ [x]).zip (lv ++ [y]) ++ _ :: (rk.drop 1).zip (rv.drop 1) = lk.zip lv ++ (x, y) :: rk.zip rv;rw [zl, zr, List.append_assoc];rfl
  ·exact absurd rfl h0
 ·rcases kr with ⟨e, _⟩ | ⟨_, kr, ra⟩
  ·exact absurd e h0
  ·cases rc with
   | nil => simp only [List.length_nil] at kr; omega
   | cons c rc =>
   simp only [List.length_cons] at kr;have e1 : rU (.mk lk lv lc) (.mk rk rv (c :: rc)) x y = .mk (lk ++ [x]) (lv ++ [y]) (lc ++ [c]) := by simp [rU, PT.keys, PT.vals, PT.kids, gy]
   have e2 : uh (.mk rk rv (c :: rc)) = .mk (rk.drop 1) (rv.drop 1) rc := rfl
   have k1 : kV (.mk (lk ++ [x]) (lv ++ [y]) (lc ++ [c])) := nR NW.1 (by omega) (.inr (by rw [List.length_append, NW.2]; simp only [List.length_cons, List.length_nil]; omega)) (fun s hs => by
    rcases List.mem_append.1 hs with hs | hs
    ·exact a4 s hs
    ·exact b4 s (by rw [List.mem_singleton.1 hs]; exact List.mem_cons_self))
   have k2 : kV (.mk (rk.drop 1) (rv.drop 1) rc) := nR (by rw [List.length_drop, List.length_drop]; omega) (by rw [List.length_drop]; omega) (.inr (by rw [List.length_drop]; omega)) (fun s hs => b4 s (List.mem_cons_of_mem _ hs));rw [e1, e2];refine ⟨⟨⟨k1, oI h0 (by show 0 < (lc ++ [c]).length; rw [List.length_append]; simp only [List.length_cons, List.length_nil]; omega) fun s hs => ?_⟩, NW.2⟩, ⟨⟨k2, oI h0 (by show 0 < rc.length; omega) fun s hs => ra s (List.mem_cons_of_mem _ hs)⟩, by show 2 <= (rk.drop 1).length; rw [List.length_drop]; omega⟩, ?_⟩
   ·rcases List.mem_append.1 hs with hs | hs
    ·exact la s hs
    ·exact ra s (by rw [List.mem_singleton.1 hs]; exact List.mem_cons_self)
   rw [dV (bA k1), dV (bA k2), dV sl, dV sr];show bN ((lc ++ [c]).map aX) ((lk ++ [x]).zip (lv ++ [y])) ++ _ :: bN (rc.map aX) ((rk.drop 1).zip (rv.drop 1)) = bN (lc.map aX) (lk.zip lv) ++ (x, y) :: bN (aX c :: rc.map aX) (rk.zip rv);rw [zl, zr, List.map_append, oH _ _ _ _ _ (by rw [List.length_map, List.length_zip]; omega), List.append_assoc];show _ ++ (_ :: _ ++ _ :: _) = _ ++ _ :: (aX c ++ _ :: _);rw [List.map_cons, List.map_nil, sZ (aX c) []];simp [tailW, PT.keys, PT.vals]
theorem Ey {h : Nat} {l r : PT} (hl : qD (h + 1) l) (hr : qD (h + 1) r) (h4 : l.keys.length + r.keys.length <= 3) (x y : ByteArray) :
  qD (h + 1) (zy l r x y) /\ (zy l r x y).keys.length = l.keys.length + r.keys.length + 1 /\ aX (zy l r x y) = aX l ++ (x, y) :: aX r := by
 obtain ⟨bl, ll⟩ := hl;obtain ⟨br, lr⟩ := hr;obtain ⟨⟨a1, a2, a3⟩, a4⟩ := bJ.1 bl;obtain ⟨⟨b1, b2, b3⟩, b4⟩ := bJ.1 br;have kl := jU bl ll;have kr := jU br lr;have sl := bA bl;have sr := bA br
 cases l with | mk lk lv lc =>
 cases r with | mk rk rv rc =>
 simp only [PT.keys, PT.vals, PT.kids] at a1 a2 a3 a4 b1 b2 b3 b4 kl kr h4;have e1 : zy (.mk lk lv lc) (.mk rk rv rc) x y = .mk (lk ++ x :: rk) (lv ++ y :: rv) (lc ++ rc) := rfl;have len : (lk ++ x :: rk).length = lk.length + rk.length + 1 /\ (lv ++ y :: rv).length = lk.length + rk.length + 1 := by simp only [List.length_append, List.length_cons]; omega
 have hz : (lk ++ x :: rk).zip (lv ++ y :: rv) = lk.zip lv ++ (x, y) :: rk.zip rv := by rw [List.zip_append (by omega), List.zip_cons_cons]
 have kb : kV (.mk (lk ++ x :: rk) (lv ++ y :: rv) (lc ++ rc)) := nR (by omega) (by omega) (by
  rw [List.length_append]
  rcases kl with ⟨rfl, rfl⟩ | ⟨h0, kl, la⟩ <;> rcases kr with ⟨hh, rfl⟩ | ⟨h0', kr, ra⟩
  ·exact .inl rfl
  ·exact absurd rfl h0'
  ·exact absurd hh h0
  ·right; omega) (fun s hs => by
  rcases List.mem_append.1 hs with hs | hs
  ·exact a4 s hs
  ·exact b4 s hs)
 rw [e1];refine ⟨⟨kb, ?_⟩, len.1, ?_⟩
 ·rcases kl with ⟨rfl, rfl⟩ | ⟨h0, kl, la⟩ <;> rcases kr with ⟨hh, rfl⟩ | ⟨h0', kr, ra⟩
  ·exact vF rfl
  ·exact absurd rfl h0'
  ·exact absurd hh h0
  ·refine oI h0 (by show 0 < (lc ++ rc).length; rw [List.length_append]; omega) fun s hs => ?_
   rcases List.mem_append.1 hs with hs | hs
   ·exact la s hs
   ·exact ra s hs
 ·rw [dV (bA kb), dV sl, dV sr]
  show bN ((lc ++ rc).map aX) ((lk ++ x :: rk).zip (lv ++ y :: rv)) = bN (lc.map aX) (lk.zip lv) ++ (x, y) :: bN (rc.map aX) (rk.zip rv);rw [hz, List.map_append]
  rcases kl with ⟨rfl, rfl⟩ | ⟨h0, kl, la⟩ <;> rcases kr with ⟨hh, rfl⟩ | ⟨h0', kr, ra⟩
  ·simp only [List.map_nil, List.nil_append, nQ]
  ·exact absurd rfl h0'
  ·exact absurd hh h0
  ·exact oH _ _ _ _ _ (by rw [List.length_map, List.length_zip]; omega)
end Go.Proofs.Ytoddejmlcnbdmaa.Pure
namespace Go.Proofs.Ytoddejmlcnbdmaa.Tree
def WR (w : World) (base T E : Nat) (t : NT) (L : List Ck) (r : PT) (e : Ending) (w' : World) : Prop :=
 e = .returned (.tuple #[]) /\ ∃ t' : NT, t'.p = t.p /\ t'.erase = r /\ Sat w' base (t'.dH T E ++ L) /\ Below base w w'
theorem J3 {w : World} {base : Nat} {A : Option Addr} {n c : Nat} {l : List ByteArray} {m : Nat} (h : SR w base (.slice A n c) l) (hm : m <= l.length) : Kd.C Kd.string w (if c = m then A else A.map (·.add (m * 1))) (l.drop m).length (l.drop m) := by
 obtain ⟨h1, h2, h3⟩ := Kd.dS h;exact Kd.J4 h3 hm (by omega)
theorem qK {w : World} {base g : Nat} {n c : Nat} {l : List ByteArray} {x : ByteArray} (h : SR w base (.slice (some ⟨g, 0, none⟩) n c) l) (hx : 3 <= l.length /\ l.getD 2 ByteArray.empty = x) : w.cell? ⟨g, 2, none⟩ = some (.string x) := by
 obtain ⟨h1, h2, h3⟩ := Kd.dS h;obtain ⟨Yq, e, hz⟩ := Kd.bH h3 2 (by omega) (by omega)
 injection e with e
 subst e;rw [<- hx.2];exact hz
theorem vG {l : List NT} {i : Nat} {p : Nat} {s : NT} (h : l[i]? = some s) (hp : s.p = p := by rfl) : (l.map NT.p).set i p = l.map NT.p := by
 refine List.ext_getElem? fun j => ?_
 rw [List.getElem?_set]
 by_cases hj : i = j
 ·subst hj
  have hl : i < l.length := (List.getElem?_eq_some_iff.1 h).1;rw [if_pos rfl, if_pos (by rw [List.length_map]; exact hl), List.getElem?_map, h, <- hp];rfl
 ·rw [if_neg hj]
theorem YP {w : World} {base E : Nat} {gs : List (List Ck)} {A : Option Addr} {n c m : Nat} {l : List NT} (h : aa w base gs) (i : Nat) (hi : gs[i]? = some [.jL E (.slice A n c) (ptrs l)]) (hm : m <= l.length) : Kd.C dZ w (if c = m then A else A.map (·.add (m * 1))) (n - m) ((l.drop m).map NT.p) := by
 obtain ⟨h1, h2, h3⟩ := aa.fH h i hi;subst h1;have h4 := Kd.J4 (c := c) (m := m) (xs := l.map NT.p) (k := dZ) (by rw [List.length_map]; exact h3) (by rw [List.length_map]; exact hm) (by rw [List.length_map]; exact h2);rw [<- List.map_drop, List.length_map, List.length_drop] at h4;exact h4
theorem dz {w : World} {base E : Nat} {v : Value} {l : List NT} (h : PQ E w base v (l.map NT.p)) : ∃ A c, v = .slice A l.length c /\ l.length <= c /\ dZ.C w A l.length (l.map NT.p) := by
 obtain ⟨A, c, e, h1, h2⟩ := Kd.LD h;rw [List.length_map] at e h1 h2;exact ⟨A, c, e, h1, h2⟩
theorem BM.calls (t k : NT) (i : Nat) (hk : t.kids[i]? = some k) (hk3 : 3 <= k.keys.length) (Zi : k.keys.length <= 1000) (Qy : k.vals.length = k.keys.length) (hkk : k.kids.length = 0 \/ 3 <= k.kids.length) (Sz : k.kids.length <= 1001) (hti : i <= t.keys.length) (Zj : t.keys.length <= 1000) (Fv : t.vals.length = t.keys.length) (htk : t.kids.length <= 1001)
  (base : Nat) (L : List Ck) (w : World) (hs : Sat w base (t.dH 96 70 ++ L)) (hbs : base <= w.heap.size) :
  Calls Try.prog 106 #[bu t.p, .int .i64 (i : Int)] w (WR w base 96 70 t L (splitK t.erase k.erase i)) := by
 have h0 := rO hk hs;clear hs
 obtain ⟨R, hR⟩ : ∃ R, R = splitK t.erase k.erase i := ⟨_, rfl⟩
 rw [<- hR];have HRR := A_ hR;clear hR
 cases t with | mk tp yC yD yE tks tvs aJ =>
 cases k with | mk kp kkv Yr Yt nX oN oU =>
 unfold xL at h0;simp only [NT.keys, NT.vals, NT.kids, NT.p, NT.kv, NT.vv, NT.cv] at hk hk3 Zi Qy hkk Sz hti Zj Fv htk h0 ⊢;obtain ⟨jF, fG, rfl⟩ := Kd.ak (h0.sr 1 rfl);obtain ⟨jK, fM, rfl⟩ := Kd.ak (h0.sr 2 rfl);obtain ⟨Xy, nG, rfl⟩ := Kd.ak (h0.sr 6 rfl);obtain ⟨Akv, nY, rfl⟩ := Kd.ak (h0.sr 7 rfl);obtain ⟨gk, _, ek, _, _, _⟩ := Kd.rq (h0.sr 6 rfl) (by omega);obtain ⟨gv, _, ev, _, _, _⟩ := Kd.rq (h0.sr 7 rfl) (by omega);obtain rfl : Xy = some ⟨gk, 0, none⟩ := by injection ek
 obtain rfl : Akv = some ⟨gv, 0, none⟩ := by injection ev
 clear ek ev;obtain ⟨qB, fK, rfl, hlc, hC⟩ := dz (h0.q 3 rfl);obtain ⟨qQ, qR, rfl, hlk, hCk⟩ := dz (h0.q 8 rfl)
 obtain ⟨GA, Qz⟩ : ∃ G, G = NT.aZ 96 70 (aJ.take i) := ⟨_, rfl⟩
 obtain ⟨GD, QA⟩ : ∃ G, G = NT.aZ 96 70 (aJ.drop (i + 1)) := ⟨_, rfl⟩
 rw [<- Qz, <- QA] at h0;have HS := A_ h0;have HB := A_ (Below.refl base w);have bQ := A_ hbs;have UU := A_ Qz;have UW := A_ QA;have rE := A_ hk;have HKK := A_ hkk;have hil : i < aJ.length := (List.getElem?_eq_some_iff.1 hk).1;obtain ⟨iB, rfl, Rf⟩ := wO hC (i : Int) (by omega) (by omega);rw [show bO 0 (aJ.map NT.p) (i : Int) = kp by unfold bO; rw [Int.toNat_natCast, List.getD_eq_getElem?_getD, List.getElem?_map, hk]; rfl, Int.toNat_natCast] at Rf;have hz2 := HS.out.z 0 rfl 2;have QB := bV (0 <= (i : Int));have QC := bV ((i : Int) < (aJ.length : Int));have Rh : (i < aJ.length) = True := eq_true hil;have hib : i <= 1000 := by omega
 clear h0 hbs Qz QA hk hC hCk hlk hlc hkk hil;go_enter Try.func106, Try.ntmps106
 go_upto_region 1 with fail
 obtain ⟨i0, hi0, _, hsz, _⟩ := info_parts dC
 obtain ⟨y1, hy1⟩ : ∃ y, y = nX.drop 3 := ⟨_, rfl⟩
 obtain ⟨y2, hy2⟩ : ∃ y, y = oN.drop 3 := ⟨_, rfl⟩
 have hl1 : y1.length = nX.length - 3 := by rw [hy1, List.length_drop]
 have hl2 : y2.length = oN.length - 3 := by rw [hy2, List.length_drop]
 have hcut1 := qh (P := Try.prog) 38 9 .i64 Try.underlying38 hi0 1 hsz (some ⟨gk, 0, none⟩) nX.length nG 3 (by omega) (by omega);have hcut2 := qh (P := Try.prog) 38 9 .i64 Try.underlying38 hi0 1 hsz (some ⟨gv, 0, none⟩) oN.length nY 3 (by omega) (by omega);simp only [show (3 : Int).toNat = 3 from rfl] at hcut1 hcut2
 obtain ⟨vX, UX⟩ : ∃ A : Option Addr, A = (if nG = 3 then (some ⟨gk, 0, none⟩ : Option Addr) else (some ⟨gk, 0, none⟩ : Option Addr).map (·.add (3 * 1))) := ⟨_, rfl⟩
 obtain ⟨Hf, UY⟩ : ∃ A : Option Addr, A = (if nY = 3 then (some ⟨gv, 0, none⟩ : Option Addr) else (some ⟨gv, 0, none⟩ : Option Addr).map (·.add (3 * 1))) := ⟨_, rfl⟩
 obtain ⟨c18, hc18⟩ : ∃ c, c = nG - 3 := ⟨_, rfl⟩
 obtain ⟨Ae, hc25⟩ : ∃ c, c = nY - 3 := ⟨_, rfl⟩
 rw [<- UX, <- hc18, <- hl1] at hcut1;rw [<- UY, <- hc25, <- hl2] at hcut2;have UZ := A_ UX;have HA25 := A_ UY;have Xz := A_ hy1;have Zk := A_ hy2;have Yu := A_ (show y1.length <= 1000 /\ y2.length <= 1000 by omega);have HKV := A_ Qy;have Zl := A_ Fv;have hk3v : 3 <= oN.length := by omega
 have hkmv : oN.length <= 1000 := by omega
 have htmv : tvs.length <= 1000 := by omega
 clear UX UY hc18 hc25 hl1 hl2 hy1 hy2 hi0 hsz Rf hz2 Qy Fv;refine bS (n := 17) (S := fun w' => w'.cell? ⟨kp, 0, none⟩ = some (.slice (some ⟨gk, 0, none⟩) nX.length nG) /\ w'.cell? ⟨kp, 1, none⟩ = some (.slice (some ⟨gv, 0, none⟩) oN.length nY)) (ds := []) (bt 17 0) (by kernel_rfl) rfl rfl ⟨(aa.z (aa.drew HS.out) 5 rfl 0), (aa.z (aa.drew HS.out) 5 rfl 1)⟩ (fun hHeld => ?_);refine aH 1 14 2 ?_;refine aH 2 15 6 ?_;refine aH 3 16 14 ?_;refine aH 8 21 270 ?_;refine aH 9 22 782 ?_;refine aH 10 23 1806 ?_;refine fq 4 17 1822 hHeld ?_;refine aH 5 18 1854 ?_;refine fq 11 24 3902 hHeld ?_;refine aH 12 25 7998 ?_;refine gQ (σ := Value × Value × Value) 4 (bt 17 8191) (fun z => [(13, z.1), (19, z.2.1), (20, z.2.2)]) (fun z w' => Below base w w' /\ aa w' base [jM 96 tp jF tks.length fG jK tvs.length fM (some iB) aJ.length fK, gK jF fG tks, gK jK fM tvs, lX 70 (some iB) fK aJ, GA, jM 96 kp (iX gk) nX.length nG (iX gv) oN.length nY qQ oU.length qR, gK (iX gk) nG nX, gK (iX gv) nY oN, lX 70 qQ qR oU, (NT.aZ 96 70 oU), GD, L, [txt z.2.1 ([] ++ y1)], [txt z.2.2 []]]) ?_ ?_;rotate_left
 ·intro iE
  refine ve 0 7 (some 13) (some 20) 7999 8126 (fun K hK => ?_) (fun K hK => ?_)
  ·skip
   refine xy Kd.string 9 13 ([] : List ByteArray) [] (gm.none _ _) (aG HB.out) (cO bQ HB) ?_;intro vb1 NJ dx hbb hgb hnb;have lV := A_ hbb;have lN := A_ (aa.lit (aa.drew HS.out) dx hgb hnb);obtain ⟨gL, gM, rfl⟩ : ∃ A c, vb1 = .slice A 0 c := Kd.ak dx;clear dx hbb hgb hnb;refine dh 13 hK ⟨(aa.z lN.out 5 rfl 0), (aa.z lN.out 5 rfl 1)⟩ (fun hHeld => ?_);refine ve 6 7 (some 19) (some 20) 8063 8127 (fun K hK => ?_) (fun K hK => ?_)
   ·skip
    refine Kd.aM Kd.string (w0 := w) base (by rfl) (.tmp 13) (.tmp 18) 38 9 (.string ⟨#[]⟩) 16 rfl Try.underlying38 dC rfl (by decide) (by omega) (.slice gL 0 gM) [] y1 vX y1.length c18 (fun _ => True) (fun _ => False) rfl rfl (aa.sr lN.out 12 rfl) (by rw [UZ.out, Xz.out]; exact J3 (aa.sr lN.out 6 rfl) (by omega)) (fun _ _ h => h) (fun _ h => h.elim) (fun _ _ => trivial) lV.out (cO bQ lV) (by have := Yu.out; (try simp only [List.length_nil]); omega) ?_;intro u1 DT ho hb hg hat;have jD := A_ hb;have iA := A_ (aa.app 12 lN.out rfl ho hg hat);clear ho hb hg hat;refine dh 19 hK ⟨(aa.z iA.out 5 rfl 0), (aa.z iA.out 5 rfl 1)⟩ (fun hHeld => ?_);refine gG 7 (some 20) 8191 (fun K hK => ?_);refine xy Kd.string 9 20 ([] : List ByteArray) [] (gm.none _ _) jD.out (cO bQ jD) ?_;intro pX AZ dx hbb hgb hnb;have kD := A_ hbb;have iw := A_ (aa.lit iA.out dx hgb hnb);obtain ⟨fQ, fT, rfl⟩ : ∃ A c, pX = .slice A 0 c := Kd.ak dx;clear dx hbb hgb hnb;refine dh 20 hK ⟨(aa.z iw.out 5 rfl 0), (aa.z iw.out 5 rfl 1)⟩ (fun hHeld => ?_);exact yA (iE ⟨.slice gL 0 gM, u1, .slice fQ 0 fT⟩ _ ⟨kD.out, aa.gJ iw.out [0, 1, 2, 3, 4, 5, 6, 7, 8, 9, 10, 11, 12, 13] (by decide)⟩)
   ·skip
    refine xy Kd.string 9 20 ([] : List ByteArray) [] (gm.none _ _) lV.out (cO bQ lV) ?_;intro pX DT dx hbb hgb hnb;have jD := A_ hbb;have iA := A_ (aa.lit lN.out dx hgb hnb);obtain ⟨fQ, fT, rfl⟩ : ∃ A c, pX = .slice A 0 c := Kd.ak dx;clear dx hbb hgb hnb;refine dh 20 hK ⟨(aa.z iA.out 5 rfl 0), (aa.z iA.out 5 rfl 1)⟩ (fun hHeld => ?_);refine gG 6 (some 19) 8191 (fun K hK => ?_);refine Kd.aM Kd.string (w0 := w) base (by rfl) (.tmp 13) (.tmp 18) 38 9 (.string ⟨#[]⟩) 16 rfl Try.underlying38 dC rfl (by decide) (by omega) (.slice gL 0 gM) [] y1 vX y1.length c18 (fun _ => True) (fun _ => False) rfl rfl (aa.sr iA.out 12 rfl) (by rw [UZ.out, Xz.out]; exact J3 (aa.sr iA.out 6 rfl) (by omega)) (fun _ _ h => h) (fun _ h => h.elim) (fun _ _ => trivial) jD.out (cO bQ jD) (by have := Yu.out; (try simp only [List.length_nil]); omega) ?_;intro u1 AZ ho hb hg hat;have kD := A_ hb;have iw := A_ (aa.app 12 iA.out rfl ho hg hat);clear ho hb hg hat;refine dh 19 hK ⟨(aa.z iw.out 5 rfl 0), (aa.z iw.out 5 rfl 1)⟩ (fun hHeld => ?_);exact yA (iE ⟨.slice gL 0 gM, u1, .slice fQ 0 fT⟩ _ ⟨kD.out, aa.gJ iw.out [0, 1, 2, 3, 4, 5, 6, 7, 8, 9, 10, 11, 12, 13] (by decide)⟩)
  ·skip
   refine xy Kd.string 9 20 ([] : List ByteArray) [] (gm.none _ _) (aG HB.out) (cO bQ HB) ?_;intro pX NJ dx hbb hgb hnb;have lV := A_ hbb;have lN := A_ (aa.lit (aa.drew HS.out) dx hgb hnb);obtain ⟨fQ, fT, rfl⟩ : ∃ A c, pX = .slice A 0 c := Kd.ak dx;clear dx hbb hgb hnb;refine dh 20 hK ⟨(aa.z lN.out 5 rfl 0), (aa.z lN.out 5 rfl 1)⟩ (fun hHeld => ?_);refine gG 0 (some 13) 8127 (fun K hK => ?_);refine xy Kd.string 9 13 ([] : List ByteArray) [] (gm.none _ _) lV.out (cO bQ lV) ?_;intro vb1 DT dx hbb hgb hnb;have jD := A_ hbb;have iA := A_ (aa.lit lN.out dx hgb hnb);obtain ⟨gL, gM, rfl⟩ : ∃ A c, vb1 = .slice A 0 c := Kd.ak dx;clear dx hbb hgb hnb;refine dh 13 hK ⟨(aa.z iA.out 5 rfl 0), (aa.z iA.out 5 rfl 1)⟩ (fun hHeld => ?_);refine gG 6 (some 19) 8191 (fun K hK => ?_);refine Kd.aM Kd.string (w0 := w) base (by rfl) (.tmp 13) (.tmp 18) 38 9 (.string ⟨#[]⟩) 16 rfl Try.underlying38 dC rfl (by decide) (by omega) (.slice gL 0 gM) [] y1 vX y1.length c18 (fun _ => True) (fun _ => False) rfl rfl (aa.sr iA.out 13 rfl) (by rw [UZ.out, Xz.out]; exact J3 (aa.sr iA.out 6 rfl) (by omega)) (fun _ _ h => h) (fun _ h => h.elim) (fun _ _ => trivial) jD.out (cO bQ jD) (by have := Yu.out; (try simp only [List.length_nil]); omega) ?_;intro u1 AZ ho hb hg hat;have kD := A_ hb;have iw := A_ (aa.app 13 iA.out rfl ho hg hat);clear ho hb hg hat;refine dh 19 hK ⟨(aa.z iw.out 5 rfl 0), (aa.z iw.out 5 rfl 1)⟩ (fun hHeld => ?_);exact yA (iE ⟨.slice gL 0 gM, u1, .slice fQ 0 fT⟩ _ ⟨kD.out, aa.gJ iw.out [0, 1, 2, 3, 4, 5, 6, 7, 8, 9, 10, 11, 13, 12] (by decide)⟩)
 rintro ⟨vb1, u1, pX⟩ w8 ⟨hb, hs⟩;obtain ⟨fQ, fT, rfl⟩ : ∃ A c, pX = .slice A 0 c := Kd.ak (aa.sr hs 13 rfl)
 have hHeld : (w8.cell? ⟨kp, 0, none⟩ = some (.slice (some ⟨gk, 0, none⟩) nX.length nG)) /\ (w8.cell? ⟨kp, 1, none⟩ = some (.slice (some ⟨gv, 0, none⟩) oN.length nY)) := ⟨aa.z hs 5 rfl 0, aa.z hs 5 rfl 1⟩
 have He := A_ hb;have DW := A_ hs;clear hb hs;refine uq ?_;refine gG 13 (some 26) 16383 (fun K hK => ?_);refine Kd.aM Kd.string (w0 := w) base (by rfl) (.tmp 20) (.tmp 25) 38 9 (.string ⟨#[]⟩) 16 rfl Try.underlying38 dC rfl (by decide) (by omega) (.slice fQ 0 fT) [] y2 Hf y2.length Ae (fun _ => True) (fun _ => False) rfl rfl (aa.sr DW.out 13 rfl) (by rw [HA25.out, Zk.out]; exact J3 (aa.sr DW.out 7 rfl) (by omega)) (fun _ _ h => h) (fun _ h => h.elim) (fun _ _ => trivial) He.out (cO bQ He) (by have := Yu.out; (try simp only [List.length_nil]); omega) ?_;intro u2 w9 ho hb hg hat;have Ty := A_ hb;have TB := A_ (aa.app 13 DW.out rfl ho hg hat);clear ho hb hg hat;obtain ⟨GM, GN, XA⟩ := Kd.ak (aa.sr TB.out 12 rfl);obtain ⟨GU, GV, XB⟩ := Kd.ak (aa.sr TB.out 13 rfl);rw [List.nil_append] at XA XB;subst XA;subst XB;refine dh 26 hK ⟨(aa.z TB.out 5 rfl 0), (aa.z TB.out 5 rfl 1)⟩ (fun hHeld => ?_);refine aH 14 27 32767 ?_;refine gG 15 (some 28) 65535 (fun K hK => ?_);refine wK 28 #[.slice GM y1.length GN, .slice GU y2.length GV, .slice none 0 0] 96 ?_;intro rp hg yn aA hb
 have SA : af (aa yn base [jM 96 tp jF tks.length fG jK tvs.length fM (some iB) aJ.length fK, gK jF fG tks, gK jK fM tvs, lX 70 (some iB) fK aJ, GA, jM 96 kp (iX gk) nX.length nG (iX gv) oN.length nY qQ oU.length qR, gK (iX gk) nG nX, gK (iX gv) nY oN, lX 70 qQ qR oU, (NT.aZ 96 70 oU), GD, L, gK GM GN y1, gK GU GV y2, jM 96 rp GM y1.length GN GU y2.length GV none 0 0]) := ⟨aa.je TB.out hg aA hb (cO bQ Ty)⟩
 have HB10 := A_ (Ty.out.trans (hb.mono (cO bQ Ty)));clear hg aA hb;refine dh 28 hK ⟨(aa.z SA.out 5 rfl 0), (aa.z SA.out 5 rfl 1)⟩ (fun hHeld => ?_);refine aH 16 5 131071 ?_;refine dL (by kernel_rfl) ?_;clear HS HB;have HS := SA;have HB := HB10;clear SA HB10
 obtain ⟨kx, hkx⟩ : ∃ x, nX.getD 2 ByteArray.empty = x := ⟨_, rfl⟩
 obtain ⟨vx, JL⟩ : ∃ x, oN.getD 2 ByteArray.empty = x := ⟨_, rfl⟩
 have SB := A_ (And.intro hk3 hkx);have Wv := A_ (And.intro hk3v JL);have Yv := A_ hti;clear hkx JL;have ci3 := bV ((2 : Int) < (nX.length : Int));have ci4 := bV ((2 : Int) < (oN.length : Int));have ci5 := bV (2 < nX.length);have ci6 := bV (2 < oN.length)
 by_cases nN : oU.length = 0
 ·obtain rfl : oU = [] := List.length_eq_zero_iff.1 nN
  have uo := A_ ((aa.gJ HS.out [5, 6, 7, 8, 9] (by decide)).Ol);have hbl := A_ (show decide (((NT.mk kp (.slice (some ⟨gk, 0, none⟩) nX.length nG) (.slice (some ⟨gv, 0, none⟩) oN.length nY) (.slice qQ ([] : List NT).length qR) nX oN []).erase.kids.length : Int) = 0) = true from rfl);clear nN
  go_upto_region 5 with (first | (go_at_call 84; (with_reducible refine (dm.cK true hbl.out _ ?az).mono ?_); (case az => repeat (first | exact uo.out | (with_reducible refine Rd.drewN ?_ _) | (with_reducible refine Rd.drew ?_))); rintro e w' ⟨rfl, ⟨nd, rfl⟩⟩))
  generalize hW : World.drewN yn _ = Ab
  have ah : af (aa Ab base [jM 96 tp jF tks.length fG jK tvs.length fM (some iB) aJ.length fK, gK jF fG tks, gK jK fM tvs, lX 70 (some iB) fK aJ, GA, [.box 96 kp #[.slice (some ⟨gk, 0, none⟩) nX.length nG, .slice (some ⟨gv, 0, none⟩) oN.length nY, .slice qQ ([] : List NT).length qR]], gK (iX gk) nG nX, gK (iX gv) nY oN, [.jL 70 (.slice qQ ([] : List NT).length qR) (ptrs [])], (NT.aZ 96 70 []), GD, L, gK GM GN y1, gK GU GV y2, jM 96 rp GM y1.length GN GU y2.length GV none 0 0, [.jL 70 (.slice none 0 0) []], []]) := ⟨by rw [<- hW]; exact aa.OU (aa.Bz (aa.drewN HS.out _) 70)⟩
  replace HB : af (Below base w Ab) := ⟨by rw [<- hW]; exact aj HB.out _⟩
  replace HS := ah; clear ah uo hbl hW;refine bS (n := 16) (S := fun w' => w'.cell? ⟨tp, 0, none⟩ = some (.slice jF tks.length fG) /\ w'.cell? ⟨kp, 0, none⟩ = some (.slice (some ⟨gk, 0, none⟩) nX.length nG) /\ w'.cell? ⟨gk, 2, none⟩ = some (.string kx)) (ds := [15]) (bt 16 0) (by kernel_rfl) rfl rfl ⟨(aa.z (aa.drew HS.out) 0 rfl 0), (aa.z (aa.drew HS.out) 5 rfl 0), (qK (aa.sr (aa.drew HS.out) 6 rfl) (SB.out))⟩ (fun hHeld => ?_);refine aH 0 50 1 ?_;refine aH 1 51 3 ?_;refine aH 2 52 7 ?_;refine aH 3 53 15 ?_;refine aH 5 55 47 ?_;refine aH 6 56 111 ?_;refine aH 7 57 239 ?_;refine aH 8 58 495 ?_;refine fq 4 54 511 hHeld ?_;refine fq 9 59 1023 hHeld ?_;refine aH 10 60 2047 ?_;refine fq 11 61 4095 hHeld ?_;refine gG 12 (some 62) 8191 (fun K hK => ?_);refine lI Try.func124 #[.slice jF tks.length fG, .int .i64 (i : Int), .string kx] ?_
  with_reducible refine (fI.calls jF fG tks (i : Int) kx (aI tks i kx) _ (aa.row (aa.drew HS.out) 1 rfl).2.2 (aa.row (aa.drew HS.out) 1 rfl).2.1 (mr kx (by exact Yv.out) (by omega))).mono ?_
  rintro e Af ⟨v0, rfl, ho, hb⟩;refine ⟨_, rfl, ?_⟩;obtain ⟨GX, GY, rfl⟩ := Kd.ak ho;have ah := jN (aa.eG (aa.drew HS.out) hb (cO bQ HB) ho)
  replace HB : af (Below base w Af) := ⟨(aG HB.out).trans (hb.mono (cO bQ HB))⟩
  replace HS := ah; clear ah ho hb;have hzs := HS.out.z 0 rfl 0;have hfs := HS.out.f 0 rfl 0;refine dh 62 hK ⟨(aa.z HS.out 0 rfl 0), (aa.z HS.out 5 rfl 0), (qK (aa.sr HS.out 6 rfl) (SB.out))⟩ (fun hHeld => ?_);refine aH 13 63 16383 ?_;refine aH 14 64 32767 ?_;refine qz 15 none 65535 (fun K hK => ?_);refine fA (w1 := ?_) (by rfl) rfl ?_ ?_;rotate_left
  ·go_simp
   rfl
  refine hK.out _ _ ?_;clear hK K;refine dL (by kernel_rfl) ?_;have ah := gq (World.setCell Af ⟨tp, 0, none⟩ (.slice GX (aI tks i kx).length GY)) (aa.gJ (aa.put HS.out 0 rfl 0 (.slice GX (aI tks i kx).length GY) rfl) [0, 17, 2, 3, 4, 5, 6, 7, 8, 9, 10, 11, 12, 13, 14, 15, 16] (by decide))
  replace HB : af (Below base w (World.setCell Af ⟨tp, 0, none⟩ (.slice GX (aI tks i kx).length GY))) := ⟨HB.out.setCell (p := ⟨tp, 0, none⟩) (aa.ge HS.out 0 rfl) _⟩
  generalize World.setCell Af ⟨tp, 0, none⟩ (.slice GX (aI tks i kx).length GY) = Fu at ah HB ⊢;replace HS := ah; clear ah hzs hfs
  go_upto_region 6 with fail
  refine bS (n := 16) (S := fun w' => w'.cell? ⟨tp, 1, none⟩ = some (.slice jK tvs.length fM) /\ w'.cell? ⟨kp, 1, none⟩ = some (.slice (some ⟨gv, 0, none⟩) oN.length nY) /\ w'.cell? ⟨gv, 2, none⟩ = some (.string vx)) (ds := [15]) (bt 16 0) (by kernel_rfl) rfl rfl ⟨(aa.z (aa.drew HS.out) 0 rfl 1), (aa.z (aa.drew HS.out) 5 rfl 1), (qK (aa.sr (aa.drew HS.out) 7 rfl) (Wv.out))⟩ (fun hHeld => ?_);refine aH 0 65 1 ?_;refine aH 1 66 3 ?_;refine aH 2 67 7 ?_;refine aH 3 68 15 ?_;refine aH 5 70 47 ?_;refine aH 6 71 111 ?_;refine aH 7 72 239 ?_;refine aH 8 73 495 ?_;refine fq 4 69 511 hHeld ?_;refine fq 9 74 1023 hHeld ?_;refine aH 10 75 2047 ?_;refine fq 11 76 4095 hHeld ?_;refine gG 12 (some 77) 8191 (fun K hK => ?_);refine lI Try.func124 #[.slice jK tvs.length fM, .int .i64 (i : Int), .string vx] ?_
  with_reducible refine (fI.calls jK fM tvs (i : Int) vx (aI tvs i vx) _ (aa.row (aa.drew HS.out) 2 rfl).2.2 (aa.row (aa.drew HS.out) 2 rfl).2.1 (mr vx (by rw [Zl.out]; exact Yv.out) (by omega))).mono ?_
  rintro e yB ⟨v0, rfl, ho, hb⟩;refine ⟨_, rfl, ?_⟩;obtain ⟨GZ, G5, rfl⟩ := Kd.ak ho;have ah := jN (aa.eG (aa.drew HS.out) hb (cO bQ HB) ho)
  replace HB : af (Below base w yB) := ⟨(aG HB.out).trans (hb.mono (cO bQ HB))⟩
  replace HS := ah; clear ah ho hb;have hzs := HS.out.z 0 rfl 1;have hfs := HS.out.f 0 rfl 1;refine dh 77 hK ⟨(aa.z HS.out 0 rfl 1), (aa.z HS.out 5 rfl 1), (qK (aa.sr HS.out 7 rfl) (Wv.out))⟩ (fun hHeld => ?_);refine aH 13 78 16383 ?_;refine aH 14 79 32767 ?_;refine qz 15 none 65535 (fun K hK => ?_);refine fA (w1 := ?_) (by rfl) rfl ?_ ?_;rotate_left
  ·go_simp
   rfl
  refine hK.out _ _ ?_;clear hK K;refine dL (by kernel_rfl) ?_;have ah := gq (World.setCell yB ⟨tp, 1, none⟩ (.slice GZ (aI tvs i vx).length G5)) (aa.gJ (aa.put HS.out 0 rfl 1 (.slice GZ (aI tvs i vx).length G5) rfl) [0, 1, 17, 3, 4, 5, 6, 7, 8, 9, 10, 11, 12, 13, 14, 15, 16] (by decide))
  replace HB : af (Below base w (World.setCell yB ⟨tp, 1, none⟩ (.slice GZ (aI tvs i vx).length G5))) := ⟨HB.out.setCell (p := ⟨tp, 1, none⟩) (aa.ge HS.out 0 rfl) _⟩
  generalize World.setCell yB ⟨tp, 1, none⟩ (.slice GZ (aI tvs i vx).length G5) = Ji at ah HB ⊢;replace HS := ah; clear ah hzs hfs
  obtain ⟨k', hk'⟩ : ∃ k', k' = NT.mk kp (.slice (some ⟨gk, 0, none⟩) 2 nG) (.slice (some ⟨gv, 0, none⟩) 2 nY) (.slice qQ ([] : List NT).length qR) (nX.take 2) (oN.take 2) [] := ⟨_, rfl⟩
  obtain ⟨r', hr'⟩ : ∃ r', r' = NT.mk rp (.slice GM y1.length GN) (.slice GU y2.length GV) (.slice none 0 0) y1 y2 [] := ⟨_, rfl⟩
  obtain ⟨G6, KS⟩ : ∃ l, l = aI (aJ.set i k') (i + 1) r' := ⟨_, rfl⟩
  have XC := A_ KS;have XD := A_ hk';have XE := A_ hr';have Wu := A_ (show aI (aJ.map NT.p) (i + 1) rp = G6.map NT.p by rw [KS, jI, List.map_set, hk', hr', vG rE.out]; rfl);clear KS hk' hr';have hzs := HS.out.z 0 rfl 2;have hfs := HS.out.f 0 rfl 2
  go_upto_region 8 with (first | (go_at_call 125; (with_reducible refine (H6 (some iB) fK (aJ.map NT.p) i rp aJ.length _ (List.length_map _).symm ?az ?bW ?CQ ?CR).mono ?_); (case az => exact (aa.fH HS.out 3 rfl).2.2); (case bW => exact (aa.fH HS.out 3 rfl).2.1); (case CQ => rw [List.length_map]; exact (List.getElem?_eq_some_iff.1 rE.out).1); (case CR => rw [List.length_map]; omega); rintro e w16 ⟨vq, rfl, ho, hb⟩; rw [Wu.out] at ho; obtain ⟨Aq, cq, wF⟩ := Kd.ak ho; rw [List.length_map] at wF; subst wF; have ah := jN (aa.wS HS.out hb (cO bQ HB) ho); replace HB : af (Below base w w16) := ⟨HB.out.trans (hb.mono (cO bQ HB))⟩; replace HS := ah; clear ah ho hb hzs hfs; have hzs := HS.out.z 0 rfl 2; have hfs := HS.out.f 0 rfl 2))
  have ah := gq (World.setCell w16 ⟨tp, 2, none⟩ (.slice Aq G6.length cq)) (aa.gJ (aa.put HS.out 0 rfl 2 (.slice Aq G6.length cq) rfl) [0, 1, 2, 17, 4, 5, 6, 7, 8, 9, 10, 11, 12, 13, 14, 15, 16] (by decide))
  replace HB : af (Below base w (World.setCell w16 ⟨tp, 2, none⟩ (.slice Aq G6.length cq))) := ⟨HB.out.setCell (p := ⟨tp, 2, none⟩) (aa.ge HS.out 0 rfl) _⟩
  generalize World.setCell w16 ⟨tp, 2, none⟩ (.slice Aq G6.length cq) = MC at ah HB ⊢;replace HS := ah; clear ah hzs hfs;have hzs := HS.out.z 5 rfl 0;have hfs := HS.out.f 5 rfl 0;obtain ⟨i0, hi0, _, hsz, _⟩ := info_parts dC;have hcut := nS (P := Try.prog) 38 9 .i64 Try.underlying38 hi0 (some ⟨gk, 0, none⟩) nX.length nG 2 (by omega) (by omega) (aa.row HS.out 6 rfl).2.1;simp only [show (2 : Int).toNat = 2 from rfl] at hcut;clear hi0 hsz
  go_upto_region 9 with fail
  have ah := gq (World.setCell MC ⟨kp, 0, none⟩ (.slice (some ⟨gk, 0, none⟩) 2 nG)) (aa.put (aa.xJ HS.out 6 rfl 2 (by omega)) 5 rfl 0 (.slice (some ⟨gk, 0, none⟩) 2 nG) rfl)
  replace HB : af (Below base w (World.setCell MC ⟨kp, 0, none⟩ (.slice (some ⟨gk, 0, none⟩) 2 nG))) := ⟨HB.out.setCell (p := ⟨kp, 0, none⟩) (aa.ge HS.out 5 rfl) _⟩
  generalize World.setCell MC ⟨kp, 0, none⟩ (.slice (some ⟨gk, 0, none⟩) 2 nG) = MG at ah HB ⊢;replace HS := ah; clear ah hzs hfs hcut;have hzs := HS.out.z 5 rfl 1;have hfs := HS.out.f 5 rfl 1;obtain ⟨i0, hi0, _, hsz, _⟩ := info_parts dC;have hcut := nS (P := Try.prog) 38 9 .i64 Try.underlying38 hi0 (some ⟨gv, 0, none⟩) oN.length nY 2 (by omega) (by omega) (aa.row HS.out 7 rfl).2.1;simp only [show (2 : Int).toNat = 2 from rfl] at hcut;clear hi0 hsz;go_wp2;have ah := gq (World.setCell MG ⟨kp, 1, none⟩ (.slice (some ⟨gv, 0, none⟩) 2 nY)) (aa.put (aa.xJ HS.out 7 rfl 2 (by omega)) 5 rfl 1 (.slice (some ⟨gv, 0, none⟩) 2 nY) rfl)
  replace HB : af (Below base w (World.setCell MG ⟨kp, 1, none⟩ (.slice (some ⟨gv, 0, none⟩) 2 nY))) := ⟨HB.out.setCell (p := ⟨kp, 1, none⟩) (aa.ge HS.out 5 rfl) _⟩
  generalize World.setCell MG ⟨kp, 1, none⟩ (.slice (some ⟨gv, 0, none⟩) 2 nY) = Oo at ah HB ⊢;replace HS := ah; clear ah hzs hfs hcut
  go_end0
  have hS := yL (aa.gJ HS.out [0, 1, 2, 3, 4, 5, 6, 7, 8, 9, 14, 12, 13, 15, 16, 10, 11] (by decide));refine ⟨rfl, NT.mk tp (.slice GX (aI tks i kx).length GY) (.slice GZ (aI tvs i vx).length G5) (.slice Aq G6.length cq) (aI tks i kx) (aI tvs i vx) G6, rfl, ?_, ?_, HB.out⟩
  ·rw [HRR.out]
   show PT.mk _ _ (NT.ax G6) = _;rw [XC.out, sW, XD.out, XE.out];have e1 := SB.out.2;have e2 := Wv.out.2;have e3 := Xz.out;have e4 := Zk.out;subst e1; subst e2; subst e3; subst e4;rfl
  ·rw [NT.dH, show NT.aZ 96 70 G6 = _ from by rw [XC.out, xK rE.out, XD.out, XE.out, NT.dH, NT.dH, <- UU.out, <- UW.out]]
   unfold aa at hS;simp only [List.flatten_cons, List.flatten_nil, List.append_nil, List.cons_append, List.nil_append, List.append_assoc, NT.aZ] at hS ⊢;exact hS
 ·have hk3c : 3 <= oU.length := HKK.out.resolve_left nN
  have uo := A_ ((aa.gJ HS.out [5, 6, 7, 8, 9] (by decide)).Ol);have hbl := A_ (show decide (((NT.mk kp (.slice (some ⟨gk, 0, none⟩) nX.length nG) (.slice (some ⟨gv, 0, none⟩) oN.length nY) (.slice qQ oU.length qR) nX oN oU).erase.kids.length : Int) = 0) = false from decide_eq_false (by show ((NT.ax oU).length : Int) ≠ 0; rw [aC, List.length_map]; omega));clear nN
  go_upto_region 3 with (first | (go_at_call 84; (with_reducible refine (dm.cK false hbl.out _ ?az).mono ?_); (case az => repeat (first | exact uo.out | (with_reducible refine Rd.drewN ?_ _) | (with_reducible refine Rd.drew ?_))); rintro e w' ⟨rfl, ⟨nd, rfl⟩⟩))
  generalize hW : World.drewN yn _ = Ab
  have ah : af (aa Ab base [jM 96 tp jF tks.length fG jK tvs.length fM (some iB) aJ.length fK, gK jF fG tks, gK jK fM tvs, lX 70 (some iB) fK aJ, GA, jM 96 kp (iX gk) nX.length nG (iX gv) oN.length nY qQ oU.length qR, gK (iX gk) nG nX, gK (iX gv) nY oN, lX 70 qQ qR oU, (NT.aZ 96 70 oU), GD, L, gK GM GN y1, gK GU GV y2, jM 96 rp GM y1.length GN GU y2.length GV none 0 0]) := ⟨by rw [<- hW]; exact aa.drewN HS.out _⟩
  replace HB : af (Below base w Ab) := ⟨by rw [<- hW]; exact aj HB.out _⟩
  replace HS := ah; clear ah uo hbl hW;obtain ⟨i0, hi0, _, hsz, _⟩ := info_parts kY;have hcut := qh (P := Try.prog) 94 70 .i64 jm hi0 1 hsz qQ oU.length qR 3 (by omega) (by omega);simp only [show (3 : Int).toNat = 3 from rfl] at hcut
  obtain ⟨Dz, U0⟩ : ∃ A : Option Addr, A = (if qR = 3 then qQ else qQ.map (·.add (3 * 1))) := ⟨_, rfl⟩
  obtain ⟨Oq, hc38⟩ : ∃ c, c = qR - 3 := ⟨_, rfl⟩
  obtain ⟨kd, hkd⟩ : ∃ l, l = oU.drop 3 := ⟨_, rfl⟩
  have U1 : kd.length = oU.length - 3 := by rw [hkd, List.length_drop]
  have Fw := A_ hkd;have HKDL := A_ U1;have hkdm : kd.length <= 1001 := by omega
  rw [<- U0, <- hc38, <- U1] at hcut;clear hkd U1;have HA38 := A_ U0;clear hi0 hsz U0 hc38;have U2 := HS.out.z 5 rfl 2;have QD := HS.out.z 14 rfl 2;have QE := HS.out.f 14 rfl 2
  go_upto_region 4 with (first | ((with_reducible refine iK (N := 33) rfl ?_); refine Kd.Bf dZ (w0 := w) base 70 ?hg (N := 33) ?hd (xs := ([] : List Nat)) (inner := []) (ok := fun _ => True) (okp := fun _ => True) ?hr ?hp (fun _ hk => hk) trivial HB.out (cO bQ HB) (by simp) ?_; (case hd => rfl); (case hg => rfl); (case hr => first | (go_simp; done) | (go_simp; rfl)); (case hp => exact (gm.none _ _)); intro vl Af ho hb hg hn; obtain ⟨lA, lc, rfl⟩ : ∃ A c, vl = .slice A 0 c := Kd.ak ho; have ah := jN (aa.nH HS.out (qH ho) hg hn); replace HB : af (Below base w Af) := ⟨hb⟩; replace HS := ah; clear ah U2 QD QE ho hg hn hb; have U2 := HS.out.z 5 rfl 2; have QD := HS.out.z 14 rfl 2; have QE := HS.out.f 14 rfl 2) | ((with_reducible refine bP (b := .append) (xs := #[.tmp 33, .tmp 38]) rfl ?_); at_builtin; refine Kd.eY dZ (w0 := w) base rfl (.tmp 33) (.tmp 38) 94 70 (.pointer none) 8 rfl jm kY rfl (by decide) (by omega) (.slice lA 0 lc) [] (kd.map NT.p) Dz kd.length Oq (fun _ => True) (fun _ => False) rfl rfl ?aO ?aR (fun _ _ h => h) (fun _ h => h.elim) ?aF ?aB ?aS ?aL ?_; (case aO => exact aa.TM HS.out 15 rfl); (case aR => rw [HA38.out, HKDL.out, Fw.out]; exact YP HS.out 8 rfl (by omega)); (case aF => exact (fun _ _ => trivial)); (case aB => exact HB.out); (case aS => exact (cO bQ HB)); (case aL => (try simp only [List.length_nil]); omega); intro vq Fu ho hb hg hat; rw [List.nil_append] at ho; obtain ⟨U3, U4, wF⟩ := Kd.ak ho; rw [List.length_map] at wF; subst wF; have ah := jN (aa.appOwn 15 HS.out rfl ho hg hat); replace HB : af (Below base w Fu) := ⟨hb⟩; replace HS := ah; clear ah U2 QD QE ho hg hat hb; have U2 := HS.out.z 5 rfl 2; have QD := HS.out.z 14 rfl 2; have QE := HS.out.f 14 rfl 2))
  have ah := gq (World.setCell Fu ⟨rp, 2, none⟩ (.slice U3 kd.length U4)) (aa.put HS.out 14 rfl 2 (.slice U3 kd.length U4) rfl)
  replace HB : af (Below base w (World.setCell Fu ⟨rp, 2, none⟩ (.slice U3 kd.length U4))) := ⟨HB.out.setCell (p := ⟨rp, 2, none⟩) (aa.ge HS.out 14 rfl) _⟩
  generalize World.setCell Fu ⟨rp, 2, none⟩ (.slice U3 kd.length U4) = yB at ah HB ⊢;replace HS := ah; clear ah U2 QD QE hcut;obtain ⟨i0, hi0, _, hsz, _⟩ := info_parts kY;have hcut := nS (P := Try.prog) 94 70 .i64 jm hi0 qQ oU.length qR 3 (by omega) (by omega) (aa.fH HS.out 8 rfl).2.1;simp only [show (3 : Int).toNat = 3 from rfl] at hcut;clear hi0 hsz;have U2 := HS.out.z 5 rfl 2;have hf5 := HS.out.f 5 rfl 2
  go_upto_region 5 with fail
  have ah := gq (World.setCell yB ⟨kp, 2, none⟩ (.slice qQ 3 qR)) (aa.put (aa.Tk HS.out 8 rfl 3 hk3c) 5 rfl 2 (.slice qQ 3 qR) rfl)
  have kU : af (aa (World.setCell yB ⟨kp, 2, none⟩ (.slice qQ 3 qR)) base [jM 96 tp jF tks.length fG jK tvs.length fM (some iB) aJ.length fK, gK jF fG tks, gK jK fM tvs, lX 70 (some iB) fK aJ, GA, jM 96 kp (iX gk) nX.length nG (iX gv) oN.length nY qQ 3 qR, gK (iX gk) nG nX, gK (iX gv) nY oN, WW 70 qQ 3 qR (oU.take 3), (NT.aZ 96 70 (oU.take 3)), GD, L, gK GM GN y1, gK GU GV y2, jM 96 rp GM y1.length GN GU y2.length GV U3 kd.length U4, lX 70 U3 U4 kd, (NT.aZ 96 70 kd)]) := ⟨aa.cut ah.out 9 (by rw [Fw.out, <- gZ, List.take_append_drop]; rfl)⟩
  clear ah;have ah := kU;clear kU
  replace HB : af (Below base w (World.setCell yB ⟨kp, 2, none⟩ (.slice qQ 3 qR))) := ⟨HB.out.setCell (p := ⟨kp, 2, none⟩) (aa.ge HS.out 5 rfl) _⟩
  generalize World.setCell yB ⟨kp, 2, none⟩ (.slice qQ 3 qR) = w11' at ah HB ⊢;replace HS := ah; clear ah U2 hf5 hcut
  go_upto_region 5 with fail
  refine bS (n := 16) (S := fun w' => w'.cell? ⟨tp, 0, none⟩ = some (.slice jF tks.length fG) /\ w'.cell? ⟨kp, 0, none⟩ = some (.slice (some ⟨gk, 0, none⟩) nX.length nG) /\ w'.cell? ⟨gk, 2, none⟩ = some (.string kx)) (ds := [15]) (bt 16 0) (by kernel_rfl) rfl rfl ⟨(aa.z (aa.drew HS.out) 0 rfl 0), (aa.z (aa.drew HS.out) 5 rfl 0), (qK (aa.sr (aa.drew HS.out) 6 rfl) (SB.out))⟩ (fun hHeld => ?_);refine aH 0 50 1 ?_;refine aH 1 51 3 ?_;refine aH 2 52 7 ?_;refine aH 3 53 15 ?_;refine aH 5 55 47 ?_;refine aH 6 56 111 ?_;refine aH 7 57 239 ?_;refine aH 8 58 495 ?_;refine fq 4 54 511 hHeld ?_;refine fq 9 59 1023 hHeld ?_;refine aH 10 60 2047 ?_;refine fq 11 61 4095 hHeld ?_;refine gG 12 (some 62) 8191 (fun K hK => ?_);refine lI Try.func124 #[.slice jF tks.length fG, .int .i64 (i : Int), .string kx] ?_
  with_reducible refine (fI.calls jF fG tks (i : Int) kx (aI tks i kx) _ (aa.row (aa.drew HS.out) 1 rfl).2.2 (aa.row (aa.drew HS.out) 1 rfl).2.1 (mr kx (by exact Yv.out) (by omega))).mono ?_
  rintro e Ji ⟨v0, rfl, ho, hb⟩;refine ⟨_, rfl, ?_⟩;obtain ⟨GX, GY, rfl⟩ := Kd.ak ho;have ah := jN (aa.eG (aa.drew HS.out) hb (cO bQ HB) ho)
  replace HB : af (Below base w Ji) := ⟨(aG HB.out).trans (hb.mono (cO bQ HB))⟩
  replace HS := ah; clear ah ho hb;have hzs := HS.out.z 0 rfl 0;have hfs := HS.out.f 0 rfl 0;refine dh 62 hK ⟨(aa.z HS.out 0 rfl 0), (aa.z HS.out 5 rfl 0), (qK (aa.sr HS.out 6 rfl) (SB.out))⟩ (fun hHeld => ?_);refine aH 13 63 16383 ?_;refine aH 14 64 32767 ?_;refine qz 15 none 65535 (fun K hK => ?_);refine fA (w1 := ?_) (by rfl) rfl ?_ ?_;rotate_left
  ·go_simp
   rfl
  refine hK.out _ _ ?_;clear hK K;refine dL (by kernel_rfl) ?_;have ah := gq (World.setCell Ji ⟨tp, 0, none⟩ (.slice GX (aI tks i kx).length GY)) (aa.gJ (aa.put HS.out 0 rfl 0 (.slice GX (aI tks i kx).length GY) rfl) [0, 17, 2, 3, 4, 5, 6, 7, 8, 9, 10, 11, 12, 13, 14, 15, 16] (by decide))
  replace HB : af (Below base w (World.setCell Ji ⟨tp, 0, none⟩ (.slice GX (aI tks i kx).length GY))) := ⟨HB.out.setCell (p := ⟨tp, 0, none⟩) (aa.ge HS.out 0 rfl) _⟩
  generalize World.setCell Ji ⟨tp, 0, none⟩ (.slice GX (aI tks i kx).length GY) = w16 at ah HB ⊢;replace HS := ah; clear ah hzs hfs
  go_upto_region 6 with fail
  refine bS (n := 16) (S := fun w' => w'.cell? ⟨tp, 1, none⟩ = some (.slice jK tvs.length fM) /\ w'.cell? ⟨kp, 1, none⟩ = some (.slice (some ⟨gv, 0, none⟩) oN.length nY) /\ w'.cell? ⟨gv, 2, none⟩ = some (.string vx)) (ds := [15]) (bt 16 0) (by kernel_rfl) rfl rfl ⟨(aa.z (aa.drew HS.out) 0 rfl 1), (aa.z (aa.drew HS.out) 5 rfl 1), (qK (aa.sr (aa.drew HS.out) 7 rfl) (Wv.out))⟩ (fun hHeld => ?_);refine aH 0 65 1 ?_;refine aH 1 66 3 ?_;refine aH 2 67 7 ?_;refine aH 3 68 15 ?_;refine aH 5 70 47 ?_;refine aH 6 71 111 ?_;refine aH 7 72 239 ?_;refine aH 8 73 495 ?_;refine fq 4 69 511 hHeld ?_;refine fq 9 74 1023 hHeld ?_;refine aH 10 75 2047 ?_;refine fq 11 76 4095 hHeld ?_;refine gG 12 (some 77) 8191 (fun K hK => ?_);refine lI Try.func124 #[.slice jK tvs.length fM, .int .i64 (i : Int), .string vx] ?_
  with_reducible refine (fI.calls jK fM tvs (i : Int) vx (aI tvs i vx) _ (aa.row (aa.drew HS.out) 2 rfl).2.2 (aa.row (aa.drew HS.out) 2 rfl).2.1 (mr vx (by rw [Zl.out]; exact Yv.out) (by omega))).mono ?_
  rintro e MC ⟨v0, rfl, ho, hb⟩;refine ⟨_, rfl, ?_⟩;obtain ⟨GZ, G5, rfl⟩ := Kd.ak ho;have ah := jN (aa.eG (aa.drew HS.out) hb (cO bQ HB) ho)
  replace HB : af (Below base w MC) := ⟨(aG HB.out).trans (hb.mono (cO bQ HB))⟩
  replace HS := ah; clear ah ho hb;have hzs := HS.out.z 0 rfl 1;have hfs := HS.out.f 0 rfl 1;refine dh 77 hK ⟨(aa.z HS.out 0 rfl 1), (aa.z HS.out 5 rfl 1), (qK (aa.sr HS.out 7 rfl) (Wv.out))⟩ (fun hHeld => ?_);refine aH 13 78 16383 ?_;refine aH 14 79 32767 ?_;refine qz 15 none 65535 (fun K hK => ?_);refine fA (w1 := ?_) (by rfl) rfl ?_ ?_;rotate_left
  ·go_simp
   rfl
  refine hK.out _ _ ?_;clear hK K;refine dL (by kernel_rfl) ?_;have ah := gq (World.setCell MC ⟨tp, 1, none⟩ (.slice GZ (aI tvs i vx).length G5)) (aa.gJ (aa.put HS.out 0 rfl 1 (.slice GZ (aI tvs i vx).length G5) rfl) [0, 1, 17, 3, 4, 5, 6, 7, 8, 9, 10, 11, 12, 13, 14, 15, 16] (by decide))
  replace HB : af (Below base w (World.setCell MC ⟨tp, 1, none⟩ (.slice GZ (aI tvs i vx).length G5))) := ⟨HB.out.setCell (p := ⟨tp, 1, none⟩) (aa.ge HS.out 0 rfl) _⟩
  generalize World.setCell MC ⟨tp, 1, none⟩ (.slice GZ (aI tvs i vx).length G5) = MG at ah HB ⊢;replace HS := ah; clear ah hzs hfs
  obtain ⟨k', hk'⟩ : ∃ k', k' = NT.mk kp (.slice (some ⟨gk, 0, none⟩) 2 nG) (.slice (some ⟨gv, 0, none⟩) 2 nY) (.slice qQ 3 qR) (nX.take 2) (oN.take 2) (oU.take 3) := ⟨_, rfl⟩
  obtain ⟨r', hr'⟩ : ∃ r', r' = NT.mk rp (.slice GM y1.length GN) (.slice GU y2.length GV) (.slice U3 kd.length U4) y1 y2 kd := ⟨_, rfl⟩
  obtain ⟨G6, KS⟩ : ∃ l, l = aI (aJ.set i k') (i + 1) r' := ⟨_, rfl⟩
  have XC := A_ KS;have XD := A_ hk';have XE := A_ hr';have Wu := A_ (show aI (aJ.map NT.p) (i + 1) rp = G6.map NT.p by rw [KS, jI, List.map_set, hk', hr', vG rE.out]; rfl);clear KS hk' hr';have hzs := HS.out.z 0 rfl 2;have hfs := HS.out.f 0 rfl 2
  go_upto_region 8 with (first | (go_at_call 125; (with_reducible refine (H6 (some iB) fK (aJ.map NT.p) i rp aJ.length _ (List.length_map _).symm ?az ?bW ?CQ ?CR).mono ?_); (case az => exact (aa.fH HS.out 3 rfl).2.2); (case bW => exact (aa.fH HS.out 3 rfl).2.1); (case CQ => rw [List.length_map]; exact (List.getElem?_eq_some_iff.1 rE.out).1); (case CR => rw [List.length_map]; omega); rintro e Oo ⟨vq, rfl, ho, hb⟩; rw [Wu.out] at ho; obtain ⟨Aq, cq, wF⟩ := Kd.ak ho; rw [List.length_map] at wF; subst wF; have ah := jN (aa.wS HS.out hb (cO bQ HB) ho); replace HB : af (Below base w Oo) := ⟨HB.out.trans (hb.mono (cO bQ HB))⟩; replace HS := ah; clear ah ho hb hzs hfs; have hzs := HS.out.z 0 rfl 2; have hfs := HS.out.f 0 rfl 2))
  have ah := gq (World.setCell Oo ⟨tp, 2, none⟩ (.slice Aq G6.length cq)) (aa.gJ (aa.put HS.out 0 rfl 2 (.slice Aq G6.length cq) rfl) [0, 1, 2, 17, 4, 5, 6, 7, 8, 9, 10, 11, 12, 13, 14, 15, 16] (by decide))
  replace HB : af (Below base w (World.setCell Oo ⟨tp, 2, none⟩ (.slice Aq G6.length cq))) := ⟨HB.out.setCell (p := ⟨tp, 2, none⟩) (aa.ge HS.out 0 rfl) _⟩
  generalize World.setCell Oo ⟨tp, 2, none⟩ (.slice Aq G6.length cq) = SC at ah HB ⊢;replace HS := ah; clear ah hzs hfs;have hzs := HS.out.z 5 rfl 0;have hfs := HS.out.f 5 rfl 0;obtain ⟨i0, hi0, _, hsz, _⟩ := info_parts dC;have hcut := nS (P := Try.prog) 38 9 .i64 Try.underlying38 hi0 (some ⟨gk, 0, none⟩) nX.length nG 2 (by omega) (by omega) (aa.row HS.out 6 rfl).2.1;simp only [show (2 : Int).toNat = 2 from rfl] at hcut;clear hi0 hsz
  go_upto_region 9 with fail
  have ah := gq (World.setCell SC ⟨kp, 0, none⟩ (.slice (some ⟨gk, 0, none⟩) 2 nG)) (aa.put (aa.xJ HS.out 6 rfl 2 (by omega)) 5 rfl 0 (.slice (some ⟨gk, 0, none⟩) 2 nG) rfl)
  replace HB : af (Below base w (World.setCell SC ⟨kp, 0, none⟩ (.slice (some ⟨gk, 0, none⟩) 2 nG))) := ⟨HB.out.setCell (p := ⟨kp, 0, none⟩) (aa.ge HS.out 5 rfl) _⟩
  generalize World.setCell SC ⟨kp, 0, none⟩ (.slice (some ⟨gk, 0, none⟩) 2 nG) = Yw at ah HB ⊢;replace HS := ah; clear ah hzs hfs hcut;have hzs := HS.out.z 5 rfl 1;have hfs := HS.out.f 5 rfl 1;obtain ⟨i0, hi0, _, hsz, _⟩ := info_parts dC;have hcut := nS (P := Try.prog) 38 9 .i64 Try.underlying38 hi0 (some ⟨gv, 0, none⟩) oN.length nY 2 (by omega) (by omega) (aa.row HS.out 7 rfl).2.1;simp only [show (2 : Int).toNat = 2 from rfl] at hcut;clear hi0 hsz;go_wp2;have ah := gq (World.setCell Yw ⟨kp, 1, none⟩ (.slice (some ⟨gv, 0, none⟩) 2 nY)) (aa.put (aa.xJ HS.out 7 rfl 2 (by omega)) 5 rfl 1 (.slice (some ⟨gv, 0, none⟩) 2 nY) rfl)
  replace HB : af (Below base w (World.setCell Yw ⟨kp, 1, none⟩ (.slice (some ⟨gv, 0, none⟩) 2 nY))) := ⟨HB.out.setCell (p := ⟨kp, 1, none⟩) (aa.ge HS.out 5 rfl) _⟩
  generalize World.setCell Yw ⟨kp, 1, none⟩ (.slice (some ⟨gv, 0, none⟩) 2 nY) = w22 at ah HB ⊢;replace HS := ah; clear ah hzs hfs hcut
  go_end0
  have hS := yL (aa.gJ HS.out [0, 1, 2, 3, 4, 5, 6, 7, 8, 9, 14, 12, 13, 15, 16, 10, 11] (by decide));refine ⟨rfl, NT.mk tp (.slice GX (aI tks i kx).length GY) (.slice GZ (aI tvs i vx).length G5) (.slice Aq G6.length cq) (aI tks i kx) (aI tvs i vx) G6, rfl, ?_, ?_, HB.out⟩
  ·rw [HRR.out]
   show PT.mk _ _ (NT.ax G6) = _;rw [XC.out, sW, XD.out, XE.out];have e1 := SB.out.2;have e2 := Wv.out.2;have e3 := Xz.out;have e4 := Zk.out;subst e1; subst e2; subst e3; subst e4;have e5 := Fw.out;subst e5;show PT.mk _ _ _ = splitK _ _ _;unfold splitK;simp only [NT.erase, PT.keys, PT.vals, PT.kids, aC, List.map_take, List.map_drop]
  ·rw [NT.dH, show NT.aZ 96 70 G6 = _ from by rw [XC.out, xK rE.out, XD.out, XE.out, NT.dH, NT.dH, <- UU.out, <- UW.out]]
   unfold aa at hS;simp only [List.flatten_cons, List.flatten_nil, List.append_nil, List.cons_append, List.nil_append, List.append_assoc, NT.aZ] at hS ⊢;exact hS
end Go.Proofs.Ytoddejmlcnbdmaa.Tree

