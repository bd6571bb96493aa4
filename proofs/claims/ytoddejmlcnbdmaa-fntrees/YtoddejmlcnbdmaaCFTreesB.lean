/- The law FnTrees holds of the given program: at every input it answers true and leaves its arguments as they were; no condition. This text: part 2 of what its proof reaches. -/
import Derived.Deep.QuietTactic
import Derived.BigQuiet
import Derived.Test.YtoddejmlcnbdmaaQWWords
import Derived.Test.YtoddejmlcnbdmaaQWMore
import Derived.OpenShut
import Derived.WideShapes
import Derived.Lib.Strings
import Derived.Laws.BitsLemmas
import Derived.Laws.BytesArg
import Derived.Test.YtoddejmlcnbdmaaCFTreesA
set_option maxHeartbeats 8000000
set_option maxRecDepth 100000
set_option linter.unusedVariables false
set_option linter.unusedSimpArgs false
open Go.Proofs.Ytoddejmlcnbdmaa.Fn
open Go.RowKit Go.Proofs.YtoddejmlcnbdmaaW.PrintWords Go.Proofs.YtoddejmlcnbdmaaW.PrintLast Go.Proofs.YtoddejmlcnbdmaaW.PrintMore Go.Proofs.Ytoddejmlcnbdmaa.Gen
namespace Go.Proofs.Ytoddejmlcnbdmaa.Tree
theorem lK {p0 q : Prop} (h0 : p0) (h : p0 -> q := by intro p9; repeat (first | exact p9 | (with_reducible refine Rd.drewN ?_ _) | (with_reducible refine Rd.drew ?_))) : q := h h0
set_option maxHeartbeats 8000000
set_option maxRecDepth 100000
theorem mJ.zG {t : PT} (h : mJ t) : Ho t := mJ.few (n := SizeOf.sizeOf t) (Nat.le_refl _) h
def Yd (T E : Nat) (w : World) (r : Option PT) (e : Ending) (w' : World) : Prop :=
 Below w.heap.size w w' /\ ((r = none /\ e = .returned (.tuple #[.pointer none, .bool false])) ∨
  ∃ nt : NT, r = some nt.erase /\ e = .returned (.tuple #[bG nt.p, .bool true]) /\ Sat w' w.heap.size (nt.dI T E))
theorem Qp (v : Value) : rO (.slice none 0 0) v := fun k hk => by cases hk
theorem mX.iP (t : PT) (hs : mJ t) {p : Nat} (w : World) (h : Rd 96 w p t) (hb1 : (bB t).length <= 8796093022208) (hb2 : (dL t).length <= 8796093022208) : Calls Try.prog 65 #[bG p, .slice none 0 0, .slice none 0 0] w (O1 w (bB t) (dL t)) :=
 mX.calls _ t (Nat.le_refl _) hs w w (.slice none 0 0) (.slice none 0 0) [] [] h (Below.refl _ _) (SR.nil _ _) (SR.nil _ _) (Qp _) hb1 hb2
theorem mW.iP (P : List bH) (hN : P.length <= 1000000000000) (A : Option Addr) (c : Nat) (w : World) (hp : Kd.C jX w A P.length P) (hm : ∀ p ∈ P, p.f0.length <= 1000000000000 /\ p.f1.length <= 1000000000000 /\ p.f2.length <= 1000000000000) :
  Calls Try.prog 95 #[.agg #[.slice A P.length c], .int .i64 0, .int .i64 1] w (Qn 96 70 w (bX P 10 0)) :=
 mW.calls P hN 10 1 (by omega) (by omega) 0 A c w hp hm (Nat.zero_le _)
theorem fU.calls (P : List bH) (hN : P.length <= 1000000000000) (A : Option Addr) (c : Nat) (w : World) (hp : Kd.C jX w A P.length P) (hm : ∀ p ∈ P, p.f0.length <= 1000000000000 /\ p.f1.length <= 1000000000000 /\ p.f2.length <= 1000000000000) :
  Calls Try.prog 57 #[.agg #[.slice A P.length c]] w (Yd 96 70 w (pz P)) := by
 have HP := A_ hp
 have HM := A_ hm
 have oV := A_ hN
 have RH : P.length <= 1000000000000 := hN
 obtain ⟨R, hR⟩ : ∃ R, R = pz P := ⟨_, rfl⟩
 rw [<- hR]
 unfold pz at hR
 cases hrs : bX P 10 0 with
 | none =>
  rw [hrs] at hR
  have HE := A_ hR
  have kP := A_ hrs
  have tn : ((-1 : Int) != (P.length : Int)) = true := by rw [bne_iff_ne]; omega
  clear hp hm hN hR hrs
  go_enter Try.func57, Try.ntmps57
  go_wp2_with (first | (refine jf 1 #[.slice A P.length c] 29 ?_; intro b3 hg w1 aC hb; have ui := A_ aC; have HB := A_ hb; have hz3 : w1.cell? ⟨b3, 0, none⟩ = some (.slice A P.length c) := (ak aC 0).trans rfl; clear hg aC hb) | (go_at_call 95; (with_reducible refine (mW.iP P oV.out A c _ (Kd.ax HP.out HB.out) HM.out).mono ?_); rintro e w2 ⟨hb, hr⟩; rw [kP.out] at hr; obtain ⟨-, rfl⟩ := hr.resolve_right (by rintro ⟨_, _, h, _⟩; cases h); have hz3b : w2.cell? ⟨b3, 0, none⟩ = some (.slice A P.length c) := (ak (aT ui.out hb) 0).trans rfl; have aj := A_ (au HB.out hb); clear HB; have HB := aj; clear aj hb hr))
  go_ret2
  exact ⟨HB.out, .inl ⟨HE.out, rfl⟩⟩
 | some tn =>
  obtain ⟨t, n⟩ := tn
  rw [hrs] at hR
  simp only at hR
  have kP := A_ hrs
  have EF := A_ (iY 10 0 t n hrs).2
  have Lt := A_ (jh 10 0 t n hrs)
  have hn0 := kT ((n : Int) < 0)
  by_cases hn : n = P.length
  ·rw [if_neg (by simp [hn])] at hR
   have WV : ((n : Int) != (P.length : Int)) = false := Hu hn
   have WW : (n != P.length) = false := uB hn
   have HZ1 := A_ (show (bB t).length <= 8796093022208 by have := EF.out.k; omega)
   have HZ2 := A_ (show (dL t).length <= 8796093022208 by have := EF.out.v; omega)
   have Uh := A_ (show (bB t).length <= 4000000000000 by have := EF.out.k; omega)
   have HRR := A_ hR
   clear hp hm hN hR hrs hn
   go_enter Try.func57, Try.ntmps57
   go_upto_region 6 with (first | (refine jf 1 #[.slice A P.length c] 29 ?_; intro b3 hg w1 aC hb; have ui := A_ aC; have HB := A_ hb; have hz3 : w1.cell? ⟨b3, 0, none⟩ = some (.slice A P.length c) := (ak aC 0).trans rfl; clear hg aC hb) | (go_at_call 95; (with_reducible refine (mW.iP P oV.out A c _ (Kd.ax HP.out HB.out) HM.out).mono ?_); rintro e w2 ⟨hb, hr⟩; rw [kP.out] at hr; obtain ⟨nt, n9, h9, rfl, hs⟩ := hr.resolve_left (by rintro ⟨h, _⟩; cases h); injection h9 with h9; injection h9 with h9 h8; subst h9; subst h8; have hz3b : w2.cell? ⟨b3, 0, none⟩ = some (.slice A P.length c) := (ak (aT ui.out hb) 0).trans rfl; have HS2 := A_ (hs.lower HB.out.size); have aj := A_ (au HB.out hb); clear HB; have HB := aj; clear aj hb hr hs) | (go_at_call 65; (with_reducible refine (mX.iP nt.erase EF.out.yB w2 (jI HS2.out) HZ1.out HZ2.out).mono ?_); rintro e w3 ⟨u1, u2, rfl, ho1, ho2, hne, hb⟩; obtain ⟨B1, d1, rfl, hl1, hc1⟩ := Kd.eU ho1; obtain ⟨B2, d2, rfl, hl2, hc2⟩ := Kd.eU ho2; have Bi := A_ hc1; have rV := A_ hc2; have aj := A_ (au HB.out hb); have HR3 := A_ ((jI HS2.out).under hb); have yh := A_ (HS2.out.under hb); clear HB; have HB := aj; clear aj hb ho1 ho2 hne hl1 hl2 hc1 hc2 HS2))
   have hkb : (bB nt.erase).length <= 4000000000000 := Uh.out
   obtain ⟨B, hB⟩ : ∃ B, B = lG (bB nt.erase) (dL nt.erase) none := ⟨_, rfl⟩
   have yj := A_ hB
   have Kg := A_ (iO EF.out.yB)
   have Gl := A_ (show B = lG ((bB nt.erase).drop 0) ((dL nt.erase).drop 0) (jw (bB nt.erase) 0) from hB)
   clear hz3 hz3b hB
   go_loopg [31] (bB nt.erase).length (fun kq u31 w' => ∃ (i m : Nat), u31 = .int .i64 (i : Int) /\ af (i <= (bB nt.erase).length /\ kq + i = (bB nt.erase).length) /\ af (B = lG ((bB nt.erase).drop i) ((dL nt.erase).drop i) (jw (bB nt.erase) i)) /\ w' = w3.drewN m)
   case atStart => exact ⟨0, 0, by first | rfl | (simp; done), ⟨by omega⟩, Gl, rfl⟩
   case round =>
    clear Gl
    obtain ⟨i, m, rfl, HK, Gl, rfl⟩ := hrel
    have ci := dJ (0 <= (i : Int))
    by_cases hi : i < (bB nt.erase).length
    ·have ce := kZ ((i : Int) < ((bB nt.erase).length : Int))
     have xL : (i < (bB nt.erase).length) = True := eq_true hi
     have hil : i < 4000000000000 := by omega
     have LF : i < (dL nt.erase).length := by rw [Kg.out]; exact hi
     have WX := dJ ((i : Int) < ((dL nt.erase).length : Int))
     have WY : (i < (dL nt.erase).length) = True := eq_true LF
     have HI := A_ hi
     obtain ⟨PM, hA1, hk0⟩ := Kd.bF Bi.out (i : Int) (by omega) (by omega)
     obtain ⟨IA, hA2, hv0⟩ := Kd.bF rV.out (i : Int) (by omega) (by omega)
     subst hA1
     subst hA2
     rw [Int.toNat_natCast] at hk0 hv0
     have hks : (bB nt.erase)[i]? = some (bI ByteArray.empty (bB nt.erase) (i : Int)) := by unfold bI; rw [Int.toNat_natCast, List.getD_eq_getElem?_getD, List.getElem?_eq_getElem hi]; rfl
     have hvs : (dL nt.erase)[i]? = some (bI ByteArray.empty (dL nt.erase) (i : Int)) := by unfold bI; rw [Int.toNat_natCast, List.getD_eq_getElem?_getD, List.getElem?_eq_getElem LF]; rfl
     generalize bI ByteArray.empty (bB nt.erase) (i : Int) = kx at hk0 hks
     generalize bI ByteArray.empty (dL nt.erase) (i : Int) = vx at hv0 hvs
     have kD := A_ hks
     have NM := A_ hvs
     clear hks hvs hi LF
     cases hpr : pq kx vx with
     | false =>
      have EG := A_ ((nV kx vx).trans (by rw [hpr]))
      have hbf := Fp Gl.out kD.out NM.out hpr
      have HE := A_ (show R = none by have := HRR.out; rw [if_pos (by rw [<- yj.out]; exact hbf)] at this; exact this)
      clear hpr hbf
      go_wp2_with (go_at_call 75; (with_reducible refine (cK.calls kx vx false _ EG.out).mono ?_); rintro e w' ⟨rfl, ⟨nd, rfl⟩⟩)
      go_ret2
      exact ⟨ah HB.out _, .inl ⟨HE.out, rfl⟩⟩
     | true =>
      have EG := A_ ((nV kx vx).trans (by rw [hpr]))
      have NN := A_ hpr
      clear hpr
      by_cases hi0 : 0 < i
      ·have t0 := kZ (0 < (i : Int))
       have WZ : (0 < i) = True := eq_true hi0
       obtain ⟨ji, hji⟩ : ∃ j : Int, j = (i : Int) - 1 := ⟨_, rfl⟩
       have hjw : IntKind.i64.wrap ((i : Int) - 1) = ji := by rw [IntWalk.i64_in _ (by omega)]; exact hji.symm
       obtain ⟨W9, hA3, hp0⟩ := Kd.bF Bi.out ji (by omega) (by have := HI.out; omega)
       obtain rfl : PM = W9 := Option.some.inj hA3
       have hps : jw (bB nt.erase) i = some (bI ByteArray.empty (bB nt.erase) ji) := by
        obtain ⟨j, rfl⟩ : ∃ j, i = j + 1 := ⟨i - 1, by omega⟩
        have e : ji.toNat = j := by omega
        show (bB nt.erase)[j]? = _
        unfold bI
        rw [e, List.getD_eq_getElem?_getD, List.getElem?_eq_getElem (by have := HI.out; omega)]
        rfl
       generalize bI ByteArray.empty (bB nt.erase) ji = px at hp0 hps
       have cj0 := dJ (0 <= ji)
       have cj1 : (ji < ((bB nt.erase).length : Int)) = True := eq_true (by have := HI.out; omega)
       have cj2 := kZ (0 <= ji)
       have cj3 : decide (ji < ((bB nt.erase).length : Int)) = true := decide_eq_true (by have := HI.out; omega)
       have PR := A_ hps
       clear hps hi0 hji
       cases hlt : wP px kx with
       | true =>
        have R8 := A_ (DW Gl.out kD.out NM.out NN.out (fun p hp => by rw [PR.out] at hp; injection hp with hp; rw [<- hp]; exact hlt))
        have hl' : Op.bytesLess px.toList kx.toList = true := hlt
        clear hlt
        go_wp2_with (go_at_call 75; (with_reducible refine (cK.calls kx vx true _ EG.out).mono ?_); rintro e w' ⟨rfl, ⟨nd, rfl⟩⟩)
        go_roundg ((bB nt.erase).length - (i + 1))
        case measure => have := HK.out; have := HI.out; omega
        case rel => exact ⟨i + 1, _, by first | rfl | go_num | (simp; done), ⟨by have := HK.out; have := HI.out; omega⟩, R8, rfl⟩
       | false =>
        have hbf := Fq Gl.out kD.out PR.out hlt
        have HE := A_ (show R = none by have := HRR.out; rw [if_pos (by rw [<- yj.out]; exact hbf)] at this; exact this)
        have hl' : Op.bytesLess px.toList kx.toList = false := hlt
        clear hlt hbf
        go_wp2_with (go_at_call 75; (with_reducible refine (cK.calls kx vx true _ EG.out).mono ?_); rintro e w' ⟨rfl, ⟨nd, rfl⟩⟩)
        go_ret2
        exact ⟨ah HB.out _, .inl ⟨HE.out, rfl⟩⟩
      ·have t0 := kT (0 < (i : Int))
       have WZ : (0 < i) = False := eq_false hi0
       have R8 := A_ (DW Gl.out kD.out NM.out NN.out (fun p hp => by have h_ : i = 0 := (by omega); rw [h_] at hp; cases hp))
       clear hi0
       go_wp2_with (go_at_call 75; (with_reducible refine (cK.calls kx vx true _ EG.out).mono ?_); rintro e w' ⟨rfl, ⟨nd, rfl⟩⟩)
       go_roundg ((bB nt.erase).length - (i + 1))
       case measure => have := HK.out; have := HI.out; omega
       case rel => exact ⟨i + 1, _, by first | rfl | go_num | (simp; done), ⟨by have := HK.out; have := HI.out; omega⟩, R8, rfl⟩
    ·have ce := kT ((i : Int) < ((bB nt.erase).length : Int))
     have xL : (i < (bB nt.erase).length) = False := eq_false hi
     have hbt := Jt Gl.out (by omega)
     have hrr := HRR.out
     rw [if_neg (by rw [<- yj.out, hbt]; decide)] at hrr
     obtain ⟨Ak, ck, Av, cv, Ac, cc, ps, HN3⟩ := HR3.out.open
     have hzn := HN3.z0
     clear hi hbt HN3
     by_cases h1 : fP nt.erase < 0
     ·have HE := A_ (show R = none by rw [hrr, if_pos (.inl h1)])
      have t1 : decide (fP nt.erase < 0) = true := decide_eq_true h1
      clear h1 hrr
      go_wp2_with (go_at_call 61; (with_reducible refine (mq.calls _ nt.erase (Nat.le_refl _) EF.out.yB.zG _ ?aD).mono ?_); (case aD => exact lK HR3.out); rintro e w' ⟨rfl, ⟨nd, rfl⟩⟩)
      go_ret2
      exact ⟨ah HB.out _, .inl ⟨HE.out, rfl⟩⟩
     ·have t1 : decide (fP nt.erase < 0) = false := decide_eq_false h1
      by_cases h2 : nt.erase.kids.length = 0
      ·have hbl := A_ (show decide ((nt.erase.kids.length : Int) = 0) = true from decide_eq_true (by omega))
       by_cases h4 : 40 < (bB nt.erase).length
       ·have HE := A_ (show R = none by rw [hrr, if_pos (.inr (.inr h4))])
        have t4 := kZ (40 < ((bB nt.erase).length : Int))
        have RP : (40 < (bB nt.erase).length) = True := eq_true h4
        clear h1 h2 h4 hrr
        go_wp2_with (first | (go_at_call 61; (with_reducible refine (mq.calls _ nt.erase (Nat.le_refl _) EF.out.yB.zG _ ?aD).mono ?_); (case aD => exact lK HR3.out); rintro e w' ⟨rfl, ⟨nd, rfl⟩⟩) | (go_at_call 84; (with_reducible refine (bY.dA true hbl.out _ ?aD).mono ?_); (case aD => exact lK HR3.out); rintro e w' ⟨rfl, ⟨nd, rfl⟩⟩))
        go_ret2
        exact ⟨ah HB.out _, .inl ⟨HE.out, rfl⟩⟩
       ·have HE := A_ (show R = some nt.erase by rw [hrr, if_neg (by omega)])
        have t4 := kT (40 < ((bB nt.erase).length : Int))
        have RP : (40 < (bB nt.erase).length) = False := eq_false h4
        clear h1 h2 h4 hrr
        go_wp2_with (first | (go_at_call 61; (with_reducible refine (mq.calls _ nt.erase (Nat.le_refl _) EF.out.yB.zG _ ?aD).mono ?_); (case aD => exact lK HR3.out); rintro e w' ⟨rfl, ⟨nd, rfl⟩⟩) | (go_at_call 84; (with_reducible refine (bY.dA true hbl.out _ ?aD).mono ?_); (case aD => exact lK HR3.out); rintro e w' ⟨rfl, ⟨nd, rfl⟩⟩))
        go_ret2
        exact ⟨ah HB.out _, .inr ⟨nt, HE.out, rfl, (yh.out.drewN _).lower (Nat.le_refl _)⟩⟩
      ·have hbl := A_ (show decide ((nt.erase.kids.length : Int) = 0) = false from decide_eq_false (by omega))
       by_cases h3 : nt.erase.keys.length = 0
       ·have HE := A_ (show R = none by rw [hrr, if_pos (.inr (.inl ⟨h2, h3⟩))])
        have t3 : ((nt.erase.keys.length : Int) == 0) = true := by rw [beq_iff_eq]; omega
        have Uf := dJ ((nt.erase.keys.length : Int) = 0)
        have t3c := kZ ((nt.erase.keys.length : Int) = 0)
        clear h1 h2 h3 hrr
        go_wp2_with (first | (go_at_call 61; (with_reducible refine (mq.calls _ nt.erase (Nat.le_refl _) EF.out.yB.zG _ ?aD).mono ?_); (case aD => exact lK HR3.out); rintro e w' ⟨rfl, ⟨nd, rfl⟩⟩) | (go_at_call 84; (with_reducible refine (bY.dA false hbl.out _ ?aD).mono ?_); (case aD => exact lK HR3.out); rintro e w' ⟨rfl, ⟨nd, rfl⟩⟩))
        go_ret2
        exact ⟨ah HB.out _, .inl ⟨HE.out, rfl⟩⟩
       ·have t3 : ((nt.erase.keys.length : Int) == 0) = false := by rw [beq_eq_false_iff_ne]; omega
        have t3c := kT ((nt.erase.keys.length : Int) = 0)
        by_cases h4 : 40 < (bB nt.erase).length
        ·have HE := A_ (show R = none by rw [hrr, if_pos (.inr (.inr h4))])
         have t4 := kZ (40 < ((bB nt.erase).length : Int))
         have RP : (40 < (bB nt.erase).length) = True := eq_true h4
         clear h1 h2 h3 h4 hrr
         go_wp2_with (first | (go_at_call 61; (with_reducible refine (mq.calls _ nt.erase (Nat.le_refl _) EF.out.yB.zG _ ?aD).mono ?_); (case aD => exact lK HR3.out); rintro e w' ⟨rfl, ⟨nd, rfl⟩⟩) | (go_at_call 84; (with_reducible refine (bY.dA false hbl.out _ ?aD).mono ?_); (case aD => exact lK HR3.out); rintro e w' ⟨rfl, ⟨nd, rfl⟩⟩))
         go_ret2
         exact ⟨ah HB.out _, .inl ⟨HE.out, rfl⟩⟩
        ·have HE := A_ (show R = some nt.erase by rw [hrr, if_neg (by omega)])
         have t4 := kT (40 < ((bB nt.erase).length : Int))
         have RP : (40 < (bB nt.erase).length) = False := eq_false h4
         clear h1 h2 h3 h4 hrr
         go_wp2_with (first | (go_at_call 61; (with_reducible refine (mq.calls _ nt.erase (Nat.le_refl _) EF.out.yB.zG _ ?aD).mono ?_); (case aD => exact lK HR3.out); rintro e w' ⟨rfl, ⟨nd, rfl⟩⟩) | (go_at_call 84; (with_reducible refine (bY.dA false hbl.out _ ?aD).mono ?_); (case aD => exact lK HR3.out); rintro e w' ⟨rfl, ⟨nd, rfl⟩⟩))
         go_ret2
         exact ⟨ah HB.out _, .inr ⟨nt, HE.out, rfl, (yh.out.drewN _).lower (Nat.le_refl _)⟩⟩
  ·rw [if_pos (by simpa using hn)] at hR
   have HE := A_ hR
   have WV : ((n : Int) != (P.length : Int)) = true := Mm hn
   have WW : (n != P.length) = true := vL hn
   clear hp hm hN hR hrs hn
   go_enter Try.func57, Try.ntmps57
   go_wp2_with (first | (refine jf 1 #[.slice A P.length c] 29 ?_; intro b3 hg w1 aC hb; have ui := A_ aC; have HB := A_ hb; have hz3 : w1.cell? ⟨b3, 0, none⟩ = some (.slice A P.length c) := (ak aC 0).trans rfl; clear hg aC hb) | (go_at_call 95; (with_reducible refine (mW.iP P oV.out A c _ (Kd.ax HP.out HB.out) HM.out).mono ?_); rintro e w2 ⟨hb, hr⟩; rw [kP.out] at hr; obtain ⟨nt, n9, h9, rfl, hs⟩ := hr.resolve_left (by rintro ⟨h, _⟩; cases h); injection h9 with h9; injection h9 with h9 h8; subst h9; subst h8; have hz3b : w2.cell? ⟨b3, 0, none⟩ = some (.slice A P.length c) := (ak (aT ui.out hb) 0).trans rfl; have HS2 := A_ (hs.lower HB.out.size); have aj := A_ (au HB.out hb); clear HB; have HB := aj; clear aj hb hr hs))
   go_ret2
   exact ⟨HB.out, .inl ⟨HE.out, rfl⟩⟩
theorem DX {p0 q : Prop} (h0 : p0) (h : p0 -> q := by intro p9; repeat (first | exact p9 | (with_reducible refine Rd.drewN ?_ _) | (with_reducible refine Rd.drew ?_))) : q := h h0
set_option maxHeartbeats 8000000
set_option maxRecDepth 100000
theorem rZ.iP (t : PT) (hs : mJ t) {p : Nat} (w : World) (h : Rd 101 w p t) (hb1 : (bB t).length <= 8796093022208) (hb2 : (dL t).length <= 8796093022208) : Calls Try.prog 66 #[bG p, .slice none 0 0, .slice none 0 0] w (O1 w (bB t) (dL t)) :=
 rZ.calls _ t (Nat.le_refl _) hs w w (.slice none 0 0) (.slice none 0 0) [] [] h (Below.refl _ _) (SR.nil _ _) (SR.nil _ _) (Qp _) hb1 hb2
theorem mo.iP (P : List bH) (hN : P.length <= 1000000000000) (w0 : World) (A : Option Addr) (c : Nat) (hp : Kd.C jX w0 A P.length P) (hm : ∀ p ∈ P, p.f0.length <= 1000000000000 /\ p.f1.length <= 1000000000000 /\ p.f2.length <= 1000000000000) (gb : Nat) (w : World) (hb : Below w0.heap.size w0 w) (hgb : w0.heap.size <= gb) (hg : w.heap[gb]? = some (.cells #[.slice A P.length c, .int .i64 0] 121 (0, 0))) :
  Calls Try.prog 97 #[bG gb] w (Qo w0 w gb (.slice A P.length c) (bX P (P.length + 1) 0)) :=
 mo.calls P hN w0 A c hp hm (P.length + 1) 0 (by omega) (Nat.zero_le _) gb w hb hgb hg
theorem oq.calls (k : Nat) (P : List bH) (hN : P.length <= 1000000000000) (A : Option Addr) (c : Nat) (w : World) (hp : Kd.C jX w A P.length P) (hm : ∀ p ∈ P, p.f0.length <= 1000000000000 /\ p.f1.length <= 1000000000000 /\ p.f2.length <= 1000000000000) (r : Option PT) (h : sj k P = some r) :
  Calls Try.prog 59 #[.agg #[.slice A P.length c]] w (Yd 101 74 w r) := by
 have HP := A_ hp
 have HM := A_ hm
 have oV := A_ hN
 have RH : P.length <= 1000000000000 := hN
 unfold sj at h
 cases hrs : bX P (P.length + 1) 0 with
 | none =>
  rw [hrs] at h
  have HE := A_ (Option.some.inj h)
  have kP := A_ hrs
  clear hp hm hN h hrs
  go_enter Try.func59, Try.ntmps59
  go_wp2_with (first | (refine jf 1 #[.slice A P.length c] 29 ?_; intro b3 hg w1 aC hb; have ui := A_ aC; have HB := A_ hb; have hz3 : w1.cell? ⟨b3, 0, none⟩ = some (.slice A P.length c) := (ak aC 0).trans rfl; clear hg aC hb) | (refine jf 12 #[.slice A P.length c, .int .i64 0] 121 ?_; intro gb hg w2 aC hb; have DC := A_ (show w.heap.size <= gb by rw [hg]; exact HB.out.size); have Ma := A_ (show b3 ≠ gb by have := gF ui.out; omega); have HG := A_ aC; have az := A_ (aT ui.out hb); have aj := A_ (au HB.out hb); clear HB; clear ui; have HB := aj; have ui := az; clear aj az hg aC hb) | (go_at_call 97; (with_reducible refine (mo.iP P oV.out w A c HP.out HM.out gb _ HB.out DC.out HG.out).mono ?_); rintro e w3 ⟨hb, hr⟩; rw [kP.out] at hr; obtain ⟨-, rfl⟩ := hr.resolve_right (by rintro ⟨_, _, h, _⟩; cases h); clear HB; have HB := A_ hb; clear hb hr))
  go_quiet (fail)
  go_wp2
  go_ret2
  exact ⟨ah HB.out _, .inl ⟨HE.out.symm, rfl⟩⟩
 | some tn =>
  obtain ⟨t, n⟩ := tn
  rw [hrs] at h
  simp only at h
  have kP := A_ hrs
  have EF := A_ (iY _ 0 t n hrs).2
  have Lt := A_ (jh _ 0 t n hrs)
  by_cases hn : n = P.length
  ·rw [if_neg (by simp [hn])] at h
   have WV : ((n : Int) != (P.length : Int)) = false := Hu hn
   have WW : (n != P.length) = false := uB hn
   have HZ1 := A_ (show (bB t).length <= 8796093022208 by have := EF.out.k; omega)
   have HZ2 := A_ (show (dL t).length <= 8796093022208 by have := EF.out.v; omega)
   obtain ⟨dd, bb, hdp⟩ : ∃ d b, gG t = (d, b) := ⟨_, _, rfl⟩
   have Xa := A_ hdp
   rw [hdp] at h
   cases bb with
   | false =>
    have HE := A_ (Option.some.inj h)
    clear hp hm hN h hrs hn hdp
    go_enter Try.func59, Try.ntmps59
    go_wp2_with (first | (refine jf 1 #[.slice A P.length c] 29 ?_; intro b3 hg w1 aC hb; have ui := A_ aC; have HB := A_ hb; have hz3 : w1.cell? ⟨b3, 0, none⟩ = some (.slice A P.length c) := (ak aC 0).trans rfl; clear hg aC hb) | (refine jf 12 #[.slice A P.length c, .int .i64 0] 121 ?_; intro gb hg w2 aC hb; have DC := A_ (show w.heap.size <= gb by rw [hg]; exact HB.out.size); have Ma := A_ (show b3 ≠ gb by have := gF ui.out; omega); have HG := A_ aC; have az := A_ (aT ui.out hb); have aj := A_ (au HB.out hb); clear HB; clear ui; have HB := aj; have ui := az; clear aj az hg aC hb) | (go_at_call 97; (with_reducible refine (mo.iP P oV.out w A c HP.out HM.out gb _ HB.out DC.out HG.out).mono ?_); rintro e w3 ⟨hb, hr⟩; rw [kP.out] at hr; obtain ⟨nt, n9, h9, rfl, hs, hk, hg⟩ := hr.resolve_left (by rintro ⟨h, _⟩; cases h); injection h9 with h9; injection h9 with h9 h8; subst h9; subst h8; have hz3b : w3.cell? ⟨b3, 0, none⟩ = some (.slice A P.length c) := (ak (su ui.out hk Ma.out) 0).trans rfl; have hzg : w3.cell? ⟨gb, 1, none⟩ = some (.int .i64 (n : Int)) := (ak hg 1).trans rfl; have HS2 := A_ (hs.lower HB.out.size); clear HB; have HB := A_ hb; have HR3 := A_ (jI HS2.out); clear hb hr hs hk hg))
    go_quiet (fail)
    go_wp2_with (go_at_call 62; (with_reducible refine (qP.calls _ nt.erase (Nat.le_refl _) EF.out.yB.zG dd false Xa.out _ ?aD).mono ?_); (case aD => exact DX HR3.out); rintro e w' ⟨rfl, ⟨nd, rfl⟩⟩)
    go_ret2
    exact ⟨ah HB.out _, .inl ⟨HE.out.symm, rfl⟩⟩
   | true =>
    rw [if_neg (by simp)] at h
    obtain ⟨b, hap, h⟩ := Option.bind_eq_some_iff.mp h
    have U8 := A_ hap
    cases b with
    | false =>
     have HE := A_ (Option.some.inj h)
     clear hp hm hN h hrs hn hdp hap
     go_enter Try.func59, Try.ntmps59
     go_wp2_with (first | (refine jf 1 #[.slice A P.length c] 29 ?_; intro b3 hg w1 aC hb; have ui := A_ aC; have HB := A_ hb; have hz3 : w1.cell? ⟨b3, 0, none⟩ = some (.slice A P.length c) := (ak aC 0).trans rfl; clear hg aC hb) | (refine jf 12 #[.slice A P.length c, .int .i64 0] 121 ?_; intro gb hg w2 aC hb; have DC := A_ (show w.heap.size <= gb by rw [hg]; exact HB.out.size); have Ma := A_ (show b3 ≠ gb by have := gF ui.out; omega); have HG := A_ aC; have az := A_ (aT ui.out hb); have aj := A_ (au HB.out hb); clear HB; clear ui; have HB := aj; have ui := az; clear aj az hg aC hb) | (go_at_call 97; (with_reducible refine (mo.iP P oV.out w A c HP.out HM.out gb _ HB.out DC.out HG.out).mono ?_); rintro e w3 ⟨hb, hr⟩; rw [kP.out] at hr; obtain ⟨nt, n9, h9, rfl, hs, hk, hg⟩ := hr.resolve_left (by rintro ⟨h, _⟩; cases h); injection h9 with h9; injection h9 with h9 h8; subst h9; subst h8; have hz3b : w3.cell? ⟨b3, 0, none⟩ = some (.slice A P.length c) := (ak (su ui.out hk Ma.out) 0).trans rfl; have hzg : w3.cell? ⟨gb, 1, none⟩ = some (.int .i64 (n : Int)) := (ak hg 1).trans rfl; have HS2 := A_ (hs.lower HB.out.size); clear HB; have HB := A_ hb; have HR3 := A_ (jI HS2.out); clear hb hr hs hk hg))
     have Xb := fun m => HR3.out.drewN m
     go_quiet (fail)
     go_wp2_with (first | (go_at_call 62; (with_reducible refine (qP.calls _ nt.erase (Nat.le_refl _) EF.out.yB.zG dd true Xa.out _ ?aD).mono ?_); (case aD => exact DX HR3.out); rintro e w' ⟨rfl, ⟨nd, rfl⟩⟩) | (go_at_call 66; (with_reducible refine (rZ.iP nt.erase EF.out.yB _ (Xb _) HZ1.out HZ2.out).mono ?_); rintro e w5 ⟨u1, u2, rfl, ho1, ho2, hne, hb⟩; obtain ⟨B1, d1, rfl, hl1, hc1⟩ := Kd.eU ho1; obtain ⟨B2, d2, rfl, hl2, hc2⟩ := Kd.eU ho2; have Bi := A_ hc1; have rV := A_ hc2; have HD1 := A_ hl1; have HD2 := A_ hl2; have aj := A_ (au (ah HB.out _) hb); have yh := A_ ((HS2.out.drewN _).under hb); clear HB; have HB := aj; clear aj hb ho1 ho2 hne hl1 hl2 hc1 hc2 HS2) | (go_at_call 86; (with_reducible refine (bR.calls k _ _ (bB nt.erase) _ _ (dL nt.erase) false _ Bi.out HD1.out rV.out HD2.out U8.out).mono ?_); rintro e w' ⟨rfl, ⟨nd, rfl⟩⟩))
     go_ret2
     exact ⟨ah HB.out _, .inl ⟨HE.out.symm, rfl⟩⟩
    | true =>
     have HE := A_ (Option.some.inj h)
     clear hp hm hN h hrs hn hdp hap
     go_enter Try.func59, Try.ntmps59
     go_wp2_with (first | (refine jf 1 #[.slice A P.length c] 29 ?_; intro b3 hg w1 aC hb; have ui := A_ aC; have HB := A_ hb; have hz3 : w1.cell? ⟨b3, 0, none⟩ = some (.slice A P.length c) := (ak aC 0).trans rfl; clear hg aC hb) | (refine jf 12 #[.slice A P.length c, .int .i64 0] 121 ?_; intro gb hg w2 aC hb; have DC := A_ (show w.heap.size <= gb by rw [hg]; exact HB.out.size); have Ma := A_ (show b3 ≠ gb by have := gF ui.out; omega); have HG := A_ aC; have az := A_ (aT ui.out hb); have aj := A_ (au HB.out hb); clear HB; clear ui; have HB := aj; have ui := az; clear aj az hg aC hb) | (go_at_call 97; (with_reducible refine (mo.iP P oV.out w A c HP.out HM.out gb _ HB.out DC.out HG.out).mono ?_); rintro e w3 ⟨hb, hr⟩; rw [kP.out] at hr; obtain ⟨nt, n9, h9, rfl, hs, hk, hg⟩ := hr.resolve_left (by rintro ⟨h, _⟩; cases h); injection h9 with h9; injection h9 with h9 h8; subst h9; subst h8; have hz3b : w3.cell? ⟨b3, 0, none⟩ = some (.slice A P.length c) := (ak (su ui.out hk Ma.out) 0).trans rfl; have hzg : w3.cell? ⟨gb, 1, none⟩ = some (.int .i64 (n : Int)) := (ak hg 1).trans rfl; have HS2 := A_ (hs.lower HB.out.size); clear HB; have HB := A_ hb; have HR3 := A_ (jI HS2.out); clear hb hr hs hk hg))
     have Xb := fun m => HR3.out.drewN m
     go_quiet (fail)
     go_wp2_with (first | (go_at_call 62; (with_reducible refine (qP.calls _ nt.erase (Nat.le_refl _) EF.out.yB.zG dd true Xa.out _ ?aD).mono ?_); (case aD => exact DX HR3.out); rintro e w' ⟨rfl, ⟨nd, rfl⟩⟩) | (go_at_call 66; (with_reducible refine (rZ.iP nt.erase EF.out.yB _ (Xb _) HZ1.out HZ2.out).mono ?_); rintro e w5 ⟨u1, u2, rfl, ho1, ho2, hne, hb⟩; obtain ⟨B1, d1, rfl, hl1, hc1⟩ := Kd.eU ho1; obtain ⟨B2, d2, rfl, hl2, hc2⟩ := Kd.eU ho2; have Bi := A_ hc1; have rV := A_ hc2; have HD1 := A_ hl1; have HD2 := A_ hl2; have aj := A_ (au (ah HB.out _) hb); have yh := A_ ((HS2.out.drewN _).under hb); clear HB; have HB := aj; clear aj hb ho1 ho2 hne hl1 hl2 hc1 hc2 HS2) | (go_at_call 86; (with_reducible refine (bR.calls k _ _ (bB nt.erase) _ _ (dL nt.erase) true _ Bi.out HD1.out rV.out HD2.out U8.out).mono ?_); rintro e w' ⟨rfl, ⟨nd, rfl⟩⟩))
     go_ret2
     exact ⟨ah HB.out _, .inr ⟨nt, by rw [<- HE.out]; rfl, rfl, yh.out.drewN _⟩⟩
  ·rw [if_pos (by simpa using hn)] at h
   have HE := A_ (Option.some.inj h)
   have WV : ((n : Int) != (P.length : Int)) = true := Mm hn
   have WW : (n != P.length) = true := vL hn
   clear hp hm hN h hrs hn
   go_enter Try.func59, Try.ntmps59
   go_wp2_with (first | (refine jf 1 #[.slice A P.length c] 29 ?_; intro b3 hg w1 aC hb; have ui := A_ aC; have HB := A_ hb; have hz3 : w1.cell? ⟨b3, 0, none⟩ = some (.slice A P.length c) := (ak aC 0).trans rfl; clear hg aC hb) | (refine jf 12 #[.slice A P.length c, .int .i64 0] 121 ?_; intro gb hg w2 aC hb; have DC := A_ (show w.heap.size <= gb by rw [hg]; exact HB.out.size); have Ma := A_ (show b3 ≠ gb by have := gF ui.out; omega); have HG := A_ aC; have az := A_ (aT ui.out hb); have aj := A_ (au HB.out hb); clear HB; clear ui; have HB := aj; have ui := az; clear aj az hg aC hb) | (go_at_call 97; (with_reducible refine (mo.iP P oV.out w A c HP.out HM.out gb _ HB.out DC.out HG.out).mono ?_); rintro e w3 ⟨hb, hr⟩; rw [kP.out] at hr; obtain ⟨nt, n9, h9, rfl, hs, hk, hg⟩ := hr.resolve_left (by rintro ⟨h, _⟩; cases h); injection h9 with h9; injection h9 with h9 h8; subst h9; subst h8; have hz3b : w3.cell? ⟨b3, 0, none⟩ = some (.slice A P.length c) := (ak (su ui.out hk Ma.out) 0).trans rfl; have hzg : w3.cell? ⟨gb, 1, none⟩ = some (.int .i64 (n : Int)) := (ak hg 1).trans rfl; have HS2 := A_ (hs.lower HB.out.size); clear HB; have HB := A_ hb; have HR3 := A_ (jI HS2.out); clear hb hr hs hk hg))
   go_quiet (fail)
   go_wp2
   go_ret2
   exact ⟨ah HB.out _, .inl ⟨HE.out.symm, rfl⟩⟩
theorem tN {p0 q : Prop} (h0 : p0) (h : p0 -> q := by intro p9; repeat (first | exact p9 | (with_reducible refine Rd.drewN ?_ _) | (with_reducible refine Rd.drew ?_))) : q := h h0
set_option maxHeartbeats 8000000
set_option maxRecDepth 100000
theorem pE.calls (t : PT) (hm : t.keys.length <= 1000000000000) (key : ByteArray) (i0 : Nat) (b : Bool) (hi0 : dm key t.keys = i0) (hb : iJ t.keys i0 key = b) {p : Nat} (w : World) (h : Rd 96 w p t) :
  Calls Try.prog 100 #[bG p, .string key] w fun e w' => e = .returned (.tuple #[.int .i64 (i0 : Int), .bool b]) /\ ay w w' := by
 obtain ⟨Ak, ck, Av, cv, Ac, cc, ps, EB⟩ := h.open
 have HN := A_ EB
 have hz0 := EB.z0
 have HE := A_ (show i0 = 0 + dm key (t.keys.drop 0) by rw [List.drop_zero, Nat.zero_add]; exact hi0.symm)
 have yj := A_ hb
 clear h EB hi0 hb
 go_enter Try.func100, Try.ntmps100
 go_wp2
 go_loopg [6] t.keys.length (fun kq u6 w' => ∃ (i m : Nat), u6 = .int .i64 (i : Int) /\ af (i <= t.keys.length /\ kq + i = t.keys.length) /\ af (i0 = i + dm key (t.keys.drop i)) /\ w' = w.drewN m)
 case atStart => exact ⟨0, 0, by first | rfl | (simp; done), ⟨by omega⟩, HE, rfl⟩
 case round =>
  clear HE
  obtain ⟨i, m, rfl, HK, HE, rfl⟩ := hrel
  have ci := dJ (0 <= (i : Int))
  by_cases hi : i < t.keys.length
  ·have ce := kZ ((i : Int) < (t.keys.length : Int))
   have xL : (i < t.keys.length) = True := eq_true hi
   have hil : i < 1000000000000 := by omega
   have HI := A_ hi
   obtain ⟨PM, rfl, hk0⟩ := HN.out.key i (by omega) (by omega)
   rw [Int.toNat_natCast] at hk0
   have hks : t.keys[i]? = some (bI ByteArray.empty t.keys (i : Int)) := by unfold bI; rw [Int.toNat_natCast, List.getD_eq_getElem?_getD, List.getElem?_eq_getElem hi]; rfl
   generalize bI ByteArray.empty t.keys (i : Int) = k at hk0 hks
   have kD := A_ hks
   clear hks hi
   cases hlt : wP k key with
   | true =>
    have nQ := A_ (Q3 kD.out HE.out hlt)
    have hlt' : Op.bytesLess k.toList key.toList = true := hlt
    clear hlt
    go_wp2
    go_roundg (t.keys.length - (i + 1))
    case measure => have := HK.out; have := HI.out; omega
    case rel => exact ⟨i + 1, _, by first | rfl | go_num | (simp; done), ⟨by have := HK.out; have := HI.out; omega⟩, nQ, rfl⟩
   | false =>
    have he := O3 kD.out HE.out hlt
    subst he
    have hlt' : Op.bytesLess k.toList key.toList = false := hlt
    have hbb : (k.toList == key.toList) = b := by have := yj.out; unfold iJ at this; rw [kD.out] at this; exact this
    clear hlt
    go_wp2
    go_quiet (fail)
    go_wp2
    go_ret2
    exact ⟨rfl, by repeat (first | exact ay.refl _ | apply ay.step | exact ⟨_, rfl⟩)⟩
  ·have ce := kT ((i : Int) < (t.keys.length : Int))
   have xL : (i < t.keys.length) = False := eq_false hi
   have he := O4 (by omega) HE.out
   subst he
   obtain rfl : b = false := by
    cases b with
    | false => rfl
    | true => exact absurd (jZ yj.out) hi
   clear hi
   go_wp2
   go_quiet (fail)
   go_wp2
   go_ret2
   exact ⟨rfl, by repeat (first | exact ay.refl _ | apply ay.step | exact ⟨_, rfl⟩)⟩
theorem Fs.calls : ∀ (n : Nat) (t : PT), t.big <= n -> mJ t -> ∀ (key v : ByteArray) (b : Bool), zB n t key = (v, b) -> ∀ {p : Nat} (w : World), Rd 96 w p t ->
  Calls Try.prog 63 #[bG p, .string key] w fun e w' => e = .returned (.tuple #[.string v, .bool b]) /\ ay w w' := by
 intro n
 induction n with
 | zero =>
  intro t hs
  exact absurd (PT.eH t) (by omega)
 | succ n ih =>
  intro t hs hf key v b hr p w h
  obtain ⟨Ak, ck, Av, cv, Ac, cc, ps, EB⟩ := h.open
  have h1 := hf.one
  unfold uQ at h1
  have hle := kU key t.keys
  have HN := A_ EB
  have HO := A_ h
  have HF := A_ hf
  have EX := A_ hs
  have hz1 := EB.z1
  have hz2 := EB.z2
  obtain ⟨i, hi⟩ : ∃ i, dm key t.keys = i := ⟨_, rfl⟩
  rw [zB, hi] at hr
  rw [hi] at hle
  have HI := A_ hi
  have ci := dJ (0 <= (i : Int))
  cases hh : iJ t.keys i key with
  | true =>
   have hlt := jZ hh
   rw [hh, if_pos rfl] at hr
   injection hr with e1 e2
   subst e2
   obtain ⟨IA, rfl, hv0⟩ := EB.val i (by omega) (by omega)
   rw [Int.toNat_natCast] at hv0
   rw [e1] at hv0
   have WY := dJ (i < t.vals.length)
   have WX := dJ ((i : Int) < (t.vals.length : Int))
   have HH := A_ hh
   have HM := A_ (show t.keys.length <= 1000000000000 by omega)
   clear h1 hle hlt hh hi h hf hs EB e1
   go_enter Try.func63, Try.ntmps63
   go_wp2_with (go_at_call 100; (with_reducible refine (pE.calls t HM.out key i true HI.out HH.out _ ?aD).mono ?_); (case aD => exact tN HO.out); rintro e w' ⟨rfl, ⟨nd, rfl⟩⟩)
   go_ret2
   exact ⟨rfl, by repeat (first | exact ay.refl _ | apply ay.step | exact ⟨_, rfl⟩)⟩
  | false =>
   rw [hh, if_neg (by decide)] at hr
   have HH := A_ hh
   have HM := A_ (show t.keys.length <= 1000000000000 by omega)
   by_cases h0 : t.kids.length = 0
   ·rw [if_pos h0] at hr
    injection hr with e1 e2
    subst e1; subst e2
    have hb0 := A_ (show decide ((t.kids.length : Int) = 0) = true from decide_eq_true (by omega))
    clear h1 hle hh hi h hf hs EB h0
    go_enter Try.func63, Try.ntmps63
    go_wp2_with (first | (go_at_call 100; (with_reducible refine (pE.calls t HM.out key i false HI.out HH.out _ ?aD).mono ?_); (case aD => exact tN HO.out); rintro e w' ⟨rfl, ⟨nd, rfl⟩⟩) | (go_at_call 84; (with_reducible refine (bY.dA true hb0.out _ ?aD).mono ?_); (case aD => exact tN HO.out); rintro e w' ⟨rfl, ⟨nd, rfl⟩⟩))
    go_ret2
    exact ⟨by first | rfl | (simp; done), by repeat (first | exact ay.refl _ | apply ay.step | exact ⟨_, rfl⟩)⟩
   ·rw [if_neg h0] at hr
    have hb0 := A_ (show decide ((t.kids.length : Int) = 0) = false from decide_eq_false (by omega))
    have hkl : t.kids.length = t.keys.length + 1 := h1.2.2.resolve_left h0
    obtain ⟨adc, q, s, rfl, hc0, hs', hrs⟩ := EB.kid i (by omega) (by omega)
    rw [Int.toNat_natCast] at hc0 hs'
    rw [hs'] at hr
    have HS := A_ hs'
    have QA := A_ hrs
    have HR := A_ (show zB n s key = (v, b) from hr)
    have WQ := dJ ((i : Int) < (t.kids.length : Int))
    have hcb := dJ (i < t.kids.length)
    clear h1 hle hh hi h hf hs EB h0 hr hkl hs' hrs
    go_enter Try.func63, Try.ntmps63
    go_wp2_with (first | (go_at_call 100; (with_reducible refine (pE.calls t HM.out key i false HI.out HH.out _ ?aD).mono ?_); (case aD => exact tN HO.out); rintro e w' ⟨rfl, ⟨nd, rfl⟩⟩) | (go_at_call 84; (with_reducible refine (bY.dA false hb0.out _ ?aD).mono ?_); (case aD => exact tN HO.out); rintro e w' ⟨rfl, ⟨nd, rfl⟩⟩) | (go_at_call 63; (with_reducible refine (ih s (by have := PT.fH HS.out; have := EX.out; omega) (HF.out.kid HS.out) key v b HR.out _ ?aD).mono ?_); (case aD => exact tN QA.out); rintro e w' ⟨rfl, ⟨nd, rfl⟩⟩))
    go_ret2
    exact ⟨by first | rfl | (simp; done), by repeat (first | exact ay.refl _ | apply ay.step | exact ⟨_, rfl⟩)⟩
end Go.Proofs.Ytoddejmlcnbdmaa.Tree
namespace Go.Proofs.Ytoddejmlcnbdmaa.Fn
open Go.Proofs.Ytoddejmlcnbdmaa.Tree
set_option maxHeartbeats 8000000
set_option maxRecDepth 100000
def BQ (P : List bH) : Bool := decide (P.length <= 1000000000000) && P.all fun p => decide (p.f0.length <= 1000000000000) && decide (p.f1.length <= 1000000000000) && decide (p.f2.length <= 1000000000000)
theorem fo {P : List bH} (h : BQ P = true) : P.length <= 1000000000000 /\ ∀ p ∈ P, p.f0.length <= 1000000000000 /\ p.f1.length <= 1000000000000 /\ p.f2.length <= 1000000000000 := by
 unfold BQ at h
 simp only [Bool.and_eq_true, decide_eq_true_eq, List.all_eq_true] at h
 exact ⟨h.1, fun p hp => ⟨(h.2 p hp).1.1, (h.2 p hp).1.2, (h.2 p hp).2⟩⟩
theorem CF : ∀ (k n : Nat) (t : PT) (key : ByteArray), jY (zC k n t key) (zC (k + 1) (n + 1) t key)
 | k, 0, t, key => jY.none _
 | k, n + 1, t, key => by
  rw [zC, zC]
  refine jY.bind (fT.mono _ _ _) fun a => jY.bind (jY.refl _) fun h => jY.ite (jY.refl _) (jY.ite (jY.refl _) (jY.ite ?_ (jY.refl _)))
  cases t.kids[a.toNat]? with
  | none => exact jY.refl _
  | some s => exact CF k n s key
def fJ.f (k : Nat) (bD : List bH) : Option Bool := if BQ bD = true then (sj k bD).bind fun r => some r.isSome else none
theorem fJ.calls (k : Nat) (dw : Option Addr) (dx : Nat) (bD : List (bH)) (r : Bool) (w : World) (jR : Kd.C jX w dw bD.length bD) (oW : bD.length <= dx) (h : fJ.f k bD = some r) :
  Calls Try.prog 18 #[.agg #[.slice dw bD.length dx]] w fun e w' => e = .returned (.bool r) /\ Below w.heap.size w w' := by
 unfold fJ.f at h
 have HP := A_ jR
 clear jR oW
 by_cases hok : BQ bD = true
 ·rw [if_pos hok] at h
  have oV := A_ (fo hok).1
  have HM := A_ (fo hok).2
  obtain ⟨o, hrs, h⟩ := Option.bind_eq_some_iff.mp h
  cases o with
  | none =>
   obtain rfl := Option.some.inj h
   have kP := A_ hrs
   clear h hrs hok
   go_enter Try.func18, Try.ntmps18
   go_wp2_with (first | (refine jf 1 #[.slice dw bD.length dx] 29 ?_; intro b3 hg w1 aC hb; have HB := A_ hb; have hz3 : w1.cell? ⟨b3, 0, none⟩ = some (.slice dw bD.length dx) := (ak aC 0).trans rfl; clear hg aC hb) | (go_at_call 59; (with_reducible refine (oq.calls k bD oV.out dw dx _ (Kd.ax HP.out HB.out) HM.out _ kP.out).mono ?_); rintro e w2 ⟨hb, hr⟩; obtain ⟨-, rfl⟩ := hr.resolve_right (by rintro ⟨_, h, _⟩; cases h); have aj := A_ (au HB.out hb); clear HB; have HB := aj; clear aj hb hr))
   go_ret
   exact ⟨by first | rfl | (simp; done), HB.out⟩
  | some t =>
   obtain rfl := Option.some.inj h
   have kP := A_ hrs
   clear h hrs hok
   go_enter Try.func18, Try.ntmps18
   go_wp2_with (first | (refine jf 1 #[.slice dw bD.length dx] 29 ?_; intro b3 hg w1 aC hb; have HB := A_ hb; have hz3 : w1.cell? ⟨b3, 0, none⟩ = some (.slice dw bD.length dx) := (ak aC 0).trans rfl; clear hg aC hb) | (go_at_call 59; (with_reducible refine (oq.calls k bD oV.out dw dx _ (Kd.ax HP.out HB.out) HM.out _ kP.out).mono ?_); rintro e w2 ⟨hb, hr⟩; obtain ⟨nt, h9, rfl, hs⟩ := hr.resolve_left (by rintro ⟨h, _⟩; cases h); injection h9 with h9; subst h9; have HR2 := A_ (jI hs); have aj := A_ (au HB.out hb); clear HB; have HB := aj; clear aj hb hr hs))
   go_ret
   exact ⟨by first | rfl | (simp; done), HB.out⟩
 ·rw [if_neg hok] at h
  cases h
theorem DY {P : List bH} {t : PT} (h : pz P = some t) : mJ t := by
 unfold pz at h
 cases hrs : bX P 10 0 with
 | none => rw [hrs] at h; cases h
 | some r =>
  rw [hrs] at h
  simp only at h
  obtain ⟨r1, r2⟩ := r
  have hf := (iY 10 0 r1 r2 hrs).2.yB
  split at h
  ·cases h
  ·split at h
   ·cases h
   ·split at h
    ·cases h
    ·obtain rfl := Option.some.inj h
     exact hf
theorem CG {k : Nat} {P : List bH} {t : PT} (h : sj k P = some (some t)) : mJ t := by
 unfold sj at h
 cases hrs : bX P (P.length + 1) 0 with
 | none => rw [hrs] at h; cases h
 | some r =>
  rw [hrs] at h
  simp only at h
  obtain ⟨r1, r2⟩ := r
  have hf := (iY _ 0 r1 r2 hrs).2.yB
  split at h
  ·cases h
  ·split at h
   ·cases h
   ·obtain ⟨b, _, h⟩ := Option.bind_eq_some_iff.mp h
    cases b with
    | false => cases h
    | true =>
     obtain rfl : r1 = t := by simpa using h
     exact hf
def j4.f (bD : List bH) : Option (Int × Bool) := if BQ bD = true then (match pz bD with | none => some (0, false) | some t => some ((fP t, true))) else none
theorem j4.calls (dw : Option Addr) (dx : Nat) (bD : List (bH)) (r1 : Int) (r2 : Bool) (w : World) (jR : Kd.C jX w dw bD.length bD) (oW : bD.length <= dx) (h : j4.f bD = some (r1, r2)) :
  Calls Try.prog 20 #[.agg #[.slice dw bD.length dx]] w fun e w' => e = .returned (.tuple #[.int .i64 r1, .bool r2]) /\ Below w.heap.size w w' := by
 unfold j4.f at h
 have HP := A_ jR
 clear jR oW
 by_cases hok : BQ bD = true
 ·rw [if_pos hok] at h
  have oV := A_ (fo hok).1
  have HM := A_ (fo hok).2
  cases hrs : pz bD with
  | none =>
   rw [hrs] at h
   injection h with h
   injection h with e1 e2
   subst e1; subst e2
   have kP := A_ hrs
   clear hrs hok
   go_enter Try.func20, Try.ntmps20
   go_wp2_with (first | (refine jf 1 #[.slice dw bD.length dx] 29 ?_; intro b3 hg w1 aC hb; have HB := A_ hb; have hz3 : w1.cell? ⟨b3, 0, none⟩ = some (.slice dw bD.length dx) := (ak aC 0).trans rfl; clear hg aC hb) | (go_at_call 57; (with_reducible refine (fU.calls bD oV.out dw dx _ (Kd.ax HP.out HB.out) HM.out).mono ?_); rintro e w2 ⟨hb, hr⟩; rw [kP.out] at hr; obtain ⟨-, rfl⟩ := hr.resolve_right (by rintro ⟨_, h, _⟩; cases h); have aj := A_ (au HB.out hb); clear HB; have HB := aj; clear aj hb hr))
   go_ret2
   exact ⟨by first | rfl | (simp; done), HB.out⟩
  | some t =>
   rw [hrs] at h
   injection h with h
   injection h with e1 e2
   subst e1; subst e2
   have kP := A_ hrs
   have Xc := A_ (DY hrs)
   (try clear h)
   clear hrs hok
   go_enter Try.func20, Try.ntmps20
   go_wp2_with (first | (refine jf 1 #[.slice dw bD.length dx] 29 ?_; intro b3 hg w1 aC hb; have HB := A_ hb; have hz3 : w1.cell? ⟨b3, 0, none⟩ = some (.slice dw bD.length dx) := (ak aC 0).trans rfl; clear hg aC hb) | (go_at_call 57; (with_reducible refine (fU.calls bD oV.out dw dx _ (Kd.ax HP.out HB.out) HM.out).mono ?_); rintro e w2 ⟨hb, hr⟩; rw [kP.out] at hr; obtain ⟨nt, h9, rfl, hs⟩ := hr.resolve_left (by rintro ⟨h, _⟩; cases h); injection h9 with h9; subst h9; have HR2 := A_ (jI hs); have aj := A_ (au HB.out hb); clear HB; have HB := aj; clear aj hb hr hs) | (go_at_call 61; (with_reducible refine (mq.calls _ nt.erase (Nat.le_refl _) Xc.out.zG _ ?aD).mono ?_); (case aD => repeat (first | exact HR2.out | (with_reducible refine Rd.drewN ?_ _) | (with_reducible refine Rd.drew ?_))); rintro e w' ⟨rfl, ⟨nd, rfl⟩⟩))
   go_ret2
   exact ⟨by first | rfl | (simp; done), ah HB.out _⟩
 ·rw [if_neg hok] at h
  cases h
def j5.f (k : Nat) (bD : List bH) : Option (Int × Bool) := if BQ bD = true then (sj k bD).bind fun r => (match r with | none => some (0, false) | some t => some (gG t)) else none
theorem j5.calls (k : Nat) (dw : Option Addr) (dx : Nat) (bD : List (bH)) (r1 : Int) (r2 : Bool) (w : World) (jR : Kd.C jX w dw bD.length bD) (oW : bD.length <= dx) (h : j5.f k bD = some (r1, r2)) :
  Calls Try.prog 21 #[.agg #[.slice dw bD.length dx]] w fun e w' => e = .returned (.tuple #[.int .i64 r1, .bool r2]) /\ Below w.heap.size w w' := by
 unfold j5.f at h
 have HP := A_ jR
 clear jR oW
 by_cases hok : BQ bD = true
 ·rw [if_pos hok] at h
  have oV := A_ (fo hok).1
  have HM := A_ (fo hok).2
  obtain ⟨o, hrs, h⟩ := Option.bind_eq_some_iff.mp h
  cases o with
  | none =>
   injection h with h
   injection h with e1 e2
   subst e1; subst e2
   have kP := A_ hrs
   clear hrs hok
   go_enter Try.func21, Try.ntmps21
   go_wp2_with (first | (refine jf 1 #[.slice dw bD.length dx] 29 ?_; intro b3 hg w1 aC hb; have HB := A_ hb; have hz3 : w1.cell? ⟨b3, 0, none⟩ = some (.slice dw bD.length dx) := (ak aC 0).trans rfl; clear hg aC hb) | (go_at_call 59; (with_reducible refine (oq.calls k bD oV.out dw dx _ (Kd.ax HP.out HB.out) HM.out _ kP.out).mono ?_); rintro e w2 ⟨hb, hr⟩; obtain ⟨-, rfl⟩ := hr.resolve_right (by rintro ⟨_, h, _⟩; cases h); have aj := A_ (au HB.out hb); clear HB; have HB := aj; clear aj hb hr))
   go_ret2
   exact ⟨by first | rfl | (simp; done), HB.out⟩
  | some t =>
   have HX := A_ (Option.some.inj h)
   have kP := A_ hrs
   have Xc := A_ (CG hrs)
   (try clear h)
   clear hrs hok
   go_enter Try.func21, Try.ntmps21
   go_wp2_with (first | (refine jf 1 #[.slice dw bD.length dx] 29 ?_; intro b3 hg w1 aC hb; have HB := A_ hb; have hz3 : w1.cell? ⟨b3, 0, none⟩ = some (.slice dw bD.length dx) := (ak aC 0).trans rfl; clear hg aC hb) | (go_at_call 59; (with_reducible refine (oq.calls k bD oV.out dw dx _ (Kd.ax HP.out HB.out) HM.out _ kP.out).mono ?_); rintro e w2 ⟨hb, hr⟩; obtain ⟨nt, h9, rfl, hs⟩ := hr.resolve_left (by rintro ⟨h, _⟩; cases h); injection h9 with h9; subst h9; have HR2 := A_ (jI hs); have aj := A_ (au HB.out hb); clear HB; have HB := aj; clear aj hb hr hs) | (go_at_call 62; (with_reducible refine (qP.calls _ nt.erase (Nat.le_refl _) Xc.out.zG r1 r2 HX.out _ ?aD).mono ?_); (case aD => repeat (first | exact HR2.out | (with_reducible refine Rd.drewN ?_ _) | (with_reducible refine Rd.drew ?_))); rintro e w' ⟨rfl, ⟨nd, rfl⟩⟩))
   go_ret2
   exact ⟨by first | rfl | (simp; done), ah HB.out _⟩
 ·rw [if_neg hok] at h
  cases h
open Go.Proofs.Ytoddejmlcnbdmaa.Tree
theorem vO {p0 q : Prop} (h0 : p0) (h : p0 -> q := by intro p9; repeat (first | exact p9 | (with_reducible refine Rd.drewN ?_ _) | (with_reducible refine Rd.drew ?_))) : q := h h0
theorem mK {p0 q : Prop} (h0 : p0) (h : p0 -> q := by intro p9; repeat (first | (with_reducible exact p9) | (with_reducible apply ah) | (with_reducible apply bC))) : q := h h0
set_option maxHeartbeats 8000000
set_option maxRecDepth 100000
theorem Ju {P : List bH} {t : PT} (h : pz P = some t) (hN : P.length <= 1000000000000) : (bB t).length <= 4000000000000 := by
 unfold pz at h
 cases hrs : bX P 10 0 with
 | none => rw [hrs] at h; cases h
 | some r =>
  rw [hrs] at h
  simp only at h
  obtain ⟨r1, r2⟩ := r
  have hf := (iY 10 0 r1 r2 hrs).2.k
  have hl := (jh 10 0 r1 r2 hrs).2
  split at h
  ·cases h
  ·split at h
   ·cases h
   ·split at h
    ·cases h
    ·obtain rfl := Option.some.inj h
     omega
theorem KD {k : Nat} {P : List bH} {t : PT} (h : sj k P = some (some t)) (hN : P.length <= 1000000000000) : (bB t).length <= 4000000000000 := by
 unfold sj at h
 cases hrs : bX P (P.length + 1) 0 with
 | none => rw [hrs] at h; cases h
 | some r =>
  rw [hrs] at h
  simp only at h
  obtain ⟨r1, r2⟩ := r
  have hf := (iY _ 0 r1 r2 hrs).2.k
  have hl := (jh _ 0 r1 r2 hrs).2
  split at h
  ·cases h
  ·split at h
   ·cases h
   ·obtain ⟨b, _, h⟩ := Option.bind_eq_some_iff.mp h
    cases b with
    | false => cases h
    | true =>
     obtain rfl : r1 = t := by simpa using h
     omega
def Wu (t : PT) (i : Int) : ByteArray × ByteArray × Bool := if 0 <= i /\ i < ((bB t).length : Int) then (bI ByteArray.empty (bB t) i, bI ByteArray.empty (dL t) i, true) else (⟨#[]⟩, ⟨#[]⟩, false)
def qQ.f (bD : List bH) (a1 : Int) : Option (ByteArray × ByteArray × Bool) := if BQ bD = true then (match pz bD with | none => some (⟨#[]⟩, ⟨#[]⟩, false) | some t => some (Wu t a1)) else none
theorem qQ.calls (dw : Option Addr) (dx : Nat) (bD : List (bH)) (a1 : Int) (r1 : ByteArray) (r2 : ByteArray) (r3 : Bool) (w : World) (jR : Kd.C jX w dw bD.length bD) (oW : bD.length <= dx) (h : qQ.f bD a1 = some (r1, r2, r3)) :
  Calls Try.prog 30 #[.agg #[.slice dw bD.length dx], .int .i64 a1] w fun e w' => e = .returned (.tuple #[.string r1, .string r2, .bool r3]) /\ Below w.heap.size w w' := by
 unfold qQ.f at h
 have HP := A_ jR
 clear jR oW
 by_cases hok : BQ bD = true
 ·rw [if_pos hok] at h
  have oV := A_ (fo hok).1
  have HM := A_ (fo hok).2
  cases hrs : pz bD with
  | none =>
   rw [hrs] at h
   injection h with h
   injection h with e1 h
   injection h with e2 e3
   subst e1
   subst e2
   subst e3
   have kP := A_ hrs
   clear hrs hok
   go_enter Try.func30, Try.ntmps30
   go_wp2_with (first | (refine jf 2 #[.slice dw bD.length dx] 29 ?_; intro b3 hg w1 aC hb; have HB := A_ hb; have hz3 : w1.cell? ⟨b3, 0, none⟩ = some (.slice dw bD.length dx) := (ak aC 0).trans rfl; clear hg aC hb) | (go_at_call 57; (with_reducible refine (fU.calls bD oV.out dw dx _ (Kd.ax HP.out HB.out) HM.out).mono ?_); rintro e w2 ⟨hb, hr⟩; rw [kP.out] at hr; obtain ⟨-, rfl⟩ := hr.resolve_right (by rintro ⟨_, h, _⟩; cases h); have aj := A_ (au HB.out hb); clear HB; have HB := aj; clear aj hb hr hz3))
   go_ret3
   exact ⟨by first | rfl | (simp; done), HB.out⟩
  | some t =>
   rw [hrs] at h
   have kP := A_ hrs
   have EH := A_ (DY hrs)
   have NP := A_ (Ju hrs oV.out)
   have HZ1 := A_ (show (bB t).length <= 8796093022208 by have := NP.out; omega)
   have HZ2 := A_ (show (dL t).length <= 8796093022208 by rw [iO EH.out]; have := NP.out; omega)
   have hln : (bB t).length <= 4000000000000 := NP.out
   have Kg := A_ (iO EH.out)
   replace h : some (Wu t a1) = some (r1, r2, r3) := h
   unfold Wu at h
   clear hrs hok
   by_cases c1 : 0 <= a1 /\ a1 < ((bB t).length : Int)
   ·rw [if_pos c1] at h
    injection h with h
    injection h with e1 h
    injection h with e2 e3
    subst e1
    subst e2
    subst e3
    have HI0 := A_ c1.1
    have HI1 := A_ c1.2
    have t1 := kT (a1 < 0)
    have t2 := kT (((bB t).length : Int) <= a1)
    have p0 : (0 <= a1) = True := eq_true c1.1
    clear c1
    go_enter Try.func30, Try.ntmps30
    go_wp2_with (first | (refine jf 2 #[.slice dw bD.length dx] 29 ?_; intro b3 hg w1 aC hb; have HB := A_ hb; have hz3 : w1.cell? ⟨b3, 0, none⟩ = some (.slice dw bD.length dx) := (ak aC 0).trans rfl; clear hg aC hb) | (go_at_call 57; (with_reducible refine (fU.calls bD oV.out dw dx _ (Kd.ax HP.out HB.out) HM.out).mono ?_); rintro e w2 ⟨hb, hr⟩; rw [kP.out] at hr; obtain ⟨nt, h9, rfl, hs⟩ := hr.resolve_left (by rintro ⟨h, _⟩; cases h); injection h9 with h9; subst h9; have HR2 := A_ (jI hs); have aj := A_ (au HB.out hb); clear HB; have HB := aj; clear aj hb hr hs hz3) | (go_at_call 65; (with_reducible refine (mX.iP nt.erase EH.out _ ?aD HZ1.out HZ2.out).mono ?_); (case aD => exact vO HR2.out); rintro e w5 ⟨u1, u2, rfl, ho1, ho2, hne, hb⟩; have kY := A_ (Kd.fI ho1 (show w.heap.size <= _ from HB.out.size)); have lH := A_ (Kd.fI ho2 (show w.heap.size <= _ from HB.out.size)); have o7 := A_ hne; have aj := A_ (au (mK HB.out) hb); clear HB; have HB := aj; clear aj hb ho1 ho2 hne; obtain ⟨B1, d1, rfl, hl1, hc1⟩ := Kd.eU kY.out; obtain ⟨B2, d2, rfl, hl2, hc2⟩ := Kd.eU lH.out; have Bi := A_ hc1; have rV := A_ hc2; have HD1 := A_ hl1; have HD2 := A_ hl2; clear hl1 hl2 hc1 hc2; have q0 : (a1 < ((bB nt.erase).length : Int)) = True := eq_true HI1.out; have q1 : (a1 < ((dL nt.erase).length : Int)) = True := eq_true (by rw [Kg.out]; exact HI1.out); obtain ⟨PM, hA1, hk0⟩ := Kd.bF Bi.out a1 HI0.out HI1.out; obtain ⟨IA, hA2, hv0⟩ := Kd.bF rV.out a1 HI0.out (by rw [Kg.out]; exact HI1.out); subst hA1; subst hA2))
    go_quiet (fail)
    go_wp2
    go_ret3
    exact ⟨by first | rfl | (simp; done), (mK HB.out)⟩
   ·rw [if_neg c1] at h
    injection h with h
    injection h with e1 h
    injection h with e2 e3
    subst e1
    subst e2
    subst e3
    by_cases c2 : a1 < 0
    ·have t1 : decide (a1 < 0) = true := decide_eq_true c2
     clear c1 c2
     go_enter Try.func30, Try.ntmps30
     go_wp2_with (first | (refine jf 2 #[.slice dw bD.length dx] 29 ?_; intro b3 hg w1 aC hb; have HB := A_ hb; have hz3 : w1.cell? ⟨b3, 0, none⟩ = some (.slice dw bD.length dx) := (ak aC 0).trans rfl; clear hg aC hb) | (go_at_call 57; (with_reducible refine (fU.calls bD oV.out dw dx _ (Kd.ax HP.out HB.out) HM.out).mono ?_); rintro e w2 ⟨hb, hr⟩; rw [kP.out] at hr; obtain ⟨nt, h9, rfl, hs⟩ := hr.resolve_left (by rintro ⟨h, _⟩; cases h); injection h9 with h9; subst h9; have HR2 := A_ (jI hs); have aj := A_ (au HB.out hb); clear HB; have HB := aj; clear aj hb hr hs hz3) | (go_at_call 65; (with_reducible refine (mX.iP nt.erase EH.out _ ?aD HZ1.out HZ2.out).mono ?_); (case aD => exact vO HR2.out); rintro e w5 ⟨u1, u2, rfl, ho1, ho2, hne, hb⟩; have kY := A_ (Kd.fI ho1 (show w.heap.size <= _ from HB.out.size)); have lH := A_ (Kd.fI ho2 (show w.heap.size <= _ from HB.out.size)); have o7 := A_ hne; have aj := A_ (au (mK HB.out) hb); clear HB; have HB := aj; clear aj hb ho1 ho2 hne; obtain ⟨B1, d1, rfl, hl1, hc1⟩ := Kd.eU kY.out; obtain ⟨B2, d2, rfl, hl2, hc2⟩ := Kd.eU lH.out; have Bi := A_ hc1; have rV := A_ hc2; have HD1 := A_ hl1; have HD2 := A_ hl2; clear hl1 hl2 hc1 hc2))
     go_ret3
     exact ⟨by first | rfl | (simp; done), (mK HB.out)⟩
    ·have t1 : decide (a1 < 0) = false := decide_eq_false c2
     have t2 := kZ (((bB t).length : Int) <= a1)
     clear c1 c2
     go_enter Try.func30, Try.ntmps30
     go_wp2_with (first | (refine jf 2 #[.slice dw bD.length dx] 29 ?_; intro b3 hg w1 aC hb; have HB := A_ hb; have hz3 : w1.cell? ⟨b3, 0, none⟩ = some (.slice dw bD.length dx) := (ak aC 0).trans rfl; clear hg aC hb) | (go_at_call 57; (with_reducible refine (fU.calls bD oV.out dw dx _ (Kd.ax HP.out HB.out) HM.out).mono ?_); rintro e w2 ⟨hb, hr⟩; rw [kP.out] at hr; obtain ⟨nt, h9, rfl, hs⟩ := hr.resolve_left (by rintro ⟨h, _⟩; cases h); injection h9 with h9; subst h9; have HR2 := A_ (jI hs); have aj := A_ (au HB.out hb); clear HB; have HB := aj; clear aj hb hr hs hz3) | (go_at_call 65; (with_reducible refine (mX.iP nt.erase EH.out _ ?aD HZ1.out HZ2.out).mono ?_); (case aD => exact vO HR2.out); rintro e w5 ⟨u1, u2, rfl, ho1, ho2, hne, hb⟩; have kY := A_ (Kd.fI ho1 (show w.heap.size <= _ from HB.out.size)); have lH := A_ (Kd.fI ho2 (show w.heap.size <= _ from HB.out.size)); have o7 := A_ hne; have aj := A_ (au (mK HB.out) hb); clear HB; have HB := aj; clear aj hb ho1 ho2 hne; obtain ⟨B1, d1, rfl, hl1, hc1⟩ := Kd.eU kY.out; obtain ⟨B2, d2, rfl, hl2, hc2⟩ := Kd.eU lH.out; have Bi := A_ hc1; have rV := A_ hc2; have HD1 := A_ hl1; have HD2 := A_ hl2; clear hl1 hl2 hc1 hc2))
     go_ret3
     exact ⟨by first | rfl | (simp; done), (mK HB.out)⟩
 ·rw [if_neg hok] at h
  cases h
def gM.f (bD : List bH) : Option (List ByteArray × Bool) := if BQ bD = true then (match pz bD with | none => some ([], false) | some t => some (bB t, true)) else none
def gN.f (k : Nat) (bD : List bH) : Option (List ByteArray × Bool) := if BQ bD = true then (sj k bD).bind fun r => (match r with | none => some ([], false) | some t => some (bB t, true)) else none
theorem gM.calls (dw : Option Addr) (dx : Nat) (bD : List (bH)) (r1 : List ByteArray) (r2 : Bool) (w : World) (jR : Kd.C jX w dw bD.length bD) (oW : bD.length <= dx) (h : gM.f bD = some (r1, r2)) :
  Calls Try.prog 24 #[.agg #[.slice dw bD.length dx]] w fun e w' => ∃ iy : Value, e = .returned (.tuple #[iy, .bool r2]) /\ Kd.R Kd.string 9 w' w.heap.size (fun _ => True) iy r1 /\ Below w.heap.size w w' := by
 unfold gM.f at h
 have HP := A_ jR
 clear jR oW
 by_cases hok : BQ bD = true
 ·rw [if_pos hok] at h
  have oV := A_ (fo hok).1
  have HM := A_ (fo hok).2
  cases hrs : pz bD with
  | none =>
   rw [hrs] at h
   injection h with h
   injection h with e1 e2
   subst e1
   subst e2
   have kP := A_ hrs
   clear hrs hok
   go_enter Try.func24, Try.ntmps24
   go_wp2_with (first | (refine jf 1 #[.slice dw bD.length dx] 29 ?_; intro b3 hg w1 aC hb; have HB := A_ hb; have hz3 : w1.cell? ⟨b3, 0, none⟩ = some (.slice dw bD.length dx) := (ak aC 0).trans rfl; clear hg aC hb) | (go_at_call 57; (with_reducible refine (fU.calls bD oV.out dw dx _ (Kd.ax HP.out HB.out) HM.out).mono ?_); rintro e w2 ⟨hb, hr⟩; rw [kP.out] at hr; obtain ⟨-, rfl⟩ := hr.resolve_right (by rintro ⟨_, h, _⟩; cases h); have aj := A_ (au HB.out hb); clear HB; have HB := aj; clear aj hb hr hz3))
   go_ret2
   exact ⟨_, rfl, Kd.vI _ _ _ _ _, HB.out⟩
  | some t =>
   rw [hrs] at h
   have kP := A_ hrs
   have EH := A_ (DY hrs)
   have NP := A_ (Ju hrs oV.out)
   have HZ1 := A_ (show (bB t).length <= 8796093022208 by have := NP.out; omega)
   have HZ2 := A_ (show (dL t).length <= 8796093022208 by rw [iO EH.out]; have := NP.out; omega)
   have hln : (bB t).length <= 4000000000000 := NP.out
   have Kg := A_ (iO EH.out)
   injection h with h
   injection h with e1 e2
   subst e1
   subst e2
   clear hrs hok
   go_enter Try.func24, Try.ntmps24
   go_wp2_with (first | (refine jf 1 #[.slice dw bD.length dx] 29 ?_; intro b3 hg w1 aC hb; have HB := A_ hb; have hz3 : w1.cell? ⟨b3, 0, none⟩ = some (.slice dw bD.length dx) := (ak aC 0).trans rfl; clear hg aC hb) | (go_at_call 57; (with_reducible refine (fU.calls bD oV.out dw dx _ (Kd.ax HP.out HB.out) HM.out).mono ?_); rintro e w2 ⟨hb, hr⟩; rw [kP.out] at hr; obtain ⟨nt, h9, rfl, hs⟩ := hr.resolve_left (by rintro ⟨h, _⟩; cases h); injection h9 with h9; subst h9; have HR2 := A_ (jI hs); have aj := A_ (au HB.out hb); clear HB; have HB := aj; clear aj hb hr hs hz3) | (go_at_call 65; (with_reducible refine (mX.iP nt.erase EH.out _ ?aD HZ1.out HZ2.out).mono ?_); (case aD => exact vO HR2.out); rintro e w5 ⟨u1, u2, rfl, ho1, ho2, hne, hb⟩; have kY := A_ (Kd.fI ho1 (show w.heap.size <= _ from HB.out.size)); have lH := A_ (Kd.fI ho2 (show w.heap.size <= _ from HB.out.size)); have o7 := A_ hne; have aj := A_ (au (mK HB.out) hb); clear HB; have HB := aj; clear aj hb ho1 ho2 hne; obtain ⟨B1, d1, rfl, hl1, hc1⟩ := Kd.eU kY.out; obtain ⟨B2, d2, rfl, hl2, hc2⟩ := Kd.eU lH.out; have Bi := A_ hc1; have rV := A_ hc2; have HD1 := A_ hl1; have HD2 := A_ hl2; clear hl1 hl2 hc1 hc2))
   go_ret2
   exact ⟨_, rfl, by (with_reducible repeat (first | apply Kd.nR | apply Kd.nS | apply Kd.qJ)); exact kY.out, (mK HB.out)⟩
 ·rw [if_neg hok] at h
  cases h
theorem gN.calls (k : Nat) (dw : Option Addr) (dx : Nat) (bD : List (bH)) (r1 : List ByteArray) (r2 : Bool) (w : World) (jR : Kd.C jX w dw bD.length bD) (oW : bD.length <= dx) (h : gN.f k bD = some (r1, r2)) :
  Calls Try.prog 25 #[.agg #[.slice dw bD.length dx]] w fun e w' => ∃ iy : Value, e = .returned (.tuple #[iy, .bool r2]) /\ Kd.R Kd.string 9 w' w.heap.size (fun _ => True) iy r1 /\ Below w.heap.size w w' := by
 unfold gN.f at h
 have HP := A_ jR
 clear jR oW
 by_cases hok : BQ bD = true
 ·rw [if_pos hok] at h
  have oV := A_ (fo hok).1
  have HM := A_ (fo hok).2
  obtain ⟨o, hrs, h⟩ := Option.bind_eq_some_iff.mp h
  cases o with
  | none =>
   injection h with h
   injection h with e1 e2
   subst e1
   subst e2
   have kP := A_ hrs
   clear hrs hok
   go_enter Try.func25, Try.ntmps25
   go_wp2_with (first | (refine jf 1 #[.slice dw bD.length dx] 29 ?_; intro b3 hg w1 aC hb; have HB := A_ hb; have hz3 : w1.cell? ⟨b3, 0, none⟩ = some (.slice dw bD.length dx) := (ak aC 0).trans rfl; clear hg aC hb) | (go_at_call 59; (with_reducible refine (oq.calls k bD oV.out dw dx _ (Kd.ax HP.out HB.out) HM.out _ kP.out).mono ?_); rintro e w2 ⟨hb, hr⟩; obtain ⟨-, rfl⟩ := hr.resolve_right (by rintro ⟨_, h, _⟩; cases h); have aj := A_ (au HB.out hb); clear HB; have HB := aj; clear aj hb hr hz3))
   go_ret2
   exact ⟨_, rfl, Kd.vI _ _ _ _ _, HB.out⟩
  | some t =>
   have kP := A_ hrs
   have EH := A_ (CG hrs)
   have NP := A_ (KD hrs oV.out)
   have HZ1 := A_ (show (bB t).length <= 8796093022208 by have := NP.out; omega)
   have HZ2 := A_ (show (dL t).length <= 8796093022208 by rw [iO EH.out]; have := NP.out; omega)
   have hln : (bB t).length <= 4000000000000 := NP.out
   have Kg := A_ (iO EH.out)
   injection h with h
   injection h with e1 e2
   subst e1
   subst e2
   clear hrs hok
   go_enter Try.func25, Try.ntmps25
   go_wp2_with (first | (refine jf 1 #[.slice dw bD.length dx] 29 ?_; intro b3 hg w1 aC hb; have HB := A_ hb; have hz3 : w1.cell? ⟨b3, 0, none⟩ = some (.slice dw bD.length dx) := (ak aC 0).trans rfl; clear hg aC hb) | (go_at_call 59; (with_reducible refine (oq.calls k bD oV.out dw dx _ (Kd.ax HP.out HB.out) HM.out _ kP.out).mono ?_); rintro e w2 ⟨hb, hr⟩; obtain ⟨nt, h9, rfl, hs⟩ := hr.resolve_left (by rintro ⟨h, _⟩; cases h); injection h9 with h9; subst h9; have HR2 := A_ (jI hs); have aj := A_ (au HB.out hb); clear HB; have HB := aj; clear aj hb hr hs hz3) | (go_at_call 66; (with_reducible refine (rZ.iP nt.erase EH.out _ ?aD HZ1.out HZ2.out).mono ?_); (case aD => exact vO HR2.out); rintro e w5 ⟨u1, u2, rfl, ho1, ho2, hne, hb⟩; have kY := A_ (Kd.fI ho1 (show w.heap.size <= _ from HB.out.size)); have lH := A_ (Kd.fI ho2 (show w.heap.size <= _ from HB.out.size)); have o7 := A_ hne; have aj := A_ (au (mK HB.out) hb); clear HB; have HB := aj; clear aj hb ho1 ho2 hne; obtain ⟨B1, d1, rfl, hl1, hc1⟩ := Kd.eU kY.out; obtain ⟨B2, d2, rfl, hl2, hc2⟩ := Kd.eU lH.out; have Bi := A_ hc1; have rV := A_ hc2; have HD1 := A_ hl1; have HD2 := A_ hl2; clear hl1 hl2 hc1 hc2))
   go_ret2
   exact ⟨_, rfl, by (with_reducible repeat (first | apply Kd.nR | apply Kd.nS | apply Kd.qJ)); exact kY.out, (mK HB.out)⟩
 ·rw [if_neg hok] at h
  cases h
end Go.Proofs.Ytoddejmlcnbdmaa.Fn
namespace Go.Proofs.Ytoddejmlcnbdmaa.Tree
def NT.head (T E : Nat) (t : NT) : List Ck := [.box T t.p #[t.kv, t.vv, t.cv], txt t.kv t.keys, txt t.vv t.vals, .jE E t.cv (ptrs t.kids)]
theorem NT.jy (T E : Nat) (t : NT) : t.dI T E = t.head T E ++ NT.bE T E t.kids := by
 cases t
 rw [NT.dI]
 rfl
def NT.hole (T E : Nat) (t : NT) (i : Nat) (L : List Ck) : List Ck := t.head T E ++ (NT.bE T E (t.kids.take i) ++ (NT.bE T E (t.kids.drop (i + 1)) ++ L))
def NT.gy (t : NT) (i : Nat) (s : NT) : NT := .mk t.p t.kv t.vv t.cv t.keys t.vals (t.kids.set i s)
theorem Mq {l : List NT} {i : Nat} {s : NT} (h : l[i]? = some s) : l = l.take i ++ s :: l.drop (i + 1) := by
 rw [<- dY h, List.take_append_drop]
theorem oF (T E : Nat) {l : List NT} {i : Nat} {s : NT} (h : l[i]? = some s) : NT.bE T E l = NT.bE T E (l.take i) ++ (s.dI T E ++ NT.bE T E (l.drop (i + 1))) := by
 conv => lhs; rw [Mq h]
 rw [iC, NT.bE]
theorem vP {T E : Nat} {t s : NT} {i : Nat} (L : List Ck) (h : t.kids[i]? = some s) : (t.dI T E ++ L).Perm (s.dI T E ++ t.hole T E i L) := by
 rw [NT.jy, oF T E h]
 unfold NT.hole
 simp only [List.append_assoc]
 refine (List.Perm.append_left _ (List.perm_append_comm_assoc _ _ _)).trans ?_
 exact List.perm_append_comm_assoc _ _ _
theorem qR {l : List NT} {i : Nat} {s s' : NT} (h : l[i]? = some s) : (l.set i s')[i]? = some s' /\ (l.set i s').take i = l.take i /\ (l.set i s').drop (i + 1) = l.drop (i + 1) := by
 have hl : i < l.length := (List.getElem?_eq_some_iff.1 h).1
 refine ⟨by rw [List.getElem?_set_self hl], ?_, ?_⟩
 ·rw [List.take_set_of_le (Nat.le_refl _)]
 ·rw [List.drop_set_of_lt (Nat.lt_succ_self _)]
theorem Mr {l : List NT} {i : Nat} {s s' : NT} (h : l[i]? = some s) (hp : s'.p = s.p) : ptrs (l.set i s') = ptrs l := by
 unfold ptrs
 rw [List.map_set]
 refine List.ext_getElem? fun j => ?_
 rw [List.getElem?_set]
 by_cases hj : i = j
 ·subst hj
  have hl : i < l.length := (List.getElem?_eq_some_iff.1 h).1
  rw [if_pos rfl, if_pos (by rw [List.length_map]; exact hl), List.getElem?_map, h, hp]
  rfl
 ·rw [if_neg hj]
theorem Hw {T E : Nat} {t s s' : NT} {i : Nat} (L : List Ck) (h : t.kids[i]? = some s) (hp : s'.p = s.p) : (s'.dI T E ++ t.hole T E i L).Perm ((t.gy i s').dI T E ++ L) := by
 obtain ⟨h1, h2, h3⟩ := qR (s' := s') h
 have hh : (t.gy i s').hole T E i L = t.hole T E i L := by
  unfold NT.hole NT.head NT.gy NT.p NT.kv NT.vv NT.cv NT.keys NT.vals NT.kids
  cases t with | mk p kv vv cv keys vals kids =>
  simp only [NT.kids] at h h1 h2 h3
  simp only
  rw [Mr h hp, h2, h3]
 rw [<- hh]
 refine (vP L ?_).symm
 cases t
 exact h1
theorem qU {t s' : NT} {i : Nat} : (t.gy i s').erase = .mk t.keys t.vals (t.erase.kids.set i s'.erase) := by
 cases t with | mk p kv vv cv keys vals kids =>
 show PT.mk keys vals (NT.aQ (kids.set i s')) = PT.mk keys vals ((NT.aQ kids).set i s'.erase)
 rw [aK, aK, List.map_set]
section
variable {w w1 W : World} {base : Nat} {L : List Ck}
theorem Sat.zH {g c : Nat} {l : List ByteArray} (h : Sat w base (txt (.slice (some ⟨g, 0, none⟩) l.length c) l :: L)) (i : Nat) (x : ByteArray) :
  Sat (w.setCell ⟨g, i, none⟩ (.string x)) base (txt (.slice (some ⟨g, 0, none⟩) (l.set i x).length c) (l.set i x) :: L) := by
 have h1 := Jq (h.ok _ List.mem_cons_self)
 obtain ⟨h2, hg⟩ := Kd.UI (enc := Value.string) (h1 := fun _ => rfl) h1 (i : Int) x
 rw [Int.toNat_natCast] at h2 hg
 have hl : (l.set i x).length = l.length := List.length_set
 rw [hl]
 refine Sat.frame (A := [txt (.slice (some ⟨g, 0, none⟩) l.length c) l]) (A' := [txt (.slice (some ⟨g, 0, none⟩) l.length c) (l.set i x)]) (R := L) (w := w) h (Sat.one (rX h2)) ⟨hg.size, fun k hk hnot => hg.block k hk fun he => hnot ⟨_, List.mem_singleton_self _, ?_⟩⟩ ?_
 ·exact he.symm
 ·rintro k ⟨c', hc, hb⟩
  rw [List.mem_singleton.1 hc] at hb
  exact .inl ⟨_, List.mem_singleton_self _, hb⟩
end
def aa (w : World) (base : Nat) (gs : List (List Ck)) : Prop := Sat w base gs.flatten
section
variable {w w1 W : World} {base : Nat} {gs gs' : List (List Ck)} {A B : List Ck} {c c' : Ck}
theorem aa.under (h : aa w base gs) (hb : Below w.heap.size w w1) : aa w1 base gs := Sat.under h hb
theorem aa.drew (h : aa w base gs) : aa w.drew base gs := Sat.drew h
theorem aa.drewN (h : aa w base gs) (m : Nat) : aa (w.drewN m) base gs := Sat.drewN h m
theorem oG {i : Nat} (hi : gs[i]? = some A) (B : List Ck) : gs.flatten.Perm (A ++ (gs.eraseIdx i).flatten) /\ (gs.set i B).flatten.Perm (B ++ (gs.eraseIdx i).flatten) := by
 obtain ⟨h1, h2⟩ := set_perm (y := B) hi
 exact ⟨h1.flatten, h2.flatten⟩
theorem aa.at (h : aa w base gs) (i : Nat) (hi : gs[i]? = some A) : Sat w base A :=
 Sat.left (Sat.perm h (oG hi A).1)
theorem aa.z (h : aa w base gs) (i : Nat) {T p : Nat} {cs : Array Value} (hi : gs[i]? = some [.box T p cs]) (j : Nat) : w.cell? ⟨p, j, none⟩ = cs[j]? := (h.at i hi).z 0 rfl j
theorem aa.f (h : aa w base gs) (i : Nat) {T p : Nat} {cs : Array Value} (hi : gs[i]? = some [.box T p cs]) (j : Nat) : w.frozen? ⟨p, j, none⟩ = false := (h.at i hi).f 0 rfl j
theorem aa.blk (h : aa w base gs) (i : Nat) {T p : Nat} {cs : Array Value} (hi : gs[i]? = some [.box T p cs]) : w.heap[p]? = some (.cells cs T (0, 0)) := (h.at i hi).Ml 0 rfl
theorem aa.ge (h : aa w base gs) (i : Nat) {T p : Nat} {cs : Array Value} (hi : gs[i]? = some [.box T p cs]) : base <= p := ((h.at i hi).ok _ List.mem_cons_self).1
theorem aa.sr (h : aa w base gs) (i : Nat) {v : Value} {l : List ByteArray} (hi : gs[i]? = some [txt v l]) : SR w base v l := (h.at i hi).sr 0 rfl
theorem aa.row (h : aa w base gs) (i : Nat) {Ad : Option Addr} {n c : Nat} {l : List ByteArray} (hi : gs[i]? = some [txt (.slice Ad n c) l]) : n = l.length /\ n <= c /\ Kd.C Kd.string w Ad l.length l := Kd.dW (h.sr i hi)
theorem aa.q (h : aa w base gs) (i : Nat) {E : Nat} {v : Value} {l : List NT} (hi : gs[i]? = some [.jE E v (ptrs l)]) : PQ E w base v (l.map NT.p) := by
 have := (h.at i hi).ok _ List.mem_cons_self
 rw [fE] at this
 exact zy this
theorem aa.iZ (h : aa w base gs) (i : Nat) {E : Nat} {Ad : Option Addr} {n c : Nat} {l : List NT} (hi : gs[i]? = some [.jE E (.slice Ad n c) (ptrs l)]) : n = l.length /\ n <= c /\ eT.C w Ad n (l.map NT.p) := by
 obtain ⟨h1, h2, h3⟩ := Kd.vQ (h.q i hi)
 rw [List.length_map] at h1 h3
 subst h1
 exact ⟨rfl, h2, h3⟩
theorem aa.turn (h : aa w base gs) (i : Nat) (hi : gs[i]? = some A) (ha : Sat w1 base B) (hk : Kept w w1 (uk A)) (hb : ∀ k, uk B k -> uk A k ∨ w.heap.size <= k) : aa w1 base (gs.set i B) :=
 Sat.perm (Sat.frame (Sat.perm h (oG hi B).1) ha hk hb) (oG hi B).2.symm
theorem aa.put (h : aa w base gs) (i : Nat) {T p : Nat} {cs cs' : Array Value} (hi : gs[i]? = some [.box T p cs]) (j : Nat) (u : Value) (e : cs.setIfInBounds j u = cs') : aa (w.setCell ⟨p, j, none⟩ u) base (gs.set i [.box T p cs']) := by
 obtain ⟨h1, h2⟩ := oG hi [.box T p cs']
 exact Sat.perm (Sat.put (Sat.perm h h1) j u e) h2.symm
theorem aa.zH (h : aa w base gs) (i : Nat) {g c : Nat} {l : List ByteArray} (hi : gs[i]? = some [txt (.slice (some ⟨g, 0, none⟩) l.length c) l]) (j : Nat) (x : ByteArray) :
  aa (w.setCell ⟨g, j, none⟩ (.string x)) base (gs.set i [txt (.slice (some ⟨g, 0, none⟩) (l.set j x).length c) (l.set j x)]) := by
 obtain ⟨h1, h2⟩ := oG hi [txt (.slice (some ⟨g, 0, none⟩) (l.set j x).length c) (l.set j x)]
 exact Sat.perm (Sat.zH (Sat.perm h h1) j x) h2.symm
theorem aa.new (h : aa w base gs) (hb : Below w.heap.size w w1) (hbase : base <= w.heap.size) (hn : Sat w1 w.heap.size A) : aa w1 base (gs ++ [A]) := by
 have := Sat.behind h hb hbase hn
 unfold aa
 rw [List.flatten_append, List.flatten_singleton]
 exact this
theorem aa.gJ {v : Value} {l : List ByteArray} (h : aa w base gs) (hb : Below w.heap.size w w1) (hbase : base <= w.heap.size) (ho : Kd.string.R 9 w1 w.heap.size (fun _ => True) v l) : aa w1 base (gs ++ [[txt v l]]) :=
 h.new hb hbase (Sat.one (rX ho))
theorem aa.gI {T g : Nat} {cs : Array Value} (h : aa W base gs) (hg : g = W.heap.size) (aC : w1.heap[g]? = some (.cells cs T (0, 0))) (hb : Below W.heap.size W w1) (hbase : base <= W.heap.size) : aa w1 base (gs ++ [[.box T g cs]]) :=
 h.new hb hbase (Sat.one ⟨by omega, aC⟩)
theorem aa.vR {Ad : Option Addr} {c : Nat} {l : List ByteArray} (h : aa w base gs) (i : Nat) (hi : gs[i]? = some [txt (.slice Ad l.length c) l]) (m : Nat) (hm : m <= l.length) : aa w base (gs.set i [txt (.slice Ad m c) (l.take m)]) := by
 have h1 := h.sr i hi
 have h2 : SR w base (.slice Ad m c) (l.take m) := Kd.Q4 h1 hm
 refine h.turn i hi (Sat.one (rX h2)) (Kept.refl _ _) ?_
 rintro k ⟨d, hd, hb⟩
 rw [List.mem_singleton.1 hd] at hb
 exact .inl ⟨_, List.mem_singleton_self _, by cases Ad <;> exact hb⟩
theorem aa.lit {xs : List ByteArray} {vb : Value} (h : aa W base gs) (ho : Kd.string.R 9 w1 base (fun _ => True) vb xs) (hg : W.grownBy w1 none) (hn : ∃ b, vb.ownBlock = some b /\ W.heap.size <= b) : aa w1 base (gs ++ [[txt vb xs]]) := by
 have := Sat.lit h ho hg hn
 unfold aa
 rw [List.flatten_append, List.flatten_singleton]
 exact this
theorem qV {c c' : Ck} (hat : c'.blk = c.blk ∨ ∃ b, c'.blk = some b /\ W.heap.size <= b) : ∀ k, uk [c'] k -> uk [c] k ∨ W.heap.size <= k := by
 rintro k ⟨d, hd, hb⟩
 rw [List.mem_singleton.1 hd] at hb
 rcases hat with h | ⟨b, h1, h2⟩
 ·exact .inl ⟨_, List.mem_singleton_self _, by rw [<- h]; exact hb⟩
 ·rw [h1] at hb
  injection hb with hb
  exact .inr (by omega)
theorem aa.app {x y : List ByteArray} {u u1 : Value} (i : Nat) (h : aa W base gs) (hi : gs[i]? = some [txt u x]) (ho : Kd.string.R 9 w1 base (fun _ => True) u1 y) (hg : W.grownBy w1 u.ownBlock) (hat : u1.ownBlock = u.ownBlock ∨ ∃ b, u1.ownBlock = some b /\ W.heap.size <= b) : aa w1 base (gs.set i [txt u1 y]) :=
 h.turn i hi (Sat.one (rX ho)) ⟨hg.size, fun k hk hnot => hg.block k hk fun he => hnot ⟨_, List.mem_singleton_self _, he.symm⟩⟩ (qV hat)
theorem aa.Qq {E : Nat} {Ad : Option Addr} {n c : Nat} {l : List NT} (h : aa w base gs) (i : Nat) (hi : gs[i]? = some [.jE E (.slice Ad n c) (ptrs l)]) (m : Nat) (hm : m <= l.length) : aa w base (gs.set i [.jE E (.slice Ad m c) (ptrs (l.take m))]) := by
 have h1 := h.q i hi
 have h2 : PQ E w base (.slice Ad m c) ((l.map NT.p).take m) := Kd.Q5 h1 (by rw [List.length_map]; exact hm)
 rw [<- List.map_take] at h2
 have h3 := xU h2
 rw [<- fE] at h3
 refine h.turn i hi (Sat.one h3) (Kept.refl _ _) ?_
 rintro k ⟨d, hd, hb⟩
 rw [List.mem_singleton.1 hd] at hb
 exact .inl ⟨_, List.mem_singleton_self _, by cases Ad <;> exact hb⟩
theorem aa.wZ {E : Nat} {v : Value} {l : List NT} (h : aa w base gs) (hb : Below w.heap.size w w1) (hbase : base <= w.heap.size) (ho : eT.R E w1 w.heap.size (fun _ => True) v (l.map NT.p)) : aa w1 base (gs ++ [[.jE E v (ptrs l)]]) := by
 have h2 : PQ E w1 w.heap.size v (l.map NT.p) := Kd.zI ho
 have h3 := xU h2
 rw [<- fE] at h3
 exact h.new hb hbase (Sat.one h3)
theorem aa.DZ {c : Ck} (h : aa W base gs) (hc : c.ok w1 base) (hg : W.grownBy w1 none) (hn : ∃ b, c.blk = some b /\ W.heap.size <= b) : aa w1 base (gs ++ [[c]]) := by
 have hk : Kept W w1 (fun _ => False) := ⟨hg.size, fun i hi _ => hg.block i hi (by simp)⟩
 have h2 := Sat.perm (Sat.add h hk (Sat.one hc) (by
  rintro k ⟨d, hd, hb⟩
  rw [List.mem_singleton.1 hd] at hb
  obtain ⟨b, h1, h2⟩ := hn
  rw [h1] at hb
  injection hb with hb
  omega)) List.perm_append_comm
 unfold aa
 rw [List.flatten_append, List.flatten_singleton]
 exact h2
theorem tO {E : Nat} {v : Value} {l : List Nat} (h : eT.R E w base (fun _ => True) v l) : Ck.ok w base (.own E v (encs bG l)) := by
 have h2 := Kd.rY (enc := bG) (h1 := fun _ => rfl) h
 show w.ownsRow base E 1 v (encs bG l).length (encs bG l)
 rw [cB]
 exact h2
theorem O5 {E : Nat} {v : Value} {l : List Nat} (h : Ck.ok w base (.own E v (encs bG l))) : eT.R E w base (fun _ => True) v l :=
 Kd.qi (enc := bG) (h1 := fun _ => rfl) (by have h2 : w.ownsRow base E 1 v (encs bG l).length (encs bG l) := h; rw [cB] at h2; exact h2) (fun _ _ => trivial)
theorem aa.Q6 (h : aa w base gs) (i : Nat) {E : Nat} {v : Value} {l : List Nat} (hi : gs[i]? = some [.own E v (encs bG l)]) : eT.R E w base (fun _ => True) v l := O5 ((h.at i hi).ok _ List.mem_cons_self)
theorem aa.appOwn {E : Nat} {x : List Nat} {y : List NT} {u u1 : Value} (i : Nat) (h : aa W base gs) (hi : gs[i]? = some [.own E u (encs bG x)]) (ho : eT.R E w1 base (fun _ => True) u1 (y.map NT.p)) (hg : W.grownBy w1 u.ownBlock) (hat : u1.ownBlock = u.ownBlock ∨ ∃ b, u1.ownBlock = some b /\ W.heap.size <= b) : aa w1 base (gs.set i [.jE E u1 (ptrs y)]) := by
 have h3 := xU (Kd.zI ho : PQ E w1 base u1 (y.map NT.p))
 rw [<- fE] at h3
 exact h.turn i hi (Sat.one h3) ⟨hg.size, fun k hk hnot => hg.block k hk fun he => hnot ⟨_, List.mem_singleton_self _, he.symm⟩⟩ (qV hat)
theorem aa.cut (h : aa w base gs) (i : Nat) (hi : gs[i]? = some (A ++ B)) : aa w base (gs.set i A ++ [B]) := by
 obtain ⟨h1, h2⟩ := oG hi A
 unfold aa
 rw [List.flatten_append, List.flatten_singleton]
 have h3 := Sat.perm h h1
 rw [List.append_assoc] at h3
 refine Sat.perm h3 ?_
 refine (List.Perm.append_left A List.perm_append_comm).trans ?_
 rw [<- List.append_assoc]
 exact h2.symm.append_right B
theorem aa.zz (h : aa w base gs) (E : Nat) : aa w base (gs ++ [[.jE E (.slice none 0 0) []]]) := by
 unfold aa
 rw [List.flatten_append, List.flatten_singleton]
 exact (Sat.zz h E).perm (List.perm_append_comm (l₁ := [Ck.jE E (.slice none 0 0) []]))
theorem aa.Ms (h : aa w base gs) : aa w base (gs ++ [[]]) := by
 unfold aa
 rw [List.flatten_append, List.flatten_singleton, List.append_nil]
 exact h
theorem aa.Qr {T E p : Nat} {kv vv cv : Value} {keys vals : List ByteArray} {kids : List NT} (h : aa w base [[.box T p #[kv, vv, cv]], [txt kv keys], [txt vv vals], [.jE E cv (ptrs kids)], NT.bE T E kids]) : Rd T w p (NT.mk p kv vv cv keys vals kids).erase := by
 refine jI (base := base) (E := E) (t := NT.mk p kv vv cv keys vals kids) ?_
 rw [NT.dI]
 unfold aa at h
 simp only [List.flatten_cons, List.flatten_nil, List.cons_append, List.nil_append, List.append_nil] at h
 exact h
def iN (gs : List (List Ck)) (is : List Nat) : List (List Ck) := is.map fun i => gs.getD i []
theorem aa.Hz (h : aa w base gs) {i j : Nat} (hij : i ≠ j) (hi : gs[i]? = some A) (hj : gs[j]? = some B) : ∀ a ∈ A, ∀ b ∈ B, Apart a b := by
 intro a ha b hb
 have key : ∀ {i j : Nat} {A B : List Ck}, i < j -> gs[i]? = some A -> gs[j]? = some B -> ∀ a ∈ A, ∀ b ∈ B, Apart a b := by
  intro i j A B hij hi hj a ha b hb
  have hp : gs.Pairwise fun l m => ∀ x ∈ l, ∀ y ∈ m, Apart x y := (List.pairwise_flatten.1 h.ap).2
  obtain ⟨h1, h2⟩ := List.getElem?_eq_some_iff.1 hi
  obtain ⟨h3, h4⟩ := List.getElem?_eq_some_iff.1 hj
  subst h2
  subst h4
  exact List.pairwise_iff_getElem.1 hp i j h1 h3 hij a ha b hb
 rcases Nat.lt_or_gt_of_ne hij with hlt | hlt
 ·exact key hlt hi hj a ha b hb
 ·exact Apart.symm (key hlt hj hi b hb a ha)
theorem getD_at {i : Nat} {c : Ck} (h : c ∈ gs.getD i []) : ∃ g, gs[i]? = some g /\ c ∈ g := by
 rw [List.getD_eq_getElem?_getD] at h
 cases hg : gs[i]? with
 | none => rw [hg] at h; cases h
 | some g => rw [hg] at h; exact ⟨g, rfl, h⟩
theorem aa.iN (h : aa w base gs) (is : List Nat) (hn : is.Nodup) : aa w base (iN gs is) := by
 refine ⟨fun c hc => ?_, List.pairwise_flatten.2 ⟨fun g hg => ?_, ?_⟩⟩
 ·obtain ⟨g, hg, hcg⟩ := List.mem_flatten.1 hc
  obtain ⟨i, _, rfl⟩ := List.mem_map.1 hg
  obtain ⟨g, hi, hcg⟩ := getD_at hcg
  exact (h.at i hi).ok c hcg
 ·obtain ⟨i, _, rfl⟩ := List.mem_map.1 hg
  cases hi : gs[i]? with
  | none =>
   rw [List.getD_eq_getElem?_getD, hi]
   exact .nil
  | some g =>
   rw [List.getD_eq_getElem?_getD, hi]
   exact (h.at i hi).ap
 ·unfold Tree.iN
  rw [List.pairwise_map]
  refine hn.imp fun {i j} hij a ha b hb => ?_
  obtain ⟨g, hi, hag⟩ := getD_at ha
  obtain ⟨g', hj, hbg⟩ := getD_at hb
  exact h.Hz hij hi hj a hag b hbg
end
abbrev jV (g : Nat) : Option Addr := some ⟨g, 0, none⟩
abbrev iT (A : Option Addr) (c : Nat) (l : List ByteArray) : List Ck := [txt (.slice A l.length c) l]
abbrev xW (A : Option Addr) (n c : Nat) (l : List ByteArray) : List Ck := [txt (.slice A n c) l]
abbrev qm (t : Nat) (A : Option Addr) (c : Nat) (l : List NT) : List Ck := [.jE t (.slice A l.length c) (ptrs l)]
abbrev Wv (t : Nat) (A : Option Addr) (n c : Nat) (l : List NT) : List Ck := [.jE t (.slice A n c) (ptrs l)]
abbrev mM (t p : Nat) (A : Option Addr) (a c : Nat) (B : Option Addr) (b d : Nat) (C : Option Addr) (e f : Nat) : List Ck := [.box t p #[.slice A a c, .slice B b d, .slice C e f]]
theorem Mt {w : World} {base : Nat} {gs gs' : List (List Ck)} (h : aa w base gs) (e : gs = gs' := by (try simp only [iN, List.map_cons, List.map_nil, List.getElem?_cons_succ, List.getElem?_cons_zero, List.getD_cons_succ, List.getD_cons_zero, Option.getD_some, List.set_cons_zero, List.set_cons_succ, List.cons_append, List.nil_append]); rfl) : aa w base gs' := e ▸ h
theorem Yj (w : World) {base : Nat} {gs gs' : List (List Ck)} (h : aa w base gs) (e : gs = gs' := by (try simp only [iN, List.map_cons, List.map_nil, List.getElem?_cons_succ, List.getElem?_cons_zero, List.getD_cons_succ, List.getD_cons_zero, Option.getD_some, List.set_cons_zero, List.set_cons_succ, List.cons_append, List.nil_append]); rfl) : aa w base gs' := e ▸ h
theorem lu {w : World} {base : Nat} {gs gs' : List (List Ck)} (h : aa w base gs) (e : gs = gs' := by (try simp only [iN, List.map_cons, List.map_nil, List.getElem?_cons_succ, List.getElem?_cons_zero, List.getD_cons_succ, List.getD_cons_zero, Option.getD_some, List.set_cons_zero, List.set_cons_succ, List.cons_append, List.nil_append]); rfl) : af (aa w base gs') := ⟨e ▸ h⟩
theorem gK (w : World) {base : Nat} {gs gs' : List (List Ck)} (h : aa w base gs) (e : gs = gs' := by (try simp only [iN, List.map_cons, List.map_nil, List.getElem?_cons_succ, List.getElem?_cons_zero, List.getD_cons_succ, List.getD_cons_zero, Option.getD_some, List.set_cons_zero, List.set_cons_succ, List.cons_append, List.nil_append]); rfl) : af (aa w base gs') := ⟨e ▸ h⟩
end Go.Proofs.Ytoddejmlcnbdmaa.Tree
namespace Go.Proofs.Ytoddejmlcnbdmaa.Fn
def dX.f (l0 : List ByteArray) (a1 : Int) (a2 : ByteArray) : Option (List ByteArray) := (some (([] : List ByteArray) : List ByteArray)).bind fun oZ => (if 0 <= a1 then (if a1 <= (l0.length : Int) then (if oZ.length + (l0.take (a1 : Int).toNat).length < 8796093022208 then ((some (oZ ++ (l0.take (a1 : Int).toNat) : List ByteArray)).bind fun lW => (if lW.length < 8796093022208 then ((some (lW ++ [a2] : List ByteArray)).bind fun jS => (if jS.length + (l0.drop (a1 : Int).toNat).length < 8796093022208 then (some (jS ++ (l0.drop (a1 : Int).toNat))) else (none))) else (none))) else (none)) else (none)) else (none))
theorem dX.calls (A0 : Option Addr) (c0 : Nat) (l0 : List ByteArray) (a1 : Int) (a2 : ByteArray) (r : List ByteArray) (w : World) (hr0 : Kd.C Kd.string w A0 l0.length l0) (hc0 : l0.length <= c0) (h : dX.f l0 a1 a2 = some r) :
  Calls Try.prog 124 #[.slice A0 l0.length c0, .int .i64 a1, .string a2] w fun e w' => ∃ iy : Value, e = .returned (iy) /\ Kd.R Kd.string 9 w' w.heap.size (fun _ => True) iy r /\ Below w.heap.size w w' := by
 have mV := A_ hr0
 have rG := A_ hc0
 clear hr0 hc0
 have HB := A_ (Below.refl w.heap.size w)
 have H : ((some (([] : List ByteArray) : List ByteArray)).bind fun oZ => (if 0 <= a1 then (if a1 <= (l0.length : Int) then (if oZ.length + (l0.take (a1 : Int).toNat).length < 8796093022208 then ((some (oZ ++ (l0.take (a1 : Int).toNat) : List ByteArray)).bind fun lW => (if lW.length < 8796093022208 then ((some (lW ++ [a2] : List ByteArray)).bind fun jS => (if jS.length + (l0.drop (a1 : Int).toNat).length < 8796093022208 then (some (jS ++ (l0.drop (a1 : Int).toNat))) else (none))) else (none))) else (none)) else (none)) else (none))) = some r := h
 clear h
 obtain ⟨oZ, sQ⟩ : ∃ y_ : List ByteArray, y_ = (([] : List ByteArray)) := ⟨_, rfl⟩
 replace H : (if 0 <= a1 then (if a1 <= (l0.length : Int) then (if oZ.length + (l0.take (a1 : Int).toNat).length < 8796093022208 then ((some (oZ ++ (l0.take (a1 : Int).toNat) : List ByteArray)).bind fun lW => (if lW.length < 8796093022208 then ((some (lW ++ [a2] : List ByteArray)).bind fun jS => (if jS.length + (l0.drop (a1 : Int).toNat).length < 8796093022208 then (some (jS ++ (l0.drop (a1 : Int).toNat))) else (none))) else (none))) else (none)) else (none)) else (none)) = some r := by first | (rw [sQ]; with_reducible exact H) | (have jA := (Option.bind_some _ _).symm.trans H; rw [sQ]; with_reducible exact jA) | (have jA := (Option.bind_some _ _).symm.trans H; with_reducible exact jA) | with_reducible exact H | (rw [sQ]; exact H) | exact H
 have Gm := A_ sQ
 clear sQ
 by_cases c4 : 0 <= a1
 ·rw [if_pos c4] at H
  have rU := eq_true c4
  have NL : decide (0 <= a1) = true := decide_eq_true c4
  clear c4
  by_cases c5 : a1 <= (l0.length : Int)
  ·rw [if_pos c5] at H
   have EC := eq_true c5
   have c5b1 : decide (a1 <= (l0.length : Int)) = true := decide_eq_true c5
   clear c5
   by_cases c6 : oZ.length + (l0.take (a1 : Int).toNat).length < 8796093022208
   ·rw [if_pos c6] at H
    have R9 := A_ c6
    clear c6
    obtain ⟨lW, sS⟩ : ∃ y_ : List ByteArray, y_ = (oZ ++ (l0.take (a1 : Int).toNat)) := ⟨_, rfl⟩
    replace H : (if lW.length < 8796093022208 then ((some (lW ++ [a2] : List ByteArray)).bind fun jS => (if jS.length + (l0.drop (a1 : Int).toNat).length < 8796093022208 then (some (jS ++ (l0.drop (a1 : Int).toNat))) else (none))) else (none)) = some r := by first | (rw [sS]; with_reducible exact H) | (have jA := (Option.bind_some _ _).symm.trans H; rw [sS]; with_reducible exact jA) | (have jA := (Option.bind_some _ _).symm.trans H; with_reducible exact jA) | with_reducible exact H | (rw [sS]; exact H) | exact H
    have NQ := A_ sS
    clear sS
    by_cases c7 : lW.length < 8796093022208
    ·rw [if_pos c7] at H
     have Sa := A_ c7
     clear c7
     obtain ⟨jS, sU⟩ : ∃ y_ : List ByteArray, y_ = (lW ++ [a2]) := ⟨_, rfl⟩
     replace H : (if jS.length + (l0.drop (a1 : Int).toNat).length < 8796093022208 then (some (jS ++ (l0.drop (a1 : Int).toNat))) else (none)) = some r := by first | (rw [sU]; with_reducible exact H) | (have jA := (Option.bind_some _ _).symm.trans H; rw [sU]; with_reducible exact jA) | (have jA := (Option.bind_some _ _).symm.trans H; with_reducible exact jA) | with_reducible exact H | (rw [sU]; exact H) | exact H
     have NR := A_ sU
     clear sU
     have IV := eq_true (of_decide_eq_true iL : 0 <= a1)
     have PO := eq_true (of_decide_eq_true iL : a1 <= (l0.length : Int))
     by_cases c10 : jS.length + (l0.drop (a1 : Int).toNat).length < 8796093022208
     ·rw [if_pos c10] at H
      have NS := A_ c10
      clear c10
      obtain ⟨Sb, sV⟩ : ∃ y_ : List ByteArray, y_ = (jS ++ (l0.drop (a1 : Int).toNat)) := ⟨_, rfl⟩
      replace H : (some Sb) = some r := by first | (rw [sV]; with_reducible exact H) | (have jA := (Option.bind_some _ _).symm.trans H; rw [sV]; with_reducible exact jA) | (have jA := (Option.bind_some _ _).symm.trans H; with_reducible exact jA) | with_reducible exact H | (rw [sV]; exact H) | exact H
      have NU := A_ sV
      clear sV
      obtain rfl := Option.some.inj H
      go_enter Try.func124, Try.ntmps124
      go_wp2_with (first | ((with_reducible refine dN (N := 8) rfl ?_); refine Kd.kH Kd.string _ 9 ?hg (N := 8) ?hd (xs := ([] : List ByteArray)) (inner := []) (ok := fun _ => True) (okp := fun _ => True) ?hr ?hp (fun _ hk => hk) trivial (Below.refl _ _) (Nat.le_refl _) (by simp) ?_; (case hd => rfl); (case hg => rfl); (case hr => first | (go_simp; done) | (go_simp; rfl)); (case hp => exact (fq.none _ _)); intro Sc xM Bp hb Lu qG; clear Lu qG; (first | rw [<- Gm.out] at Bp | (simp only [Int.reduceToNat] at Bp; rw [<- Gm.out] at Bp)); have Gn := A_ (Kd.fI Bp (BN HB.out)); replace HB := A_ (Uc HB.out hb); clear hb Bp; obtain ⟨i013, Gp, _, Gq, _⟩ := info_parts dh; obtain ⟨hcut13, NV, NW⟩ := mO (P := Try.prog) Value.string (⟨#[]⟩ : ByteArray) 38 9 .i64 Try.underlying38 Gp Gq A0 c0 l0 a1 (of_decide_eq_true iL) (of_decide_eq_true iL) rG.out; have Bq := A_ (Kd.jL (h1 := fun _ => rfl) (NV _ (Kd.gU mV.out))); have HC226 := A_ NW; clear NV NW Gp Gq) | ((with_reducible refine bQ (b := .append) (xs := #[.tmp 8, .tmp 11]) rfl ?_); at_builtin; refine Kd.dV Kd.string (w0 := w) w.heap.size rfl (.tmp 8) (.tmp 11) 38 9 (.string ⟨#[]⟩) 16 rfl Try.underlying38 dh rfl (by decide) (by omega) Sc oZ (l0.take (a1 : Int).toNat) _ _ _ (fun _ => True) (fun _ => False) rfl rfl ?aO ?aR (fun _ _ h => h) (fun _ h => h.elim) ?aF ?aB ?aS ?aL ?_; (case aR => first | (have Sd := (show (l0.take (a1 : Int).toNat).length = a1.toNat from (by rw [List.length_take]; have h_ : (a1 : Int) <= (l0.length : Int) := of_decide_eq_true iL; omega)); have NY := (Kd.ax Bq.out HB.out); rw [Sd] at NY; exact NY) | (rw [<- show (l0.take (a1 : Int).toNat).length = a1.toNat from (by rw [List.length_take]; have h_ : (a1 : Int) <= (l0.length : Int) := of_decide_eq_true iL; omega)]; repeat (first | exact (Kd.ax Bq.out HB.out) | (with_reducible refine Kd.iB ?_ _) | (with_reducible refine Kd.dC ?_ _) | (with_reducible refine Kd.gm ?_))) | (repeat (first | exact (Kd.ax Bq.out HB.out) | (with_reducible refine Kd.iB ?_ _) | (with_reducible refine Kd.dC ?_ _) | (with_reducible refine Kd.gm ?_)))); (case aB => exact (zb HB.out)); (case aF => exact (fun _ _ => trivial)); (case aO => exact (rJ Gn.out)); (case aS => exact (BN HB.out)); (case aL => have := R9.out; have IW := (show (l0.take (a1 : Int).toNat).length = a1.toNat from (by rw [List.length_take]; have h_ : (a1 : Int) <= (l0.length : Int) := of_decide_eq_true iL; omega)); omega); intro v228 wR ho hb hg hat; rw [<- NQ.out] at ho; have Bh := A_ (hb); have aj := A_ (ho); clear HB; clear Gn; have HB := Bh; have Gr := aj; clear Bh aj; clear ho hb hg hat) | ((with_reducible refine bQ (b := .append) (xs := #[.tmp 13, .tmp 15]) rfl ?_); at_builtin; refine Kd.ql Kd.string (w0 := w) w.heap.size rfl (.tmp 13) (.tmp 15) 38 9 (.string ⟨#[]⟩) 16 rfl Try.underlying38 dh rfl (by decide) (by omega) v228 lW a2 [.string a2] (fun _ => True) (fun _ => False) rfl rfl ?aP (fun _ hk => hk.elim) ?aF ?aO ?aB ?aS ?aL ?_; (case aP => exact rfl); (case aB => exact (zb HB.out)); (case aF => exact (fun _ _ => trivial)); (case aO => exact (rJ Gr.out)); (case aS => exact (BN HB.out)); (case aL => have := Sa.out; omega); intro Sg Gs ho hb hg hat; rw [<- NR.out] at ho; have Bh := A_ (hb); have aj := A_ (ho); clear HB; clear Gr; have HB := Bh; have Gt := aj; clear Bh aj; clear ho hb hg hat; obtain ⟨i016, Gu, _, Gv, _⟩ := info_parts dh; obtain ⟨A16, Br, NZ, N7⟩ := mP (P := Try.prog) Value.string (⟨#[]⟩ : ByteArray) 38 9 .i64 Try.underlying38 Gu Gv A0 c0 l0 a1 (of_decide_eq_true iL) (of_decide_eq_true iL) rG.out; have Gw := A_ (Kd.jL (h1 := fun _ => rfl) (NZ _ (Kd.gU mV.out))); have HC233 := A_ N7; clear NZ N7 Gu Gv) | ((with_reducible refine bQ (b := .append) (xs := #[.tmp 17, .tmp 20]) rfl ?_); at_builtin; refine Kd.dV Kd.string (w0 := w) w.heap.size rfl (.tmp 17) (.tmp 20) 38 9 (.string ⟨#[]⟩) 16 rfl Try.underlying38 dh rfl (by decide) (by omega) Sg jS (l0.drop (a1 : Int).toNat) _ _ _ (fun _ => True) (fun _ => False) rfl rfl ?aO ?aR (fun _ _ h => h) (fun _ h => h.elim) ?aF ?aB ?aS ?aL ?_; (case aR => first | (rw [<- show (l0.drop (a1 : Int).toNat).length = (l0.length - a1.toNat) from List.length_drop]; repeat (first | exact (Kd.ax Gw.out HB.out) | (with_reducible refine Kd.iB ?_ _) | (with_reducible refine Kd.dC ?_ _) | (with_reducible refine Kd.gm ?_))) | (repeat (first | exact (Kd.ax Gw.out HB.out) | (with_reducible refine Kd.iB ?_ _) | (with_reducible refine Kd.dC ?_ _) | (with_reducible refine Kd.gm ?_)))); (case aB => exact (zb HB.out)); (case aF => exact (fun _ _ => trivial)); (case aO => exact (rJ Gt.out)); (case aS => exact (BN HB.out)); (case aL => have := NS.out; have IW := (show (l0.drop (a1 : Int).toNat).length = (l0.length - a1.toNat) from List.length_drop); omega); intro v235 Kh ho hb hg hat; rw [<- NU.out] at ho; have Bh := A_ (hb); have aj := A_ (ho); clear HB; clear Gt; have HB := Bh; have N8 := aj; clear Bh aj; clear ho hb hg hat))
      go_ret
      exact ⟨_, Jn, by (with_reducible repeat (first | apply Kd.nR | apply Kd.nS | apply Kd.qJ)); exact N8.out, by repeat (first | (with_reducible first | exact HB.out | apply bu | apply ah | apply bC) | exact HB.out)⟩
     ·rw [if_neg c10] at H
      exact absurd H (by simp)
    ·rw [if_neg c7] at H
     exact absurd H (by simp)
   ·rw [if_neg c6] at H
    exact absurd H (by simp)
  ·rw [if_neg c5] at H
   exact absurd H (by simp)
 ·rw [if_neg c4] at H
  exact absurd H (by simp)
def cO.f (l0 : List ByteArray) (a1 : Int) : Option (List ByteArray) := (some (([] : List ByteArray) : List ByteArray)).bind fun Bt => (if 0 <= a1 then (if a1 <= (l0.length : Int) then (if Bt.length + (l0.take (a1 : Int).toNat).length < 8796093022208 then ((some (Bt ++ (l0.take (a1 : Int).toNat) : List ByteArray)).bind fun uo => (if 0 <= (wrap64 (a1 + 1)) then (if (wrap64 (a1 + 1)) <= (l0.length : Int) then (if uo.length + (l0.drop ((wrap64 (a1 + 1)) : Int).toNat).length < 8796093022208 then (some (uo ++ (l0.drop ((wrap64 (a1 + 1)) : Int).toNat))) else (none)) else (none)) else (none))) else (none)) else (none)) else (none))
def cO.T1 : Bool × List (List Nat × List Nat) := (true, [([], []), ([], []), ([], []), ([1, 2], [1, 2]), ([0, 3], [0, 3]), ([], []), ([], []), ([6], [6]), ([5, 7], [5, 7]), ([4, 8, 4], [4, 8]), ([9, 9, 0, 1, 2, 3, 4, 5, 6, 7, 8, 9], [9])])
def cO.B1 : List Nat := [0, 0, 0, 6, 15, 0, 0, 64, 224, 511, 1023]
theorem cO.Q7 : qW .any (opsOf Try.f112 1) = cO.T1 := by kernel_rfl
theorem cO.Mv : yQ cO.T1.2 cO.B1 = true := by kernel_rfl
theorem cO.calls (A0 : Option Addr) (c0 : Nat) (l0 : List ByteArray) (a1 : Int) (r : List ByteArray) (w : World) (hr0 : Kd.C Kd.string w A0 l0.length l0) (hc0 : l0.length <= c0) (h : cO.f l0 a1 = some r) :
  Calls Try.prog 112 #[.slice A0 l0.length c0, .int .i64 a1] w fun e w' => ∃ iy : Value, e = .returned (iy) /\ Kd.R Kd.string 9 w' w.heap.size (fun _ => True) iy r /\ Below w.heap.size w w' := by
 have mV := A_ hr0
 have rG := A_ hc0
 clear hr0 hc0
 have HB := A_ (Below.refl w.heap.size w)
 have H : ((some (([] : List ByteArray) : List ByteArray)).bind fun Bt => (if 0 <= a1 then (if a1 <= (l0.length : Int) then (if Bt.length + (l0.take (a1 : Int).toNat).length < 8796093022208 then ((some (Bt ++ (l0.take (a1 : Int).toNat) : List ByteArray)).bind fun uo => (if 0 <= (wrap64 (a1 + 1)) then (if (wrap64 (a1 + 1)) <= (l0.length : Int) then (if uo.length + (l0.drop ((wrap64 (a1 + 1)) : Int).toNat).length < 8796093022208 then (some (uo ++ (l0.drop ((wrap64 (a1 + 1)) : Int).toNat))) else (none)) else (none)) else (none))) else (none)) else (none)) else (none))) = some r := h
 clear h
 obtain ⟨Bt, Gx⟩ : ∃ y_ : List ByteArray, y_ = (([] : List ByteArray)) := ⟨_, rfl⟩
 replace H : (if 0 <= a1 then (if a1 <= (l0.length : Int) then (if Bt.length + (l0.take (a1 : Int).toNat).length < 8796093022208 then ((some (Bt ++ (l0.take (a1 : Int).toNat) : List ByteArray)).bind fun uo => (if 0 <= (wrap64 (a1 + 1)) then (if (wrap64 (a1 + 1)) <= (l0.length : Int) then (if uo.length + (l0.drop ((wrap64 (a1 + 1)) : Int).toNat).length < 8796093022208 then (some (uo ++ (l0.drop ((wrap64 (a1 + 1)) : Int).toNat))) else (none)) else (none)) else (none))) else (none)) else (none)) else (none)) = some r := by first | (rw [Gx]; with_reducible exact H) | (have jA := (Option.bind_some _ _).symm.trans H; rw [Gx]; with_reducible exact jA) | (have jA := (Option.bind_some _ _).symm.trans H; with_reducible exact jA) | with_reducible exact H | (rw [Gx]; exact H) | exact H
 have Ny317 := A_ Gx
 clear Gx
 by_cases c3 : 0 <= a1
 ·rw [if_pos c3] at H
  have sP := eq_true c3
  have EE : decide (0 <= a1) = true := decide_eq_true c3
  clear c3
  by_cases c4 : a1 <= (l0.length : Int)
  ·rw [if_pos c4] at H
   have rU := eq_true c4
   have NL : decide (a1 <= (l0.length : Int)) = true := decide_eq_true c4
   clear c4
   by_cases c5 : Bt.length + (l0.take (a1 : Int).toNat).length < 8796093022208
   ·rw [if_pos c5] at H
    have Si := A_ c5
    clear c5
    obtain ⟨uo, Gy⟩ : ∃ y_ : List ByteArray, y_ = (Bt ++ (l0.take (a1 : Int).toNat)) := ⟨_, rfl⟩
    replace H : (if 0 <= (wrap64 (a1 + 1)) then (if (wrap64 (a1 + 1)) <= (l0.length : Int) then (if uo.length + (l0.drop ((wrap64 (a1 + 1)) : Int).toNat).length < 8796093022208 then (some (uo ++ (l0.drop ((wrap64 (a1 + 1)) : Int).toNat))) else (none)) else (none)) else (none)) = some r := by first | (rw [Gy]; with_reducible exact H) | (have jA := (Option.bind_some _ _).symm.trans H; rw [Gy]; with_reducible exact jA) | (have jA := (Option.bind_some _ _).symm.trans H; with_reducible exact jA) | with_reducible exact H | (rw [Gy]; exact H) | exact H
    have Ny321 := A_ Gy
    clear Gy
    obtain ⟨sW, EI⟩ : ∃ j_ : Int, (wrap64 (a1 + 1)) = j_ := ⟨_, rfl⟩
    replace H : (if 0 <= (sW) then (if (sW) <= (l0.length : Int) then (if uo.length + (l0.drop ((sW) : Int).toNat).length < 8796093022208 then (some (uo ++ (l0.drop ((sW) : Int).toNat))) else (none)) else (none)) else (none)) = some r := by first | (rw [EI] at H; exact H) | (simp only [EI] at H ⊢; exact H)
    have hji6w : (IntKind.i64.wrap (a1 + 1)) = sW := (uA _).trans EI
    by_cases c7 : 0 <= (sW)
    ·rw [if_pos c7] at H
     have Gh := eq_true c7
     have c7b1 : decide (0 <= (sW)) = true := decide_eq_true c7
     clear c7
     by_cases c8 : (sW) <= (l0.length : Int)
     ·rw [if_pos c8] at H
      have IV := eq_true c8
      have N9 : decide ((sW) <= (l0.length : Int)) = true := decide_eq_true c8
      clear c8
      by_cases c9 : uo.length + (l0.drop ((sW) : Int).toNat).length < 8796093022208
      ·rw [if_pos c9] at H
       have Sj := A_ c9
       clear c9
       obtain ⟨y325, Gz⟩ : ∃ y_ : List ByteArray, y_ = (uo ++ (l0.drop ((sW) : Int).toNat)) := ⟨_, rfl⟩
       replace H : (some y325) = some r := by first | (rw [Gz]; with_reducible exact H) | (have jA := (Option.bind_some _ _).symm.trans H; rw [Gz]; with_reducible exact jA) | (have jA := (Option.bind_some _ _).symm.trans H; with_reducible exact jA) | with_reducible exact H | (rw [Gz]; exact H) | exact H
       have Ny325 := A_ Gz
       clear Gz
       obtain rfl := Option.some.inj H
       go_enter Try.func112, Try.ntmps112
       try go_wp2
       replace HB := A_ (bC HB.out)
       obtain ⟨i011, GG, _, GH, _⟩ := info_parts dh
       obtain ⟨Bu, Oa, Ob⟩ := mO (P := Try.prog) Value.string (⟨#[]⟩ : ByteArray) 38 9 .i64 Try.underlying38 GG GH A0 c0 l0 a1 (of_decide_eq_true iL) (of_decide_eq_true iL) rG.out
       have Ki := A_ (Kd.jL (h1 := fun _ => rfl) (Oa _ (Kd.gU mV.out)))
       have HC320 := A_ Ob
       clear Oa Ob GG GH
       obtain ⟨i012, GI, _, GJ, _⟩ := info_parts dh
       obtain ⟨Xd, hcut12, EJ, Oc⟩ := mP (P := Try.prog) Value.string (⟨#[]⟩ : ByteArray) 38 9 .i64 Try.underlying38 GI GJ A0 c0 l0 (sW) (of_decide_eq_true iL) (of_decide_eq_true iL) rG.out
       have Od := A_ (Kd.jL (h1 := fun _ => rfl) (EJ _ (Kd.gU mV.out)))
       have HC324 := A_ Oc
       clear EJ Oc GI GJ
       refine dz (n := 11) (S := fun w' => True) (ds := []) (bt 11 0) (by kernel_rfl) rfl rfl trivial (fun hHeld => ?_); refine CJ cO.Q7 cO.Mv (fun PS HW_ => ?_)
       generalize w.drew = uK at HB Ki Od hHeld ⊢
       refine aV 1 6 2 ?_
       refine aV 2 7 6 ?_
       refine aV 3 8 14 ?_
       refine aV 5 10 46 ?_
       refine aV 6 11 110 ?_
       refine aV 7 12 238 ?_
       refine aV 8 13 494 ?_
       refine Hm (i := 0) (N := some 5) (bt 11 495) rfl rfl (xc PS.out (by kernel_rfl)) (by decide) (fun K hK => ?_)
       refine Kd.bn Kd.string _ 9 ?hg (N := 5) ?hd (xs := ([] : List ByteArray)) (inner := []) (ok := fun _ => True) (okp := fun _ => True) ?hr ?hp (fun _ hk => hk) trivial (Below.refl _ _) (Nat.le_refl _) (by simp) ?_; (case hd => rfl); (case hg => rfl); (case hr => first | (go_simp; done) | (go_simp; rfl)); (case hp => exact (fq.none _ _))
       intro v318 DD Bv hb Lu qG
       clear Lu qG
       (first | rw [<- Ny317.out] at Bv | (simp only [Int.reduceToNat] at Bv; rw [<- Ny317.out] at Bv))
       have HO319 := A_ (Kd.fI Bv (BN HB.out))
       replace HB := A_ (Uc HB.out hb)
       clear hb Bv
       refine hK.out _ _ trivial (fun hHeld => ?_)
       clear hK K
       refine eF 5 ?_
       refine Hm (i := 4) (N := some 9) (bt 11 511) rfl rfl (xc PS.out (by kernel_rfl)) (by decide) (fun K hK => ?_)
       refine Kd.aJ Kd.string (w0 := w) w.heap.size (by rfl) (.tmp 5) (.tmp 8) 38 9 (.string ⟨#[]⟩) 16 rfl Try.underlying38 dh rfl (by decide) (by omega) v318 Bt (l0.take (a1 : Int).toNat) _ _ _ (fun _ => True) (fun _ => False) rfl rfl ?aO ?aR (fun _ _ h => h) (fun _ h => h.elim) ?aF ?aB ?aS ?aL ?_
       (case aR => first | (have Sd := (show (l0.take (a1 : Int).toNat).length = a1.toNat from (by rw [List.length_take]; have h_ : (a1 : Int) <= (l0.length : Int) := of_decide_eq_true iL; omega)); have NY := (Kd.ax Ki.out HB.out); rw [Sd] at NY; exact NY) | (rw [<- show (l0.take (a1 : Int).toNat).length = a1.toNat from (by rw [List.length_take]; have h_ : (a1 : Int) <= (l0.length : Int) := of_decide_eq_true iL; omega)]; repeat (first | exact (Kd.ax Ki.out HB.out) | (with_reducible refine Kd.iB ?_ _) | (with_reducible refine Kd.dC ?_ _) | (with_reducible refine Kd.gm ?_))) | (repeat (first | exact (Kd.ax Ki.out HB.out) | (with_reducible refine Kd.iB ?_ _) | (with_reducible refine Kd.dC ?_ _) | (with_reducible refine Kd.gm ?_))))
       (case aB => exact (zb HB.out))
       (case aF => exact (fun _ _ => trivial))
       (case aO => exact (rJ HO319.out))
       (case aS => exact (BN HB.out))
       (case aL => have := Si.out; have IW := (show (l0.take (a1 : Int).toNat).length = a1.toNat from (by rw [List.length_take]; have h_ : (a1 : Int) <= (l0.length : Int) := of_decide_eq_true iL; omega)); omega)
       intro v322 Gs ho hb hg hat
       rw [<- Ny321.out] at ho
       replace HB := A_ (hb)
       have HO323 := A_ (ho)
       clear HO319
       clear ho hb hg hat
       refine hK.out _ _ trivial (fun hHeld => ?_)
       clear hK K
       refine eF 9 ?_
       refine Hm (i := 9) (N := some 14) (bt 11 1023) rfl rfl (xc PS.out (by kernel_rfl)) (by decide) (fun K hK => ?_)
       refine Kd.aJ Kd.string (w0 := w) w.heap.size (by rfl) (.tmp 9) (.tmp 13) 38 9 (.string ⟨#[]⟩) 16 rfl Try.underlying38 dh rfl (by decide) (by omega) v322 uo (l0.drop ((sW) : Int).toNat) _ _ _ (fun _ => True) (fun _ => False) rfl rfl ?aO ?aR (fun _ _ h => h) (fun _ h => h.elim) ?aF ?aB ?aS ?aL ?_
       (case aR => first | (rw [<- show (l0.drop ((sW) : Int).toNat).length = (l0.length - (sW).toNat) from List.length_drop]; repeat (first | exact (Kd.ax Od.out HB.out) | (with_reducible refine Kd.iB ?_ _) | (with_reducible refine Kd.dC ?_ _) | (with_reducible refine Kd.gm ?_))) | (repeat (first | exact (Kd.ax Od.out HB.out) | (with_reducible refine Kd.iB ?_ _) | (with_reducible refine Kd.dC ?_ _) | (with_reducible refine Kd.gm ?_))))
       (case aB => exact (zb HB.out))
       (case aF => exact (fun _ _ => trivial))
       (case aO => exact (rJ HO323.out))
       (case aS => exact (BN HB.out))
       (case aL => have := Sj.out; have IW := (show (l0.drop ((sW) : Int).toNat).length = (l0.length - (sW).toNat) from List.length_drop); omega)
       intro v326 w16 ho hb hg hat
       rw [<- Ny325.out] at ho
       replace HB := A_ (hb)
       have HO327 := A_ (ho)
       clear HO323
       clear ho hb hg hat
       refine hK.out _ _ trivial (fun hHeld => ?_)
       clear hK K
       refine eF 14 ?_
       refine aV 10 4 2047 ?_
       refine fu (Jv PS.out (by kernel_rfl)) ?_
       try go_wp2
       go_ret
       exact ⟨_, by first | rfl | (simp [lh, lq] <;> rfl) | (simp only [<- EI]; first | rfl | (simp [lh, lq] <;> rfl)) | (simp [*, lh, lq] <;> rfl), by (with_reducible repeat (first | apply Kd.nR | apply Kd.nS | apply Kd.qJ)); exact HO327.out, by repeat (first | (with_reducible first | exact HB.out | apply bu | apply ah | apply bC) | exact HB.out)⟩
      ·rw [if_neg c9] at H
       exact absurd H (by simp)
     ·rw [if_neg c8] at H
      exact absurd H (by simp)
    ·rw [if_neg c7] at H
     exact absurd H (by simp)
   ·rw [if_neg c5] at H
    exact absurd H (by simp)
  ·rw [if_neg c4] at H
   exact absurd H (by simp)
 ·rw [if_neg c3] at H
  exact absurd H (by simp)
end Go.Proofs.Ytoddejmlcnbdmaa.Fn
namespace Go.Proofs.Ytoddejmlcnbdmaa.Tree
def gP.f (l0 : List Nat) (a1 : Int) (a2 : Nat) : Option (List Nat) := (some (([] : List Nat) : List Nat)).bind fun oZ => (if 0 <= a1 then (if a1 <= (l0.length : Int) then (if oZ.length + (l0.take (a1 : Int).toNat).length < 8796093022208 then ((some (oZ ++ (l0.take (a1 : Int).toNat) : List Nat)).bind fun lW => (if lW.length < 8796093022208 then ((some (lW ++ [a2] : List Nat)).bind fun jS => (if jS.length + (l0.drop (a1 : Int).toNat).length < 8796093022208 then (some (jS ++ (l0.drop (a1 : Int).toNat))) else (none))) else (none))) else (none)) else (none)) else (none))
theorem gP.calls (A0 : Option Addr) (c0 : Nat) (l0 : List Nat) (a1 : Int) (a2 : Nat) (r : List Nat) (w : World) (hr0 : Kd.C eT w A0 l0.length l0) (hc0 : l0.length <= c0) (h : gP.f l0 a1 a2 = some r) :
  Calls Try.prog 125 #[.slice A0 l0.length c0, .int .i64 a1, bG a2] w fun e w' => ∃ iy : Value, e = .returned (iy) /\ Kd.R eT 70 w' w.heap.size (fun _ => True) iy r /\ Below w.heap.size w w' := by
 have mV := A_ hr0
 have rG := A_ hc0
 clear hr0 hc0
 have HB := A_ (Below.refl w.heap.size w)
 have H : ((some (([] : List Nat) : List Nat)).bind fun oZ => (if 0 <= a1 then (if a1 <= (l0.length : Int) then (if oZ.length + (l0.take (a1 : Int).toNat).length < 8796093022208 then ((some (oZ ++ (l0.take (a1 : Int).toNat) : List Nat)).bind fun lW => (if lW.length < 8796093022208 then ((some (lW ++ [a2] : List Nat)).bind fun jS => (if jS.length + (l0.drop (a1 : Int).toNat).length < 8796093022208 then (some (jS ++ (l0.drop (a1 : Int).toNat))) else (none))) else (none))) else (none)) else (none)) else (none))) = some r := h
 clear h
 obtain ⟨oZ, sQ⟩ : ∃ y_ : List Nat, y_ = (([] : List Nat)) := ⟨_, rfl⟩
 replace H : (if 0 <= a1 then (if a1 <= (l0.length : Int) then (if oZ.length + (l0.take (a1 : Int).toNat).length < 8796093022208 then ((some (oZ ++ (l0.take (a1 : Int).toNat) : List Nat)).bind fun lW => (if lW.length < 8796093022208 then ((some (lW ++ [a2] : List Nat)).bind fun jS => (if jS.length + (l0.drop (a1 : Int).toNat).length < 8796093022208 then (some (jS ++ (l0.drop (a1 : Int).toNat))) else (none))) else (none))) else (none)) else (none)) else (none)) = some r := by first | (rw [sQ]; with_reducible exact H) | (have jA := (Option.bind_some _ _).symm.trans H; rw [sQ]; with_reducible exact jA) | (have jA := (Option.bind_some _ _).symm.trans H; with_reducible exact jA) | with_reducible exact H | (rw [sQ]; exact H) | exact H
 have Gm := A_ sQ
 clear sQ
 by_cases c4 : 0 <= a1
 ·rw [if_pos c4] at H
  have rU := eq_true c4
  have NL : decide (0 <= a1) = true := decide_eq_true c4
  clear c4
  by_cases c5 : a1 <= (l0.length : Int)
  ·rw [if_pos c5] at H
   have EC := eq_true c5
   have c5b1 : decide (a1 <= (l0.length : Int)) = true := decide_eq_true c5
   clear c5
   by_cases c6 : oZ.length + (l0.take (a1 : Int).toNat).length < 8796093022208
   ·rw [if_pos c6] at H
    have R9 := A_ c6
    clear c6
    obtain ⟨lW, sS⟩ : ∃ y_ : List Nat, y_ = (oZ ++ (l0.take (a1 : Int).toNat)) := ⟨_, rfl⟩
    replace H : (if lW.length < 8796093022208 then ((some (lW ++ [a2] : List Nat)).bind fun jS => (if jS.length + (l0.drop (a1 : Int).toNat).length < 8796093022208 then (some (jS ++ (l0.drop (a1 : Int).toNat))) else (none))) else (none)) = some r := by first | (rw [sS]; with_reducible exact H) | (have jA := (Option.bind_some _ _).symm.trans H; rw [sS]; with_reducible exact jA) | (have jA := (Option.bind_some _ _).symm.trans H; with_reducible exact jA) | with_reducible exact H | (rw [sS]; exact H) | exact H
    have NQ := A_ sS
    clear sS
    by_cases c7 : lW.length < 8796093022208
    ·rw [if_pos c7] at H
     have Sa := A_ c7
     clear c7
     obtain ⟨jS, sU⟩ : ∃ y_ : List Nat, y_ = (lW ++ [a2]) := ⟨_, rfl⟩
     replace H : (if jS.length + (l0.drop (a1 : Int).toNat).length < 8796093022208 then (some (jS ++ (l0.drop (a1 : Int).toNat))) else (none)) = some r := by first | (rw [sU]; with_reducible exact H) | (have jA := (Option.bind_some _ _).symm.trans H; rw [sU]; with_reducible exact jA) | (have jA := (Option.bind_some _ _).symm.trans H; with_reducible exact jA) | with_reducible exact H | (rw [sU]; exact H) | exact H
     have NR := A_ sU
     clear sU
     have IV := eq_true (of_decide_eq_true iL : 0 <= a1)
     have PO := eq_true (of_decide_eq_true iL : a1 <= (l0.length : Int))
     by_cases c10 : jS.length + (l0.drop (a1 : Int).toNat).length < 8796093022208
     ·rw [if_pos c10] at H
      have NS := A_ c10
      clear c10
      obtain ⟨Sb, sV⟩ : ∃ y_ : List Nat, y_ = (jS ++ (l0.drop (a1 : Int).toNat)) := ⟨_, rfl⟩
      replace H : (some Sb) = some r := by first | (rw [sV]; with_reducible exact H) | (have jA := (Option.bind_some _ _).symm.trans H; rw [sV]; with_reducible exact jA) | (have jA := (Option.bind_some _ _).symm.trans H; with_reducible exact jA) | with_reducible exact H | (rw [sV]; exact H) | exact H
      have NU := A_ sV
      clear sV
      obtain rfl := Option.some.inj H
      go_enter Try.func125, Try.ntmps125
      go_wp2_with (first | ((with_reducible refine dN (N := 8) rfl ?_); refine Kd.kH eT _ 70 ?hg (N := 8) ?hd (xs := ([] : List Nat)) (inner := []) (ok := fun _ => True) (okp := fun _ => True) ?hr ?hp (fun _ hk => hk) trivial (Below.refl _ _) (Nat.le_refl _) (by simp) ?_; (case hd => rfl); (case hg => rfl); (case hr => first | (go_simp; done) | (go_simp; rfl)); (case hp => exact (fq.none _ _)); intro Sc xM Bp hb Lu qG; clear Lu qG; (first | rw [<- Gm.out] at Bp | (simp only [Int.reduceToNat] at Bp; rw [<- Gm.out] at Bp)); have Gn := A_ (Kd.fI Bp (BN HB.out)); replace HB := A_ (Uc HB.out hb); clear hb Bp; obtain ⟨i013, Gp, _, Gq, _⟩ := info_parts jJ; obtain ⟨hcut13, NV, NW⟩ := mO (P := Try.prog) bG (0 : Nat) 94 70 .i64 iD Gp Gq A0 c0 l0 a1 (of_decide_eq_true iL) (of_decide_eq_true iL) rG.out; have Bq := A_ (Kd.jL (h1 := fun _ => rfl) (NV _ (Kd.gU mV.out))); have HC226 := A_ NW; clear NV NW Gp Gq) | ((with_reducible refine bQ (b := .append) (xs := #[.tmp 8, .tmp 11]) rfl ?_); at_builtin; refine Kd.dV eT (w0 := w) w.heap.size rfl (.tmp 8) (.tmp 11) 94 70 (.pointer none) 8 rfl iD jJ rfl (by decide) (by omega) Sc oZ (l0.take (a1 : Int).toNat) _ _ _ (fun _ => True) (fun _ => False) rfl rfl ?aO ?aR (fun _ _ h => h) (fun _ h => h.elim) ?aF ?aB ?aS ?aL ?_; (case aR => first | (have Sd := (show (l0.take (a1 : Int).toNat).length = a1.toNat from (by rw [List.length_take]; have h_ : (a1 : Int) <= (l0.length : Int) := of_decide_eq_true iL; omega)); have NY := (Kd.ax Bq.out HB.out); rw [Sd] at NY; exact NY) | (rw [<- show (l0.take (a1 : Int).toNat).length = a1.toNat from (by rw [List.length_take]; have h_ : (a1 : Int) <= (l0.length : Int) := of_decide_eq_true iL; omega)]; repeat (first | exact (Kd.ax Bq.out HB.out) | (with_reducible refine Kd.iB ?_ _) | (with_reducible refine Kd.dC ?_ _) | (with_reducible refine Kd.gm ?_))) | (repeat (first | exact (Kd.ax Bq.out HB.out) | (with_reducible refine Kd.iB ?_ _) | (with_reducible refine Kd.dC ?_ _) | (with_reducible refine Kd.gm ?_)))); (case aB => exact (zb HB.out)); (case aF => exact (fun _ _ => trivial)); (case aO => exact (rJ Gn.out)); (case aS => exact (BN HB.out)); (case aL => have := R9.out; have IW := (show (l0.take (a1 : Int).toNat).length = a1.toNat from (by rw [List.length_take]; have h_ : (a1 : Int) <= (l0.length : Int) := of_decide_eq_true iL; omega)); omega); intro v228 wR ho hb hg hat; rw [<- NQ.out] at ho; have Bh := A_ (hb); have aj := A_ (ho); clear HB; clear Gn; have HB := Bh; have Gr := aj; clear Bh aj; clear ho hb hg hat) | ((with_reducible refine bQ (b := .append) (xs := #[.tmp 13, .tmp 15]) rfl ?_); at_builtin; refine Kd.ql eT (w0 := w) w.heap.size rfl (.tmp 13) (.tmp 15) 94 70 (.pointer none) 8 rfl iD jJ rfl (by decide) (by omega) v228 lW a2 [bG a2] (fun _ => True) (fun _ => False) rfl rfl ?aP (fun _ hk => hk.elim) ?aF ?aO ?aB ?aS ?aL ?_; (case aP => exact rfl); (case aB => exact (zb HB.out)); (case aF => exact (fun _ _ => trivial)); (case aO => exact (rJ Gr.out)); (case aS => exact (BN HB.out)); (case aL => have := Sa.out; omega); intro Sg Gs ho hb hg hat; rw [<- NR.out] at ho; have Bh := A_ (hb); have aj := A_ (ho); clear HB; clear Gr; have HB := Bh; have Gt := aj; clear Bh aj; clear ho hb hg hat; obtain ⟨i016, Gu, _, Gv, _⟩ := info_parts jJ; obtain ⟨A16, Br, NZ, N7⟩ := mP (P := Try.prog) bG (0 : Nat) 94 70 .i64 iD Gu Gv A0 c0 l0 a1 (of_decide_eq_true iL) (of_decide_eq_true iL) rG.out; have Gw := A_ (Kd.jL (h1 := fun _ => rfl) (NZ _ (Kd.gU mV.out))); have HC233 := A_ N7; clear NZ N7 Gu Gv) | ((with_reducible refine bQ (b := .append) (xs := #[.tmp 17, .tmp 20]) rfl ?_); at_builtin; refine Kd.dV eT (w0 := w) w.heap.size rfl (.tmp 17) (.tmp 20) 94 70 (.pointer none) 8 rfl iD jJ rfl (by decide) (by omega) Sg jS (l0.drop (a1 : Int).toNat) _ _ _ (fun _ => True) (fun _ => False) rfl rfl ?aO ?aR (fun _ _ h => h) (fun _ h => h.elim) ?aF ?aB ?aS ?aL ?_; (case aR => first | (rw [<- show (l0.drop (a1 : Int).toNat).length = (l0.length - a1.toNat) from List.length_drop]; repeat (first | exact (Kd.ax Gw.out HB.out) | (with_reducible refine Kd.iB ?_ _) | (with_reducible refine Kd.dC ?_ _) | (with_reducible refine Kd.gm ?_))) | (repeat (first | exact (Kd.ax Gw.out HB.out) | (with_reducible refine Kd.iB ?_ _) | (with_reducible refine Kd.dC ?_ _) | (with_reducible refine Kd.gm ?_)))); (case aB => exact (zb HB.out)); (case aF => exact (fun _ _ => trivial)); (case aO => exact (rJ Gt.out)); (case aS => exact (BN HB.out)); (case aL => have := NS.out; have IW := (show (l0.drop (a1 : Int).toNat).length = (l0.length - a1.toNat) from List.length_drop); omega); intro v235 Kh ho hb hg hat; rw [<- NU.out] at ho; have Bh := A_ (hb); have aj := A_ (ho); clear HB; clear Gt; have HB := Bh; have N8 := aj; clear Bh aj; clear ho hb hg hat))
      go_ret
      exact ⟨_, Jn, by (with_reducible repeat (first | apply Kd.nR | apply Kd.nS | apply Kd.qJ)); exact N8.out, by repeat (first | (with_reducible first | exact HB.out | apply bu | apply ah | apply bC) | exact HB.out)⟩
     ·rw [if_neg c10] at H
      exact absurd H (by simp)
    ·rw [if_neg c7] at H
     exact absurd H (by simp)
   ·rw [if_neg c6] at H
    exact absurd H (by simp)
  ·rw [if_neg c5] at H
   exact absurd H (by simp)
 ·rw [if_neg c4] at H
  exact absurd H (by simp)
def bO.f (l0 : List Nat) (a1 : Int) : Option (List Nat) := (some (([] : List Nat) : List Nat)).bind fun Bw => (if 0 <= a1 then (if a1 <= (l0.length : Int) then (if Bw.length + (l0.take (a1 : Int).toNat).length < 8796093022208 then ((some (Bw ++ (l0.take (a1 : Int).toNat) : List Nat)).bind fun uq => (if 0 <= (wrap64 (a1 + 1)) then (if (wrap64 (a1 + 1)) <= (l0.length : Int) then (if uq.length + (l0.drop ((wrap64 (a1 + 1)) : Int).toNat).length < 8796093022208 then (some (uq ++ (l0.drop ((wrap64 (a1 + 1)) : Int).toNat))) else (none)) else (none)) else (none))) else (none)) else (none)) else (none))
def bO.T1 : Bool × List (List Nat × List Nat) := (true, [([], []), ([], []), ([], []), ([1, 2], [1, 2]), ([0, 3], [0, 3]), ([], []), ([], []), ([6], [6]), ([5, 7], [5, 7]), ([4, 8, 4], [4, 8]), ([9, 9, 0, 1, 2, 3, 4, 5, 6, 7, 8, 9], [9])])
def bO.B1 : List Nat := [0, 0, 0, 6, 15, 0, 0, 64, 224, 511, 1023]
theorem bO.Q7 : qW .any (opsOf Try.f129 1) = bO.T1 := by kernel_rfl
theorem bO.Mv : yQ bO.T1.2 bO.B1 = true := by kernel_rfl
theorem bO.calls (A0 : Option Addr) (c0 : Nat) (l0 : List Nat) (a1 : Int) (r : List Nat) (w : World) (hr0 : Kd.C eT w A0 l0.length l0) (hc0 : l0.length <= c0) (h : bO.f l0 a1 = some r) :
  Calls Try.prog 129 #[.slice A0 l0.length c0, .int .i64 a1] w fun e w' => ∃ iy : Value, e = .returned (iy) /\ Kd.R eT 70 w' w.heap.size (fun _ => True) iy r /\ Below w.heap.size w w' := by
 have mV := A_ hr0
 have rG := A_ hc0
 clear hr0 hc0
 have HB := A_ (Below.refl w.heap.size w)
 have H : ((some (([] : List Nat) : List Nat)).bind fun Bw => (if 0 <= a1 then (if a1 <= (l0.length : Int) then (if Bw.length + (l0.take (a1 : Int).toNat).length < 8796093022208 then ((some (Bw ++ (l0.take (a1 : Int).toNat) : List Nat)).bind fun uq => (if 0 <= (wrap64 (a1 + 1)) then (if (wrap64 (a1 + 1)) <= (l0.length : Int) then (if uq.length + (l0.drop ((wrap64 (a1 + 1)) : Int).toNat).length < 8796093022208 then (some (uq ++ (l0.drop ((wrap64 (a1 + 1)) : Int).toNat))) else (none)) else (none)) else (none))) else (none)) else (none)) else (none))) = some r := h
 clear h
 obtain ⟨Bw, GK⟩ : ∃ y_ : List Nat, y_ = (([] : List Nat)) := ⟨_, rfl⟩
 replace H : (if 0 <= a1 then (if a1 <= (l0.length : Int) then (if Bw.length + (l0.take (a1 : Int).toNat).length < 8796093022208 then ((some (Bw ++ (l0.take (a1 : Int).toNat) : List Nat)).bind fun uq => (if 0 <= (wrap64 (a1 + 1)) then (if (wrap64 (a1 + 1)) <= (l0.length : Int) then (if uq.length + (l0.drop ((wrap64 (a1 + 1)) : Int).toNat).length < 8796093022208 then (some (uq ++ (l0.drop ((wrap64 (a1 + 1)) : Int).toNat))) else (none)) else (none)) else (none))) else (none)) else (none)) else (none)) = some r := by first | (rw [GK]; with_reducible exact H) | (have jA := (Option.bind_some _ _).symm.trans H; rw [GK]; with_reducible exact jA) | (have jA := (Option.bind_some _ _).symm.trans H; with_reducible exact jA) | with_reducible exact H | (rw [GK]; exact H) | exact H
 have Ny328 := A_ GK
 clear GK
 by_cases c3 : 0 <= a1
 ·rw [if_pos c3] at H
  have sP := eq_true c3
  have EE : decide (0 <= a1) = true := decide_eq_true c3
  clear c3
  by_cases c4 : a1 <= (l0.length : Int)
  ·rw [if_pos c4] at H
   have rU := eq_true c4
   have NL : decide (a1 <= (l0.length : Int)) = true := decide_eq_true c4
   clear c4
   by_cases c5 : Bw.length + (l0.take (a1 : Int).toNat).length < 8796093022208
   ·rw [if_pos c5] at H
    have Si := A_ c5
    clear c5
    obtain ⟨uq, GL⟩ : ∃ y_ : List Nat, y_ = (Bw ++ (l0.take (a1 : Int).toNat)) := ⟨_, rfl⟩
    replace H : (if 0 <= (wrap64 (a1 + 1)) then (if (wrap64 (a1 + 1)) <= (l0.length : Int) then (if uq.length + (l0.drop ((wrap64 (a1 + 1)) : Int).toNat).length < 8796093022208 then (some (uq ++ (l0.drop ((wrap64 (a1 + 1)) : Int).toNat))) else (none)) else (none)) else (none)) = some r := by first | (rw [GL]; with_reducible exact H) | (have jA := (Option.bind_some _ _).symm.trans H; rw [GL]; with_reducible exact jA) | (have jA := (Option.bind_some _ _).symm.trans H; with_reducible exact jA) | with_reducible exact H | (rw [GL]; exact H) | exact H
    have Ny332 := A_ GL
    clear GL
    obtain ⟨sW, EI⟩ : ∃ j_ : Int, (wrap64 (a1 + 1)) = j_ := ⟨_, rfl⟩
    replace H : (if 0 <= (sW) then (if (sW) <= (l0.length : Int) then (if uq.length + (l0.drop ((sW) : Int).toNat).length < 8796093022208 then (some (uq ++ (l0.drop ((sW) : Int).toNat))) else (none)) else (none)) else (none)) = some r := by first | (rw [EI] at H; exact H) | (simp only [EI] at H ⊢; exact H)
    have hji6w : (IntKind.i64.wrap (a1 + 1)) = sW := (uA _).trans EI
    by_cases c7 : 0 <= (sW)
    ·rw [if_pos c7] at H
     have Gh := eq_true c7
     have c7b1 : decide (0 <= (sW)) = true := decide_eq_true c7
     clear c7
     by_cases c8 : (sW) <= (l0.length : Int)
     ·rw [if_pos c8] at H
      have IV := eq_true c8
      have N9 : decide ((sW) <= (l0.length : Int)) = true := decide_eq_true c8
      clear c8
      by_cases c9 : uq.length + (l0.drop ((sW) : Int).toNat).length < 8796093022208
      ·rw [if_pos c9] at H
       have Sj := A_ c9
       clear c9
       obtain ⟨y336, GM⟩ : ∃ y_ : List Nat, y_ = (uq ++ (l0.drop ((sW) : Int).toNat)) := ⟨_, rfl⟩
       replace H : (some y336) = some r := by first | (rw [GM]; with_reducible exact H) | (have jA := (Option.bind_some _ _).symm.trans H; rw [GM]; with_reducible exact jA) | (have jA := (Option.bind_some _ _).symm.trans H; with_reducible exact jA) | with_reducible exact H | (rw [GM]; exact H) | exact H
       have Ny336 := A_ GM
       clear GM
       obtain rfl := Option.some.inj H
       go_enter Try.func129, Try.ntmps129
       try go_wp2
       replace HB := A_ (bC HB.out)
       obtain ⟨i011, GG, _, GH, _⟩ := info_parts jJ
       obtain ⟨Bu, Oa, Ob⟩ := mO (P := Try.prog) bG (0 : Nat) 94 70 .i64 iD GG GH A0 c0 l0 a1 (of_decide_eq_true iL) (of_decide_eq_true iL) rG.out
       have Kj := A_ (Kd.jL (h1 := fun _ => rfl) (Oa _ (Kd.gU mV.out)))
       have HC331 := A_ Ob
       clear Oa Ob GG GH
       obtain ⟨i012, GI, _, GJ, _⟩ := info_parts jJ
       obtain ⟨Xd, hcut12, EJ, Oc⟩ := mP (P := Try.prog) bG (0 : Nat) 94 70 .i64 iD GI GJ A0 c0 l0 (sW) (of_decide_eq_true iL) (of_decide_eq_true iL) rG.out
       have Oe := A_ (Kd.jL (h1 := fun _ => rfl) (EJ _ (Kd.gU mV.out)))
       have HC335 := A_ Oc
       clear EJ Oc GI GJ
       refine dz (n := 11) (S := fun w' => True) (ds := []) (bt 11 0) (by kernel_rfl) rfl rfl trivial (fun hHeld => ?_); refine CJ bO.Q7 bO.Mv (fun PS HW_ => ?_)
       generalize w.drew = uK at HB Kj Oe hHeld ⊢
       refine aV 1 6 2 ?_
       refine aV 2 7 6 ?_
       refine aV 3 8 14 ?_
       refine aV 5 10 46 ?_
       refine aV 6 11 110 ?_
       refine aV 7 12 238 ?_
       refine aV 8 13 494 ?_
       refine Hm (i := 0) (N := some 5) (bt 11 495) rfl rfl (xc PS.out (by kernel_rfl)) (by decide) (fun K hK => ?_)
       refine Kd.bn eT _ 70 ?hg (N := 5) ?hd (xs := ([] : List Nat)) (inner := []) (ok := fun _ => True) (okp := fun _ => True) ?hr ?hp (fun _ hk => hk) trivial (Below.refl _ _) (Nat.le_refl _) (by simp) ?_; (case hd => rfl); (case hg => rfl); (case hr => first | (go_simp; done) | (go_simp; rfl)); (case hp => exact (fq.none _ _))
       intro v329 DD Bv hb Lu qG
       clear Lu qG
       (first | rw [<- Ny328.out] at Bv | (simp only [Int.reduceToNat] at Bv; rw [<- Ny328.out] at Bv))
       have HO330 := A_ (Kd.fI Bv (BN HB.out))
       replace HB := A_ (Uc HB.out hb)
       clear hb Bv
       refine hK.out _ _ trivial (fun hHeld => ?_)
       clear hK K
       refine eF 5 ?_
       refine Hm (i := 4) (N := some 9) (bt 11 511) rfl rfl (xc PS.out (by kernel_rfl)) (by decide) (fun K hK => ?_)
       refine Kd.aJ eT (w0 := w) w.heap.size (by rfl) (.tmp 5) (.tmp 8) 94 70 (.pointer none) 8 rfl iD jJ rfl (by decide) (by omega) v329 Bw (l0.take (a1 : Int).toNat) _ _ _ (fun _ => True) (fun _ => False) rfl rfl ?aO ?aR (fun _ _ h => h) (fun _ h => h.elim) ?aF ?aB ?aS ?aL ?_
       (case aR => first | (have Sd := (show (l0.take (a1 : Int).toNat).length = a1.toNat from (by rw [List.length_take]; have h_ : (a1 : Int) <= (l0.length : Int) := of_decide_eq_true iL; omega)); have NY := (Kd.ax Kj.out HB.out); rw [Sd] at NY; exact NY) | (rw [<- show (l0.take (a1 : Int).toNat).length = a1.toNat from (by rw [List.length_take]; have h_ : (a1 : Int) <= (l0.length : Int) := of_decide_eq_true iL; omega)]; repeat (first | exact (Kd.ax Kj.out HB.out) | (with_reducible refine Kd.iB ?_ _) | (with_reducible refine Kd.dC ?_ _) | (with_reducible refine Kd.gm ?_))) | (repeat (first | exact (Kd.ax Kj.out HB.out) | (with_reducible refine Kd.iB ?_ _) | (with_reducible refine Kd.dC ?_ _) | (with_reducible refine Kd.gm ?_))))
       (case aB => exact (zb HB.out))
       (case aF => exact (fun _ _ => trivial))
       (case aO => exact (rJ HO330.out))
       (case aS => exact (BN HB.out))
       (case aL => have := Si.out; have IW := (show (l0.take (a1 : Int).toNat).length = a1.toNat from (by rw [List.length_take]; have h_ : (a1 : Int) <= (l0.length : Int) := of_decide_eq_true iL; omega)); omega)
       intro v333 Gs ho hb hg hat
       rw [<- Ny332.out] at ho
       replace HB := A_ (hb)
       have HO334 := A_ (ho)
       clear HO330
       clear ho hb hg hat
       refine hK.out _ _ trivial (fun hHeld => ?_)
       clear hK K
       refine eF 9 ?_
       refine Hm (i := 9) (N := some 14) (bt 11 1023) rfl rfl (xc PS.out (by kernel_rfl)) (by decide) (fun K hK => ?_)
       refine Kd.aJ eT (w0 := w) w.heap.size (by rfl) (.tmp 9) (.tmp 13) 94 70 (.pointer none) 8 rfl iD jJ rfl (by decide) (by omega) v333 uq (l0.drop ((sW) : Int).toNat) _ _ _ (fun _ => True) (fun _ => False) rfl rfl ?aO ?aR (fun _ _ h => h) (fun _ h => h.elim) ?aF ?aB ?aS ?aL ?_
       (case aR => first | (rw [<- show (l0.drop ((sW) : Int).toNat).length = (l0.length - (sW).toNat) from List.length_drop]; repeat (first | exact (Kd.ax Oe.out HB.out) | (with_reducible refine Kd.iB ?_ _) | (with_reducible refine Kd.dC ?_ _) | (with_reducible refine Kd.gm ?_))) | (repeat (first | exact (Kd.ax Oe.out HB.out) | (with_reducible refine Kd.iB ?_ _) | (with_reducible refine Kd.dC ?_ _) | (with_reducible refine Kd.gm ?_))))
       (case aB => exact (zb HB.out))
       (case aF => exact (fun _ _ => trivial))
       (case aO => exact (rJ HO334.out))
       (case aS => exact (BN HB.out))
       (case aL => have := Sj.out; have IW := (show (l0.drop ((sW) : Int).toNat).length = (l0.length - (sW).toNat) from List.length_drop); omega)
       intro v337 w16 ho hb hg hat
       rw [<- Ny336.out] at ho
       replace HB := A_ (hb)
       have HO338 := A_ (ho)
       clear HO334
       clear ho hb hg hat
       refine hK.out _ _ trivial (fun hHeld => ?_)
       clear hK K
       refine eF 14 ?_
       refine aV 10 4 2047 ?_
       refine fu (Jv PS.out (by kernel_rfl)) ?_
       try go_wp2
       go_ret
       exact ⟨_, by first | rfl | (simp [lh, lq] <;> rfl) | (simp only [<- EI]; first | rfl | (simp [lh, lq] <;> rfl)) | (simp [*, lh, lq] <;> rfl), by (with_reducible repeat (first | apply Kd.nR | apply Kd.nS | apply Kd.qJ)); exact HO338.out, by repeat (first | (with_reducible first | exact HB.out | apply bu | apply ah | apply bC) | exact HB.out)⟩
      ·rw [if_neg c9] at H
       exact absurd H (by simp)
     ·rw [if_neg c8] at H
      exact absurd H (by simp)
    ·rw [if_neg c7] at H
     exact absurd H (by simp)
   ·rw [if_neg c5] at H
    exact absurd H (by simp)
  ·rw [if_neg c4] at H
   exact absurd H (by simp)
 ·rw [if_neg c3] at H
  exact absurd H (by simp)
def aI {α : Type} (l : List α) (i : Nat) (x : α) : List α := l.take i ++ x :: l.drop i
theorem eG {α : Type} {l : List α} {i : Nat} (x : α) (h : i <= l.length) : (aI l i x).length = l.length + 1 := by
 unfold aI
 rw [List.length_append, List.length_cons, List.length_take, List.length_drop]
 omega
theorem jr {α β : Type} (f : α -> β) (l : List α) (i : Nat) (x : α) : (aI l i x).map f = aI (l.map f) i (f x) := by
 unfold aI
 rw [List.map_append, List.map_cons, List.map_take, List.map_drop]
theorem kV {l : List ByteArray} {i : Nat} (x : ByteArray) (h : i <= l.length) (hl : l.length <= 1000000000000) : dX.f l (i : Int) x = some (aI l i x) := by
 unfold dX.f aI
 simp only [Option.bind_some, Int.toNat_natCast, List.length_nil, List.nil_append, List.length_take, List.length_drop, List.length_append, List.length_singleton, List.length_cons]
 rw [if_pos (by omega), if_pos (by omega), if_pos (by omega), if_pos (by omega), if_pos (by omega)]
 simp
theorem uC {l : List Nat} {i : Nat} (x : Nat) (h : i <= l.length) (hl : l.length <= 1000000000000) : gP.f l (i : Int) x = some (aI l i x) := by
 unfold gP.f aI
 simp only [Option.bind_some, Int.toNat_natCast, List.length_nil, List.nil_append, List.length_take, List.length_drop, List.length_append, List.length_singleton, List.length_cons]
 rw [if_pos (by omega), if_pos (by omega), if_pos (by omega), if_pos (by omega), if_pos (by omega)]
 simp
theorem Fu (A : Option Addr) (c : Nat) (l : List Nat) (i x n : Nat) (w : World) (hn : n = l.length) (hr : eT.C w A n l) (hc : n <= c) (hi : i + 1 <= l.length) (hl : l.length <= 1000000000000) :
  Calls Try.prog 125 #[.slice A n c, .int .i64 ((i : Int) + 1), bG x] w fun e w' => ∃ iy : Value, e = .returned (iy) /\ eT.R 70 w' w.heap.size (fun _ => True) iy (aI l (i + 1) x) /\ Below w.heap.size w w' := by
 subst hn
 exact gP.calls A c l ((i + 1 : Nat) : Int) x _ w hr hc (uC x hi hl)
def splitK (t k : PT) (i : Nat) : PT :=
 .mk (aI t.keys i (k.keys.getD 2 ByteArray.empty)) (aI t.vals i (k.vals.getD 2 ByteArray.empty)) (aI (t.kids.set i (.mk (k.keys.take 2) (k.vals.take 2) (k.kids.take 3))) (i + 1) (.mk (k.keys.drop 3) (k.vals.drop 3) (k.kids.drop 3)))
theorem Jw {α : Type} {l : List α} {i : Nat} {x x' y : α} (h : l[i]? = some x) : aI (l.set i x') (i + 1) y = l.take i ++ (x' :: (y :: l.drop (i + 1))) := by
 have hl : i < l.length := (List.getElem?_eq_some_iff.1 h).1
 unfold aI
 rw [List.take_add_one, List.getElem?_set_self hl, List.take_set_of_le (Nat.le_refl _), List.drop_set_of_lt (Nat.lt_succ_self _)]
 simp
theorem vS {T E : Nat} {l : List NT} {i : Nat} {k k' r' : NT} (h : l[i]? = some k) : NT.bE T E (aI (l.set i k') (i + 1) r') = NT.bE T E (l.take i) ++ (k'.dI T E ++ (r'.dI T E ++ NT.bE T E (l.drop (i + 1)))) := by
 rw [Jw h, iC, NT.bE, NT.bE]
theorem qX {l : List NT} {i : Nat} {k' r' : NT} : NT.aQ (aI (l.set i k') (i + 1) r') = aI ((NT.aQ l).set i k'.erase) (i + 1) r'.erase := by
 rw [aK, jr, List.map_set, <- aK]
section
variable {w : World} {base T E : Nat} {L : List Ck}
def vT (T E : Nat) (t k : NT) (i : Nat) (L : List Ck) : List (List Ck) :=
 [[.box T t.p #[t.kv, t.vv, t.cv]], [txt t.kv t.keys], [txt t.vv t.vals], [.jE E t.cv (ptrs t.kids)], NT.bE T E (t.kids.take i),
   [.box T k.p #[k.kv, k.vv, k.cv]], [txt k.kv k.keys], [txt k.vv k.vals], [.jE E k.cv (ptrs k.kids)], NT.bE T E k.kids, NT.bE T E (t.kids.drop (i + 1)), L]
theorem H5 {t k : NT} {i : Nat} (h : t.kids[i]? = some k) : (vT T E t k i L).flatten = t.dI T E ++ L := by
 rw [NT.jy, oF T E h, NT.jy T E k]
 unfold vT NT.head
 simp only [List.flatten_cons, List.flatten_nil, List.append_assoc, List.cons_append, List.nil_append, List.append_nil]
theorem qo {t k : NT} {i : Nat} (h : t.kids[i]? = some k) (hs : Sat w base (t.dI T E ++ L)) : aa w base (vT T E t k i L) := by
 unfold aa
 rw [H5 h]
 exact hs
end
open Go.Proofs.Ytoddejmlcnbdmaa.Fn
def One (m : Nat) (t : PT) : Prop := t.vals.length = t.keys.length /\ t.keys.length <= m /\ (t.kids.length = 0 ∨ t.kids.length = t.keys.length + 1)
mutual
def kC : PT -> Prop
 | .mk keys vals kids => One 4 (.mk keys vals kids) /\ Mw kids
def Mw : List PT -> Prop
 | [] => True
 | c :: cs => kC c /\ Mw cs
end
theorem Fv : ∀ {l : List PT}, Mw l ↔ ∀ c ∈ l, kC c
 | [] => by simp [Mw]
 | c :: cs => by simp only [Mw, List.forall_mem_cons, Fv (l := cs)]
theorem bL {t : PT} : kC t ↔ One 4 t /\ ∀ c ∈ t.kids, kC c := by
 cases t with | mk keys vals kids =>
 rw [kC, Fv]
 rfl
def Fw (t : PT) : Prop := One 5 t /\ ∀ c ∈ t.kids, kC c
theorem One.mono {a b : Nat} {t : PT} (h : One a t) (hab : a <= b) : One b t := ⟨h.1, Nat.le_trans h.2.1 hab, h.2.2⟩
theorem kC.five {t : PT} (h : kC t) : Fw t := ⟨(bL.1 h).1.mono (by omega), (bL.1 h).2⟩
theorem CK {α : Type} {l : List α} {i : Nat} {x y : α} (h : y ∈ aI l i x) : y = x ∨ y ∈ l := by
 unfold aI at h
 rcases List.mem_append.1 h with h | h
 ·exact .inr (List.mem_of_mem_take h)
 ·rcases List.mem_cons.1 h with h | h
  ·exact .inl h
  ·exact .inr (List.mem_of_mem_drop h)
theorem CL {t k : PT} {i : Nat} (ht : t.vals.length = t.keys.length /\ t.keys.length <= 4 /\ t.kids.length = t.keys.length + 1) (hi : i <= t.keys.length) (hk : t.kids.length = t.kids.length) (hc : ∀ (j : Nat) (c : PT), j ≠ i -> t.kids[j]? = some c -> kC c) (h5 : Fw k) (hk5 : k.keys.length = 5) : Fw (splitK t k i) := by
 obtain ⟨⟨k1, k2, k3⟩, k4⟩ := h5
 cases k with | mk kk kv kc =>
 simp only [PT.keys, PT.vals, PT.kids] at k1 k2 k3 k4 hk5
 have l : kC (.mk (kk.take 2) (kv.take 2) (kc.take 3)) := by
  refine bL.2 ⟨⟨?_, ?_, ?_⟩, fun c hc => k4 c (List.mem_of_mem_take hc)⟩
  ·simp only [PT.keys, PT.vals, List.length_take]; omega
  ·simp only [PT.keys, List.length_take]; omega
  ·simp only [PT.keys, PT.kids, List.length_take]; omega
 have r : kC (.mk (kk.drop 3) (kv.drop 3) (kc.drop 3)) := by
  refine bL.2 ⟨⟨?_, ?_, ?_⟩, fun c hc => k4 c (List.mem_of_mem_drop hc)⟩
  ·simp only [PT.keys, PT.vals, List.length_drop]; omega
  ·simp only [PT.keys, List.length_drop]; omega
  ·simp only [PT.keys, PT.kids, List.length_drop]; omega
 refine ⟨⟨?_, ?_, ?_⟩, ?_⟩
 ·show (aI _ _ _).length = (aI _ _ _).length
  rw [eG _ (by omega), eG _ hi]
  omega
 ·show (aI _ _ _).length <= 5
  rw [eG _ hi]
  omega
 ·right
  show (aI _ _ _).length = (aI _ _ _).length + 1
  rw [eG _ (by rw [List.length_set]; omega), eG _ hi, List.length_set]
  omega
 ·intro c hm
  have hm : c ∈ aI (t.kids.set i _) (i + 1) _ := hm
  rcases CK hm with rfl | hm
  ·exact r
  ·obtain ⟨j, hj⟩ := List.getElem?_of_mem hm
   rw [List.getElem?_set] at hj
   split at hj
   ·split at hj
    ·obtain rfl := Option.some.inj hj
     exact l
    ·cases hj
   ·rename_i hne
    exact hc j c (fun e => hne e.symm) hj
def kE : Nat -> PT -> ByteArray -> ByteArray -> PT
 | 0, t, _, _ => t
 | n + 1, t, key, val =>
  if iJ t.keys (dm key t.keys) key = true then .mk t.keys (t.vals.set (dm key t.keys) val) t.kids
  else if t.kids.length = 0 then .mk (aI t.keys (dm key t.keys) key) (aI t.vals (dm key t.keys) val) t.kids
  else match t.kids[dm key t.keys]? with
   | none => t
   | some s => if 4 < (kE n s key val).keys.length then splitK t (kE n s key val) (dm key t.keys) else .mk t.keys t.vals (t.kids.set (dm key t.keys) (kE n s key val))
theorem lL : ∀ (n : Nat) (t : PT) (key val : ByteArray), kC t -> Fw (kE n t key val)
 | 0, t, key, val, h => h.five
 | n + 1, t, key, val, h => by
  obtain ⟨⟨h1, h2, h3⟩, h4⟩ := bL.1 h
  have hle := kU key t.keys
  rw [kE]
  split
  ·exact ⟨⟨by show (t.vals.set _ _).length = _; rw [List.length_set]; exact h1, by show t.keys.length <= 5; omega, h3⟩, h4⟩
  ·split
   ·rename_i h0
    refine ⟨⟨?_, ?_, .inl h0⟩, h4⟩
    ·show (aI _ _ _).length = (aI _ _ _).length
     rw [eG _ (by omega), eG _ hle]
     omega
    ·show (aI _ _ _).length <= 5
     rw [eG _ hle]
     omega
   ·rename_i h0
    cases hs : t.kids[dm key t.keys]? with
    | none => exact h.five
    | some s =>
     have ih := lL n s key val (h4 s (List.mem_of_getElem? hs))
     simp only
     split
     ·rename_i h5
      exact CL ⟨h1, h2, by omega⟩ hle rfl (fun j c _ hj => h4 c (List.mem_of_getElem? hj)) ih (by have := ih.1.2.1; omega)
     ·rename_i h5
      refine ⟨⟨h1, by show t.keys.length <= 5; omega, by show (t.kids.set _ _).length = 0 ∨ (t.kids.set _ _).length = _; rw [List.length_set]; exact h3⟩, fun c hm => ?_⟩
      rcases List.mem_or_eq_of_mem_set hm with hm | rfl
      ·exact h4 c hm
      ·exact bL.2 ⟨⟨ih.1.1, by omega, ih.1.2.2⟩, ih.2⟩
end Go.Proofs.Ytoddejmlcnbdmaa.Tree
namespace Go.Proofs.Ytoddejmlcnbdmaa.Pure
theorem eY {n : Int} (h0 : -9223372036854775808 <= n) (h1 : n <= 9223372036854775807) : wrap64 n = n := IntWalk.wrap64_in n ⟨h0, h1⟩
theorem ou {i : Nat} (h : i <= 9223372036854775806) : wrap64 ((i : Int) + 1) = ((i + 1 : Nat) : Int) := by
 rw [eY (by omega) (by omega)]; omega
section
variable {α : Type} {l t : List α} {i : Nat} {x z : α}
theorem drop_nil (h : l.drop i = []) : ¬ ((i : Int) < (l.length : Int)) := by
 have := List.drop_eq_nil_iff.1 h
 omega
theorem drop_cons (h : l.drop i = x :: t) : ((i : Int) < (l.length : Int)) /\ l[i]? = some x /\ l.drop (i + 1) = t := by
 have hlt : i < l.length := by
  rcases Nat.lt_or_ge i l.length with h1 | h1
  ·exact h1
  ·rw [List.drop_eq_nil_of_le h1] at h; cases h
 rw [List.drop_eq_getElem_cons hlt] at h
 injection h with h1 h2
 exact ⟨by omega, by rw [List.getElem?_eq_getElem hlt, h1], h2⟩
theorem getD_at (h : l[i]? = some x) : l.getD ((i : Nat) : Int).toNat z = x := by
 rw [Int.toNat_natCast, List.getD_eq_getElem?_getD, h]; rfl
end
theorem UJ {l : List Int} {i : Nat} {x : Int} (h : l[i]? = some x) : rd l (i : Int) = x := getD_at h
theorem nW {α : Type} {l : List α} {i : Nat} {x z : α} (h : l[i]? = some x) : bI z l (i : Int) = x := getD_at h
theorem Jy (n : Nat) (P : Nat -> Prop) (hn : P n) (hs : ∀ i, i < n -> P (i + 1) -> P i) : P 0 := by
 have : ∀ d, d <= n -> P (n - d) := by
  intro d
  induction d with
  | zero => intro _; simpa using hn
  | succ d ih =>
   intro hd
   refine hs _ (by omega) ?_
   have e : n - (d + 1) + 1 = n - d := by omega
   rw [e]
   exact ih (by omega)
 have := this n (Nat.le_refl _)
 simpa using this
theorem Ev.all {α : Type} {g : Nat -> Option α} {r : α} (h : ∀ k, g k = some r) : Ev g r := ⟨0, fun k _ => h k⟩
theorem Ev.next {α : Type} {g f : Nat -> Option α} {r : α} {K : Nat} (h : ∀ k, K <= k -> g (k + 1) = f k) (hf : Ev f r) : Ev g r := by
 obtain ⟨K', hf⟩ := hf
 refine ⟨max K K' + 1, fun k hk => ?_⟩
 obtain ⟨m, rfl⟩ : ∃ m, k = m + 1 := ⟨k - 1, by omega⟩
 rw [h m (by omega)]
 exact hf m (by omega)
theorem Ev.same {α : Type} {g f : Nat -> Option α} {r : α} {K : Nat} (h : ∀ k, K <= k -> g k = f k) (hf : Ev f r) : Ev g r := by
 obtain ⟨K', hf⟩ := hf
 exact ⟨max K K', fun k hk => (h k (by omega)).trans (hf k (by omega))⟩
theorem VV {α β : Type} (L : Nat -> List β -> Int -> Option (List β)) (f : α -> β) (z : β) (l : List α)
  (hend : ∀ k x3, L (k + 1) x3 (l.length : Int) = some x3)
  (hstep : ∀ (i : Nat) (x : α), l[i]? = some x -> ∃ K, ∀ k (x3 : List β), K <= k -> x3.length = l.length -> L (k + 1) x3 (i : Int) = L k (x3.set i (f x)) ((i + 1 : Nat) : Int)) :
  Ev (fun k => L k (List.replicate l.length z) 0) (l.map f) := by
 have := Jy l.length (fun i => Ev (fun k => L k ((l.take i).map f ++ List.replicate (l.length - i) z) (i : Int)) (l.map f)) ?_ ?_
 ·simpa using this
 ·refine ⟨1, fun k hk => ?_⟩
  obtain ⟨m, rfl⟩ : ∃ m, k = m + 1 := ⟨k - 1, by omega⟩
  dsimp only
  rw [hend]
  simp
 ·intro i hi ih
  have hx : l[i]? = some l[i] := List.getElem?_eq_getElem hi
  obtain ⟨K, hK⟩ := hstep i _ hx
  refine Ev.next (K := K) (fun k hk => ?_) ih
  rw [hK k _ hk (by simp; omega)]
  congr 1
  have h0 : i = ((l.take i).map f).length := by simp; omega
  rw [List.set_append_right _ _ (by omega)]
  have h1 : i - ((l.take i).map f).length = 0 := by omega
  have h2 : l.length - i = (l.length - (i + 1)) + 1 := by omega
  rw [h1, h2, List.replicate_succ, List.set_cons_zero, List.take_succ_eq_append_getElem hi, List.map_append]
  simp
theorem Mx {ρ : Type} (L : Nat -> Int -> Option ρ) (n : Nat) (r : ρ) (hend : ∀ k, L (k + 1) (n : Int) = some r)
  (hstep : ∀ (i : Nat), i < n -> ∃ K, ∀ k, K <= k -> L (k + 1) (i : Int) = L k ((i + 1 : Nat) : Int)) : Ev (fun k => L k 0) r := by
 have := Jy n (fun i => Ev (fun k => L k (i : Int)) r) ⟨1, fun k hk => by obtain ⟨m, rfl⟩ : ∃ m, k = m + 1 := ⟨k - 1, by omega⟩; exact hend m⟩ (fun i hi ih => by
  obtain ⟨K, hK⟩ := hstep i hi
  exact Ev.next hK ih)
 simpa using this
theorem ic {p : Prop} (h : p := by first | omega | assumption | rfl | (simp only [List.length_map, List.length_replicate, List.length_take, List.length_drop, List.length_append, List.length_cons, List.length_nil, List.length_set]; omega) | (simp <;> fail)) : p := h
section
variable {α β γ δ : Type}
theorem Ev.up {g : Nat -> Option α} {r : α} (h : Ev (fun k => g (k + 1)) r) : Ev g r := Ev.next (K := 0) (fun _ _ => rfl) h
theorem Ev.wQ {c : Prop} {dc : Decidable c} {A B : Nat -> Option α} {r : α} (hc : c) (h : Ev A r) : Ev (fun k => if c then A k else B k) r :=
 Ev.same (K := 0) (fun k _ => by rw [if_pos hc]) h
theorem Ev.xe {c : Prop} {dc : Decidable c} {A B : Nat -> Option α} {r : α} (hc : ¬ c) (h : Ev B r) : Ev (fun k => if c then A k else B k) r :=
 Ev.same (K := 0) (fun k _ => by rw [if_neg hc]) h
theorem Ev.val {a r : α} (h : a = r) : Ev (fun _ => some a) r := Ev.all fun _ => by rw [h]
theorem Ev.jM {a : α} {f : Nat -> α -> Option β} {r : β} (h : Ev (fun k => f k a) r) : Ev (fun k => (some a).bind (f k)) r := Ev.bind (Ev.val rfl) h
variable {R : α -> β -> Prop} {A A1 A2 : Nat -> Option α} {B B1 B2 : Nat -> Option β}
end
theorem BX {p : Prop} [Decidable p] : (decide p = true) = p := decide_eq_true_eq
def nm (s : ByteArray) : List Int := s.data.toList.map fun b => (b.toNat : Int)
theorem CO (s : ByteArray) : (nm s).length = s.size := by
 rw [nm, List.length_map, Array.length_toList]; rfl
theorem toList_nil {s : ByteArray} : s.toList = ([] : List UInt8) ↔ nm s = [] := by
 rw [Lib.toList_data, nm]
 simp
open Go.Proofs.Ytoddejmlcnbdmaa.Fn Go.Proofs.Ytoddejmlcnbdmaa.Tree
theorem KE (a b c : Int) : jK.f a b c = some (decide (b <= a /\ a <= c)) := by
 unfold jK.f
 by_cases h : b <= a
 ·rw [if_pos h]; simp [h]
 ·rw [if_neg h]; simp [h]
def jk (s : ByteArray) : Bool := decide (1 <= s.size /\ s.size <= 12)
def kI (s : ByteArray) : Bool := decide (s.size <= 12)
theorem Fx (s : ByteArray) : gq.f s = some (jk s) := by
 simp only [gq.f, KE, Option.bind_some, jk, Option.some.injEq, decide_eq_decide]
 omega
theorem vU (s : ByteArray) : iX.f s = some (kI s) := by
 simp only [iX.f, kI, Option.some.injEq, decide_eq_decide]
 omega
theorem O6 (s : ByteArray) : dO.f s = some (kI s) := vU s
theorem MB (s : ByteArray) : (s.toList != ([] : List UInt8)) = decide (1 <= s.size) := by
 rw [Bool.eq_iff_iff]
 simp only [bne_iff_ne, ne_eq, toList_nil, decide_eq_true_eq]
 rw [<- CO]
 cases h : nm s with
 | nil => simp
 | cons x t => simp
theorem O7 (a b : ByteArray) : cK.f a b = some (jk a && kI b) := by
 simp only [cK.f, O6, Option.bind_some, MB]
 cases ha : kI a with
 | false =>
  have : jk a = false := by
   simp only [kI, decide_eq_false_iff_not] at ha
   simp only [jk, decide_eq_false_iff_not]
   omega
  simp [this]
 | true =>
  have : jk a = decide (1 <= a.size) := by
   simp only [kI, decide_eq_true_eq] at ha
   simp only [jk, decide_eq_decide]
   omega
  cases hb : kI b <;> simp [this]
theorem zJ (a b : ByteArray) : pq a b = (jk a && kI b) := by
 have := (nV a b).symm.trans (O7 a b)
 exact Option.some.inj this
def rP : List ByteArray -> Option ByteArray -> Bool
 | [], _ => true
 | k :: ks, prev => jk k && (si prev k && rP ks (some k))
theorem tQ : ∀ (ks vs : List ByteArray) (prev : Option ByteArray), ks.length = vs.length -> lG ks vs prev = (rP ks prev && vs.all kI)
 | [], [], _, _ => rfl
 | [], v :: vs, _, h => by simp at h
 | k :: ks, [], _, h => by simp at h
 | k :: ks, v :: vs, prev, h => by
  have := tQ ks vs (some k) (by simpa using h)
  rw [lG, List.headD_cons, List.drop_succ_cons, List.drop_zero, this, zJ, rP, List.all_cons]
  cases jk k <;> cases kI v <;> cases si prev k <;> simp
theorem KF (K : List ByteArray) (hK : K.length <= 1048576000) : Ev (fun k => aN.f k K) (rP K none) := by
 have key : ∀ (t : List ByteArray) (i : Nat), K.drop i = t -> i <= K.length -> Ev (fun k => aN.l0 k K K K.length i) (rP t (jw K i)) := by
  intro t
  induction t with
  | nil =>
   intro i h hi
   have := drop_nil h
   (refine Ev.up ?_; simp only [aN.l0, BX])
   (repeat (first | with_reducible refine Ev.jM ?_ | (with_reducible refine Ev.wQ ?_ ?_; (· exact ic)) | (with_reducible refine Ev.xe ?_ ?_; (· exact ic))))
   exact Ev.val rfl
  | cons x t ih =>
   intro i h hi
   obtain ⟨p1, p2, p3⟩ := drop_cons h
   have ih := ih (i + 1) p3 (by omega)
   have hn : jw K (i + 1) = some x := p2
   rw [hn] at ih
   (refine Ev.up ?_; simp only [aN.l0, BX])
   rw [nW p2, ou (by omega), Fx]
   simp only [rP]
   cases hp : jk x with
   | false =>
    (repeat (first | with_reducible refine Ev.jM ?_ | (with_reducible refine Ev.wQ ?_ ?_; (· exact ic)) | (with_reducible refine Ev.xe ?_ ?_; (· exact ic))))
    exact Ev.val (by simp)
   | true =>
    rw [Bool.true_and]
    (repeat (first | with_reducible refine Ev.jM ?_ | (with_reducible refine Ev.wQ ?_ ?_; (· exact ic)) | (with_reducible refine Ev.xe ?_ ?_; (· exact ic))))
    rcases Nat.eq_zero_or_pos i with h0 | h0
    ·subst h0
     simp only [jw, si, Bool.true_and]
     (repeat (first | with_reducible refine Ev.jM ?_ | (with_reducible refine Ev.wQ ?_ ?_; (· exact ic)) | (with_reducible refine Ev.xe ?_ ?_; (· exact ic))))
     exact ih
    ·obtain ⟨j, rfl⟩ : ∃ j, i = j + 1 := ⟨i - 1, by omega⟩
     have e : wrap64 (((j + 1 : Nat) : Int) - 1) = (j : Int) := by rw [eY (by omega) (by omega)]; omega
     have hj : j < K.length := by omega
     have hj2 : K[j]? = some K[j] := List.getElem?_eq_getElem hj
     simp only [jw, hj2, si]
     rw [e, nW hj2]
     (repeat (first | with_reducible refine Ev.jM ?_ | (with_reducible refine Ev.wQ ?_ ?_; (· exact ic)) | (with_reducible refine Ev.xe ?_ ?_; (· exact ic))))
     cases hb : wP K[j] x with
     | true =>
      have hb' : Op.bytesLess K[j].toList x.toList = true := hb
      rw [Bool.true_and]
      (repeat (first | with_reducible refine Ev.jM ?_ | (with_reducible refine Ev.wQ ?_ ?_; (· exact ic)) | (with_reducible refine Ev.xe ?_ ?_; (· exact ic))))
      exact ih
     | false =>
      have hb' : ¬ Op.bytesLess K[j].toList x.toList = true := by
       have : Op.bytesLess K[j].toList x.toList = false := hb
       rw [this]; simp
      (repeat (first | with_reducible refine Ev.jM ?_ | (with_reducible refine Ev.wQ ?_ ?_; (· exact ic)) | (with_reducible refine Ev.xe ?_ ?_; (· exact ic))))
      exact Ev.val (by simp)
 exact key K 0 rfl (by omega)
theorem O8 (l : List ByteArray) (hl : l.length <= 1048576000) : Ev (fun k => bg.f k l) (!(l.all kI)) := by
 have key : ∀ (t : List ByteArray) (i : Nat), l.drop i = t -> i <= l.length -> ∃ r : Int, Ev (fun k => aA.l0 k l l.length i) r /\ decide (r ≥ 0) = !(t.all kI) := by
  intro t
  induction t with
  | nil =>
   intro i h hi
   have := drop_nil h
   refine ⟨-1, ?_, by simp⟩
   (refine Ev.up ?_; simp only [aA.l0, BX])
   (repeat (first | with_reducible refine Ev.jM ?_ | (with_reducible refine Ev.wQ ?_ ?_; (· exact ic)) | (with_reducible refine Ev.xe ?_ ?_; (· exact ic))))
   exact Ev.val rfl
  | cons x t ih =>
   intro i h hi
   obtain ⟨p1, p2, p3⟩ := drop_cons h
   obtain ⟨r, ih, hr⟩ := ih (i + 1) p3 (by omega)
   cases hx : kI x with
   | true =>
    refine ⟨r, ?_, by rw [List.all_cons, hx, hr]; simp⟩
    (refine Ev.up ?_; simp only [aA.l0, BX])
    simp only [nW p2, ou (i := i) (by omega), gu.f, vU, hx, Option.bind_some]
    (repeat (first | with_reducible refine Ev.jM ?_ | (with_reducible refine Ev.wQ ?_ ?_; (· exact ic)) | (with_reducible refine Ev.xe ?_ ?_; (· exact ic))))
    exact ih
   | false =>
    refine ⟨i, ?_, by rw [List.all_cons, hx]; simp⟩
    (refine Ev.up ?_; simp only [aA.l0, BX])
    simp only [nW p2, ou (i := i) (by omega), gu.f, vU, hx, Option.bind_some]
    (repeat (first | with_reducible refine Ev.jM ?_ | (with_reducible refine Ev.wQ ?_ ?_; (· exact ic)) | (with_reducible refine Ev.xe ?_ ?_; (· exact ic))))
    exact Ev.val rfl
 obtain ⟨r, h1, h2⟩ := key l 0 rfl (by omega)
 simp only [bg.f]
 refine Ev.bind (g := fun k => aA.f k l) h1 ?_
 exact Ev.val h2
def mQ (K V : List ByteArray) : Bool := decide (K.length <= 40) && (decide (V.length = K.length) && (rP K none && V.all kI))
theorem sw (K V : List ByteArray) (hK : K.length <= 1048576000) (hV : V.length <= 1048576000) : Ev (fun k => bR.f k K V) (mQ K V) := by
 simp only [bR.f, mQ]
 by_cases h : K.length <= 40
 ·rw [decide_eq_true h, Bool.true_and]
  (repeat (first | with_reducible refine Ev.jM ?_ | (with_reducible refine Ev.wQ ?_ ?_; (· exact ic)) | (with_reducible refine Ev.xe ?_ ?_; (· exact ic))))
  by_cases h2 : V.length = K.length
  ·rw [decide_eq_true h2, Bool.true_and]
   (repeat (first | with_reducible refine Ev.jM ?_ | (with_reducible refine Ev.wQ ?_ ?_; (· exact ic)) | (with_reducible refine Ev.xe ?_ ?_; (· exact ic))))
   refine Ev.bind (KF K hK) ?_
   cases rP K none with
   | false => (repeat (first | with_reducible refine Ev.jM ?_ | (with_reducible refine Ev.wQ ?_ ?_; (· exact ic)) | (with_reducible refine Ev.xe ?_ ?_; (· exact ic)))); exact Ev.val (by simp)
   | true =>
    (repeat (first | with_reducible refine Ev.jM ?_ | (with_reducible refine Ev.wQ ?_ ?_; (· exact ic)) | (with_reducible refine Ev.xe ?_ ?_; (· exact ic))))
    refine Ev.bind (O8 V hV) ?_
    exact Ev.val (by simp)
  ·rw [decide_eq_false h2]
   (repeat (first | with_reducible refine Ev.jM ?_ | (with_reducible refine Ev.wQ ?_ ?_; (· exact ic)) | (with_reducible refine Ev.xe ?_ ?_; (· exact ic))))
   exact Ev.val (by simp)
 ·rw [decide_eq_false h]
  (repeat (first | with_reducible refine Ev.jM ?_ | (with_reducible refine Ev.wQ ?_ ?_; (· exact ic)) | (with_reducible refine Ev.xe ?_ ?_; (· exact ic))))
  exact Ev.val (by simp)
theorem CP (K V : List ByteArray) (h : V.length = K.length) : mQ K V = (decide (K.length <= 40) && lG K V none) := by
 rw [mQ, tQ K V none h.symm, decide_eq_true h, Bool.true_and]
open Go.Proofs.Ytoddejmlcnbdmaa.Fn Go.Proofs.Ytoddejmlcnbdmaa.Tree
theorem Fy : ∀ (x y : List UInt8), Op.bytesLess x y = decide (x < y)
 | [], [] => by simp [Op.bytesLess]
 | _ :: _, [] => by simp [Op.bytesLess]
 | [], _ :: _ => by simp [Op.bytesLess]
 | a :: x, b :: y => by
  rw [Op.bytesLess, Fy x y]
  simp only [List.cons_lt_cons_iff]
  by_cases h1 : a < b <;> by_cases h2 : a = b <;> by_cases h3 : x < y <;> simp [h1, h2, h3]
def qd (a b : ByteArray) : Prop := a.toList < b.toList
theorem j6 (a b : ByteArray) : wP a b = true ↔ qd a b := by
 unfold wP qd
 rw [Fy, decide_eq_true_eq]
theorem lt_trans {a b c : ByteArray} (h : qd a b) (k : qd b c) : qd a c := List.lt_trans h k
theorem lt_irrefl (a : ByteArray) : ¬ qd a a := List.lt_irrefl _
theorem lt_asymm {a b : ByteArray} (h : qd a b) : ¬ qd b a := fun k => lt_irrefl a (lt_trans h k)
abbrev BZ (K : List ByteArray) : Prop := K.Pairwise qd
theorem zK : ∀ (K : List ByteArray) (prev : Option ByteArray), rP K prev = true -> BZ K /\ ∀ p, prev = some p -> ∀ k ∈ K, qd p k
 | [], prev, _ => ⟨.nil, fun _ _ k hk => by cases hk⟩
 | k :: ks, prev, h => by
  rw [rP, Bool.and_eq_true, Bool.and_eq_true] at h
  obtain ⟨h1, h2, h3⟩ := h
  obtain ⟨i1, i2⟩ := zK ks (some k) h3
  refine ⟨List.pairwise_cons.2 ⟨fun x hx => i2 k rfl x hx, i1⟩, ?_⟩
  rintro p rfl x hx
  have hp : qd p k := (j6 _ _).1 h2
  rcases List.mem_cons.1 hx with rfl | hx
  ·exact hp
  ·exact lt_trans hp (i2 k rfl x hx)
theorem H6 (key : ByteArray) : ∀ (K : List ByteArray) (i : Nat) (x : ByteArray), i < dm key K -> K[i]? = some x -> wP x key = true
 | [], i, x, h, _ => by rw [dm] at h; omega
 | k :: ks, i, x, h, hx => by
  rw [dm] at h
  split at h
  ·rename_i hk
   cases i with
   | zero =>
    obtain rfl := Option.some.inj hx
    exact hk
   | succ i => exact H6 key ks i x (by omega) (by simpa using hx)
  ·omega
theorem D5 (key : ByteArray) : ∀ (K : List ByteArray), BZ K -> ∀ (i : Nat) (x : ByteArray), dm key K <= i -> K[i]? = some x -> wP x key = false
 | [], _, i, x, _, hx => by simp at hx
 | k :: ks, hs, i, x, h, hx => by
  obtain ⟨h1, h2⟩ := List.pairwise_cons.1 hs
  rw [dm] at h
  split at h
  ·cases i with
   | zero => omega
   | succ i => exact D5 key ks h2 i x (by omega) (by simpa using hx)
  ·rename_i hk
   cases hlt : wP x key with
   | false => rfl
   | true =>
    cases i with
    | zero =>
     obtain rfl := Option.some.inj hx
     exact absurd hlt hk
    | succ i =>
     have hx' : x ∈ ks := List.mem_of_getElem? (i := i) (by simpa using hx)
     exact absurd ((j6 _ _).2 (lt_trans (h1 x hx') ((j6 _ _).1 hlt))) hk
theorem MC (a b : ByteArray) : cmp_Less_string.f a b = some (wP a b) := by
 simp [cmp_Less_string.f, cmp_isNaN_string.f, wP]
theorem UK (a : ByteArray) : slices_isNaN_string.f a = some false := by simp [slices_isNaN_string.f]
theorem Q8 (i j : Nat) (h1 : i < j) (h2 : j <= 1048576000) : wrap64 ((IntKind.u64.wrap (wrap64 ((i : Int) + (j : Int)))) / 2) = (((i + j) / 2 : Nat) : Int) := by
 rw [eY (n := (i : Int) + j) (by omega) (by omega)]
 have e : IntKind.u64.wrap ((i : Int) + j) = (i : Int) + j := by
  simp only [IntKind.wrap, IntKind.bits, IntKind.signed]
  simp
  omega
 rw [e, eY (by omega) (by omega)]
 omega
theorem KG (K : List ByteArray) (key : ByteArray) (hK : K.length <= 1048576000) (hs : BZ K) : ∃ b, Ev (fun k => ag.f k K key) ((dm key K : Int), b) := by
 have hle := kU key K
 have key2 : ∀ (d i j : Nat), j - i <= d -> i <= dm key K -> dm key K <= j -> j <= K.length -> ∃ b, Ev (fun k => ag.l0 k K key (K.length : Int) (i : Int) (j : Int)) ((dm key K : Int), b) := by
  intro d
  induction d with
  | zero =>
   intro i j h1 h2 h3 h4
   have hi : i = dm key K := by omega
   have hj : j = i := by omega
   subst hj
   by_cases hlt : j < K.length
   ·have hx : K[j]? = some K[j] := List.getElem?_eq_getElem hlt
    by_cases he : K[j].toList = key.toList
    ·refine ⟨true, ?_⟩
     (refine Ev.up ?_; simp only [ag.l0, BX])
     simp only [nW hx]
     (repeat (first | with_reducible refine Ev.jM ?_ | (with_reducible refine Ev.wQ ?_ ?_; (· exact ic)) | (with_reducible refine Ev.xe ?_ ?_; (· exact ic))))
     exact Ev.val (by rw [hi])
    ·refine ⟨false, ?_⟩
     (refine Ev.up ?_; simp only [ag.l0, BX])
     simp only [nW hx, UK, Option.bind_some]
     (repeat (first | with_reducible refine Ev.jM ?_ | (with_reducible refine Ev.wQ ?_ ?_; (· exact ic)) | (with_reducible refine Ev.xe ?_ ?_; (· exact ic))))
     exact Ev.val (by rw [hi])
   ·refine ⟨false, ?_⟩
    (refine Ev.up ?_; simp only [ag.l0, BX])
    (repeat (first | with_reducible refine Ev.jM ?_ | (with_reducible refine Ev.wQ ?_ ?_; (· exact ic)) | (with_reducible refine Ev.xe ?_ ?_; (· exact ic))))
    exact Ev.val (by rw [hi])
  | succ d ih =>
   intro i j h1 h2 h3 h4
   by_cases hij : i < j
   ·have hm := Q8 i j hij (by omega)
    obtain ⟨m, hm2⟩ : ∃ m, m = (i + j) / 2 := ⟨_, rfl⟩
    rw [<- hm2] at hm
    have hlt : m < K.length := by omega
    have hx : K[m]? = some K[m] := List.getElem?_eq_getElem hlt
    cases hb : wP K[m] key with
    | true =>
     have hge : m < dm key K := by
      rcases Nat.lt_or_ge m (dm key K) with h | h
      ·exact h
      ·have := D5 key K hs m _ h hx
       rw [hb] at this
       cases this
     obtain ⟨b, h⟩ := ih (m + 1) j (by omega) (by omega) h3 h4
     refine ⟨b, ?_⟩
     (refine Ev.up ?_; simp only [ag.l0, BX])
     simp only [hm, nW hx, MC, hb, Option.bind_some, ou (i := m) (by omega)]
     (repeat (first | with_reducible refine Ev.jM ?_ | (with_reducible refine Ev.wQ ?_ ?_; (· exact ic)) | (with_reducible refine Ev.xe ?_ ?_; (· exact ic))))
     exact h
    | false =>
     have hge : dm key K <= m := by
      rcases Nat.lt_or_ge m (dm key K) with h | h
      ·have := H6 key K m _ h hx
       rw [hb] at this
       cases this
      ·exact h
     obtain ⟨b, h⟩ := ih i m (by omega) h2 hge (by omega)
     refine ⟨b, ?_⟩
     (refine Ev.up ?_; simp only [ag.l0, BX])
     simp only [hm, nW hx, MC, hb, Option.bind_some]
     (repeat (first | with_reducible refine Ev.jM ?_ | (with_reducible refine Ev.wQ ?_ ?_; (· exact ic)) | (with_reducible refine Ev.xe ?_ ?_; (· exact ic))))
     exact h
   ·exact ih i j (by omega) h2 h3 h4
 exact key2 K.length 0 K.length (by omega) (by omega) hle (Nat.le_refl _)
theorem Fz (K : List ByteArray) (key : ByteArray) (hK : K.length <= 1048576000) (hs : BZ K) : Ev (fun k => fT.f k K key) (dm key K : Int) := by
 obtain ⟨b, h⟩ := KG K key hK hs
 simp only [fT.f]
 exact Ev.bind h (Ev.val rfl)
theorem yR (K : List ByteArray) (i : Nat) (key : ByteArray) : iI.f K (i : Int) key = some (iJ K i key) := by
 unfold iI.f iJ
 rcases Nat.lt_or_ge i K.length with h | h
 ·have hx : K[i]? = some K[i] := List.getElem?_eq_getElem h
  rw [if_pos (by omega), if_pos (by omega), nW hx, hx]
 ·rw [if_neg (by omega), List.getElem?_eq_none h]
theorem zL {α : Type} : ∀ (cs : List (List α)) (ks : List α), ks.Sublist (bN cs ks)
 | [], ks => List.Sublist.refl _
 | c :: cs, [] => List.nil_sublist _
 | c :: cs, k :: ks => by
  rw [bN]
  exact ((zL cs ks).cons_cons k).trans (List.sublist_append_right _ _)
theorem CQ {α : Type} : ∀ (cs : List (List α)) (ks : List α), cs.length <= ks.length + 1 -> ∀ c ∈ cs, c.Sublist (bN cs ks)
 | [], ks, _, c, hc => by cases hc
 | [d], [], _, c, hc => by rw [List.mem_singleton.1 hc]; exact List.Sublist.refl _
 | d :: e :: cs, [], h, c, hc => by simp at h
 | d :: cs, k :: ks, h, c, hc => by
  rw [bN]
  rcases List.mem_cons.1 hc with rfl | hc
  ·exact List.sublist_append_left _ _
  ·exact ((CQ cs ks (by simpa using h) c hc).trans (List.sublist_cons_self _ _)).trans (List.sublist_append_right _ _)
theorem oH {t : PT} (h : BZ (bB t)) : BZ t.keys := by
 rw [nU] at h
 exact h.sublist (zL _ _)
theorem O9 {t s : PT} {i : Nat} (hs : mJ t) (h : BZ (bB t)) (hi : t.kids[i]? = some s) : BZ (bB s) := by
 rw [nU] at h
 have h1 := hs.one
 unfold uQ at h1
 refine h.sublist (CQ _ _ (by rw [List.length_map]; omega) _ ?_)
 exact List.mem_map_of_mem (List.mem_of_getElem? hi)
theorem ME : ∀ (n : Nat) (t : PT) (key : ByteArray), t.big <= n -> mJ t -> BZ (bB t) -> ∃ K, ∀ k, K <= k -> ∀ m, n <= m -> zC k m t key = some (zB n t key)
 | 0, t, key, hb, _, _ => absurd t.eH (by omega)
 | n + 1, t, key, hb, hs, hsrt => by
  have h1 := hs.one
  unfold uQ at h1
  obtain ⟨K1, g1⟩ := Fz t.keys key (by omega) (oH hsrt)
  have hle := kU key t.keys
  by_cases h0 : t.kids.length = 0
  ·refine ⟨K1, fun k hk m hm => ?_⟩
   obtain ⟨m, rfl⟩ : ∃ j, m = j + 1 := ⟨m - 1, by omega⟩
   have e1 := g1 k hk
   dsimp only at e1
   rw [zC, e1, Option.bind_some, yR, Option.bind_some, zB]
   cases hh : iJ t.keys (dm key t.keys) key with
   | true =>
    have := jZ hh
    rw [if_pos rfl, if_pos rfl, if_pos (by omega)]
   | false => rw [if_neg (show ¬ (false = true) by decide), if_neg (show ¬ (false = true) by decide), if_pos h0, if_pos h0]
  ·have hkl : t.kids.length = t.keys.length + 1 := h1.2.2.resolve_left h0
   have hlt : dm key t.keys < t.kids.length := by omega
   have hx : t.kids[dm key t.keys]? = some t.kids[dm key t.keys] := List.getElem?_eq_getElem hlt
   have hkb := PT.fH hx
   obtain ⟨K2, g2⟩ := ME n _ key (by omega) (hs.kid hx) (O9 hs hsrt hx)
   refine ⟨max K1 K2, fun k hk m hm => ?_⟩
   obtain ⟨m, rfl⟩ : ∃ j, m = j + 1 := ⟨m - 1, by omega⟩
   have e1 := g1 k (by omega)
   dsimp only at e1
   rw [zC, e1, Option.bind_some, yR, Option.bind_some, zB]
   cases hh : iJ t.keys (dm key t.keys) key with
   | true =>
    have := jZ hh
    rw [if_pos rfl, if_pos rfl, if_pos (by omega)]
   | false =>
    rw [if_neg (show ¬ (false = true) by decide), if_neg (show ¬ (false = true) by decide), if_neg h0, if_neg h0, if_pos (by omega), Int.toNat_natCast, hx]
    exact g2 k (by omega) m (by omega)
open Go.Proofs.Ytoddejmlcnbdmaa.Fn Go.Proofs.Ytoddejmlcnbdmaa.Tree
abbrev KV := ByteArray × ByteArray
def bK (t : PT) : List KV := t.keys.zip t.vals
def aW (t : PT) : List KV := (bB t).zip (dL t)
theorem CR {α β : Type} : ∀ (cs : List (List α)) (ds : List (List β)) (ks : List α) (vs : List β), cs.map List.length = ds.map List.length -> ks.length = vs.length ->
  (bN cs ks).zip (bN ds vs) = bN (List.zipWith List.zip cs ds) (ks.zip vs)
 | [], [], ks, vs, _, _ => by simp [bN]
 | [], d :: ds, _, _, h, _ => by simp at h
 | c :: cs, [], _, _, h, _ => by simp at h
 | c :: cs, d :: ds, [], [], h, _ => by simp [bN]
 | c :: cs, d :: ds, [], v :: vs, _, h => by simp at h
 | c :: cs, d :: ds, k :: ks, [], _, h => by simp at h
 | c :: cs, d :: ds, k :: ks, v :: vs, h1, h2 => by
  simp only [List.map_cons, List.cons.injEq] at h1
  have := CR cs ds ks vs h1.2 (by simpa using h2)
  simp only [bN, List.zipWith_cons_cons, List.zip_cons_cons]
  rw [List.zip_append h1.1, List.zip_cons_cons, this]
theorem FB : ∀ l : List PT, List.zipWith List.zip (l.map bB) (l.map dL) = l.map aW
 | [] => rfl
 | c :: cs => by
  rw [List.map_cons, List.map_cons, List.zipWith_cons_cons, FB cs]
  rfl
theorem dD {t : PT} (h : mJ t) : aW t = bN (t.kids.map aW) (bK t) := by
 unfold aW bK
 have h1 := h.one
 unfold uQ at h1
 rw [nU, yK, CR _ _ _ _ ?_ h1.1]
 ·rw [FB]
  rfl
 ·rw [List.map_map, List.map_map]
  refine List.map_congr_left fun s hm => ?_
  obtain ⟨i, hi⟩ := List.getElem?_of_mem hm
  exact (iO (h.kid hi)).symm
theorem xg {t : PT} (h : mJ t) : bB t = (aW t).map Prod.fst := by
 unfold aW
 rw [List.map_fst_zip (by rw [iO h]; exact Nat.le_refl _)]
theorem KH {t : PT} (h : mJ t) : dL t = (aW t).map Prod.snd := by
 unfold aW
 rw [List.map_snd_zip (by rw [iO h]; exact Nat.le_refl _)]
theorem mY {t : PT} (h : mJ t) : (aW t).length = (bB t).length := by rw [xg h, List.length_map]
theorem Jz {m : Nat} {t : PT} (hm : m <= 1000) (h : One m t) : uQ t := ⟨h.1.symm, by have := h.2.1; omega, h.2.2⟩
theorem FC : ∀ (n : Nat) {t : PT}, t.big <= n -> kC t -> mJ t
 | 0, t, hb, _ => absurd t.eH (by omega)
 | n + 1, t, hb, h => by
  obtain ⟨h1, h2⟩ := bL.1 h
  exact mJ.mk' (Jz (by omega) h1) fun i s hi => FC n (by have := PT.fH hi; omega) (h2 s (List.mem_of_getElem? hi))
theorem bJ {t : PT} (h : kC t) : mJ t := FC _ (Nat.le_refl _) h
theorem FD {t : PT} (h : Fw t) : mJ t := mJ.mk' (Jz (by omega) h.1) fun i s hi => bJ (h.2 s (List.mem_of_getElem? hi))
def qp {α : Type} : List (List α) -> List α -> List α
 | a :: A, k :: K => a ++ k :: qp A K
 | _, _ => []
def tailW {α : Type} (Q : List (List α)) : List α -> List α
 | [] => []
 | k :: ks => k :: bN Q ks
theorem CS {α : Type} : ∀ (A B : List (List α)) (K1 K2 : List α), A.length = K1.length -> bN (A ++ B) (K1 ++ K2) = qp A K1 ++ bN B K2
 | [], B, [], K2, _ => rfl
 | [], B, k :: K1, K2, h => by simp at h
 | a :: A, B, [], K2, h => by simp at h
 | a :: A, B, k :: K1, K2, h => by
  have := CS A B K1 K2 (by simpa using h)
  simp only [List.cons_append, bN, qp, this, List.append_assoc]
theorem qY {α : Type} (c : List α) (Q : List (List α)) (K : List α) : bN (c :: Q) K = c ++ tailW Q K := by cases K <;> simp [bN, tailW]
theorem mr {α : Type} (K : List α) : bN [] K = K := by cases K <;> rfl
theorem qZ {P Q : List PT} {s : PT} {I J : List KV} (h : P.length = I.length) : bN ((P ++ s :: Q).map aW) (I ++ J) = qp (P.map aW) I ++ (aW s ++ tailW (Q.map aW) J) := by
 rw [List.map_append, List.map_cons, CS _ _ _ _ (by rw [List.length_map]; exact h), qY]
theorem vV {P Q : List PT} {l r : PT} {I J : List KV} {x : KV} (h : P.length = I.length) : bN ((P ++ l :: r :: Q).map aW) (I ++ x :: J) = qp (P.map aW) I ++ (aW l ++ x :: (aW r ++ tailW (Q.map aW) J)) := by
 rw [qZ h]
 simp only [List.map_cons, tailW, qY]
theorem mZ {α : Type} : ∀ (A B : List (List α)) (K1 K2 : List α) (k : α), A.length = K1.length + 1 -> bN (A ++ B) (K1 ++ k :: K2) = bN A K1 ++ k :: bN B K2
 | [], B, K1, K2, k, h => by simp at h
 | [a], B, [], K2, k, _ => by simp [bN]
 | a :: b :: A, B, [], K2, k, h => by simp at h
 | [a], B, x :: K1, K2, k, h => by simp at h
 | a :: b :: A, B, x :: K1, K2, k, h => by
  have := mZ (b :: A) B K1 K2 k (by simpa using h)
  simp only [List.cons_append, bN] at this ⊢
  rw [this, List.append_assoc]
  simp
theorem uT {α : Type} : ∀ (C : List (List α)) (I J : List α), C = [] ∨ I.length < C.length -> ∃ A B, ∀ y, bN C (I ++ y :: J) = A ++ y :: B
 | [], I, J, _ => ⟨I, J, fun y => by rw [mr]⟩
 | c :: C, [], J, _ => ⟨c, bN C J, fun y => by rw [List.nil_append, bN]⟩
 | [c], z :: I, J, h => by simp at h
 | c :: d :: C, z :: I, J, h => by
  obtain ⟨A, B, e⟩ := uT (d :: C) I J (.inr (by simpa using h))
  exact ⟨c ++ z :: A, B, fun y => by rw [List.cons_append, bN, e, List.append_assoc, List.cons_append]⟩
theorem CU {α : Type} : ∀ (A : List (List α)) (K : List α) (k : α), A.length = K.length + 1 -> ∃ X, qp A (K ++ [k]) = X ++ [k]
 | [], K, k, h => by simp at h
 | [a], [], k, _ => ⟨a, rfl⟩
 | a :: b :: A, [], k, h => by simp at h
 | a :: A, x :: K, k, h => by
  obtain ⟨X, e⟩ := CU A K k (by simpa using h)
  exact ⟨a ++ x :: X, by rw [List.cons_append, qp, e, List.append_assoc, List.cons_append]⟩
theorem MF {α : Type} (A : List (List α)) : qp A [] = [] := by cases A <;> rfl
abbrev kJ (l : List KV) : Prop := l.Pairwise fun a b => qd a.1 b.1
theorem ng {t : PT} (h : mJ t) : BZ (bB t) ↔ kJ (aW t) := by
 rw [xg h]
 exact List.pairwise_map
def iE (k v : ByteArray) : List KV -> List KV
 | [] => [(k, v)]
 | x :: r => if wP x.1 k = true then x :: iE k v r else if x.1.toList == k.toList then (x.1, v) :: r else (k, v) :: x :: r
theorem KI {a b : ByteArray} (h : qd b a) : wP a b = false := by
 cases hh : wP a b with
 | false => rfl
 | true => exact absurd ((j6 a b).1 hh) (lt_asymm h)
theorem zM {a b : ByteArray} (h : qd a b) : (b.toList == a.toList) = false := by
 cases hh : (b.toList == a.toList) with
 | false => rfl
 | true =>
  have e := eq_of_beq hh
  unfold qd at h
  rw [e] at h
  exact absurd h (List.lt_irrefl _)
theorem MG {a b : ByteArray} (h1 : wP a b = false) (h2 : (a.toList == b.toList) = false) : qd b a := by
 have h1' : ¬ qd a b := fun h => by rw [(j6 a b).2 h] at h1; cases h1
 have h2' : a.toList ≠ b.toList := fun h => by rw [h] at h2; simp at h2
 unfold qd at h1' ⊢
 rcases Std.lt_trichotomy a.toList b.toList with h | h | h
 ·exact absurd h h1'
 ·exact absurd h h2'
 ·exact h
theorem sD {k v : ByteArray} : ∀ {l1 l2 : List KV}, (∀ x ∈ l1, qd x.1 k) -> iE k v (l1 ++ l2) = l1 ++ iE k v l2
 | [], l2, _ => rfl
 | x :: l1, l2, h => by
  rw [List.cons_append, iE, if_pos ((j6 _ _).2 (h x List.mem_cons_self)), sD fun y hy => h y (List.mem_cons_of_mem _ hy), List.cons_append]
theorem CV {k v : ByteArray} {l : List KV} (h : ∀ x ∈ l, qd k x.1) : iE k v l = (k, v) :: l := by
 cases l with
 | nil => rfl
 | cons x r =>
  have := h x List.mem_cons_self
  rw [iE, if_neg (by rw [KI this]; decide), if_neg (by rw [zM this]; decide)]
theorem FE {k v : ByteArray} : ∀ {l1 l2 : List KV}, (∀ x ∈ l2, qd k x.1) -> iE k v (l1 ++ l2) = iE k v l1 ++ l2
 | [], l2, h => by rw [List.nil_append, CV h]; rfl
 | x :: l1, l2, h => by
  rw [List.cons_append, iE, iE]
  split
  ·rw [FE h]; rfl
  ·split <;> rfl
theorem MH {k v : ByteArray} {x : KV} {l : List KV} (h : (x.1.toList == k.toList) = true) : iE k v (x :: l) = (x.1, v) :: l := by
 have hn : wP x.1 k = false := by
  cases hh : wP x.1 k with
  | false => rfl
  | true =>
   have := (j6 _ _).1 hh
   unfold qd at this
   rw [eq_of_beq h] at this
   exact absurd this (List.lt_irrefl _)
 rw [iE, if_neg (by rw [hn]; decide), if_pos h]
theorem CW {k v : ByteArray} {y : KV} : ∀ {l : List KV}, y ∈ iE k v l -> y = (k, v) ∨ y ∈ l ∨ ∃ x ∈ l, y = (x.1, v)
 | [], h => by rw [iE, List.mem_singleton] at h; exact .inl h
 | x :: r, h => by
  rw [iE] at h
  split at h
  ·rcases List.mem_cons.1 h with h | h
   ·exact .inr (.inl (by rw [h]; exact List.mem_cons_self))
   ·rcases CW h with h | h | ⟨z, hz, e⟩
    ·exact .inl h
    ·exact .inr (.inl (List.mem_cons_of_mem _ h))
    ·exact .inr (.inr ⟨z, List.mem_cons_of_mem _ hz, e⟩)
  ·split at h
   ·rcases List.mem_cons.1 h with h | h
    ·exact .inr (.inr ⟨x, List.mem_cons_self, h⟩)
    ·exact .inr (.inl (List.mem_cons_of_mem _ h))
   ·rcases List.mem_cons.1 h with h | h
    ·exact .inl h
    ·exact .inr (.inl h)
theorem CX {k v : ByteArray} : ∀ {l : List KV}, kJ l -> kJ (iE k v l)
 | [], h => by rw [iE]; exact List.pairwise_singleton _ _
 | x :: r, h => by
  obtain ⟨h1, h2⟩ := List.pairwise_cons.1 h
  rw [iE]
  split
  ·rename_i hlt
   refine List.pairwise_cons.2 ⟨fun y hy => ?_, CX h2⟩
   rcases CW hy with rfl | hy | ⟨z, hz, rfl⟩
   ·exact (j6 _ _).1 hlt
   ·exact h1 y hy
   ·exact h1 z hz
  ·split
   ·exact List.pairwise_cons.2 ⟨h1, h2⟩
   ·rename_i hn he
    have hk : qd k x.1 := MG (by simpa using hn) (by simpa using he)
    refine List.pairwise_cons.2 ⟨fun y hy => ?_, h⟩
    rcases List.mem_cons.1 hy with rfl | hy
    ·exact hk
    ·exact lt_trans hk (h1 y hy)
theorem qw {t : PT} (h : t.vals.length = t.keys.length) : (bK t).length = t.keys.length := by
 unfold bK
 rw [List.length_zip]
 omega
theorem KJ {t : PT} (h : t.vals.length = t.keys.length) {i : Nat} {x : ByteArray} (hx : t.keys[i]? = some x) : ∃ v, t.vals[i]? = some v /\ (bK t)[i]? = some (x, v) := by
 have hi : i < t.keys.length := (List.getElem?_eq_some_iff.1 hx).1
 have hv : t.vals[i]? = some t.vals[i] := List.getElem?_eq_getElem (by omega)
 refine ⟨_, hv, ?_⟩
 unfold bK
 exact List.getElem?_zip_eq_some.2 ⟨hx, hv⟩
theorem pF {t : PT} (hv : t.vals.length = t.keys.length) {key : ByteArray} : ∀ x ∈ (bK t).take (dm key t.keys), qd x.1 key := by
 intro x hx
 obtain ⟨j, hj⟩ := List.getElem?_of_mem hx
 have hlt : j < dm key t.keys := by
  have := (List.getElem?_eq_some_iff.1 hj).1
  rw [List.length_take] at this
  omega
 rw [List.getElem?_take_of_lt hlt] at hj
 unfold bK at hj
 obtain ⟨h1, _⟩ := List.getElem?_zip_eq_some.1 hj
 exact (j6 _ _).1 (H6 key t.keys j x.1 hlt h1)
theorem nX {t : PT} (hs : BZ t.keys) {key : ByteArray} (hn : iJ t.keys (dm key t.keys) key = false) : ∀ x ∈ (bK t).drop (dm key t.keys), qd key x.1 := by
 intro x hx
 obtain ⟨j, hj⟩ := List.getElem?_of_mem hx
 rw [List.getElem?_drop] at hj
 unfold bK at hj
 obtain ⟨h1, _⟩ := List.getElem?_zip_eq_some.1 hj
 have hge := D5 key t.keys hs (dm key t.keys + j) x.1 (by omega) h1
 refine MG hge ?_
 cases hh : (x.1.toList == key.toList) with
 | false => rfl
 | true =>
  have e := eq_of_beq hh
  have hi : dm key t.keys + j < t.keys.length := (List.getElem?_eq_some_iff.1 h1).1
  have hy : t.keys[dm key t.keys]? = some t.keys[dm key t.keys] := List.getElem?_eq_getElem (by omega)
  have hge2 := D5 key t.keys hs (dm key t.keys) _ (Nat.le_refl _) hy
  unfold iJ at hn
  rw [hy] at hn
  simp only at hn
  have hlt := MG hge2 hn
  by_cases h0 : j = 0
  ·subst h0
   rw [Nat.add_zero, hy] at h1
   rw [Option.some.inj h1] at hn
   rw [hn] at hh
   cases hh
  ·have h2 : qd t.keys[dm key t.keys] x.1 := by
    have := List.pairwise_iff_getElem.1 hs (dm key t.keys) (dm key t.keys + j) (by omega) hi (by omega)
    rw [(List.getElem?_eq_some_iff.1 h1).2] at this
    exact this
   have h3 := lt_trans hlt h2
   unfold qd at h3
   rw [e] at h3
   exact absurd h3 (List.lt_irrefl _)
theorem MI {P : List (List KV)} {I R : List KV} {key : ByteArray} (hl : P.length = I.length) (hs : kJ (qp P I ++ R)) (hI : ∀ x ∈ I, qd x.1 key) : ∀ x ∈ qp P I, qd x.1 key := by
 rcases List.eq_nil_or_concat I with rfl | ⟨K, k, hk0⟩
 ·rw [MF]
  intro x hx
  cases hx
 ·rw [List.concat_eq_append] at hk0
  subst hk0
  obtain ⟨X, e⟩ := CU P K k (by rw [hl, List.length_append]; rfl)
  intro x hx
  have hk := hI k (by simp)
  rw [e] at hx hs
  rcases List.mem_append.1 hx with hx | hx
  ·exact lt_trans ((List.pairwise_append.1 (List.pairwise_append.1 hs).1).2.2 x hx k (List.mem_singleton_self _)) hk
  ·rw [List.mem_singleton.1 hx]
   exact hk
theorem JA {Q : List (List KV)} {J L : List KV} {key : ByteArray} (hs : kJ (L ++ tailW Q J)) (hJ : ∀ x ∈ J, qd key x.1) : ∀ x ∈ tailW Q J, qd key x.1 := by
 cases J with
 | nil => intro x hx; cases hx
 | cons y J =>
  rw [tailW] at hs ⊢
  have hk := hJ y List.mem_cons_self
  intro x hx
  rcases List.mem_cons.1 hx with rfl | hx
  ·exact hk
  ·exact lt_trans hk ((List.pairwise_cons.1 (List.pairwise_append.1 hs).2.1).1 x hx)
open Go.Proofs.Ytoddejmlcnbdmaa.Fn Go.Proofs.Ytoddejmlcnbdmaa.Tree
def pW : Nat -> PT -> Prop
 | 0, _ => False
 | h + 1, t => (t.kids = [] /\ h = 0) ∨ (t.kids ≠ [] /\ ∀ s ∈ t.kids, pW h s /\ 2 <= s.keys.length)
theorem vW {h : Nat} {t : PT} (hl : pW h t) : 1 <= h := by
 cases h with
 | zero => exact hl.elim
 | succ h => omega
theorem oI : ∀ {h g : Nat} {t : PT}, pW h t -> pW g t -> h = g
 | 0, _, t, a, _ => a.elim
 | h + 1, 0, t, _, b => b.elim
 | h + 1, g + 1, t, a, b => by
  rcases a with ⟨a1, a2⟩ | ⟨a1, a2⟩ <;> rcases b with ⟨b1, b2⟩ | ⟨b1, b2⟩
  ·omega
  ·exact absurd a1 b1
  ·exact absurd b1 a1
  ·cases hk : t.kids with
   | nil => exact absurd hk a1
   | cons c cs =>
    have := oI (a2 c (by rw [hk]; exact List.mem_cons_self)).1 (b2 c (by rw [hk]; exact List.mem_cons_self)).1
    omega
theorem D6 : ∀ {h : Nat} {t : PT}, pW h t -> h <= t.big
 | 0, t, a => a.elim
 | h + 1, t, a => by
  rcases a with ⟨a1, a2⟩ | ⟨a1, a2⟩
  ·have := t.eH
   omega
  ·cases hk : t.kids with
   | nil => exact absurd hk a1
   | cons c cs =>
    have h0 : t.kids[0]? = some c := by rw [hk]; rfl
    have := D6 (a2 c (by rw [hk]; exact List.mem_cons_self)).1
    have := PT.fH h0
    omega
theorem vX : ∀ (n : Nat) (t : PT), t.big <= n -> t.big <= 1000000000000 -> (∃ h, pW h t /\ fP t = (h : Int)) ∨ ((∀ h, ¬ pW h t) /\ fP t = -1)
 | 0, t, hn, _ => absurd t.eH (by omega)
 | n + 1, t, hn, hb => by
  cases hk : t.kids with
  | nil =>
   exact .inl ⟨1, .inl ⟨hk, rfl⟩, ze (by rw [hk]; rfl)⟩
  | cons c cs =>
   have h0 : t.kids[0]? = some c := by rw [hk]; rfl
   have he := zf h0
   have hc := PT.fH h0
   have kid : ∀ s ∈ t.kids, (∃ h, pW h s /\ fP s = (h : Int)) ∨ ((∀ h, ¬ pW h s) /\ fP s = -1) := fun s hs => by
    obtain ⟨i, hi⟩ := List.getElem?_of_mem hs
    have := PT.fH hi
    exact vX n s (by omega) (by omega)
   have hall : ∀ (l : List PT) (d : Int), nO d l = true ↔ ∀ s ∈ l, ¬ d < 0 /\ fP s = d /\ ¬ s.keys.length < 2 := by
    intro l d
    induction l with
    | nil => simp [nO]
    | cons a l ih =>
     rw [nO, Bool.and_eq_true, ih]
     simp [and_assoc]
   rw [List.drop_zero] at he
   have hcm : c ∈ t.kids := by rw [hk]; exact List.mem_cons_self
   rcases kid c hcm with ⟨h, hl, hev⟩ | ⟨hno, hev⟩
   ·by_cases hL : nO (fP c) t.kids = true
    ·rw [if_pos hL] at he
     refine .inl ⟨h + 1, .inr ⟨by rw [hk]; simp, fun s hs => ?_⟩, ?_⟩
     ·obtain ⟨a1, a2, a3⟩ := (hall _ _).1 hL s hs
      rcases kid s hs with ⟨g, gl, gev⟩ | ⟨_, gev⟩
      ·have : g = h := by omega
       subst this
       exact ⟨gl, by omega⟩
      ·omega
     ·have := D6 hl
      rw [he, hev, eY (by omega) (by omega)]
      omega
    ·rw [if_neg hL] at he
     refine .inr ⟨fun g hg => hL ((hall _ _).2 fun s hs => ?_), he⟩
     cases g with
     | zero => exact hg.elim
     | succ g =>
      rcases hg with ⟨hg, _⟩ | ⟨_, hg⟩
      ·rw [hk] at hg; cases hg
      ·have hgc := oI (hg c hcm).1 hl
       subst hgc
       obtain ⟨s1, s2⟩ := hg s hs
       have s3 := vW s1
       rcases kid s hs with ⟨f, fl, fev⟩ | ⟨fno, _⟩
       ·have := oI fl s1
        exact ⟨by omega, by omega, by omega⟩
       ·exact absurd s1 (fno g)
   ·refine .inr ⟨fun g hg => ?_, ?_⟩
    ·cases g with
     | zero => exact hg.elim
     | succ g =>
      rcases hg with ⟨hg, _⟩ | ⟨_, hg⟩
      ·rw [hk] at hg; cases hg
      ·exact hno g (hg c hcm).1
    ·rw [he, if_neg]
     rw [hall]
     intro h
     have := (h c hcm).1
     omega
def oJ (t : PT) : Bool := t.kids.isEmpty || decide (0 < t.keys.length)
theorem xh : ∀ (n : Nat) (t : PT), t.big <= n -> t.big <= 1000000000000 -> (∃ h, pW h t /\ gG t = ((h : Int), oJ t)) ∨ ((∀ h, ¬ pW h t) /\ gG t = (0, false))
 | 0, t, hn, _ => absurd t.eH (by omega)
 | n + 1, t, hn, hb => by
  cases hk : t.kids with
  | nil =>
   refine .inl ⟨1, .inl ⟨hk, rfl⟩, ?_⟩
   rw [xR (by rw [hk]; rfl), oJ, hk]
   rfl
  | cons c cs =>
   have kid : ∀ s ∈ t.kids, (∃ h, pW h s /\ gG s = ((h : Int), oJ s)) ∨ ((∀ h, ¬ pW h s) /\ gG s = (0, false)) := fun s hs => by
    obtain ⟨i, hi⟩ := List.getElem?_of_mem hs
    have := PT.fH hi
    exact xh n s (by omega) (by omega)
   have hne : t.kids.length ≠ 0 := by rw [hk]; simp
   have he := xS hne
   rw [List.drop_zero] at he
   -- the loop, from a kid on: all of level h, or none
   have loop : ∀ (l : List PT), (∀ s ∈ l, s ∈ t.kids) -> ∀ (i : Nat) (f : Int), (∃ h : Nat, (∀ s ∈ l, pW h s /\ 2 <= s.keys.length) /\ (0 < i -> f = (h : Int)) /\ iq i f l = some (if l = [] then f else (h : Int))) ∨
     ((∀ h : Nat, (0 < i -> f = (h : Int)) -> ¬ ∀ s ∈ l, pW h s /\ 2 <= s.keys.length) /\ (l ≠ [] -> iq i f l = none)) := by
    intro l
    induction l with
    | nil =>
     intro _ i f
     by_cases hi : 0 < i -> ∃ h : Nat, f = (h : Int)
     ·rcases Nat.eq_zero_or_pos i with h0 | h0
      ·exact .inl ⟨0, by simp, by omega, by rw [if_pos rfl, iq]⟩
      ·obtain ⟨h, hf⟩ := hi h0
       exact .inl ⟨h, by simp, fun _ => hf, by rw [if_pos rfl, iq]⟩
     ·refine .inr ⟨fun h hf _ => hi fun hi => ⟨h, hf hi⟩, fun h => absurd rfl h⟩
    | cons a l ih =>
     intro hsub i f
     have ha := hsub a List.mem_cons_self
     have hsub' : ∀ s ∈ l, s ∈ t.kids := fun s hs => hsub s (List.mem_cons_of_mem _ hs)
     rcases kid a ha with ⟨h, hl, hd⟩ | ⟨hno, hd⟩
     ·by_cases h2 : a.keys.length < 2
      ·refine .inr ⟨fun g _ hg => ?_, fun _ => ?_⟩
       ·have := (hg a List.mem_cons_self).2
        omega
       ·rw [iq, if_pos]
        simp [h2]
      ·have hro : oJ a = true := by rw [oJ, decide_eq_true (by omega), Bool.or_true]
       by_cases h3 : 0 < i /\ (h : Int) ≠ f
       ·refine .inr ⟨fun g hf hg => ?_, fun _ => ?_⟩
        ·have := oI hl (hg a List.mem_cons_self).1
         have := hf h3.1
         omega
        ·rw [iq, if_pos]
         simp [hd, h3.1, h3.2]
       ·have hstep : iq i f (a :: l) = iq (i + 1) (h : Int) l := by
         rw [iq, if_neg, hd]
         rcases Nat.eq_zero_or_pos i with h0 | h0
         ·simp [hd, hro, h2, h0]
         ·have : (h : Int) = f := by
           rcases Decidable.em ((h : Int) = f) with h4 | h4
           ·exact h4
           ·exact absurd ⟨h0, h4⟩ h3
          simp [hd, hro, h2, this]
        rcases ih hsub' (i + 1) (h : Int) with ⟨g, g1, g2, g3⟩ | ⟨g1, g2⟩
        ·have hgh : h = g := by have := g2 (by omega); omega
         subst hgh
         refine .inl ⟨h, fun s hs => ?_, fun hi => ?_, ?_⟩
         ·rcases List.mem_cons.1 hs with rfl | hs
          ·exact ⟨hl, by omega⟩
          ·exact g1 s hs
         ·rcases Decidable.em ((h : Int) = f) with h4 | h4
          ·exact h4.symm
          ·exact absurd ⟨hi, h4⟩ h3
         ·rw [hstep, g3]
          simp
        ·by_cases hl0 : l = []
         ·subst hl0
          exact absurd (by simp) (g1 h (fun _ => rfl))
         ·refine .inr ⟨fun g hf hg => ?_, fun _ => by rw [hstep]; exact g2 hl0⟩
          have hgh := oI hl (hg a List.mem_cons_self).1
          subst hgh
          exact g1 h (fun _ => rfl) fun s hs => hg s (List.mem_cons_of_mem _ hs)
     ·refine .inr ⟨fun g _ hg => hno g (hg a List.mem_cons_self).1, fun _ => ?_⟩
      rw [iq, if_pos]
      simp [hd]
   rcases loop t.kids (fun s hs => hs) 0 0 with ⟨h, h1, _, h3⟩ | ⟨h1, h2⟩
   ·rw [if_neg (by rw [hk]; simp)] at h3
    refine .inl ⟨h + 1, .inr ⟨by rw [hk]; simp, h1⟩, ?_⟩
    have hc : c ∈ t.kids := by rw [hk]; exact List.mem_cons_self
    have hcb := D6 (h1 c hc).1
    obtain ⟨i, hi⟩ := List.getElem?_of_mem hc
    have := PT.fH hi
    rw [he, h3, uO, oJ, hk, eY (by omega) (by omega)]
    simp
   ·refine .inr ⟨fun g hg => ?_, by rw [he, h2 (by rw [hk]; simp)]; rfl⟩
    cases g with
    | zero => exact hg.elim
    | succ g =>
     rcases hg with ⟨hg, _⟩ | ⟨_, hg⟩
     ·rw [hk] at hg; cases hg
     ·exact h1 g (fun h => by omega) hg
end Go.Proofs.Ytoddejmlcnbdmaa.Pure
namespace Go.Proofs.Ytoddejmlcnbdmaa.Tree
open Go.Proofs.Ytoddejmlcnbdmaa.Fn
def fC (t : PT) (j : Nat) : PT := t.kids.getD j (.mk [] [] [])
def bP (l : List ByteArray) (j : Nat) : ByteArray := l.getD j ByteArray.empty
def Q9 (t : PT) (i : Nat) (s : PT) : PT := .mk t.keys t.vals (t.kids.set i s)
def uD (l : PT) : PT := .mk (l.keys.take (l.keys.length - 1)) (l.vals.take (l.keys.length - 1)) (l.kids.take l.keys.length)
def uE (l r : PT) (x y : ByteArray) : PT := .mk (aI r.keys 0 x) (aI r.vals 0 y) (if l.kids.length = 0 then r.kids else aI r.kids 0 (fC l l.keys.length))
def sF (l r : PT) (x y : ByteArray) : PT := .mk (l.keys ++ [x]) (l.vals ++ [y]) (if r.kids.length = 0 then l.kids else l.kids ++ [fC r 0])
def uF (r : PT) : PT := .mk (r.keys.drop 1) (r.vals.drop 1) (r.kids.drop 1)
def zN (l r : PT) (x y : ByteArray) : PT := .mk (l.keys ++ x :: r.keys) (l.vals ++ y :: r.vals) (l.kids ++ r.kids)
def H7 (t : PT) (j : Nat) : PT :=
 .mk (t.keys.set j (bP (fC t j).keys ((fC t j).keys.length - 1))) (t.vals.set j (bP (fC t j).vals ((fC t j).keys.length - 1)))
  (t.kids.take j ++ uD (fC t j) :: uE (fC t j) (fC t (j + 1)) (bP t.keys j) (bP t.vals j) :: t.kids.drop (j + 2))
def H8 (t : PT) (j : Nat) : PT :=
 .mk (t.keys.set j (bP (fC t (j + 1)).keys 0)) (t.vals.set j (bP (fC t (j + 1)).vals 0))
  (t.kids.take j ++ sF (fC t j) (fC t (j + 1)) (bP t.keys j) (bP t.vals j) :: uF (fC t (j + 1)) :: t.kids.drop (j + 2))
def zO (t : PT) (j : Nat) : PT :=
 .mk (t.keys.eraseIdx j) (t.vals.eraseIdx j) (t.kids.take j ++ zN (fC t j) (fC t (j + 1)) (bP t.keys j) (bP t.vals j) :: t.kids.drop (j + 2))
def JB (t : PT) (i : Nat) : PT :=
 if 0 < i /\ 2 < (fC t (i - 1)).keys.length then H7 t (i - 1)
 else if i < t.keys.length /\ 2 < (fC t (i + 1)).keys.length then H8 t i
 else if i < t.keys.length then zO t i else zO t (i - 1)
def uU (t : PT) (i : Nat) : PT := if (fC t i).keys.length < 2 then JB t i else t
def jN : Nat -> PT -> PT
 | 0, t => t
 | n + 1, t => if t.kids.length = 0 then t else jN n (fC t (t.kids.length - 1))
def mD (n : Nat) (t : PT) : ByteArray := bP (jN n t).keys ((jN n t).keys.length - 1)
def sG (n : Nat) (t : PT) : ByteArray := bP (jN n t).vals ((jN n t).keys.length - 1)
def mg : Nat -> PT -> ByteArray -> Option PT
 | 0, _, _ => none
 | n + 1, t, key =>
  if t.kids.length = 0 then (if dm key t.keys < t.keys.length then some (.mk (t.keys.eraseIdx (dm key t.keys)) (t.vals.eraseIdx (dm key t.keys)) t.kids) else none)
  else if iJ t.keys (dm key t.keys) key = true then
   (mg n (fC t (dm key t.keys)) (mD n (fC t (dm key t.keys)))).map fun s =>
    uU (.mk (t.keys.set (dm key t.keys) (mD n (fC t (dm key t.keys)))) (t.vals.set (dm key t.keys) (sG n (fC t (dm key t.keys)))) (t.kids.set (dm key t.keys) s)) (dm key t.keys)
  else (mg n (fC t (dm key t.keys)) key).map fun s => uU (Q9 t (dm key t.keys) s) (dm key t.keys)
def JC : Nat -> PT -> PT
 | 0, t => t
 | n + 1, t => if t.kids.length = 0 then .mk (t.keys.eraseIdx (t.keys.length - 1)) (t.vals.eraseIdx (t.keys.length - 1)) t.kids
  else uU (Q9 t (t.kids.length - 1) (JC n (fC t (t.kids.length - 1)))) (t.kids.length - 1)
def JD : Nat -> PT -> ByteArray -> Option PT
 | 0, _, _ => none
 | n + 1, t, key =>
  if iJ t.keys (dm key t.keys) key = true then
   (if t.kids.length = 0 then some (.mk (t.keys.eraseIdx (dm key t.keys)) (t.vals.eraseIdx (dm key t.keys)) t.kids)
       else some (uU (.mk (t.keys.set (dm key t.keys) (mD n (fC t (dm key t.keys)))) (t.vals.set (dm key t.keys) (sG n (fC t (dm key t.keys)))) (t.kids.set (dm key t.keys) (JC n (fC t (dm key t.keys))))) (dm key t.keys)))
  else if t.kids.length = 0 then none
  else (JD n (fC t (dm key t.keys)) key).map fun s => uU (Q9 t (dm key t.keys) s) (dm key t.keys)
def ni (t : PT) (key val : ByteArray) : PT := if 4 < (kE t.big t key val).keys.length then splitK (.mk [] [] [kE t.big t key val]) (kE t.big t key val) 0 else kE t.big t key val
def pG (t : PT) : PT := if t.keys.length = 0 /\ t.kids.length ≠ 0 then fC t 0 else t
end Go.Proofs.Ytoddejmlcnbdmaa.Tree
namespace Go.Proofs.Ytoddejmlcnbdmaa.Pure
open Go.Proofs.Ytoddejmlcnbdmaa.Fn Go.Proofs.Ytoddejmlcnbdmaa.Tree
theorem sH {α β : Type} (l : List α) (m : List β) (n : Nat) : (l.zip m).take n = (l.take n).zip (m.take n) := by simp [List.zip, List.take_zipWith]
theorem sI {α β : Type} (l : List α) (m : List β) (n : Nat) : (l.zip m).drop n = (l.drop n).zip (m.drop n) := by simp [List.zip, List.drop_zipWith]
theorem qx {α : Type} {l : List α} {i : Nat} {x : α} (h : l[i]? = some x) : l = l.take i ++ x :: l.drop (i + 1) := by rw [<- dY h, List.take_append_drop]
theorem ow {α : Type} {l : List α} {i : Nat} (y : α) (h : i < l.length) : l.set i y = l.take i ++ y :: l.drop (i + 1) := by rw [List.set_eq_take_append_cons_drop, if_pos h]
theorem D7 {l m : List ByteArray} {i : Nat} (a b : ByteArray) (h : i < l.length) (hm : m.length = l.length) : (l.set i a).zip (m.set i b) = (l.zip m).take i ++ (a, b) :: (l.zip m).drop (i + 1) := by
 rw [ow a h, ow b (by omega), List.zip_append (by rw [List.length_take, List.length_take, hm]), List.zip_cons_cons, sH, sI]
theorem CY {l m : List ByteArray} {i : Nat} (hm : m.length = l.length) : (l.eraseIdx i).zip (m.eraseIdx i) = (l.zip m).take i ++ (l.zip m).drop (i + 1) := by
 rw [List.eraseIdx_eq_take_drop_succ, List.eraseIdx_eq_take_drop_succ, List.zip_append (by rw [List.length_take, List.length_take, hm]), sH, sI]
theorem JE {l m : List ByteArray} {i : Nat} (a b : ByteArray) (hm : m.length = l.length) : (aI l i a).zip (aI m i b) = (l.zip m).take i ++ (a, b) :: (l.zip m).drop i := by
 unfold aI
 rw [List.zip_append (by rw [List.length_take, List.length_take, hm]), List.zip_cons_cons, sH, sI]
theorem nY {l : List ByteArray} {i : Nat} (h : i < l.length) : l[i]? = some (bP l i) := by
 unfold bP
 rw [List.getD_eq_getElem?_getD, List.getElem?_eq_getElem h]
 rfl
theorem pX {l m : List ByteArray} {i : Nat} (h : i < l.length) (hm : m.length = l.length) : l.zip m = (l.zip m).take i ++ (bP l i, bP m i) :: (l.zip m).drop (i + 1) :=
 qx (List.getElem?_zip_eq_some.2 ⟨nY h, nY (by omega)⟩)
theorem tT {l m : List ByteArray} (hm : m.length = l.length) : (l.zip m).length = l.length := by rw [List.length_zip]; omega
theorem CZ {t : PT} (h : Fw t) (h5 : t.keys.length = 5) :
  aW t = aW (.mk (t.keys.take 2) (t.vals.take 2) (t.kids.take 3)) ++ (bP t.keys 2, bP t.vals 2) :: aW (.mk (t.keys.drop 3) (t.vals.drop 3) (t.kids.drop 3)) := by
 have hs : mJ t := FD h
 obtain ⟨⟨h1, h2, h3⟩, h4⟩ := h
 cases t with | mk ks vs cs =>
 simp only [PT.keys, PT.vals, PT.kids] at h1 h2 h3 h4 h5 ⊢
 have l : mJ (.mk (ks.take 2) (vs.take 2) (cs.take 3)) := by
  refine mJ.mk' ⟨?_, ?_, ?_⟩ fun i s hi => bJ (h4 s (List.mem_of_mem_take (List.mem_of_getElem? hi)))
  ·simp only [PT.keys, PT.vals, List.length_take]; omega
  ·simp only [PT.keys, List.length_take]; omega
  ·simp only [PT.keys, PT.kids, List.length_take]; omega
 have r : mJ (.mk (ks.drop 3) (vs.drop 3) (cs.drop 3)) := by
  refine mJ.mk' ⟨?_, ?_, ?_⟩ fun i s hi => bJ (h4 s (List.mem_of_mem_drop (List.mem_of_getElem? hi)))
  ·simp only [PT.keys, PT.vals, List.length_drop]; omega
  ·simp only [PT.keys, List.length_drop]; omega
  ·simp only [PT.keys, PT.kids, List.length_drop]; omega
 rw [dD hs, dD l, dD r]
 unfold bK
 simp only [PT.keys, PT.vals, PT.kids]
 rw [<- sH, <- sI]
 have e := pX (l := ks) (m := vs) (i := 2) (by omega) h1
 conv => lhs; rw [e]
 rw [List.map_take, List.map_drop]
 rcases h3 with h0 | h0
 ·have : cs = [] := List.length_eq_zero_iff.1 h0
  rw [this]
  simp only [List.map_nil, List.take_nil, List.drop_nil, mr]
 ·conv => lhs; rw [<- List.take_append_drop 3 (cs.map aW)]
  refine mZ _ _ _ _ _ ?_
  rw [List.length_take, List.length_take, List.length_map, tT h1]
  omega
theorem Ra {a b c : ByteArray} (h : qd a b) (e : (b.toList == c.toList) = true) : qd a c := by
 unfold qd at h ⊢
 rw [<- eq_of_beq e]
 exact h
theorem JF : ∀ (n : Nat) (t : PT) (key val : ByteArray), t.big <= n -> kC t -> kJ (aW t) -> aW (kE n t key val) = iE key val (aW t)
 | 0, t, key, val, hb, _, _ => absurd t.eH (by omega)
 | n + 1, t, key, val, hb, hbd, hs => by
  obtain ⟨⟨h1, h2, h3⟩, h4⟩ := bL.1 hbd
  have Og := bJ hbd
  have hsk : BZ t.keys := oH ((ng Og).2 hs)
  have hle := kU key t.keys
  have hr := FD (lL (n + 1) t key val hbd)
  have hlen := qw h1
  have hah := pF (key := key) h1
  rw [kE] at hr ⊢
  generalize hi : dm key t.keys = i at hr hle hah ⊢
  by_cases hb0 : iJ t.keys i key = true
  ·rw [if_pos hb0] at hr ⊢
   have hlt := jZ hb0
   rw [dD hr, dD Og]
   rw [dD Og] at hs
   have ek := nY hlt
   have e1 : bK t = (bK t).take i ++ (bP t.keys i, bP t.vals i) :: (bK t).drop (i + 1) := pX hlt h1
   have e2 : bK (.mk t.keys (t.vals.set i val) t.kids) = (bK t).take i ++ (bP t.keys i, val) :: (bK t).drop (i + 1) := by
    show t.keys.zip (t.vals.set i val) = _
    have : t.keys = t.keys.set i (bP t.keys i) := by
     rw [ow _ hlt]
     exact qx ek
    conv => lhs; rw [this]
    exact D7 _ _ hlt h1
   obtain ⟨A, B, V7⟩ := uT (t.kids.map aW) ((bK t).take i) ((bK t).drop (i + 1)) (by
    rw [List.length_take, List.length_map, hlen]
    rcases h3 with h | h
    ·exact .inl (by rw [List.length_eq_zero_iff.1 h]; rfl)
    ·right; omega)
   have hk : ((bP t.keys i).toList == key.toList) = true := by
    unfold iJ at hb0
    rw [ek] at hb0
    exact hb0
   have hW : bN (t.kids.map aW) (bK t) = A ++ (bP t.keys i, bP t.vals i) :: B := by
    rw [e1]
    exact V7 _
   rw [e2, hW]
   rw [hW] at hs
   show bN (t.kids.map aW) _ = _
   rw [V7, sD (fun x hx => Ra ((List.pairwise_append.1 hs).2.2 x hx _ List.mem_cons_self) hk), MH hk]
  ·rw [if_neg hb0] at hr ⊢
   have hb0' : iJ t.keys i key = false := by cases h : iJ t.keys i key <;> simp_all
   have hbe : ∀ x ∈ (bK t).drop i, qd key x.1 := by
    have := nX (t := t) (key := key) hsk (by rw [hi]; exact hb0')
    rw [hi] at this
    exact this
   by_cases h0 : t.kids.length = 0
   ·rw [if_pos h0] at hr ⊢
    have hk : t.kids = [] := List.length_eq_zero_iff.1 h0
    rw [dD hr, dD Og]
    show bN (t.kids.map aW) ((aI t.keys i key).zip (aI t.vals i val)) = _
    rw [JE _ _ h1, hk, List.map_nil, mr, mr]
    show (bK t).take i ++ (key, val) :: (bK t).drop i = iE key val (bK t)
    conv => rhs; rw [<- List.take_append_drop i (bK t)]
    rw [sD hah, CV hbe]
   ·rw [if_neg h0] at hr ⊢
    have hkl : t.kids.length = t.keys.length + 1 := h3.resolve_left h0
    have hx : t.kids[i]? = some t.kids[i] := List.getElem?_eq_getElem (by omega)
    generalize t.kids[i] = s at hx
    rw [hx] at hr ⊢
    simp only at hr ⊢
    have Bz : (t.kids.take i).length = ((bK t).take i).length := by rw [List.length_take, List.length_take, hlen]; omega
    have e0 : aW t = qp ((t.kids.take i).map aW) ((bK t).take i) ++ (aW s ++ tailW ((t.kids.drop (i + 1)).map aW) ((bK t).drop i)) := by
     rw [dD Og]
     conv => lhs; rw [qx hx, <- List.take_append_drop i (bK t)]
     exact qZ Bz
    have hsb : kC s := h4 s (List.mem_of_getElem? hx)
    have hss : kJ (aW s) := by
     rw [e0] at hs
     exact (List.pairwise_append.1 (List.pairwise_append.1 hs).2.1).1
    have ih := JF n s key val (by have := PT.fH hx; omega) hsb hss
    have hpre := MI (P := (t.kids.take i).map aW) (I := (bK t).take i) (key := key) (by rw [List.length_map]; exact Bz) (by rw [e0] at hs; exact hs) hah
    have yl := JA (Q := (t.kids.drop (i + 1)).map aW) (J := (bK t).drop i) (L := qp ((t.kids.take i).map aW) ((bK t).take i) ++ aW s) (key := key) (by rw [e0] at hs; rw [List.append_assoc]; exact hs) hbe
    have e3 : iE key val (aW t) = qp ((t.kids.take i).map aW) ((bK t).take i) ++ (aW (kE n s key val) ++ tailW ((t.kids.drop (i + 1)).map aW) ((bK t).drop i)) := by
     rw [e0, sD hpre, FE yl, ih]
    rw [e3]
    have h5 := lL n s key val hsb
    by_cases h4' : 4 < (kE n s key val).keys.length
    ·rw [if_pos h4'] at hr ⊢
     rw [dD hr, CZ h5 (by have := h5.1.2.1; omega)]
     show bN ((aI (t.kids.set i _) (i + 1) _).map aW) ((aI t.keys i _).zip (aI t.vals i _)) = _
     rw [Jw hx, JE _ _ h1]
     refine (vV (by rw [List.length_take, List.length_take, tT h1]; omega)).trans ?_
     rw [List.append_assoc, List.cons_append]
     rfl
    ·rw [if_neg h4'] at hr ⊢
     rw [dD hr]
     show bN ((t.kids.set i _).map aW) (t.keys.zip t.vals) = _
     rw [ow _ (by omega)]
     conv => lhs; rw [<- List.take_append_drop i (t.keys.zip t.vals)]
     exact qZ (by rw [List.length_take, List.length_take, tT h1]; omega)
theorem FH {h : Nat} {t r : PT} (e : r.kids = t.kids) (hl : pW h t) : pW h r := by
 cases h with
 | zero => exact hl.elim
 | succ h =>
  unfold pW at hl ⊢
  rw [e]
  exact hl
theorem JG : ∀ (n : Nat) (t : PT) (key val : ByteArray) (h : Nat), t.big <= n -> kC t -> pW h t -> pW h (kE n t key val) /\ t.keys.length <= (kE n t key val).keys.length
 | 0, t, key, val, h, hb, _, _ => absurd t.eH (by omega)
 | n + 1, t, key, val, h, hb, hbd, hl => by
  obtain ⟨⟨h1, h2, h3⟩, h4⟩ := bL.1 hbd
  have hle := kU key t.keys
  rw [kE]
  generalize dm key t.keys = i at hle ⊢
  split
  ·exact ⟨FH (t := t) rfl hl, Nat.le_refl _⟩
  ·split
   ·refine ⟨FH (t := t) rfl hl, ?_⟩
    show t.keys.length <= (aI _ _ _).length
    rw [eG _ hle]
    omega
   ·rename_i h0
    have hkl : t.kids.length = t.keys.length + 1 := h3.resolve_left h0
    have hx : t.kids[i]? = some t.kids[i] := List.getElem?_eq_getElem (by omega)
    generalize t.kids[i] = s at hx
    rw [hx]
    simp only
    cases h with
    | zero => exact hl.elim
    | succ h =>
    have hks : ∀ s ∈ t.kids, pW h s /\ 2 <= s.keys.length := by
     rcases hl with ⟨a, _⟩ | ⟨_, a⟩
     ·rw [a] at h0
      exact absurd rfl h0
     ·exact a
    have hsb : kC s := h4 s (List.mem_of_getElem? hx)
    obtain ⟨i1, i2⟩ := JG n s key val h (by have := PT.fH hx; omega) hsb (hks s (List.mem_of_getElem? hx)).1
    have hs2 := (hks s (List.mem_of_getElem? hx)).2
    have h5 := lL n s key val hsb
    split
    ·rename_i hg
     refine ⟨.inr ⟨?_, ?_⟩, ?_⟩
     ·intro e
      have : (aI (t.kids.set i _) (i + 1) _).length = 0 := congrArg List.length e
      rw [eG _ (by rw [List.length_set]; omega)] at this
      omega
     ·intro c hc
      have hc : c ∈ aI (t.kids.set i _) (i + 1) _ := hc
      have hl3 : ∀ (k v : List ByteArray) (b : Bool), pW h (.mk k v (if b then (kE n s key val).kids.take 3 else (kE n s key val).kids.drop 3)) := by
       intro k v b
       cases h with
       | zero => exact i1.elim
       | succ h =>
        rcases i1 with ⟨a, a'⟩ | ⟨a, a'⟩
        ·refine .inl ⟨?_, a'⟩
         show (if b then _ else _) = []
         rw [a]
         cases b <;> rfl
        ·have hl6 := h5.1.2.2.resolve_left (fun e => a (List.length_eq_zero_iff.1 e))
         refine .inr ⟨?_, fun c hc => a' c ?_⟩
         ·intro e
          have e' : (if b then (kE n s key val).kids.take 3 else (kE n s key val).kids.drop 3).length = 0 := congrArg List.length e
          cases b
          ·simp only [Bool.false_eq_true, if_false, List.length_drop] at e'; omega
          ·simp only [if_true, List.length_take] at e'; omega
         ·cases b
          ·exact List.mem_of_mem_drop hc
          ·exact List.mem_of_mem_take hc
      rcases CK hc with rfl | hc
      ·exact ⟨hl3 _ _ false, by show 2 <= (List.drop 3 _).length; rw [List.length_drop]; omega⟩
      ·rcases List.mem_or_eq_of_mem_set hc with hc | rfl
       ·exact hks c hc
       ·exact ⟨hl3 _ _ true, by show 2 <= (List.take 2 _).length; rw [List.length_take]; omega⟩
     ·show t.keys.length <= (aI _ _ _).length
      rw [eG _ hle]
      omega
    ·refine ⟨.inr ⟨?_, ?_⟩, Nat.le_refl _⟩
     ·intro e
      have : (t.kids.set i (kE n s key val)).length = 0 := congrArg List.length e
      rw [List.length_set] at this
      omega
     ·intro c hc
      rcases List.mem_or_eq_of_mem_set hc with hc | rfl
      ·exact hks c hc
      ·exact ⟨i1, by omega⟩
open Go.Proofs.Ytoddejmlcnbdmaa.Fn Go.Proofs.Ytoddejmlcnbdmaa.Tree
theorem kg {h : Nat} {t : PT} (hb : kC t) (hl : pW (h + 1) t) : (h = 0 /\ t.kids = []) ∨ (h ≠ 0 /\ t.kids.length = t.keys.length + 1 /\ ∀ s ∈ t.kids, pW h s /\ 2 <= s.keys.length) := by
 rcases hl with ⟨a, b⟩ | ⟨a, b⟩
 ·exact .inl ⟨b, a⟩
 ·have hk := (bL.1 hb).1.2.2.resolve_left (fun e => a (List.length_eq_zero_iff.1 e))
  refine .inr ⟨?_, hk, b⟩
  rintro rfl
  cases hc : t.kids with
  | nil => exact a hc
  | cons c cs => exact (b c (by rw [hc]; exact List.mem_cons_self)).1
theorem tV {t : PT} (h : t.kids = []) : pW 1 t := .inl ⟨h, rfl⟩
theorem nz {h : Nat} {t : PT} (h0 : h ≠ 0) (hk : 0 < t.kids.length) (ha : ∀ s ∈ t.kids, pW h s /\ 2 <= s.keys.length) : pW (h + 1) t :=
 .inr ⟨fun e => by rw [e] at hk; exact absurd hk (by decide), ha⟩
theorem gQ {t : PT} (h : mJ t) (h0 : t.kids = []) : aW t = bK t := by rw [dD h, h0, List.map_nil, mr]
theorem mE {k v : List ByteArray} {c : List PT} (h1 : v.length = k.length) (h2 : k.length <= 4) (h3 : c.length = 0 ∨ c.length = k.length + 1) (h4 : ∀ s ∈ c, kC s) : kC (.mk k v c) := bL.2 ⟨⟨h1, h2, h3⟩, h4⟩
theorem FI {l m : List ByteArray} (hm : m.length = l.length) (h0 : 0 < l.length) : l.zip m = (l.take (l.length - 1)).zip (m.take (l.length - 1)) ++ [(bP l (l.length - 1), bP m (l.length - 1))] := by
 have := pX (l := l) (m := m) (i := l.length - 1) (by omega) hm
 rw [List.drop_eq_nil_of_le (by rw [tT hm]; omega), sH] at this
 exact this
theorem KL {l m : List ByteArray} (hm : m.length = l.length) (h0 : 0 < l.length) : l.zip m = (bP l 0, bP m 0) :: (l.drop 1).zip (m.drop 1) := by
 have := pX (l := l) (m := m) (i := 0) h0 hm
 rw [List.take_zero, List.nil_append, sI] at this
 exact this
structure rQ (h : Nat) (t : PT) : Prop where
 b : kC t
 l : pW h t
theorem KM {h : Nat} {l r : PT} (hl : rQ (h + 1) l) (hr : rQ (h + 1) r) (h2 : 2 < l.keys.length) (hr4 : r.keys.length <= 3) (x y : ByteArray) :
  (rQ (h + 1) (uD l) /\ 2 <= (uD l).keys.length) /\ (rQ (h + 1) (uE l r x y) /\ (uE l r x y).keys.length = r.keys.length + 1) /\
   aW (uD l) ++ (bP l.keys (l.keys.length - 1), bP l.vals (l.keys.length - 1)) :: aW (uE l r x y) = aW l ++ (x, y) :: aW r := by
 obtain ⟨bl, ll⟩ := hl
 obtain ⟨br, lr⟩ := hr
 obtain ⟨⟨a1, a2, a3⟩, a4⟩ := bL.1 bl
 obtain ⟨⟨b1, b2, b3⟩, b4⟩ := bL.1 br
 have kl := kg bl ll
 have kr := kg br lr
 have sl := bJ bl
 have sr := bJ br
 cases l with | mk lk lv lc =>
 cases r with | mk rk rv rc =>
 simp only [PT.keys, PT.vals, PT.kids] at a1 a2 a3 a4 b1 b2 b3 b4 kl kr h2 hr4
 have zl := FI a1 (by omega)
 have ins : ∀ (k : List ByteArray) (z : ByteArray), aI k 0 z = z :: k := fun k z => rfl
 have UL : (lk.take (lk.length - 1)).length = lk.length - 1 := by rw [List.length_take]; omega
 have Ww : (lv.take (lk.length - 1)).length = lk.length - 1 := by rw [List.length_take]; omega
 rcases kl with ⟨rfl, rfl⟩ | ⟨h0, kl, la⟩
 ·rcases kr with ⟨_, rfl⟩ | ⟨h0, _⟩
  ·have e1 : uD (.mk lk lv []) = .mk (lk.take (lk.length - 1)) (lv.take (lk.length - 1)) [] := by simp [uD, PT.keys, PT.vals, PT.kids]
   have e2 : uE (.mk lk lv []) (.mk rk rv []) x y = .mk (x :: rk) (y :: rv) [] := by simp [uE, PT.keys, PT.vals, PT.kids, aI]
   have k1 : kC (.mk (lk.take (lk.length - 1)) (lv.take (lk.length - 1)) []) := mE (by omega) (by omega) (.inl rfl) (fun s hs => by cases hs)
   have k2 : kC (.mk (x :: rk) (y :: rv) []) := mE (by simp only [List.length_cons]; omega) (by simp only [List.length_cons]; omega) (.inl rfl) (fun s hs => by cases hs)
   rw [e1, e2]
   refine ⟨⟨⟨k1, tV rfl⟩, by show 2 <= (lk.take _).length; omega⟩, ⟨⟨k2, tV rfl⟩, rfl⟩, ?_⟩
   rw [gQ (bJ k1) rfl, gQ (bJ k2) rfl, gQ sl rfl, gQ sr rfl]
   show (lk.take _).zip (lv.take _) ++ _ :: (x, y) :: rk.zip rv = lk.zip lv ++ (x, y) :: rk.zip rv
   rw [zl, List.append_assoc]
   rfl
  ·exact absurd rfl h0
 ·rcases kr with ⟨e, _⟩ | ⟨_, kr, ra⟩
  ·exact absurd e h0
  ·obtain ⟨c, hc⟩ : ∃ c, lc[lk.length]? = some c := ⟨lc[lk.length]'(by omega), List.getElem?_eq_getElem (by omega)⟩
   have hcm := List.mem_of_getElem? hc
   have hs := qx hc
   rw [List.drop_eq_nil_of_le (by omega)] at hs
   have e1 : uD (.mk lk lv lc) = .mk (lk.take (lk.length - 1)) (lv.take (lk.length - 1)) (lc.take lk.length) := rfl
   have e2 : uE (.mk lk lv lc) (.mk rk rv rc) x y = .mk (x :: rk) (y :: rv) (c :: rc) := by
    show PT.mk (aI rk 0 x) (aI rv 0 y) (if lc.length = 0 then rc else aI rc 0 (lc.getD lk.length _)) = _
    rw [if_neg (by omega), List.getD_eq_getElem?_getD, hc]
    rfl
   have k1 : kC (.mk (lk.take (lk.length - 1)) (lv.take (lk.length - 1)) (lc.take lk.length)) := mE (by omega) (by omega) (.inr (by rw [List.length_take]; omega)) (fun s hs => a4 s (List.mem_of_mem_take hs))
   have k2 : kC (.mk (x :: rk) (y :: rv) (c :: rc)) := mE (by simp only [List.length_cons]; omega) (by simp only [List.length_cons]; omega) (.inr (by simp only [List.length_cons]; omega)) (fun s hs => by
    rcases List.mem_cons.1 hs with rfl | hs
    ·exact a4 s hcm
    ·exact b4 s hs)
   rw [e1, e2]
   refine ⟨⟨⟨k1, nz h0 (by show 0 < (lc.take _).length; rw [List.length_take]; omega) fun s hs => la s (List.mem_of_mem_take hs)⟩, by show 2 <= (lk.take _).length; omega⟩, ⟨⟨k2, nz h0 (Nat.succ_pos _) fun s hs => ?_⟩, rfl⟩, ?_⟩
   ·rcases List.mem_cons.1 hs with rfl | hs
    ·exact la s hcm
    ·exact ra s hs
   rw [dD (bJ k1), dD (bJ k2), dD sl, dD sr]
   show bN ((lc.take lk.length).map aW) ((lk.take _).zip (lv.take _)) ++ _ :: bN (aW c :: rc.map aW) ((x, y) :: rk.zip rv) = bN (lc.map aW) (lk.zip lv) ++ (x, y) :: bN (rc.map aW) (rk.zip rv)
   rw [zl]
   conv => rhs; rw [hs]
   rw [List.map_append, mZ _ _ _ _ _ (by rw [List.length_map, List.length_take, List.length_zip]; omega), List.append_assoc]
   show _ ++ _ :: (aW c ++ _) = _ ++ (_ :: _ ++ _)
   rw [List.map_cons, List.map_nil, qY (aW c) []]
   simp [tailW, PT.keys, PT.vals]
theorem KN {h : Nat} {l r : PT} (hl : rQ (h + 1) l) (hr : rQ (h + 1) r) (h2 : 2 < r.keys.length) (hl4 : l.keys.length <= 3) (x y : ByteArray) :
  (rQ (h + 1) (sF l r x y) /\ (sF l r x y).keys.length = l.keys.length + 1) /\ (rQ (h + 1) (uF r) /\ 2 <= (uF r).keys.length) /\
   aW (sF l r x y) ++ (bP r.keys 0, bP r.vals 0) :: aW (uF r) = aW l ++ (x, y) :: aW r := by
 obtain ⟨bl, ll⟩ := hl
 obtain ⟨br, lr⟩ := hr
 obtain ⟨⟨a1, a2, a3⟩, a4⟩ := bL.1 bl
 obtain ⟨⟨b1, b2, b3⟩, b4⟩ := bL.1 br
 have kl := kg bl ll
 have kr := kg br lr
 have sl := bJ bl
 have sr := bJ br
 cases l with | mk lk lv lc =>
 cases r with | mk rk rv rc =>
 simp only [PT.keys, PT.vals, PT.kids] at a1 a2 a3 a4 b1 b2 b3 b4 kl kr h2 hl4
 have zr := KL b1 (by omega)
 have zl : (lk ++ [x]).zip (lv ++ [y]) = lk.zip lv ++ [(x, y)] := List.zip_append (by omega)
 have LG : (lv ++ [y]).length = (lk ++ [x]).length /\ (lk ++ [x]).length = lk.length + 1 := ⟨by simp [a1], by simp⟩
 rcases kl with ⟨rfl, rfl⟩ | ⟨h0, kl, la⟩
 ·rcases kr with ⟨_, rfl⟩ | ⟨h0, _⟩
  ·have e1 : sF (.mk lk lv []) (.mk rk rv []) x y = .mk (lk ++ [x]) (lv ++ [y]) [] := by simp [sF, PT.keys, PT.vals, PT.kids]
   have e2 : uF (.mk rk rv []) = .mk (rk.drop 1) (rv.drop 1) [] := by simp [uF, PT.keys, PT.vals, PT.kids]
   have k1 : kC (.mk (lk ++ [x]) (lv ++ [y]) []) := mE LG.1 (by omega) (.inl rfl) (fun s hs => by cases hs)
   have k2 : kC (.mk (rk.drop 1) (rv.drop 1) []) := mE (by rw [List.length_drop, List.length_drop]; omega) (by rw [List.length_drop]; omega) (.inl rfl) (fun s hs => by cases hs)
   rw [e1, e2]
   refine ⟨⟨⟨k1, tV rfl⟩, LG.2⟩, ⟨⟨k2, tV rfl⟩, by show 2 <= (rk.drop 1).length; rw [List.length_drop]; omega⟩, ?_⟩
   rw [gQ (bJ k1) rfl, gQ (bJ k2) rfl, gQ sl rfl, gQ sr rfl]
   show (lk ++ [x]).zip (lv ++ [y]) ++ _ :: (rk.drop 1).zip (rv.drop 1) = lk.zip lv ++ (x, y) :: rk.zip rv
   rw [zl, zr, List.append_assoc]
   rfl
  ·exact absurd rfl h0
 ·rcases kr with ⟨e, _⟩ | ⟨_, kr, ra⟩
  ·exact absurd e h0
  ·cases rc with
   | nil => simp only [List.length_nil] at kr; omega
   | cons c rc =>
   simp only [List.length_cons] at kr
   have e1 : sF (.mk lk lv lc) (.mk rk rv (c :: rc)) x y = .mk (lk ++ [x]) (lv ++ [y]) (lc ++ [c]) := by simp [sF, PT.keys, PT.vals, PT.kids, fC]
   have e2 : uF (.mk rk rv (c :: rc)) = .mk (rk.drop 1) (rv.drop 1) rc := rfl
   have k1 : kC (.mk (lk ++ [x]) (lv ++ [y]) (lc ++ [c])) := mE LG.1 (by omega) (.inr (by rw [List.length_append, LG.2]; simp only [List.length_cons, List.length_nil]; omega)) (fun s hs => by
    rcases List.mem_append.1 hs with hs | hs
    ·exact a4 s hs
    ·exact b4 s (by rw [List.mem_singleton.1 hs]; exact List.mem_cons_self))
   have k2 : kC (.mk (rk.drop 1) (rv.drop 1) rc) := mE (by rw [List.length_drop, List.length_drop]; omega) (by rw [List.length_drop]; omega) (.inr (by rw [List.length_drop]; omega)) (fun s hs => b4 s (List.mem_cons_of_mem _ hs))
   rw [e1, e2]
   refine ⟨⟨⟨k1, nz h0 (by show 0 < (lc ++ [c]).length; rw [List.length_append]; simp only [List.length_cons, List.length_nil]; omega) fun s hs => ?_⟩, LG.2⟩, ⟨⟨k2, nz h0 (by show 0 < rc.length; omega) fun s hs => ra s (List.mem_cons_of_mem _ hs)⟩, by show 2 <= (rk.drop 1).length; rw [List.length_drop]; omega⟩, ?_⟩
   ·rcases List.mem_append.1 hs with hs | hs
    ·exact la s hs
    ·exact ra s (by rw [List.mem_singleton.1 hs]; exact List.mem_cons_self)
   rw [dD (bJ k1), dD (bJ k2), dD sl, dD sr]
   show bN ((lc ++ [c]).map aW) ((lk ++ [x]).zip (lv ++ [y])) ++ _ :: bN (rc.map aW) ((rk.drop 1).zip (rv.drop 1)) = bN (lc.map aW) (lk.zip lv) ++ (x, y) :: bN (aW c :: rc.map aW) (rk.zip rv)
   rw [zl, zr, List.map_append, mZ _ _ _ _ _ (by rw [List.length_map, List.length_zip]; omega), List.append_assoc]
   show _ ++ (_ :: _ ++ _ :: _) = _ ++ _ :: (aW c ++ _ :: _)
   rw [List.map_cons, List.map_nil, qY (aW c) []]
   simp [tailW, PT.keys, PT.vals]
theorem C8 {h : Nat} {l r : PT} (hl : rQ (h + 1) l) (hr : rQ (h + 1) r) (h4 : l.keys.length + r.keys.length <= 3) (x y : ByteArray) :
  rQ (h + 1) (zN l r x y) /\ (zN l r x y).keys.length = l.keys.length + r.keys.length + 1 /\ aW (zN l r x y) = aW l ++ (x, y) :: aW r := by
 obtain ⟨bl, ll⟩ := hl
 obtain ⟨br, lr⟩ := hr
 obtain ⟨⟨a1, a2, a3⟩, a4⟩ := bL.1 bl
 obtain ⟨⟨b1, b2, b3⟩, b4⟩ := bL.1 br
 have kl := kg bl ll
 have kr := kg br lr
 have sl := bJ bl
 have sr := bJ br
 cases l with | mk lk lv lc =>
 cases r with | mk rk rv rc =>
 simp only [PT.keys, PT.vals, PT.kids] at a1 a2 a3 a4 b1 b2 b3 b4 kl kr h4
 have e1 : zN (.mk lk lv lc) (.mk rk rv rc) x y = .mk (lk ++ x :: rk) (lv ++ y :: rv) (lc ++ rc) := rfl
 have len : (lk ++ x :: rk).length = lk.length + rk.length + 1 /\ (lv ++ y :: rv).length = lk.length + rk.length + 1 := by simp only [List.length_append, List.length_cons]; omega
 have hz : (lk ++ x :: rk).zip (lv ++ y :: rv) = lk.zip lv ++ (x, y) :: rk.zip rv := by rw [List.zip_append (by omega), List.zip_cons_cons]
 have kb : kC (.mk (lk ++ x :: rk) (lv ++ y :: rv) (lc ++ rc)) := mE (by omega) (by omega) (by
  rw [List.length_append]
  rcases kl with ⟨rfl, rfl⟩ | ⟨h0, kl, la⟩ <;> rcases kr with ⟨hh, rfl⟩ | ⟨h0', kr, ra⟩
  ·exact .inl rfl
  ·exact absurd rfl h0'
  ·exact absurd hh h0
  ·right; omega) (fun s hs => by
  rcases List.mem_append.1 hs with hs | hs
  ·exact a4 s hs
  ·exact b4 s hs)
 rw [e1]
 refine ⟨⟨kb, ?_⟩, len.1, ?_⟩
 ·rcases kl with ⟨rfl, rfl⟩ | ⟨h0, kl, la⟩ <;> rcases kr with ⟨hh, rfl⟩ | ⟨h0', kr, ra⟩
  ·exact tV rfl
  ·exact absurd rfl h0'
  ·exact absurd hh h0
  ·refine nz h0 (by show 0 < (lc ++ rc).length; rw [List.length_append]; omega) fun s hs => ?_
   rcases List.mem_append.1 hs with hs | hs
   ·exact la s hs
   ·exact ra s hs
 ·rw [dD (bJ kb), dD sl, dD sr]
  show bN ((lc ++ rc).map aW) ((lk ++ x :: rk).zip (lv ++ y :: rv)) = bN (lc.map aW) (lk.zip lv) ++ (x, y) :: bN (rc.map aW) (rk.zip rv)
  rw [hz, List.map_append]
  rcases kl with ⟨rfl, rfl⟩ | ⟨h0, kl, la⟩ <;> rcases kr with ⟨hh, rfl⟩ | ⟨h0', kr, ra⟩
  ·simp only [List.map_nil, List.nil_append, mr]
  ·exact absurd rfl h0'
  ·exact absurd hh h0
  ·exact mZ _ _ _ _ _ (by rw [List.length_map, List.length_zip]; omega)
end Go.Proofs.Ytoddejmlcnbdmaa.Pure
namespace Go.Proofs.Ytoddejmlcnbdmaa.Tree
set_option maxHeartbeats 8000000
set_option maxRecDepth 100000
def WR (w : World) (base T E : Nat) (t : NT) (L : List Ck) (r : PT) (e : Ending) (w' : World) : Prop :=
 e = .returned (.tuple #[]) /\ ∃ t' : NT, t'.p = t.p /\ t'.erase = r /\ Sat w' base (t'.dI T E ++ L) /\ Below base w w'
theorem MJ {w : World} {base : Nat} {A : Option Addr} {n c : Nat} {l : List ByteArray} {m : Nat} (h : SR w base (.slice A n c) l) (hm : m <= l.length) : Kd.C Kd.string w (if c = m then A else A.map (·.add (m * 1))) (l.drop m).length (l.drop m) := by
 obtain ⟨h1, h2, h3⟩ := Kd.dW h
 exact Kd.H9 h3 hm (by omega)
theorem pI {w : World} {base g : Nat} {n c : Nat} {l : List ByteArray} {x : ByteArray} (h : SR w base (.slice (some ⟨g, 0, none⟩) n c) l) (hx : 3 <= l.length /\ l.getD 2 ByteArray.empty = x) : w.cell? ⟨g, 2, none⟩ = some (.string x) := by
 obtain ⟨h1, h2, h3⟩ := Kd.dW h
 obtain ⟨V8, e, hz⟩ := Kd.bF h3 2 (by omega) (by omega)
 injection e with e
 subst e
 rw [<- hx.2]
 exact hz
theorem xk {l : List NT} {i : Nat} {p : Nat} {s : NT} (h : l[i]? = some s) (hp : s.p = p := by rfl) : (l.map NT.p).set i p = l.map NT.p := by
 refine List.ext_getElem? fun j => ?_
 rw [List.getElem?_set]
 by_cases hj : i = j
 ·subst hj
  have hl : i < l.length := (List.getElem?_eq_some_iff.1 h).1
  rw [if_pos rfl, if_pos (by rw [List.length_map]; exact hl), List.getElem?_map, h, <- hp]
  rfl
 ·rw [if_neg hj]
theorem Wx {w : World} {base E : Nat} {gs : List (List Ck)} {A : Option Addr} {n c m : Nat} {l : List NT} (h : aa w base gs) (i : Nat) (hi : gs[i]? = some [.jE E (.slice A n c) (ptrs l)]) (hm : m <= l.length) : Kd.C eT w (if c = m then A else A.map (·.add (m * 1))) (n - m) ((l.drop m).map NT.p) := by
 obtain ⟨h1, h2, h3⟩ := aa.iZ h i hi
 subst h1
 have h4 := Kd.H9 (c := c) (m := m) (xs := l.map NT.p) (k := eT) (by rw [List.length_map]; exact h3) (by rw [List.length_map]; exact hm) (by rw [List.length_map]; exact h2)
 rw [<- List.map_drop, List.length_map, List.length_drop] at h4
 exact h4
theorem dZ {w : World} {base E : Nat} {v : Value} {l : List NT} (h : PQ E w base v (l.map NT.p)) : ∃ A c, v = .slice A l.length c /\ l.length <= c /\ eT.C w A l.length (l.map NT.p) := by
 obtain ⟨A, c, e, h1, h2⟩ := Kd.Jr h
 rw [List.length_map] at e h1 h2
 exact ⟨A, c, e, h1, h2⟩
theorem zP.calls (t k : NT) (i : Nat) (hk : t.kids[i]? = some k) (hk3 : 3 <= k.keys.length) (Xe : k.keys.length <= 1000) (Sk : k.vals.length = k.keys.length) (hkk : k.kids.length = 0 ∨ 3 <= k.kids.length) (PU : k.kids.length <= 1001) (hti : i <= t.keys.length) (Xf : t.keys.length <= 1000) (IX : t.vals.length = t.keys.length) (htk : t.kids.length <= 1001)
  (base : Nat) (L : List Ck) (w : World) (hs : Sat w base (t.dI 96 70 ++ L)) (hbs : base <= w.heap.size) :
  Calls Try.prog 106 #[bG t.p, .int .i64 (i : Int)] w (WR w base 96 70 t L (splitK t.erase k.erase i)) := by
 have h0 := qo hk hs
 clear hs
 obtain ⟨R, hR⟩ : ∃ R, R = splitK t.erase k.erase i := ⟨_, rfl⟩
 rw [<- hR]
 have HRR := A_ hR
 clear hR
 cases t with | mk tp EZ E8 E9 tks tvs bq =>
 cases k with | mk kp kkv V9 Wd mH nE nH =>
 unfold vT at h0
 simp only [NT.keys, NT.vals, NT.kids, NT.p, NT.kv, NT.vv, NT.cv] at hk hk3 Xe Sk hkk PU hti Xf IX htk h0 ⊢
 obtain ⟨kG, il, rfl⟩ := Kd.av (h0.sr 1 rfl)
 obtain ⟨kQ, iA, rfl⟩ := Kd.av (h0.sr 2 rfl)
 obtain ⟨U9, lY, rfl⟩ := Kd.av (h0.sr 6 rfl)
 obtain ⟨Akv, mI, rfl⟩ := Kd.av (h0.sr 7 rfl)
 obtain ⟨gk, _, ek, _, _, _⟩ := Kd.q8 (h0.sr 6 rfl) (by omega)
 obtain ⟨gv, _, ev, _, _, _⟩ := Kd.q8 (h0.sr 7 rfl) (by omega)
 obtain rfl : U9 = some ⟨gk, 0, none⟩ := by injection ek
 obtain rfl : Akv = some ⟨gv, 0, none⟩ := by injection ev
 clear ek ev
 obtain ⟨sZ, iM, rfl, hlc, hC⟩ := dZ (h0.q 3 rfl)
 obtain ⟨pM, pO, rfl, hlk, hCk⟩ := dZ (h0.q 8 rfl)
 obtain ⟨GA, Sl⟩ : ∃ G, G = NT.bE 96 70 (bq.take i) := ⟨_, rfl⟩
 obtain ⟨GD, Sm⟩ : ∃ G, G = NT.bE 96 70 (bq.drop (i + 1)) := ⟨_, rfl⟩
 rw [<- Sl, <- Sm] at h0
 have HS := A_ h0
 have HB := A_ (Below.refl base w)
 have dE := A_ hbs
 have Va := A_ Sl
 have Vb := A_ Sm
 have uu := A_ hk
 have HKK := A_ hkk
 have hil : i < bq.length := (List.getElem?_eq_some_iff.1 hk).1
 obtain ⟨lI, rfl, OV⟩ := uR hC (i : Int) (by omega) (by omega)
 rw [show bI 0 (bq.map NT.p) (i : Int) = kp by unfold bI; rw [Int.toNat_natCast, List.getD_eq_getElem?_getD, List.getElem?_map, hk]; rfl, Int.toNat_natCast] at OV
 have hz2 := HS.out.z 0 rfl 2
 have QD := dJ (0 <= (i : Int))
 have QE := dJ ((i : Int) < (bq.length : Int))
 have Ui : (i < bq.length) = True := eq_true hil
 have hib : i <= 1000 := by omega
 clear h0 hbs Sl Sm hk hC hCk hlk hlc hkk hil
 go_enter Try.func106, Try.ntmps106
 go_upto_region 1 with fail
 obtain ⟨i0, hi0, _, hsz, _⟩ := info_parts dh
 obtain ⟨y1, hy1⟩ : ∃ y, y = mH.drop 3 := ⟨_, rfl⟩
 obtain ⟨y2, hy2⟩ : ∃ y, y = nE.drop 3 := ⟨_, rfl⟩
 have hl1 : y1.length = mH.length - 3 := by rw [hy1, List.length_drop]
 have hl2 : y2.length = nE.length - 3 := by rw [hy2, List.length_drop]
 have hcut1 := qy (P := Try.prog) 38 9 .i64 Try.underlying38 hi0 1 hsz (some ⟨gk, 0, none⟩) mH.length lY 3 (by omega) (by omega)
 have hcut2 := qy (P := Try.prog) 38 9 .i64 Try.underlying38 hi0 1 hsz (some ⟨gv, 0, none⟩) nE.length mI 3 (by omega) (by omega)
 simp only [show (3 : Int).toNat = 3 from rfl] at hcut1 hcut2
 obtain ⟨uw, Sn⟩ : ∃ A : Option Addr, A = (if lY = 3 then (some ⟨gk, 0, none⟩ : Option Addr) else (some ⟨gk, 0, none⟩ : Option Addr).map (·.add (3 * 1))) := ⟨_, rfl⟩
 obtain ⟨Sq, Sr⟩ : ∃ A : Option Addr, A = (if mI = 3 then (some ⟨gv, 0, none⟩ : Option Addr) else (some ⟨gv, 0, none⟩ : Option Addr).map (·.add (3 * 1))) := ⟨_, rfl⟩
 obtain ⟨c18, hc18⟩ : ∃ c, c = lY - 3 := ⟨_, rfl⟩
 obtain ⟨Kk, hc25⟩ : ∃ c, c = mI - 3 := ⟨_, rfl⟩
 rw [<- Sn, <- hc18, <- hl1] at hcut1
 rw [<- Sr, <- hc25, <- hl2] at hcut2
 have Su := A_ Sn
 have HA25 := A_ Sr
 have Vd := A_ hy1
 have Xg := A_ hy2
 have We := A_ (show y1.length <= 1000 /\ y2.length <= 1000 by omega)
 have HKV := A_ Sk
 have Xh := A_ IX
 have hk3v : 3 <= nE.length := by omega
 have hkmv : nE.length <= 1000 := by omega
 have htmv : tvs.length <= 1000 := by omega
 clear Sn Sr hc18 hc25 hl1 hl2 hy1 hy2 hi0 hsz OV hz2 Sk IX
 refine dz (n := 17) (S := fun w' => w'.cell? ⟨kp, 0, none⟩ = some (.slice (some ⟨gk, 0, none⟩) mH.length lY) /\ w'.cell? ⟨kp, 1, none⟩ = some (.slice (some ⟨gv, 0, none⟩) nE.length mI)) (ds := []) (bt 17 0) (by kernel_rfl) rfl rfl ⟨(aa.z (aa.drew HS.out) 5 rfl 0), (aa.z (aa.drew HS.out) 5 rfl 1)⟩ (fun hHeld => ?_)
 refine aV 1 14 2 ?_
 refine aV 2 15 6 ?_
 refine aV 3 16 14 ?_
 refine aV 8 21 270 ?_
 refine aV 9 22 782 ?_
 refine aV 10 23 1806 ?_
 refine ik 4 17 1822 hHeld ?_
 refine aV 5 18 1854 ?_
 refine ik 11 24 3902 hHeld ?_
 refine aV 12 25 7998 ?_
 refine kz (σ := Value × Value × Value) 4 (bt 17 8191) (fun z => [(13, z.1), (19, z.2.1), (20, z.2.2)]) (fun z w' => Below base w w' /\ aa w' base [mM 96 tp kG tks.length il kQ tvs.length iA (some lI) bq.length iM, iT kG il tks, iT kQ iA tvs, qm 70 (some lI) iM bq, GA, mM 96 kp (jV gk) mH.length lY (jV gv) nE.length mI pM nH.length pO, iT (jV gk) lY mH, iT (jV gv) mI nE, qm 70 pM pO nH, (NT.bE 96 70 nH), GD, L, [txt z.2.1 ([] ++ y1)], [txt z.2.2 []]]) ?_ ?_
 rotate_left
 ·intro jQ
  refine DJ 0 7 (some 13) (some 20) 7999 8126 (fun K hK => ?_) (fun K hK => ?_)
  ·skip
   refine Kd.bn Kd.string (w0 := w) base 9 (by rfl) (N := 13) rfl (xs := ([] : List ByteArray)) (inner := []) (ok := fun _ => True) (okp := fun _ => False) ?hr (fq.none _ _) (fun _ h => h.elim) trivial (aH HB.out) (dS dE HB) (by simp) ?_
   (case hr => first | (go_simp; done) | (go_simp; rfl))
   intro vb1 Ny fB hbb hgb hnb
   have mh := A_ hbb
   have mU := A_ (aa.lit (aa.drew HS.out) fB hgb hnb)
   obtain ⟨jb, jc, rfl⟩ : ∃ A c, vb1 = .slice A 0 c := Kd.av fB
   clear fB hbb hgb hnb
   refine hK.out _ _ ⟨(aa.z mU.out 5 rfl 0), (aa.z mU.out 5 rfl 1)⟩ (fun hHeld => ?_)
   clear hK K
   refine eF 13 ?_
   refine DJ 6 7 (some 19) (some 20) 8063 8127 (fun K hK => ?_) (fun K hK => ?_)
   ·skip
    refine Kd.aJ Kd.string (w0 := w) base (by rfl) (.tmp 13) (.tmp 18) 38 9 (.string ⟨#[]⟩) 16 rfl Try.underlying38 dh rfl (by decide) (by omega) (.slice jb 0 jc) [] y1 uw y1.length c18 (fun _ => True) (fun _ => False) rfl rfl (aa.sr mU.out 12 rfl) (by rw [Su.out, Vd.out]; exact MJ (aa.sr mU.out 6 rfl) (by omega)) (fun _ _ h => h) (fun _ h => h.elim) (fun _ _ => trivial) mh.out (dS dE mh) (by have := We.out; (try simp only [List.length_nil]); omega) ?_
    intro u1 Gb ho hb hg hat
    have kF := A_ hb
    have jm := A_ (aa.app 12 mU.out rfl ho hg hat)
    clear ho hb hg hat
    refine hK.out _ _ ⟨(aa.z jm.out 5 rfl 0), (aa.z jm.out 5 rfl 1)⟩ (fun hHeld => ?_)
    clear hK K
    refine eF 19 ?_
    refine jg 7 (some 20) 8191 (fun K hK => ?_)
    refine Kd.bn Kd.string (w0 := w) base 9 (by rfl) (N := 20) rfl (xs := ([] : List ByteArray)) (inner := []) (ok := fun _ => True) (okp := fun _ => False) ?hr (fq.none _ _) (fun _ h => h.elim) trivial kF.out (dS dE kF) (by simp) ?_
    (case hr => first | (go_simp; done) | (go_simp; rfl))
    intro rH Gc fB hbb hgb hnb
    have oQ := A_ hbb
    have lV := A_ (aa.lit jm.out fB hgb hnb)
    obtain ⟨jd, je, rfl⟩ : ∃ A c, rH = .slice A 0 c := Kd.av fB
    clear fB hbb hgb hnb
    refine hK.out _ _ ⟨(aa.z lV.out 5 rfl 0), (aa.z lV.out 5 rfl 1)⟩ (fun hHeld => ?_)
    clear hK K
    refine eF 20 ?_
    exact EW (jQ ⟨.slice jb 0 jc, u1, .slice jd 0 je⟩ _ ⟨oQ.out, aa.iN lV.out [0, 1, 2, 3, 4, 5, 6, 7, 8, 9, 10, 11, 12, 13] (by decide)⟩)
   ·skip
    refine Kd.bn Kd.string (w0 := w) base 9 (by rfl) (N := 20) rfl (xs := ([] : List ByteArray)) (inner := []) (ok := fun _ => True) (okp := fun _ => False) ?hr (fq.none _ _) (fun _ h => h.elim) trivial mh.out (dS dE mh) (by simp) ?_
    (case hr => first | (go_simp; done) | (go_simp; rfl))
    intro rH Gb fB hbb hgb hnb
    have kF := A_ hbb
    have jm := A_ (aa.lit mU.out fB hgb hnb)
    obtain ⟨jd, je, rfl⟩ : ∃ A c, rH = .slice A 0 c := Kd.av fB
    clear fB hbb hgb hnb
    refine hK.out _ _ ⟨(aa.z jm.out 5 rfl 0), (aa.z jm.out 5 rfl 1)⟩ (fun hHeld => ?_)
    clear hK K
    refine eF 20 ?_
    refine jg 6 (some 19) 8191 (fun K hK => ?_)
    refine Kd.aJ Kd.string (w0 := w) base (by rfl) (.tmp 13) (.tmp 18) 38 9 (.string ⟨#[]⟩) 16 rfl Try.underlying38 dh rfl (by decide) (by omega) (.slice jb 0 jc) [] y1 uw y1.length c18 (fun _ => True) (fun _ => False) rfl rfl (aa.sr jm.out 12 rfl) (by rw [Su.out, Vd.out]; exact MJ (aa.sr jm.out 6 rfl) (by omega)) (fun _ _ h => h) (fun _ h => h.elim) (fun _ _ => trivial) kF.out (dS dE kF) (by have := We.out; (try simp only [List.length_nil]); omega) ?_
    intro u1 Gc ho hb hg hat
    have oQ := A_ hb
    have lV := A_ (aa.app 12 jm.out rfl ho hg hat)
    clear ho hb hg hat
    refine hK.out _ _ ⟨(aa.z lV.out 5 rfl 0), (aa.z lV.out 5 rfl 1)⟩ (fun hHeld => ?_)
    clear hK K
    refine eF 19 ?_
    exact EW (jQ ⟨.slice jb 0 jc, u1, .slice jd 0 je⟩ _ ⟨oQ.out, aa.iN lV.out [0, 1, 2, 3, 4, 5, 6, 7, 8, 9, 10, 11, 12, 13] (by decide)⟩)
  ·skip
   refine Kd.bn Kd.string (w0 := w) base 9 (by rfl) (N := 20) rfl (xs := ([] : List ByteArray)) (inner := []) (ok := fun _ => True) (okp := fun _ => False) ?hr (fq.none _ _) (fun _ h => h.elim) trivial (aH HB.out) (dS dE HB) (by simp) ?_
   (case hr => first | (go_simp; done) | (go_simp; rfl))
   intro rH Ny fB hbb hgb hnb
   have mh := A_ hbb
   have mU := A_ (aa.lit (aa.drew HS.out) fB hgb hnb)
   obtain ⟨jd, je, rfl⟩ : ∃ A c, rH = .slice A 0 c := Kd.av fB
   clear fB hbb hgb hnb
   refine hK.out _ _ ⟨(aa.z mU.out 5 rfl 0), (aa.z mU.out 5 rfl 1)⟩ (fun hHeld => ?_)
   clear hK K
   refine eF 20 ?_
   refine jg 0 (some 13) 8127 (fun K hK => ?_)
   refine Kd.bn Kd.string (w0 := w) base 9 (by rfl) (N := 13) rfl (xs := ([] : List ByteArray)) (inner := []) (ok := fun _ => True) (okp := fun _ => False) ?hr (fq.none _ _) (fun _ h => h.elim) trivial mh.out (dS dE mh) (by simp) ?_
   (case hr => first | (go_simp; done) | (go_simp; rfl))
   intro vb1 Gb fB hbb hgb hnb
   have kF := A_ hbb
   have jm := A_ (aa.lit mU.out fB hgb hnb)
   obtain ⟨jb, jc, rfl⟩ : ∃ A c, vb1 = .slice A 0 c := Kd.av fB
   clear fB hbb hgb hnb
   refine hK.out _ _ ⟨(aa.z jm.out 5 rfl 0), (aa.z jm.out 5 rfl 1)⟩ (fun hHeld => ?_)
   clear hK K
   refine eF 13 ?_
   refine jg 6 (some 19) 8191 (fun K hK => ?_)
   refine Kd.aJ Kd.string (w0 := w) base (by rfl) (.tmp 13) (.tmp 18) 38 9 (.string ⟨#[]⟩) 16 rfl Try.underlying38 dh rfl (by decide) (by omega) (.slice jb 0 jc) [] y1 uw y1.length c18 (fun _ => True) (fun _ => False) rfl rfl (aa.sr jm.out 13 rfl) (by rw [Su.out, Vd.out]; exact MJ (aa.sr jm.out 6 rfl) (by omega)) (fun _ _ h => h) (fun _ h => h.elim) (fun _ _ => trivial) kF.out (dS dE kF) (by have := We.out; (try simp only [List.length_nil]); omega) ?_
   intro u1 Gc ho hb hg hat
   have oQ := A_ hb
   have lV := A_ (aa.app 13 jm.out rfl ho hg hat)
   clear ho hb hg hat
   refine hK.out _ _ ⟨(aa.z lV.out 5 rfl 0), (aa.z lV.out 5 rfl 1)⟩ (fun hHeld => ?_)
   clear hK K
   refine eF 19 ?_
   exact EW (jQ ⟨.slice jb 0 jc, u1, .slice jd 0 je⟩ _ ⟨oQ.out, aa.iN lV.out [0, 1, 2, 3, 4, 5, 6, 7, 8, 9, 10, 11, 13, 12] (by decide)⟩)
 rintro ⟨vb1, u1, rH⟩ w8 ⟨hb, hs⟩
 obtain ⟨jd, je, rfl⟩ : ∃ A c, rH = .slice A 0 c := Kd.av (aa.sr hs 13 rfl)
 have hHeld : (w8.cell? ⟨kp, 0, none⟩ = some (.slice (some ⟨gk, 0, none⟩) mH.length lY)) /\ (w8.cell? ⟨kp, 1, none⟩ = some (.slice (some ⟨gv, 0, none⟩) nE.length mI)) := ⟨aa.z hs 5 rfl 0, aa.z hs 5 rfl 1⟩
 have EY := A_ hb
 have Ci := A_ hs
 clear hb hs
 refine dG (a' := ?_) ?_ ?_
 rotate_left
 ·simp only [bz, Act.put, List.setIfInBounds_toArray, List.set_cons_zero, List.set_cons_succ]
  rfl
 refine jg 13 (some 26) 16383 (fun K hK => ?_)
 refine Kd.aJ Kd.string (w0 := w) base (by rfl) (.tmp 20) (.tmp 25) 38 9 (.string ⟨#[]⟩) 16 rfl Try.underlying38 dh rfl (by decide) (by omega) (.slice jd 0 je) [] y2 Sq y2.length Kk (fun _ => True) (fun _ => False) rfl rfl (aa.sr Ci.out 13 rfl) (by rw [HA25.out, Xg.out]; exact MJ (aa.sr Ci.out 7 rfl) (by omega)) (fun _ _ h => h) (fun _ h => h.elim) (fun _ _ => trivial) EY.out (dS dE EY) (by have := We.out; (try simp only [List.length_nil]); omega) ?_
 intro u2 w9 ho hb hg hat
 have QB := A_ hb
 have QF := A_ (aa.app 13 Ci.out rfl ho hg hat)
 clear ho hb hg hat
 obtain ⟨EK, EL, Ve⟩ := Kd.av (aa.sr QF.out 12 rfl)
 obtain ⟨EM, EN, Vf⟩ := Kd.av (aa.sr QF.out 13 rfl)
 rw [List.nil_append] at Ve Vf
 subst Ve
 subst Vf
 refine hK.out _ _ ⟨(aa.z QF.out 5 rfl 0), (aa.z QF.out 5 rfl 1)⟩ (fun hHeld => ?_)
 clear hK K
 refine eF 26 ?_
 refine aV 14 27 32767 ?_
 refine jg 15 (some 28) 65535 (fun K hK => ?_)
 refine gV (by rfl) (N := 28) rfl (cs := #[.slice EK y1.length EL, .slice EM y2.length EN, .slice none 0 0]) (t := 96) ?hr ?_
 (case hr => first | (go_simp; done) | (go_simp; rfl))
 intro rp hg uK aC hb
 have PV : af (aa uK base [mM 96 tp kG tks.length il kQ tvs.length iA (some lI) bq.length iM, iT kG il tks, iT kQ iA tvs, qm 70 (some lI) iM bq, GA, mM 96 kp (jV gk) mH.length lY (jV gv) nE.length mI pM nH.length pO, iT (jV gk) lY mH, iT (jV gv) mI nE, qm 70 pM pO nH, (NT.bE 96 70 nH), GD, L, iT EK EL y1, iT EM EN y2, mM 96 rp EK y1.length EL EM y2.length EN none 0 0]) := ⟨aa.gI QF.out hg aC hb (dS dE QB)⟩
 have HB10 := A_ (QB.out.trans (hb.mono (dS dE QB)))
 clear hg aC hb
 refine hK.out _ _ ⟨(aa.z PV.out 5 rfl 0), (aa.z PV.out 5 rfl 1)⟩ (fun hHeld => ?_)
 clear hK K
 refine eF 28 ?_
 refine aV 16 5 131071 ?_
 refine fu (by kernel_rfl) ?_
 clear HS HB
 have HS := PV
 have HB := HB10
 clear PV HB10
 obtain ⟨kx, hkx⟩ : ∃ x, mH.getD 2 ByteArray.empty = x := ⟨_, rfl⟩
 obtain ⟨vx, Hd⟩ : ∃ x, nE.getD 2 ByteArray.empty = x := ⟨_, rfl⟩
 have Uj := A_ (And.intro hk3 hkx)
 have Uk := A_ (And.intro hk3v Hd)
 have Wh := A_ hti
 clear hkx Hd
 have ci3 := dJ ((2 : Int) < (mH.length : Int))
 have ci4 := dJ ((2 : Int) < (nE.length : Int))
 have ci5 := dJ (2 < mH.length)
 have ci6 := dJ (2 < nE.length)
 by_cases rT : nH.length = 0
 ·obtain rfl : nH = [] := List.length_eq_zero_iff.1 rT
  have BA := A_ ((aa.iN HS.out [5, 6, 7, 8, 9] (by decide)).Qr)
  have hbl := A_ (show decide (((NT.mk kp (.slice (some ⟨gk, 0, none⟩) mH.length lY) (.slice (some ⟨gv, 0, none⟩) nE.length mI) (.slice pM ([] : List NT).length pO) mH nE []).erase.kids.length : Int) = 0) = true from rfl)
  clear rT
  go_upto_region 5 with (first | (go_at_call 84; (with_reducible refine (bY.dA true hbl.out _ ?aD).mono ?_); (case aD => repeat (first | exact BA.out | (with_reducible refine Rd.drewN ?_ _) | (with_reducible refine Rd.drew ?_))); rintro e w' ⟨rfl, ⟨nd, rfl⟩⟩))
  generalize hW : World.drewN uK _ = xM
  have aj : af (aa xM base [mM 96 tp kG tks.length il kQ tvs.length iA (some lI) bq.length iM, iT kG il tks, iT kQ iA tvs, qm 70 (some lI) iM bq, GA, [.box 96 kp #[.slice (some ⟨gk, 0, none⟩) mH.length lY, .slice (some ⟨gv, 0, none⟩) nE.length mI, .slice pM ([] : List NT).length pO]], iT (jV gk) lY mH, iT (jV gv) mI nE, [.jE 70 (.slice pM ([] : List NT).length pO) (ptrs [])], (NT.bE 96 70 []), GD, L, iT EK EL y1, iT EM EN y2, mM 96 rp EK y1.length EL EM y2.length EN none 0 0, [.jE 70 (.slice none 0 0) []], []]) := ⟨by rw [<- hW]; exact aa.Ms (aa.zz (aa.drewN HS.out _) 70)⟩
  have az : af (Below base w xM) := ⟨by rw [<- hW]; exact ah HB.out _⟩
  clear HS HB BA hbl hW; have HS := aj; have HB := az; clear aj az
  refine dz (n := 16) (S := fun w' => w'.cell? ⟨tp, 0, none⟩ = some (.slice kG tks.length il) /\ w'.cell? ⟨kp, 0, none⟩ = some (.slice (some ⟨gk, 0, none⟩) mH.length lY) /\ w'.cell? ⟨gk, 2, none⟩ = some (.string kx)) (ds := [15]) (bt 16 0) (by kernel_rfl) rfl rfl ⟨(aa.z (aa.drew HS.out) 0 rfl 0), (aa.z (aa.drew HS.out) 5 rfl 0), (pI (aa.sr (aa.drew HS.out) 6 rfl) (Uj.out))⟩ (fun hHeld => ?_)
  refine aV 0 50 1 ?_
  refine aV 1 51 3 ?_
  refine aV 2 52 7 ?_
  refine aV 3 53 15 ?_
  refine aV 5 55 47 ?_
  refine aV 6 56 111 ?_
  refine aV 7 57 239 ?_
  refine aV 8 58 495 ?_
  refine ik 4 54 511 hHeld ?_
  refine ik 9 59 1023 hHeld ?_
  refine aV 10 60 2047 ?_
  refine ik 11 61 4095 hHeld ?_
  refine jg 12 (some 62) 8191 (fun K hK => ?_)
  refine uj Try.func124 #[.slice kG tks.length il, .int .i64 (i : Int), .string kx] ?_
  with_reducible refine (dX.calls kG il tks (i : Int) kx (aI tks i kx) _ (aa.row (aa.drew HS.out) 1 rfl).2.2 (aa.row (aa.drew HS.out) 1 rfl).2.1 (kV kx (by exact Wh.out) (by omega))).mono ?_
  rintro e ym ⟨v0, rfl, ho, hb⟩
  refine ⟨_, rfl, ?_⟩
  obtain ⟨EO, EP, rfl⟩ := Kd.av ho
  have aj := lu (aa.gJ (aa.drew HS.out) hb (dS dE HB) ho)
  have az : af (Below base w ym) := ⟨(aH HB.out).trans (hb.mono (dS dE HB))⟩
  clear HS HB ho hb; have HS := aj; have HB := az; clear aj az
  have hzs := HS.out.z 0 rfl 0
  have hfs := HS.out.f 0 rfl 0
  refine hK.out _ _ ⟨(aa.z HS.out 0 rfl 0), (aa.z HS.out 5 rfl 0), (pI (aa.sr HS.out 6 rfl) (Uj.out))⟩ (fun hHeld => ?_)
  clear hK K
  refine eF 62 ?_
  refine aV 13 63 16383 ?_
  refine aV 14 64 32767 ?_
  refine wW 15 none 65535 (fun K hK => ?_)
  refine iU (w1 := ?_) (by rfl) rfl ?_ ?_
  rotate_left
  ·go_simp
   rfl
  refine hK.out _ _ ?_
  clear hK K
  refine fu (by kernel_rfl) ?_
  have aj := gK (World.setCell ym ⟨tp, 0, none⟩ (.slice EO (aI tks i kx).length EP)) (aa.iN (aa.put HS.out 0 rfl 0 (.slice EO (aI tks i kx).length EP) rfl) [0, 17, 2, 3, 4, 5, 6, 7, 8, 9, 10, 11, 12, 13, 14, 15, 16] (by decide))
  have az : af (Below base w (World.setCell ym ⟨tp, 0, none⟩ (.slice EO (aI tks i kx).length EP))) := ⟨HB.out.setCell (p := ⟨tp, 0, none⟩) (aa.ge HS.out 0 rfl) _⟩
  generalize World.setCell ym ⟨tp, 0, none⟩ (.slice EO (aI tks i kx).length EP) = DD at aj az ⊢
  clear HS HB hzs hfs; have HS := aj; have HB := az; clear aj az
  go_upto_region 6 with fail
  refine dz (n := 16) (S := fun w' => w'.cell? ⟨tp, 1, none⟩ = some (.slice kQ tvs.length iA) /\ w'.cell? ⟨kp, 1, none⟩ = some (.slice (some ⟨gv, 0, none⟩) nE.length mI) /\ w'.cell? ⟨gv, 2, none⟩ = some (.string vx)) (ds := [15]) (bt 16 0) (by kernel_rfl) rfl rfl ⟨(aa.z (aa.drew HS.out) 0 rfl 1), (aa.z (aa.drew HS.out) 5 rfl 1), (pI (aa.sr (aa.drew HS.out) 7 rfl) (Uk.out))⟩ (fun hHeld => ?_)
  refine aV 0 65 1 ?_
  refine aV 1 66 3 ?_
  refine aV 2 67 7 ?_
  refine aV 3 68 15 ?_
  refine aV 5 70 47 ?_
  refine aV 6 71 111 ?_
  refine aV 7 72 239 ?_
  refine aV 8 73 495 ?_
  refine ik 4 69 511 hHeld ?_
  refine ik 9 74 1023 hHeld ?_
  refine aV 10 75 2047 ?_
  refine ik 11 76 4095 hHeld ?_
  refine jg 12 (some 77) 8191 (fun K hK => ?_)
  refine uj Try.func124 #[.slice kQ tvs.length iA, .int .i64 (i : Int), .string vx] ?_
  with_reducible refine (dX.calls kQ iA tvs (i : Int) vx (aI tvs i vx) _ (aa.row (aa.drew HS.out) 2 rfl).2.2 (aa.row (aa.drew HS.out) 2 rfl).2.1 (kV vx (by rw [Xh.out]; exact Wh.out) (by omega))).mono ?_
  rintro e wR ⟨v0, rfl, ho, hb⟩
  refine ⟨_, rfl, ?_⟩
  obtain ⟨ER, ES, rfl⟩ := Kd.av ho
  have aj := lu (aa.gJ (aa.drew HS.out) hb (dS dE HB) ho)
  have az : af (Below base w wR) := ⟨(aH HB.out).trans (hb.mono (dS dE HB))⟩
  clear HS HB ho hb; have HS := aj; have HB := az; clear aj az
  have hzs := HS.out.z 0 rfl 1
  have hfs := HS.out.f 0 rfl 1
  refine hK.out _ _ ⟨(aa.z HS.out 0 rfl 1), (aa.z HS.out 5 rfl 1), (pI (aa.sr HS.out 7 rfl) (Uk.out))⟩ (fun hHeld => ?_)
  clear hK K
  refine eF 77 ?_
  refine aV 13 78 16383 ?_
  refine aV 14 79 32767 ?_
  refine wW 15 none 65535 (fun K hK => ?_)
  refine iU (w1 := ?_) (by rfl) rfl ?_ ?_
  rotate_left
  ·go_simp
   rfl
  refine hK.out _ _ ?_
  clear hK K
  refine fu (by kernel_rfl) ?_
  have aj := gK (World.setCell wR ⟨tp, 1, none⟩ (.slice ER (aI tvs i vx).length ES)) (aa.iN (aa.put HS.out 0 rfl 1 (.slice ER (aI tvs i vx).length ES) rfl) [0, 1, 17, 3, 4, 5, 6, 7, 8, 9, 10, 11, 12, 13, 14, 15, 16] (by decide))
  have az : af (Below base w (World.setCell wR ⟨tp, 1, none⟩ (.slice ER (aI tvs i vx).length ES))) := ⟨HB.out.setCell (p := ⟨tp, 1, none⟩) (aa.ge HS.out 0 rfl) _⟩
  generalize World.setCell wR ⟨tp, 1, none⟩ (.slice ER (aI tvs i vx).length ES) = Gs at aj az ⊢
  clear HS HB hzs hfs; have HS := aj; have HB := az; clear aj az
  obtain ⟨k', hk'⟩ : ∃ k', k' = NT.mk kp (.slice (some ⟨gk, 0, none⟩) 2 lY) (.slice (some ⟨gv, 0, none⟩) 2 mI) (.slice pM ([] : List NT).length pO) (mH.take 2) (nE.take 2) [] := ⟨_, rfl⟩
  obtain ⟨r', hr'⟩ : ∃ r', r' = NT.mk rp (.slice EK y1.length EL) (.slice EM y2.length EN) (.slice none 0 0) y1 y2 [] := ⟨_, rfl⟩
  obtain ⟨ET, IY⟩ : ∃ l, l = aI (bq.set i k') (i + 1) r' := ⟨_, rfl⟩
  have Vg := A_ IY
  have Vh := A_ hk'
  have Vi := A_ hr'
  have PR := A_ (show aI (bq.map NT.p) (i + 1) rp = ET.map NT.p by rw [IY, jr, List.map_set, hk', hr', xk uu.out]; rfl)
  clear IY hk' hr'
  have hzs := HS.out.z 0 rfl 2
  have hfs := HS.out.f 0 rfl 2
  go_upto_region 8 with (first | (go_at_call 125; (with_reducible refine (Fu (some lI) iM (bq.map NT.p) i rp bq.length _ (List.length_map _).symm ?aD ?dR ?Bj ?Bl).mono ?_); (case aD => exact (aa.iZ HS.out 3 rfl).2.2); (case dR => exact (aa.iZ HS.out 3 rfl).2.1); (case Bj => rw [List.length_map]; exact (List.getElem?_eq_some_iff.1 uu.out).1); (case Bl => rw [List.length_map]; omega); rintro e w16 ⟨vq, rfl, ho, hb⟩; rw [PR.out] at ho; obtain ⟨Aq, cq, yn⟩ := Kd.av ho; rw [List.length_map] at yn; subst yn; have aj := lu (aa.wZ HS.out hb (dS dE HB) ho); have az : af (Below base w w16) := ⟨HB.out.trans (hb.mono (dS dE HB))⟩; clear HS HB ho hb hzs hfs; have HS := aj; have HB := az; clear aj az; have hzs := HS.out.z 0 rfl 2; have hfs := HS.out.f 0 rfl 2))
  have aj := gK (World.setCell w16 ⟨tp, 2, none⟩ (.slice Aq ET.length cq)) (aa.iN (aa.put HS.out 0 rfl 2 (.slice Aq ET.length cq) rfl) [0, 1, 2, 17, 4, 5, 6, 7, 8, 9, 10, 11, 12, 13, 14, 15, 16] (by decide))
  have az : af (Below base w (World.setCell w16 ⟨tp, 2, none⟩ (.slice Aq ET.length cq))) := ⟨HB.out.setCell (p := ⟨tp, 2, none⟩) (aa.ge HS.out 0 rfl) _⟩
  generalize World.setCell w16 ⟨tp, 2, none⟩ (.slice Aq ET.length cq) = Kh at aj az ⊢
  clear HS HB hzs hfs; have HS := aj; have HB := az; clear aj az
  have hzs := HS.out.z 5 rfl 0
  have hfs := HS.out.f 5 rfl 0
  obtain ⟨i0, hi0, _, hsz, _⟩ := info_parts dh
  have hcut := nI (P := Try.prog) 38 9 .i64 Try.underlying38 hi0 (some ⟨gk, 0, none⟩) mH.length lY 2 (by omega) (by omega) (aa.row HS.out 6 rfl).2.1
  simp only [show (2 : Int).toNat = 2 from rfl] at hcut
  clear hi0 hsz
  go_upto_region 9 with fail
  have aj := gK (World.setCell Kh ⟨kp, 0, none⟩ (.slice (some ⟨gk, 0, none⟩) 2 lY)) (aa.put (aa.vR HS.out 6 rfl 2 (by omega)) 5 rfl 0 (.slice (some ⟨gk, 0, none⟩) 2 lY) rfl)
  have az : af (Below base w (World.setCell Kh ⟨kp, 0, none⟩ (.slice (some ⟨gk, 0, none⟩) 2 lY))) := ⟨HB.out.setCell (p := ⟨kp, 0, none⟩) (aa.ge HS.out 5 rfl) _⟩
  generalize World.setCell Kh ⟨kp, 0, none⟩ (.slice (some ⟨gk, 0, none⟩) 2 lY) = Kl at aj az ⊢
  clear HS HB hzs hfs hcut; have HS := aj; have HB := az; clear aj az
  have hzs := HS.out.z 5 rfl 1
  have hfs := HS.out.f 5 rfl 1
  obtain ⟨i0, hi0, _, hsz, _⟩ := info_parts dh
  have hcut := nI (P := Try.prog) 38 9 .i64 Try.underlying38 hi0 (some ⟨gv, 0, none⟩) nE.length mI 2 (by omega) (by omega) (aa.row HS.out 7 rfl).2.1
  simp only [show (2 : Int).toNat = 2 from rfl] at hcut
  clear hi0 hsz
  go_wp2
  have aj := gK (World.setCell Kl ⟨kp, 1, none⟩ (.slice (some ⟨gv, 0, none⟩) 2 mI)) (aa.put (aa.vR HS.out 7 rfl 2 (by omega)) 5 rfl 1 (.slice (some ⟨gv, 0, none⟩) 2 mI) rfl)
  have az : af (Below base w (World.setCell Kl ⟨kp, 1, none⟩ (.slice (some ⟨gv, 0, none⟩) 2 mI))) := ⟨HB.out.setCell (p := ⟨kp, 1, none⟩) (aa.ge HS.out 5 rfl) _⟩
  generalize World.setCell Kl ⟨kp, 1, none⟩ (.slice (some ⟨gv, 0, none⟩) 2 mI) = Mc at aj az ⊢
  clear HS HB hzs hfs hcut; have HS := aj; have HB := az; clear aj az
  go_end0
  have hS := Mt (aa.iN HS.out [0, 1, 2, 3, 4, 5, 6, 7, 8, 9, 14, 12, 13, 15, 16, 10, 11] (by decide))
  refine ⟨rfl, NT.mk tp (.slice EO (aI tks i kx).length EP) (.slice ER (aI tvs i vx).length ES) (.slice Aq ET.length cq) (aI tks i kx) (aI tvs i vx) ET, rfl, ?_, ?_, HB.out⟩
  ·rw [HRR.out]
   show PT.mk _ _ (NT.aQ ET) = _
   rw [Vg.out, qX, Vh.out, Vi.out]
   have e1 := Uj.out.2
   have e2 := Uk.out.2
   have e3 := Vd.out
   have e4 := Xg.out
   subst e1; subst e2; subst e3; subst e4
   rfl
  ·rw [NT.dI, show NT.bE 96 70 ET = _ from by rw [Vg.out, vS uu.out, Vh.out, Vi.out, NT.dI, NT.dI, <- Va.out, <- Vb.out]]
   unfold aa at hS
   simp only [List.flatten_cons, List.flatten_nil, List.append_nil, List.cons_append, List.nil_append, List.append_assoc, NT.bE] at hS ⊢
   exact hS
 ·have hk3c : 3 <= nH.length := HKK.out.resolve_left rT
  have BA := A_ ((aa.iN HS.out [5, 6, 7, 8, 9] (by decide)).Qr)
  have hbl := A_ (show decide (((NT.mk kp (.slice (some ⟨gk, 0, none⟩) mH.length lY) (.slice (some ⟨gv, 0, none⟩) nE.length mI) (.slice pM nH.length pO) mH nE nH).erase.kids.length : Int) = 0) = false from decide_eq_false (by show ((NT.aQ nH).length : Int) ≠ 0; rw [aK, List.length_map]; omega))
  clear rT
  go_upto_region 3 with (first | (go_at_call 84; (with_reducible refine (bY.dA false hbl.out _ ?aD).mono ?_); (case aD => repeat (first | exact BA.out | (with_reducible refine Rd.drewN ?_ _) | (with_reducible refine Rd.drew ?_))); rintro e w' ⟨rfl, ⟨nd, rfl⟩⟩))
  generalize hW : World.drewN uK _ = xM
  have aj : af (aa xM base [mM 96 tp kG tks.length il kQ tvs.length iA (some lI) bq.length iM, iT kG il tks, iT kQ iA tvs, qm 70 (some lI) iM bq, GA, mM 96 kp (jV gk) mH.length lY (jV gv) nE.length mI pM nH.length pO, iT (jV gk) lY mH, iT (jV gv) mI nE, qm 70 pM pO nH, (NT.bE 96 70 nH), GD, L, iT EK EL y1, iT EM EN y2, mM 96 rp EK y1.length EL EM y2.length EN none 0 0]) := ⟨by rw [<- hW]; exact aa.drewN HS.out _⟩
  have az : af (Below base w xM) := ⟨by rw [<- hW]; exact ah HB.out _⟩
  clear HS HB BA hbl hW; have HS := aj; have HB := az; clear aj az
  obtain ⟨i0, hi0, _, hsz, _⟩ := info_parts jJ
  have hcut := qy (P := Try.prog) 94 70 .i64 iD hi0 1 hsz pM nH.length pO 3 (by omega) (by omega)
  simp only [show (3 : Int).toNat = 3 from rfl] at hcut
  obtain ⟨BR, Sv⟩ : ∃ A : Option Addr, A = (if pO = 3 then pM else pM.map (·.add (3 * 1))) := ⟨_, rfl⟩
  obtain ⟨PW, hc38⟩ : ∃ c, c = pO - 3 := ⟨_, rfl⟩
  obtain ⟨kd, hkd⟩ : ∃ l, l = nH.drop 3 := ⟨_, rfl⟩
  have Sw : kd.length = nH.length - 3 := by rw [hkd, List.length_drop]
  have PX := A_ hkd
  have HKDL := A_ Sw
  have hkdm : kd.length <= 1001 := by omega
  rw [<- Sv, <- hc38, <- Sw] at hcut
  clear hkd Sw
  have HA38 := A_ Sv
  clear hi0 hsz Sv hc38
  have Oh := HS.out.z 5 rfl 2
  have Oi := HS.out.z 14 rfl 2
  have Oj := HS.out.f 14 rfl 2
  go_upto_region 4 with (first | ((with_reducible refine dN (N := 33) rfl ?_); refine Kd.kH eT (w0 := w) base 70 ?hg (N := 33) ?hd (xs := ([] : List Nat)) (inner := []) (ok := fun _ => True) (okp := fun _ => True) ?hr ?hp (fun _ hk => hk) trivial HB.out (dS dE HB) (by simp) ?_; (case hd => rfl); (case hg => rfl); (case hr => first | (go_simp; done) | (go_simp; rfl)); (case hp => exact (fq.none _ _)); intro vl ym ho hb hg hn; obtain ⟨lA, lc, rfl⟩ : ∃ A c, vl = .slice A 0 c := Kd.av ho; have aj := lu (aa.DZ HS.out (tO ho) hg hn); have az : af (Below base w ym) := ⟨hb⟩; clear HS HB Oh Oi Oj ho hg hn hb; have HS := aj; have HB := az; clear aj az; have Oh := HS.out.z 5 rfl 2; have Oi := HS.out.z 14 rfl 2; have Oj := HS.out.f 14 rfl 2) | ((with_reducible refine bQ (b := .append) (xs := #[.tmp 33, .tmp 38]) rfl ?_); at_builtin; refine Kd.dV eT (w0 := w) base rfl (.tmp 33) (.tmp 38) 94 70 (.pointer none) 8 rfl iD jJ rfl (by decide) (by omega) (.slice lA 0 lc) [] (kd.map NT.p) BR kd.length PW (fun _ => True) (fun _ => False) rfl rfl ?aO ?aR (fun _ _ h => h) (fun _ h => h.elim) ?aF ?aB ?aS ?aL ?_; (case aO => exact aa.Q6 HS.out 15 rfl); (case aR => rw [HA38.out, HKDL.out, PX.out]; exact Wx HS.out 8 rfl (by omega)); (case aF => exact (fun _ _ => trivial)); (case aB => exact HB.out); (case aS => exact (dS dE HB)); (case aL => (try simp only [List.length_nil]); omega); intro vq DD ho hb hg hat; rw [List.nil_append] at ho; obtain ⟨Sy, Sz, yn⟩ := Kd.av ho; rw [List.length_map] at yn; subst yn; have aj := lu (aa.appOwn 15 HS.out rfl ho hg hat); have az : af (Below base w DD) := ⟨hb⟩; clear HS HB Oh Oi Oj ho hg hat hb; have HS := aj; have HB := az; clear aj az; have Oh := HS.out.z 5 rfl 2; have Oi := HS.out.z 14 rfl 2; have Oj := HS.out.f 14 rfl 2))
  have aj := gK (World.setCell DD ⟨rp, 2, none⟩ (.slice Sy kd.length Sz)) (aa.put HS.out 14 rfl 2 (.slice Sy kd.length Sz) rfl)
  have az : af (Below base w (World.setCell DD ⟨rp, 2, none⟩ (.slice Sy kd.length Sz))) := ⟨HB.out.setCell (p := ⟨rp, 2, none⟩) (aa.ge HS.out 14 rfl) _⟩
  generalize World.setCell DD ⟨rp, 2, none⟩ (.slice Sy kd.length Sz) = wR at aj az ⊢
  clear HS HB Oh Oi Oj hcut; have HS := aj; have HB := az; clear aj az
  obtain ⟨i0, hi0, _, hsz, _⟩ := info_parts jJ
  have hcut := nI (P := Try.prog) 94 70 .i64 iD hi0 pM nH.length pO 3 (by omega) (by omega) (aa.iZ HS.out 8 rfl).2.1
  simp only [show (3 : Int).toNat = 3 from rfl] at hcut
  clear hi0 hsz
  have Oh := HS.out.z 5 rfl 2
  have Xi := HS.out.f 5 rfl 2
  go_upto_region 5 with fail
  have aj := gK (World.setCell wR ⟨kp, 2, none⟩ (.slice pM 3 pO)) (aa.put (aa.Qq HS.out 8 rfl 3 hk3c) 5 rfl 2 (.slice pM 3 pO) rfl)
  have jG : af (aa (World.setCell wR ⟨kp, 2, none⟩ (.slice pM 3 pO)) base [mM 96 tp kG tks.length il kQ tvs.length iA (some lI) bq.length iM, iT kG il tks, iT kQ iA tvs, qm 70 (some lI) iM bq, GA, mM 96 kp (jV gk) mH.length lY (jV gv) nE.length mI pM 3 pO, iT (jV gk) lY mH, iT (jV gv) mI nE, Wv 70 pM 3 pO (nH.take 3), (NT.bE 96 70 (nH.take 3)), GD, L, iT EK EL y1, iT EM EN y2, mM 96 rp EK y1.length EL EM y2.length EN Sy kd.length Sz, qm 70 Sy Sz kd, (NT.bE 96 70 kd)]) := ⟨aa.cut aj.out 9 (by rw [PX.out, <- iC, List.take_append_drop]; rfl)⟩
  clear aj
  have aj := jG
  clear jG
  have az : af (Below base w (World.setCell wR ⟨kp, 2, none⟩ (.slice pM 3 pO))) := ⟨HB.out.setCell (p := ⟨kp, 2, none⟩) (aa.ge HS.out 5 rfl) _⟩
  generalize World.setCell wR ⟨kp, 2, none⟩ (.slice pM 3 pO) = w11' at aj az ⊢
  clear HS HB Oh Xi hcut; have HS := aj; have HB := az; clear aj az
  go_upto_region 5 with fail
  refine dz (n := 16) (S := fun w' => w'.cell? ⟨tp, 0, none⟩ = some (.slice kG tks.length il) /\ w'.cell? ⟨kp, 0, none⟩ = some (.slice (some ⟨gk, 0, none⟩) mH.length lY) /\ w'.cell? ⟨gk, 2, none⟩ = some (.string kx)) (ds := [15]) (bt 16 0) (by kernel_rfl) rfl rfl ⟨(aa.z (aa.drew HS.out) 0 rfl 0), (aa.z (aa.drew HS.out) 5 rfl 0), (pI (aa.sr (aa.drew HS.out) 6 rfl) (Uj.out))⟩ (fun hHeld => ?_)
  refine aV 0 50 1 ?_
  refine aV 1 51 3 ?_
  refine aV 2 52 7 ?_
  refine aV 3 53 15 ?_
  refine aV 5 55 47 ?_
  refine aV 6 56 111 ?_
  refine aV 7 57 239 ?_
  refine aV 8 58 495 ?_
  refine ik 4 54 511 hHeld ?_
  refine ik 9 59 1023 hHeld ?_
  refine aV 10 60 2047 ?_
  refine ik 11 61 4095 hHeld ?_
  refine jg 12 (some 62) 8191 (fun K hK => ?_)
  refine uj Try.func124 #[.slice kG tks.length il, .int .i64 (i : Int), .string kx] ?_
  with_reducible refine (dX.calls kG il tks (i : Int) kx (aI tks i kx) _ (aa.row (aa.drew HS.out) 1 rfl).2.2 (aa.row (aa.drew HS.out) 1 rfl).2.1 (kV kx (by exact Wh.out) (by omega))).mono ?_
  rintro e Gs ⟨v0, rfl, ho, hb⟩
  refine ⟨_, rfl, ?_⟩
  obtain ⟨EO, EP, rfl⟩ := Kd.av ho
  have aj := lu (aa.gJ (aa.drew HS.out) hb (dS dE HB) ho)
  have az : af (Below base w Gs) := ⟨(aH HB.out).trans (hb.mono (dS dE HB))⟩
  clear HS HB ho hb; have HS := aj; have HB := az; clear aj az
  have hzs := HS.out.z 0 rfl 0
  have hfs := HS.out.f 0 rfl 0
  refine hK.out _ _ ⟨(aa.z HS.out 0 rfl 0), (aa.z HS.out 5 rfl 0), (pI (aa.sr HS.out 6 rfl) (Uj.out))⟩ (fun hHeld => ?_)
  clear hK K
  refine eF 62 ?_
  refine aV 13 63 16383 ?_
  refine aV 14 64 32767 ?_
  refine wW 15 none 65535 (fun K hK => ?_)
  refine iU (w1 := ?_) (by rfl) rfl ?_ ?_
  rotate_left
  ·go_simp
   rfl
  refine hK.out _ _ ?_
  clear hK K
  refine fu (by kernel_rfl) ?_
  have aj := gK (World.setCell Gs ⟨tp, 0, none⟩ (.slice EO (aI tks i kx).length EP)) (aa.iN (aa.put HS.out 0 rfl 0 (.slice EO (aI tks i kx).length EP) rfl) [0, 17, 2, 3, 4, 5, 6, 7, 8, 9, 10, 11, 12, 13, 14, 15, 16] (by decide))
  have az : af (Below base w (World.setCell Gs ⟨tp, 0, none⟩ (.slice EO (aI tks i kx).length EP))) := ⟨HB.out.setCell (p := ⟨tp, 0, none⟩) (aa.ge HS.out 0 rfl) _⟩
  generalize World.setCell Gs ⟨tp, 0, none⟩ (.slice EO (aI tks i kx).length EP) = w16 at aj az ⊢
  clear HS HB hzs hfs; have HS := aj; have HB := az; clear aj az
  go_upto_region 6 with fail
  refine dz (n := 16) (S := fun w' => w'.cell? ⟨tp, 1, none⟩ = some (.slice kQ tvs.length iA) /\ w'.cell? ⟨kp, 1, none⟩ = some (.slice (some ⟨gv, 0, none⟩) nE.length mI) /\ w'.cell? ⟨gv, 2, none⟩ = some (.string vx)) (ds := [15]) (bt 16 0) (by kernel_rfl) rfl rfl ⟨(aa.z (aa.drew HS.out) 0 rfl 1), (aa.z (aa.drew HS.out) 5 rfl 1), (pI (aa.sr (aa.drew HS.out) 7 rfl) (Uk.out))⟩ (fun hHeld => ?_)
  refine aV 0 65 1 ?_
  refine aV 1 66 3 ?_
  refine aV 2 67 7 ?_
  refine aV 3 68 15 ?_
  refine aV 5 70 47 ?_
  refine aV 6 71 111 ?_
  refine aV 7 72 239 ?_
  refine aV 8 73 495 ?_
  refine ik 4 69 511 hHeld ?_
  refine ik 9 74 1023 hHeld ?_
  refine aV 10 75 2047 ?_
  refine ik 11 76 4095 hHeld ?_
  refine jg 12 (some 77) 8191 (fun K hK => ?_)
  refine uj Try.func124 #[.slice kQ tvs.length iA, .int .i64 (i : Int), .string vx] ?_
  with_reducible refine (dX.calls kQ iA tvs (i : Int) vx (aI tvs i vx) _ (aa.row (aa.drew HS.out) 2 rfl).2.2 (aa.row (aa.drew HS.out) 2 rfl).2.1 (kV vx (by rw [Xh.out]; exact Wh.out) (by omega))).mono ?_
  rintro e Kh ⟨v0, rfl, ho, hb⟩
  refine ⟨_, rfl, ?_⟩
  obtain ⟨ER, ES, rfl⟩ := Kd.av ho
  have aj := lu (aa.gJ (aa.drew HS.out) hb (dS dE HB) ho)
  have az : af (Below base w Kh) := ⟨(aH HB.out).trans (hb.mono (dS dE HB))⟩
  clear HS HB ho hb; have HS := aj; have HB := az; clear aj az
  have hzs := HS.out.z 0 rfl 1
  have hfs := HS.out.f 0 rfl 1
  refine hK.out _ _ ⟨(aa.z HS.out 0 rfl 1), (aa.z HS.out 5 rfl 1), (pI (aa.sr HS.out 7 rfl) (Uk.out))⟩ (fun hHeld => ?_)
  clear hK K
  refine eF 77 ?_
  refine aV 13 78 16383 ?_
  refine aV 14 79 32767 ?_
  refine wW 15 none 65535 (fun K hK => ?_)
  refine iU (w1 := ?_) (by rfl) rfl ?_ ?_
  rotate_left
  ·go_simp
   rfl
  refine hK.out _ _ ?_
  clear hK K
  refine fu (by kernel_rfl) ?_
  have aj := gK (World.setCell Kh ⟨tp, 1, none⟩ (.slice ER (aI tvs i vx).length ES)) (aa.iN (aa.put HS.out 0 rfl 1 (.slice ER (aI tvs i vx).length ES) rfl) [0, 1, 17, 3, 4, 5, 6, 7, 8, 9, 10, 11, 12, 13, 14, 15, 16] (by decide))
  have az : af (Below base w (World.setCell Kh ⟨tp, 1, none⟩ (.slice ER (aI tvs i vx).length ES))) := ⟨HB.out.setCell (p := ⟨tp, 1, none⟩) (aa.ge HS.out 0 rfl) _⟩
  generalize World.setCell Kh ⟨tp, 1, none⟩ (.slice ER (aI tvs i vx).length ES) = Kl at aj az ⊢
  clear HS HB hzs hfs; have HS := aj; have HB := az; clear aj az
  obtain ⟨k', hk'⟩ : ∃ k', k' = NT.mk kp (.slice (some ⟨gk, 0, none⟩) 2 lY) (.slice (some ⟨gv, 0, none⟩) 2 mI) (.slice pM 3 pO) (mH.take 2) (nE.take 2) (nH.take 3) := ⟨_, rfl⟩
  obtain ⟨r', hr'⟩ : ∃ r', r' = NT.mk rp (.slice EK y1.length EL) (.slice EM y2.length EN) (.slice Sy kd.length Sz) y1 y2 kd := ⟨_, rfl⟩
  obtain ⟨ET, IY⟩ : ∃ l, l = aI (bq.set i k') (i + 1) r' := ⟨_, rfl⟩
  have Vg := A_ IY
  have Vh := A_ hk'
  have Vi := A_ hr'
  have PR := A_ (show aI (bq.map NT.p) (i + 1) rp = ET.map NT.p by rw [IY, jr, List.map_set, hk', hr', xk uu.out]; rfl)
  clear IY hk' hr'
  have hzs := HS.out.z 0 rfl 2
  have hfs := HS.out.f 0 rfl 2
  go_upto_region 8 with (first | (go_at_call 125; (with_reducible refine (Fu (some lI) iM (bq.map NT.p) i rp bq.length _ (List.length_map _).symm ?aD ?dR ?Bj ?Bl).mono ?_); (case aD => exact (aa.iZ HS.out 3 rfl).2.2); (case dR => exact (aa.iZ HS.out 3 rfl).2.1); (case Bj => rw [List.length_map]; exact (List.getElem?_eq_some_iff.1 uu.out).1); (case Bl => rw [List.length_map]; omega); rintro e Mc ⟨vq, rfl, ho, hb⟩; rw [PR.out] at ho; obtain ⟨Aq, cq, yn⟩ := Kd.av ho; rw [List.length_map] at yn; subst yn; have aj := lu (aa.wZ HS.out hb (dS dE HB) ho); have az : af (Below base w Mc) := ⟨HB.out.trans (hb.mono (dS dE HB))⟩; clear HS HB ho hb hzs hfs; have HS := aj; have HB := az; clear aj az; have hzs := HS.out.z 0 rfl 2; have hfs := HS.out.f 0 rfl 2))
  have aj := gK (World.setCell Mc ⟨tp, 2, none⟩ (.slice Aq ET.length cq)) (aa.iN (aa.put HS.out 0 rfl 2 (.slice Aq ET.length cq) rfl) [0, 1, 2, 17, 4, 5, 6, 7, 8, 9, 10, 11, 12, 13, 14, 15, 16] (by decide))
  have az : af (Below base w (World.setCell Mc ⟨tp, 2, none⟩ (.slice Aq ET.length cq))) := ⟨HB.out.setCell (p := ⟨tp, 2, none⟩) (aa.ge HS.out 0 rfl) _⟩
  generalize World.setCell Mc ⟨tp, 2, none⟩ (.slice Aq ET.length cq) = PY at aj az ⊢
  clear HS HB hzs hfs; have HS := aj; have HB := az; clear aj az
  have hzs := HS.out.z 5 rfl 0
  have hfs := HS.out.f 5 rfl 0
  obtain ⟨i0, hi0, _, hsz, _⟩ := info_parts dh
  have hcut := nI (P := Try.prog) 38 9 .i64 Try.underlying38 hi0 (some ⟨gk, 0, none⟩) mH.length lY 2 (by omega) (by omega) (aa.row HS.out 6 rfl).2.1
  simp only [show (2 : Int).toNat = 2 from rfl] at hcut
  clear hi0 hsz
  go_upto_region 9 with fail
  have aj := gK (World.setCell PY ⟨kp, 0, none⟩ (.slice (some ⟨gk, 0, none⟩) 2 lY)) (aa.put (aa.vR HS.out 6 rfl 2 (by omega)) 5 rfl 0 (.slice (some ⟨gk, 0, none⟩) 2 lY) rfl)
  have az : af (Below base w (World.setCell PY ⟨kp, 0, none⟩ (.slice (some ⟨gk, 0, none⟩) 2 lY))) := ⟨HB.out.setCell (p := ⟨kp, 0, none⟩) (aa.ge HS.out 5 rfl) _⟩
  generalize World.setCell PY ⟨kp, 0, none⟩ (.slice (some ⟨gk, 0, none⟩) 2 lY) = Xj at aj az ⊢
  clear HS HB hzs hfs hcut; have HS := aj; have HB := az; clear aj az
  have hzs := HS.out.z 5 rfl 1
  have hfs := HS.out.f 5 rfl 1
  obtain ⟨i0, hi0, _, hsz, _⟩ := info_parts dh
  have hcut := nI (P := Try.prog) 38 9 .i64 Try.underlying38 hi0 (some ⟨gv, 0, none⟩) nE.length mI 2 (by omega) (by omega) (aa.row HS.out 7 rfl).2.1
  simp only [show (2 : Int).toNat = 2 from rfl] at hcut
  clear hi0 hsz
  go_wp2
  have aj := gK (World.setCell Xj ⟨kp, 1, none⟩ (.slice (some ⟨gv, 0, none⟩) 2 mI)) (aa.put (aa.vR HS.out 7 rfl 2 (by omega)) 5 rfl 1 (.slice (some ⟨gv, 0, none⟩) 2 mI) rfl)
  have az : af (Below base w (World.setCell Xj ⟨kp, 1, none⟩ (.slice (some ⟨gv, 0, none⟩) 2 mI))) := ⟨HB.out.setCell (p := ⟨kp, 1, none⟩) (aa.ge HS.out 5 rfl) _⟩
  generalize World.setCell Xj ⟨kp, 1, none⟩ (.slice (some ⟨gv, 0, none⟩) 2 mI) = w22 at aj az ⊢
  clear HS HB hzs hfs hcut; have HS := aj; have HB := az; clear aj az
  go_end0
  have hS := Mt (aa.iN HS.out [0, 1, 2, 3, 4, 5, 6, 7, 8, 9, 14, 12, 13, 15, 16, 10, 11] (by decide))
  refine ⟨rfl, NT.mk tp (.slice EO (aI tks i kx).length EP) (.slice ER (aI tvs i vx).length ES) (.slice Aq ET.length cq) (aI tks i kx) (aI tvs i vx) ET, rfl, ?_, ?_, HB.out⟩
  ·rw [HRR.out]
   show PT.mk _ _ (NT.aQ ET) = _
   rw [Vg.out, qX, Vh.out, Vi.out]
   have e1 := Uj.out.2
   have e2 := Uk.out.2
   have e3 := Vd.out
   have e4 := Xg.out
   subst e1; subst e2; subst e3; subst e4
   have e5 := PX.out
   subst e5
   show PT.mk _ _ _ = splitK _ _ _
   unfold splitK
   simp only [NT.erase, PT.keys, PT.vals, PT.kids, aK, List.map_take, List.map_drop]
  ·rw [NT.dI, show NT.bE 96 70 ET = _ from by rw [Vg.out, vS uu.out, Vh.out, Vi.out, NT.dI, NT.dI, <- Va.out, <- Vb.out]]
   unfold aa at hS
   simp only [List.flatten_cons, List.flatten_nil, List.append_nil, List.cons_append, List.nil_append, List.append_assoc, NT.bE] at hS ⊢
   exact hS
end Go.Proofs.Ytoddejmlcnbdmaa.Tree

