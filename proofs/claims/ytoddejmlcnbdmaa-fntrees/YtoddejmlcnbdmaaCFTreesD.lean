/- The law FnTrees holds of the given program: at every input it answers true and leaves its arguments as they were; no condition. This text: part 4 of what its proof reaches. -/
import Derived.Deep.QuietTactic
import Derived.BigQuiet
import Derived.Test.YtoddejmlcnbdmaaCFTreesA
import Derived.Test.YtoddejmlcnbdmaaCFTreesB
import Derived.Test.YtoddejmlcnbdmaaCFTreesC
set_option maxHeartbeats 8000000
set_option maxRecDepth 100000
set_option linter.unusedVariables false
set_option linter.unusedSimpArgs false
open Go.Proofs.Ytoddejmlcnbdmaa.Fn
open Go.Proofs.Ytoddejmlcnbdmaa.Tree
open Go.RowKit Go.Proofs.YtoddejmlcnbdmaaW.PrintWords Go.Proofs.YtoddejmlcnbdmaaW.PrintLast Go.Proofs.YtoddejmlcnbdmaaW.PrintMore Go.Proofs.Ytoddejmlcnbdmaa.Gen
namespace Go.Proofs.Ytoddejmlcnbdmaa.Tree
set_option maxHeartbeats 8000000
set_option maxRecDepth 100000
theorem wy {l : List NT} {i : Nat} {k k' r : NT} (h : l[i]? = some k) (hp : k'.p = k.p) : ptrs (aI (l.set i k') (i + 1) r) = ptrs (aI l (i + 1) r) := by
 rw [fE, fE, jr, jr, List.map_set, hp]
 have e : (l.map NT.p).set i k.p = l.map NT.p := by
  apply List.ext_getElem?
  intro j
  rw [List.getElem?_set]
  split
  ·next hj =>
   subst hj
   rw [List.getElem?_map, h]
   split
   ·rfl
   ·next hh => exact absurd (by rw [List.length_map]; exact (List.getElem?_eq_some_iff.1 h).1) hh
  ·rfl
 rw [e]
theorem uH.calls (t k : NT) (i : Nat) (hk : t.kids[i]? = some k) (hk5 : 5 <= k.keys.length) (Xe : k.keys.length <= 1000) (Sk : k.vals.length = k.keys.length) (hkk : k.kids.length = 0 ∨ 3 <= k.kids.length) (PU : k.kids.length <= 1001) (hti : i <= t.keys.length) (Xf : t.keys.length <= 1000) (IX : t.vals.length = t.keys.length) (htk : t.kids.length <= 1001)
  (base : Nat) (L : List Ck) (w : World) (hs : Sat w base (t.dI 101 74 ++ L)) (hbs : base <= w.heap.size) :
  Calls Try.prog 109 #[bG t.p, .int .i64 (i : Int)] w (WR w base 101 74 t L (splitK t.erase k.erase i)) := by
 have h0 := qo hk hs
 clear hs
 obtain ⟨R, hR⟩ : ∃ R, R = splitK t.erase k.erase i := ⟨_, rfl⟩
 rw [<- hR]
 have HRR := A_ hR
 clear hR
 cases t with | mk tp EZ E8 E9 tks tvs bq =>
 cases k with | mk kp kkv V9 Wd mH nE nH =>
 unfold vT at h0
 simp only [NT.keys, NT.vals, NT.kids, NT.p, NT.kv, NT.vv, NT.cv] at hk hk5 Xe Sk hkk PU hti Xf IX htk h0 HRR ⊢
 obtain ⟨kG, il, rfl⟩ := Kd.av (h0.sr 1 rfl)
 obtain ⟨kQ, iA, rfl⟩ := Kd.av (h0.sr 2 rfl)
 obtain ⟨sZ, iM, rfl, _, _⟩ := dZ (h0.q 3 rfl)
 have hil : i < bq.length := (List.getElem?_eq_some_iff.1 hk).1
 obtain ⟨lI, rfl⟩ := iQ (h0.q 3 rfl) (by omega)
 obtain ⟨U9, lY, rfl⟩ := Kd.av (h0.sr 6 rfl)
 obtain ⟨Akv, mI, rfl⟩ := Kd.av (h0.sr 7 rfl)
 obtain ⟨pM, pO, rfl, _, _⟩ := dZ (h0.q 8 rfl)
 obtain ⟨y9, rfl⟩ := gD (h0.sr 6 rfl) (by omega)
 obtain ⟨za, rfl⟩ := gD (h0.sr 7 rfl) (by omega)
 obtain ⟨GA, Sl⟩ : ∃ G, G = NT.bE 101 74 (bq.take i) := ⟨_, rfl⟩
 obtain ⟨GD, Sm⟩ : ∃ G, G = NT.bE 101 74 (bq.drop (i + 1)) := ⟨_, rfl⟩
 rw [<- Sl, <- Sm] at h0
 have HS := A_ h0
 have HB := A_ (Below.refl base w)
 have dE := A_ hbs
 have Va := A_ Sl
 have Vb := A_ Sm
 have uu := A_ hk
 have HK : af (bq[i]? = some (NT.mk kp (.slice (some ⟨y9, 0, none⟩) mH.length lY) (.slice (some ⟨za, 0, none⟩) nE.length mI) (.slice pM nH.length pO) mH nE nH) /\ (NT.mk kp (.slice (some ⟨y9, 0, none⟩) mH.length lY) (.slice (some ⟨za, 0, none⟩) nE.length mI) (.slice pM nH.length pO) mH nE nH).p = kp) := ⟨hk, rfl⟩
 have HKV := A_ Sk
 have Xh := A_ IX
 have HKK := A_ (And.intro hkk PU)
 have h5 : 5 <= nE.length /\ nE.length <= 1000 := by omega
 have h6 : i <= tvs.length /\ tvs.length <= 1000 := by omega
 clear Sl Sm h0 hbs hk Sk IX hkk
 obtain ⟨x, hx⟩ : ∃ x, bP mH 2 = x := ⟨_, rfl⟩
 have Hx : af (2 < mH.length /\ bP mH 2 = x) := ⟨by omega, hx⟩
 clear hx
 obtain ⟨y, hy⟩ : ∃ x, bP nE 2 = x := ⟨_, rfl⟩
 have Hy : af (2 < nE.length /\ bP nE 2 = y) := ⟨by omega, hy⟩
 clear hy
 obtain ⟨l1, wK⟩ := rM (mH.drop 3)
 obtain ⟨l2, y8⟩ := rM (nE.drop 3)
 obtain ⟨l3, IZ⟩ := rM (mH.take 2)
 obtain ⟨l4, Km⟩ := rM (nE.take 2)
 obtain ⟨l5, Kn⟩ := rM (aI tks i x)
 obtain ⟨l6, Ko⟩ := rM (aI tvs i y)
 go_enter Try.func109, Try.ntmps109
 have b7 := dJ (0 <= (i : Int))
 have b8 := dJ ((i : Int) < (bq.length : Int))
 have b9 := dJ (i < bq.length)
 have fO := (aa.z2 HS.out 0 rfl)
 have vF := (lC (aa.iZ HS.out 3 rfl) HK.out)
 go_upto_region 1 with fail
 clear fO vF
 have c10 := kT ((mH.length : Int) <= (4 : Int))
 have fO := (aa.z0 HS.out 5 rfl)
 go_upto_region 2 with fail
 clear fO
 obtain ⟨P7, lX, _, o9, _⟩ := info_parts dh
 have Bu := qy (P := Try.prog) 38 9 .i64 Try.underlying38 lX 1 o9 (some ⟨y9, 0, none⟩) mH.length lY 3 (by omega) (by omega)
 simp only [show ((3 : Int)).toNat = 3 from by omega] at Bu
 obtain ⟨Xd, EJ⟩ : ∃ A : Option Addr, A = (if lY = 3 then (some ⟨y9, 0, none⟩) else ((some ⟨y9, 0, none⟩) : Option Addr).map (·.add (3 * 1))) := ⟨_, rfl⟩
 obtain ⟨c13, SS⟩ : ∃ c, c = lY - 3 := ⟨_, rfl⟩
 rw [<- EJ, <- SS] at Bu
 have HA12 := A_ EJ
 have Hc13 := A_ SS
 clear EJ SS
 clear lX o9
 obtain ⟨P7, lX, _, o9, _⟩ := info_parts dh
 have Br := qy (P := Try.prog) 38 9 .i64 Try.underlying38 lX 1 o9 (some ⟨za, 0, none⟩) nE.length mI 3 (by omega) (by omega)
 simp only [show ((3 : Int)).toNat = 3 from by omega] at Br
 obtain ⟨A17, SV⟩ : ∃ A : Option Addr, A = (if mI = 3 then (some ⟨za, 0, none⟩) else ((some ⟨za, 0, none⟩) : Option Addr).map (·.add (3 * 1))) := ⟨_, rfl⟩
 obtain ⟨c18, hc18⟩ : ∃ c, c = mI - 3 := ⟨_, rfl⟩
 rw [<- SV, <- hc18] at Br
 have HA17 := A_ SV
 have Hc18 := A_ hc18
 clear SV hc18
 clear lX o9
 refine dz (n := 15) (S := fun w' => w'.cell? ⟨kp, 0, none⟩ = some (.slice (some ⟨y9, 0, none⟩) mH.length lY) /\ w'.cell? ⟨kp, 1, none⟩ = some (.slice (some ⟨za, 0, none⟩) nE.length mI)) (ds := []) (bt 15 0) (by kernel_rfl) rfl rfl ⟨(aa.z0 (aa.drew HS.out) 5 rfl), (aa.z1 (aa.drew HS.out) 5 rfl)⟩ (fun hHeld => ?_)
 refine aV 0 19 1 ?_
 refine aV 1 20 3 ?_
 refine aV 2 21 7 ?_
 refine aV 6 25 71 ?_
 refine aV 7 26 199 ?_
 refine aV 8 27 455 ?_
 refine ik 3 22 463 hHeld ?_
 refine aV 4 23 479 ?_
 refine ik 9 28 991 hHeld ?_
 refine aV 10 29 2015 ?_
 refine jg 5 (some 24) 2047 (fun K hK => ?_)
 refine uj Try.func74 #[.slice Xd (mH.length - 3) c13] ?_
 with_reducible refine (M0 (aa.drew HS.out) 6 rfl 3 (by omega) HA12.out Hc13.out wK.out rfl (by omega)).mono ?_
 rintro e w2 ⟨iy, rfl, ho, hb⟩
 refine ⟨_, rfl, ?_⟩
 obtain ⟨P8, c15, rfl⟩ := Kd.av ho
 have aj := lu (aa.gJ (aa.drew HS.out) hb (dS dE HB) ho)
 have az : af (Below base w w2) := ⟨((aH HB.out)).trans (hb.mono (dS dE HB))⟩
 clear HS HB ho hb; have HS := aj; have HB := az; clear aj az
 refine hK.out _ _ ⟨(aa.z0 HS.out 5 rfl), (aa.z1 HS.out 5 rfl)⟩ (fun hHeld => ?_)
 clear hK K
 refine eF 24 ?_
 refine jg 11 (some 30) 4095 (fun K hK => ?_)
 refine uj Try.func74 #[.slice A17 (nE.length - 3) c18] ?_
 with_reducible refine (M0 HS.out 7 rfl 3 (by omega) HA17.out Hc18.out y8.out rfl (by omega)).mono ?_
 rintro e w3 ⟨iy, rfl, ho, hb⟩
 refine ⟨_, rfl, ?_⟩
 obtain ⟨P9, c20, rfl⟩ := Kd.av ho
 have aj := lu (aa.gJ HS.out hb (dS dE HB) ho)
 have az : af (Below base w w3) := ⟨(HB.out).trans (hb.mono (dS dE HB))⟩
 clear HS HB ho hb; have HS := aj; have HB := az; clear aj az
 refine hK.out _ _ ⟨(aa.z0 HS.out 5 rfl), (aa.z1 HS.out 5 rfl)⟩ (fun hHeld => ?_)
 clear hK K
 refine eF 30 ?_
 refine aV 12 31 8191 ?_
 refine jg 13 (some 32) 16383 (fun K hK => ?_)
 refine gV (by rfl) (N := 32) rfl (cs := #[.slice P8 l1.length c15, .slice P9 l2.length c20, .slice none 0 0]) (t := 101) ?hr ?_
 (case hr => first | (go_simp; done) | (go_simp; rfl))
 intro g21 hg w4 aC hb
 have aj := lu (aa.gI HS.out hg aC hb (dS dE HB))
 have az : af (Below base w w4) := ⟨(HB.out).trans (hb.mono (dS dE HB))⟩
 clear HS HB hg aC hb; have HS := aj; have HB := az; clear aj az
 refine hK.out _ _ ⟨(aa.z0 HS.out 5 rfl), (aa.z1 HS.out 5 rfl)⟩ (fun hHeld => ?_)
 clear hK K
 refine eF 32 ?_
 refine aV 14 5 32767 ?_
 refine fu (by kernel_rfl) ?_
 clear Bu Br
 go_upto_region 3 with fail
 have b22 := dJ ((2 : Int) < (mH.length : Int))
 have b23 := dJ (2 < mH.length)
 have b24 := dJ ((2 : Int) < (nE.length : Int))
 have Wj := dJ (2 < nE.length)
 refine dz (n := 15) (S := fun w' => w'.cell? ⟨kp, 0, none⟩ = some (.slice (some ⟨y9, 0, none⟩) mH.length lY) /\ w'.cell? ⟨y9, 2, none⟩ = some (.string x) /\ w'.cell? ⟨kp, 1, none⟩ = some (.slice (some ⟨za, 0, none⟩) nE.length mI) /\ w'.cell? ⟨za, 2, none⟩ = some (.string y)) (ds := []) (bt 15 0) (by kernel_rfl) rfl rfl ⟨(aa.z0 (aa.drew HS.out) 5 rfl), (jF (aa.sr (aa.drew HS.out) 6 rfl) Hx.out), (aa.z1 (aa.drew HS.out) 5 rfl), (jF (aa.sr (aa.drew HS.out) 7 rfl) Hy.out)⟩ (fun hHeld => ?_)
 refine aV 0 33 1 ?_
 refine aV 1 34 3 ?_
 refine aV 2 35 7 ?_
 refine aV 3 36 15 ?_
 refine aV 4 37 31 ?_
 refine aV 8 41 287 ?_
 refine aV 9 42 799 ?_
 refine aV 10 43 1823 ?_
 refine ik 5 38 1855 hHeld ?_
 refine aV 6 39 1919 ?_
 refine ik 7 40 2047 hHeld ?_
 refine ik 11 44 4095 hHeld ?_
 refine aV 12 45 8191 ?_
 refine ik 13 46 16383 hHeld ?_
 refine jg 14 (some 47) 32767 (fun K hK => ?_)
 have hq_ := Mt (aa.iN (aa.drew HS.out) [0, 1, 2, 3, 4, 5, 6, 7, 8, 9, 10, 11, 12, 13, 14] (by decide))
 refine uj Try.func126 #[bG tp, .int .i64 (i : Int), .string x, .string y] ?_
 with_reducible refine (xZ.calls (i := i) (x := x) (y := y) (by omega) (by omega) (by omega) (by omega) base _ _ hq_ (dS dE HB)).mono ?_
 rintro e w5 ⟨rfl, QM, QN, QO, QP, hs_, yo⟩
 refine ⟨_, rfl, ?_⟩
 rw [<- Kn.out, <- Ko.out] at hs_
 have aj := lu hs_
 have az : af (Below base w w5) := ⟨((aH HB.out)).trans yo⟩
 clear HS HB hs_ yo hq_; have HS := aj; have HB := az; clear aj az
 refine hK.out _ _ ⟨(aa.z0 HS.out 5 rfl), (jF (aa.sr HS.out 6 rfl) Hx.out), (aa.z1 HS.out 5 rfl), (jF (aa.sr HS.out 7 rfl) Hy.out)⟩ (fun hHeld => ?_)
 clear hK K
 refine eF 47 ?_
 refine fu (by kernel_rfl) ?_
 go_upto_region 4 with fail
 obtain ⟨P7, lX, _, o9, _⟩ := info_parts dh
 have hcut30 := nI (P := Try.prog) 38 9 .i64 Try.underlying38 lX (some ⟨y9, 0, none⟩) mH.length lY 2 (by omega) (by omega) (aa.row HS.out 6 rfl).2.1
 simp only [show ((2 : Int)).toNat = 2 from by omega] at hcut30
 clear lX o9
 obtain ⟨P7, lX, _, o9, _⟩ := info_parts dh
 have hcut31 := nI (P := Try.prog) 38 9 .i64 Try.underlying38 lX (some ⟨za, 0, none⟩) nE.length mI 2 (by omega) (by omega) (aa.row HS.out 7 rfl).2.1
 simp only [show ((2 : Int)).toNat = 2 from by omega] at hcut31
 clear lX o9
 have zs0 := aa.z0 (aa.drew HS.out) 5 rfl
 have kS := aa.f (aa.drew HS.out) 5 rfl 0
 have zs1 := aa.z1 (aa.drew HS.out) 5 rfl
 have fs1 := aa.f (aa.drew HS.out) 5 rfl 1
 have zs0x := aa.z0 HS.out 5 rfl
 have fs0x := aa.f HS.out 5 rfl 0
 have zs1x := aa.z1 HS.out 5 rfl
 have fs1x := aa.f HS.out 5 rfl 1
 refine dz (n := 18) (S := fun w' => w'.cell? ⟨kp, 0, none⟩ = some (.slice (some ⟨y9, 0, none⟩) mH.length lY) /\ w'.cell? ⟨kp, 1, none⟩ = some (.slice (some ⟨za, 0, none⟩) nE.length mI)) (ds := [14, 17]) (bt 18 0) (by kernel_rfl) rfl rfl ⟨(aa.z0 (aa.drew HS.out) 5 rfl), (aa.z1 (aa.drew HS.out) 5 rfl)⟩ (fun hHeld => ?_)
 refine aV 0 48 1 ?_
 refine aV 1 49 3 ?_
 refine aV 2 50 7 ?_
 refine aV 3 51 15 ?_
 refine aV 4 52 31 ?_
 refine aV 7 55 159 ?_
 refine aV 8 56 415 ?_
 refine aV 9 57 927 ?_
 refine ik 5 53 959 hHeld ?_
 refine aV 6 54 1023 ?_
 refine ik 10 58 2047 hHeld ?_
 refine aV 11 59 4095 ?_
 refine aV 12 60 8191 ?_
 refine aV 13 61 16383 ?_
 refine wW 14 none 32767 (fun K hK => ?_)
 refine iU (w1 := ?_) (by rfl) rfl ?_ ?_
 rotate_left
 ·go_simp
  rfl
 refine hK.out _ _ ?_
 clear hK K
 refine aV 15 62 65535 ?_
 refine aV 16 63 131071 ?_
 refine wW 17 none 262143 (fun K hK => ?_)
 refine iU (w1 := ?_) (by rfl) rfl ?_ ?_
 rotate_left
 ·go_simp
  rfl
 refine hK.out _ _ ?_
 clear hK K
 refine fu (by kernel_rfl) ?_
 have aj := gK (World.drew (World.setCell (World.setCell w5 ⟨kp, 0, none⟩ (.slice (some ⟨y9, 0, none⟩) 2 lY)) ⟨kp, 1, none⟩ (.slice (some ⟨za, 0, none⟩) 2 mI))) (yS (aa.yD (yS (aa.yC (aa.drew HS.out) 5 rfl (.slice (some ⟨y9, 0, none⟩) 2 lY)) 6 rfl IZ.out (by omega)) 5 rfl (.slice (some ⟨za, 0, none⟩) 2 mI)) 7 rfl Km.out (by omega))
 have az : af (Below base w (World.drew (World.setCell (World.setCell w5 ⟨kp, 0, none⟩ (.slice (some ⟨y9, 0, none⟩) 2 lY)) ⟨kp, 1, none⟩ (.slice (some ⟨za, 0, none⟩) 2 mI)))) := ⟨(((aH HB.out)).setCell (p := ⟨kp, 0, none⟩) (aa.ge (aa.drew HS.out) 5 rfl) _).setCell (p := ⟨kp, 1, none⟩) (aa.ge (aa.drew HS.out) 5 rfl) _⟩
 generalize World.drew (World.setCell (World.setCell w5 ⟨kp, 0, none⟩ (.slice (some ⟨y9, 0, none⟩) 2 lY)) ⟨kp, 1, none⟩ (.slice (some ⟨za, 0, none⟩) 2 mI)) = w6 at aj az ⊢
 clear HS HB zs0 kS zs1 fs1 zs0x fs0x zs1x fs1x; have HS := aj; have HB := az; clear aj az
 clear hcut30 hcut31
 go_upto_region 5 with fail
 by_cases rT : nH.length = 0
 ·skip
  have hl0 : nH = [] := List.length_eq_zero_iff.1 rT
  have Vs := A_ hl0
  clear hl0
  have BA := A_ ((aa.iN HS.out [5, 6, 7, 8, 9] (by decide)).Qr)
  have hbl := A_ (show decide (((NT.mk kp (.slice (some ⟨y9, 0, none⟩) 2 lY) (.slice (some ⟨za, 0, none⟩) 2 mI) (.slice pM nH.length pO) l3 l4 nH).erase.kids.length : Int) = 0) = true from decide_eq_true (by show ((NT.aQ nH).length : Int) = 0; rw [aK, List.length_map]; omega))
  go_upto_region 8 with (first | (go_at_call 99; (with_reducible refine (gL.dA true hbl.out _ ?aD).mono ?_); (case aD => repeat (first | exact BA.out | (with_reducible refine Rd.drewN ?_ _) | (with_reducible refine Rd.drew ?_))); rintro e w' ⟨rfl, ⟨nd, rfl⟩⟩))
  generalize hW : World.drewN _ _ = w7
  have aj : af (aa w7 base [mM 101 tp QM l5.length QN QO l6.length QP (some lI) bq.length iM, iT QM QN l5, iT QO QP l6, qm 74 (some lI) iM bq, GA, mM 101 kp (jV y9) 2 lY (jV za) 2 mI pM nH.length pO, xW (jV y9) 2 lY l3, xW (jV za) 2 mI l4, qm 74 pM pO nH, (NT.bE 101 74 nH), GD, L, iT P8 c15 l1, iT P9 c20 l2, mM 101 g21 P8 l1.length c15 P9 l2.length c20 none 0 0]) := ⟨by rw [<- hW]; exact aa.drewN HS.out _⟩
  have az : af (Below base w w7) := ⟨by rw [<- hW]; exact ah HB.out _⟩
  clear HS HB BA hbl hW; have HS := aj; have HB := az; clear aj az
  obtain ⟨rn, hrn⟩ : ∃ r, r = NT.mk g21 (.slice P8 l1.length c15) (.slice P9 l2.length c20) (.slice none 0 0) l1 l2 [] := ⟨_, rfl⟩
  have SX := A_ hrn
  have SY : af (rn.p = g21) := ⟨by rw [hrn]; rfl⟩
  clear hrn
  obtain ⟨He, I1⟩ := rM (aI bq (i + 1) rn)
  have fO := (aa.z2 HS.out 0 rfl)
  go_wp2_with (first | ((with_reducible refine dN (N := 92) rfl ?_); refine Kd.kH eT (w0 := w) base 74 ?hg (N := 92) ?hd (xs := [g21]) (inner := [bG g21]) (ok := fun _ => True) (okp := fun _ => False) ?hr (Kd.aX (enc := bG) [g21]) (fun _ h => h.elim) trivial HB.out (dS dE HB) (by simp) ?_; (case hd => rfl); (case hg => rfl); (case hr => first | (go_simp; done) | (go_simp; rfl)); intro v33 w8 ho hb hg hn; obtain ⟨A34, c35, rfl⟩ : ∃ A c, v33 = .slice A 1 c := Kd.av ho; have aj := lu (aa.DZ HS.out (tO ho) hg hn); have az : af (Below base w w8) := ⟨hb⟩; clear HS HB ho hb hg hn; have HS := aj; have HB := az; clear aj az; clear fO; have fO := (aa.z2 HS.out 0 rfl)) | (go_at_call 128; (with_reducible refine (JY (ia := 3) (ib := 15) (i := (i + 1)) (r := rn) HS.out (by omega) rfl rfl SY.out (by decide) (by omega) (dS dE HB) (by omega) HB.out).mono ?_); rintro e w9 ⟨Vt, c37, rfl, hs_, yo⟩; rw [<- I1.out] at hs_; rw [<- I1.out]; have aj := lu hs_; have az : af (Below base w w9) := ⟨yo⟩; clear HS HB hs_ yo; have HS := aj; have HB := az; clear aj az; clear fO; have fO := (aa.z2 HS.out 0 rfl); have zs0 := aa.z2 HS.out 0 rfl; have kS := aa.f HS.out 0 rfl 2))
  have aj := gK (World.setCell w9 ⟨tp, 2, none⟩ (.slice Vt He.length c37)) (aa.vY HS.out 0 rfl (.slice Vt He.length c37))
  have az : af (Below base w (World.setCell w9 ⟨tp, 2, none⟩ (.slice Vt He.length c37))) := ⟨(HB.out).setCell (p := ⟨tp, 2, none⟩) (aa.ge HS.out 0 rfl) _⟩
  generalize World.setCell w9 ⟨tp, 2, none⟩ (.slice Vt He.length c37) = uK at aj az ⊢
  clear HS HB fO zs0 kS; have HS := aj; have HB := az; clear aj az
  go_end0
  have HS2 := A_ (aa.zz HS.out 74)
  clear HS
  have HS := HS2
  clear HS2
  have hS := Mt (aa.iN HS.out [0, 1, 2, 3, 4, 5, 6, 7, 8, 9, 14, 12, 13, 16, 10, 11] (by decide))
  obtain ⟨k', hk'⟩ : ∃ k', k' = NT.mk kp (.slice (some ⟨y9, 0, none⟩) 2 lY) (.slice (some ⟨za, 0, none⟩) 2 mI) (.slice pM nH.length pO) l3 l4 nH := ⟨_, rfl⟩
  have hq := wy (k' := k') (r := rn) HK.out.1 (by rw [hk']; rfl)
  rw [<- I1.out] at hq
  refine ⟨rfl, NT.mk tp (.slice QM l5.length QN) (.slice QO l6.length QP) (.slice Vt He.length c37) l5 l6 (aI (bq.set i k') (i + 1) rn), rfl, ?_, ?_, HB.out⟩
  ·rw [HRR.out]
   show PT.mk _ _ (NT.aQ (aI (bq.set i k') (i + 1) rn)) = _
   rw [qX, hk', SX.out]
   have LK := wK.out
   subst LK
   have LM := y8.out
   subst LM
   have LP := IZ.out
   subst LP
   have LQ := Km.out
   subst LQ
   have LU := Kn.out
   subst LU
   have LV := Ko.out
   subst LV
   have ex := Hx.out.2
   have ey := Hy.out.2
   subst ex
   subst ey
   unfold splitK
   simp only [NT.erase, PT.keys, PT.vals, PT.kids, aK, List.map_take, List.map_drop, bP]
   have e0 := Vs.out
   subst e0
   simp
  ·rw [NT.dI, vS uu.out, hk', SX.out, NT.dI, NT.dI, <- Va.out, <- Vb.out]
   rw [hk', SX.out] at hq
   rw [hq]
   unfold aa at hS
   simp only [List.flatten_cons, List.flatten_nil, List.append_nil, List.cons_append, List.nil_append, List.append_assoc, NT.bE] at hS ⊢
   exact hS
 ·skip
  have hc3 : 3 <= nH.length := by have := HKK.out; omega
  have BA := A_ ((aa.iN HS.out [5, 6, 7, 8, 9] (by decide)).Qr)
  have hbl := A_ (show decide (((NT.mk kp (.slice (some ⟨y9, 0, none⟩) 2 lY) (.slice (some ⟨za, 0, none⟩) 2 mI) (.slice pM nH.length pO) l3 l4 nH).erase.kids.length : Int) = 0) = false from decide_eq_false (by show ((NT.aQ nH).length : Int) ≠ 0; rw [aK, List.length_map]; omega))
  go_upto_region 6 with (first | (go_at_call 99; (with_reducible refine (gL.dA false hbl.out _ ?aD).mono ?_); (case aD => repeat (first | exact BA.out | (with_reducible refine Rd.drewN ?_ _) | (with_reducible refine Rd.drew ?_))); rintro e w' ⟨rfl, ⟨nd, rfl⟩⟩))
  generalize hW : World.drewN _ _ = w7
  have aj : af (aa w7 base [mM 101 tp QM l5.length QN QO l6.length QP (some lI) bq.length iM, iT QM QN l5, iT QO QP l6, qm 74 (some lI) iM bq, GA, mM 101 kp (jV y9) 2 lY (jV za) 2 mI pM nH.length pO, xW (jV y9) 2 lY l3, xW (jV za) 2 mI l4, qm 74 pM pO nH, (NT.bE 101 74 nH), GD, L, iT P8 c15 l1, iT P9 c20 l2, mM 101 g21 P8 l1.length c15 P9 l2.length c20 none 0 0]) := ⟨by rw [<- hW]; exact aa.drewN HS.out _⟩
  have az : af (Below base w w7) := ⟨by rw [<- hW]; exact ah HB.out _⟩
  clear HS HB BA hbl hW; have HS := aj; have HB := az; clear aj az
  obtain ⟨He, I1⟩ := rM (nH.drop 3)
  obtain ⟨Wl, S9⟩ := rM (nH.take 3)
  obtain ⟨P7, lX, _, o9, _⟩ := info_parts pU
  have xN := qy (P := Try.prog) 99 74 .i64 yN lX 1 o9 pM nH.length pO 3 (by omega) (by omega)
  simp only [show ((3 : Int)).toNat = 3 from by omega] at xN
  obtain ⟨A35, Ta⟩ : ∃ A : Option Addr, A = (if pO = 3 then pM else (pM : Option Addr).map (·.add (3 * 1))) := ⟨_, rfl⟩
  obtain ⟨c36, Tc⟩ : ∃ c, c = pO - 3 := ⟨_, rfl⟩
  rw [<- Ta, <- Tc] at xN
  have HA35 := A_ Ta
  have Hc36 := A_ Tc
  clear Ta Tc
  clear lX o9
  have fO := (aa.z2 HS.out 5 rfl)
  go_upto_region 7 with (first | (go_at_call 127; (with_reducible refine (Rp HS.out 8 rfl 3 (by omega) HA35.out Hc36.out I1.out rfl (by omega)).mono ?_); rintro e w8 ⟨iy, rfl, ho, hb⟩; obtain ⟨Td, PW, yn⟩ := Kd.av ho; rw [List.length_map] at yn; subst yn; have aj := lu (aa.wZ HS.out hb (dS dE HB) ho); have az : af (Below base w w8) := ⟨(HB.out).trans (hb.mono (dS dE HB))⟩; clear HS HB ho hb; have HS := aj; have HB := az; clear aj az; clear fO; have fO := (aa.z2 HS.out 5 rfl); have zs0 := aa.z2 HS.out 14 rfl; have kS := aa.f HS.out 14 rfl 2))
  have aj := gK (World.setCell w8 ⟨g21, 2, none⟩ (.slice Td He.length PW)) (aa.vY HS.out 14 rfl (.slice Td He.length PW))
  have az : af (Below base w (World.setCell w8 ⟨g21, 2, none⟩ (.slice Td He.length PW))) := ⟨(HB.out).setCell (p := ⟨g21, 2, none⟩) (aa.ge HS.out 14 rfl) _⟩
  generalize World.setCell w8 ⟨g21, 2, none⟩ (.slice Td He.length PW) = w9 at aj az ⊢
  clear HS HB fO zs0 kS; have HS := aj; have HB := az; clear aj az
  clear xN
  obtain ⟨P7, lX, _, o9, _⟩ := info_parts pU
  have hcut39 := nI (P := Try.prog) 99 74 .i64 yN lX pM nH.length pO 3 (by omega) (by omega) (aa.iZ HS.out 8 rfl).2.1
  simp only [show ((3 : Int)).toNat = 3 from by omega] at hcut39
  clear lX o9
  have fO := (aa.z2 HS.out 5 rfl)
  have zs0 := aa.z2 HS.out 5 rfl
  have kS := aa.f HS.out 5 rfl 2
  go_upto_region 8 with fail
  have aj := gK (World.setCell w9 ⟨kp, 2, none⟩ (.slice pM 3 pO)) (JI (aa.vY HS.out 5 rfl (.slice pM 3 pO)) 8 rfl S9.out (by omega))
  have az : af (Below base w (World.setCell w9 ⟨kp, 2, none⟩ (.slice pM 3 pO))) := ⟨(HB.out).setCell (p := ⟨kp, 2, none⟩) (aa.ge HS.out 5 rfl) _⟩
  generalize World.setCell w9 ⟨kp, 2, none⟩ (.slice pM 3 pO) = uK at aj az ⊢
  clear HS HB fO zs0 kS; have HS := aj; have HB := az; clear aj az
  clear hcut39
  have Vu : af (NT.bE 101 74 nH = NT.bE 101 74 Wl ++ NT.bE 101 74 He) := ⟨by rw [S9.out, I1.out, <- iC, List.take_append_drop]⟩
  have aj : af (aa uK base [mM 101 tp QM l5.length QN QO l6.length QP (some lI) bq.length iM, iT QM QN l5, iT QO QP l6, qm 74 (some lI) iM bq, GA, mM 101 kp (jV y9) 2 lY (jV za) 2 mI pM 3 pO, xW (jV y9) 2 lY l3, xW (jV za) 2 mI l4, Wv 74 pM 3 pO Wl, (NT.bE 101 74 Wl), GD, L, iT P8 c15 l1, iT P9 c20 l2, mM 101 g21 P8 l1.length c15 P9 l2.length c20 Td He.length PW, qm 74 Td PW He, (NT.bE 101 74 He)]) := ⟨aa.cut HS.out 9 (congrArg some Vu.out)⟩
  have az : af (Below base w uK) := ⟨HB.out⟩
  clear HS HB; have HS := aj; have HB := az; clear aj az
  obtain ⟨rn, hrn⟩ : ∃ r, r = NT.mk g21 (.slice P8 l1.length c15) (.slice P9 l2.length c20) (.slice Td He.length PW) l1 l2 He := ⟨_, rfl⟩
  have SX := A_ hrn
  have SY : af (rn.p = g21) := ⟨by rw [hrn]; rfl⟩
  clear hrn
  obtain ⟨Vv, Te⟩ := rM (aI bq (i + 1) rn)
  have fO := (aa.z2 HS.out 0 rfl)
  go_wp2_with (first | ((with_reducible refine dN (N := 92) rfl ?_); refine Kd.kH eT (w0 := w) base 74 ?hg (N := 92) ?hd (xs := [g21]) (inner := [bG g21]) (ok := fun _ => True) (okp := fun _ => False) ?hr (Kd.aX (enc := bG) [g21]) (fun _ h => h.elim) trivial HB.out (dS dE HB) (by simp) ?_; (case hd => rfl); (case hg => rfl); (case hr => first | (go_simp; done) | (go_simp; rfl)); intro v41 xM ho hb hg hn; obtain ⟨Kq, Kr, rfl⟩ : ∃ A c, v41 = .slice A 1 c := Kd.av ho; have aj := lu (aa.DZ HS.out (tO ho) hg hn); have az : af (Below base w xM) := ⟨hb⟩; clear HS HB ho hb hg hn; have HS := aj; have HB := az; clear aj az; clear fO; have fO := (aa.z2 HS.out 0 rfl)) | (go_at_call 128; (with_reducible refine (JY (ia := 3) (ib := 17) (i := (i + 1)) (r := rn) HS.out (by omega) rfl rfl SY.out (by decide) (by omega) (dS dE HB) (by omega) HB.out).mono ?_); rintro e ym ⟨Vw, Vx, rfl, hs_, yo⟩; rw [<- Te.out] at hs_; rw [<- Te.out]; have aj := lu hs_; have az : af (Below base w ym) := ⟨yo⟩; clear HS HB hs_ yo; have HS := aj; have HB := az; clear aj az; clear fO; have fO := (aa.z2 HS.out 0 rfl); have zs0 := aa.z2 HS.out 0 rfl; have kS := aa.f HS.out 0 rfl 2))
  have aj := gK (World.setCell ym ⟨tp, 2, none⟩ (.slice Vw Vv.length Vx)) (aa.vY HS.out 0 rfl (.slice Vw Vv.length Vx))
  have az : af (Below base w (World.setCell ym ⟨tp, 2, none⟩ (.slice Vw Vv.length Vx))) := ⟨(HB.out).setCell (p := ⟨tp, 2, none⟩) (aa.ge HS.out 0 rfl) _⟩
  generalize World.setCell ym ⟨tp, 2, none⟩ (.slice Vw Vv.length Vx) = DD at aj az ⊢
  clear HS HB fO zs0 kS; have HS := aj; have HB := az; clear aj az
  go_end0
  have hS := Mt (aa.iN HS.out [0, 1, 2, 3, 4, 5, 6, 7, 8, 9, 14, 12, 13, 15, 16, 10, 11] (by decide))
  obtain ⟨k', hk'⟩ : ∃ k', k' = NT.mk kp (.slice (some ⟨y9, 0, none⟩) 2 lY) (.slice (some ⟨za, 0, none⟩) 2 mI) (.slice pM 3 pO) l3 l4 Wl := ⟨_, rfl⟩
  have hq := wy (k' := k') (r := rn) HK.out.1 (by rw [hk']; rfl)
  rw [<- Te.out] at hq
  refine ⟨rfl, NT.mk tp (.slice QM l5.length QN) (.slice QO l6.length QP) (.slice Vw Vv.length Vx) l5 l6 (aI (bq.set i k') (i + 1) rn), rfl, ?_, ?_, HB.out⟩
  ·rw [HRR.out]
   show PT.mk _ _ (NT.aQ (aI (bq.set i k') (i + 1) rn)) = _
   rw [qX, hk', SX.out]
   have LK := wK.out
   subst LK
   have LM := y8.out
   subst LM
   have LP := IZ.out
   subst LP
   have LQ := Km.out
   subst LQ
   have LU := Kn.out
   subst LU
   have LV := Ko.out
   subst LV
   have el32 := I1.out
   subst el32
   have el33 := S9.out
   subst el33
   have ex := Hx.out.2
   have ey := Hy.out.2
   subst ex
   subst ey
   unfold splitK
   simp only [NT.erase, PT.keys, PT.vals, PT.kids, aK, List.map_take, List.map_drop, bP]
  ·rw [NT.dI, vS uu.out, hk', SX.out, NT.dI, NT.dI, <- Va.out, <- Vb.out]
   rw [hk', SX.out] at hq
   rw [hq]
   unfold aa at hS
   simp only [List.flatten_cons, List.flatten_nil, List.append_nil, List.cons_append, List.nil_append, List.append_assoc, NT.bE] at hS ⊢
   exact hS
set_option maxHeartbeats 8000000
set_option maxRecDepth 100000
open Go.Proofs.Ytoddejmlcnbdmaa.Pure (kJ aW)
theorem Pq (K : List ByteArray) (key : ByteArray) (hK : K.length <= 1000) (hs : Go.Proofs.Ytoddejmlcnbdmaa.Pure.BZ K) : ∃ k, fT.f k K key = some (dm key K : Int) := by
 obtain ⟨b, h⟩ := Go.Proofs.Ytoddejmlcnbdmaa.Pure.Fz K key (by omega) hs
 exact ⟨b, h b (Nat.le_refl _)⟩
theorem M3.calls (key val : ByteArray) : ∀ (n : Nat) (t : NT), t.erase.big <= n -> kC t.erase -> kJ (aW t.erase) -> ∀ (base : Nat) (L : List Ck) (w : World), Sat w base (t.dI 101 74 ++ L) -> base <= w.heap.size ->
  Calls Try.prog 108 #[bG t.p, .string key, .string val] w (WR w base 101 74 t L (kE n t.erase key val)) := by
 intro n
 induction n with
 | zero =>
  intro t hb
  exact absurd t.erase.eH (by omega)
 | succ n ih =>
  intro t hbig hbd hsrt base L w hs hbs
  have hrd := jI hs.left
  have hsk : Go.Proofs.Ytoddejmlcnbdmaa.Pure.BZ t.erase.keys := Go.Proofs.Ytoddejmlcnbdmaa.Pure.oH ((Go.Proofs.Ytoddejmlcnbdmaa.Pure.ng (Go.Proofs.Ytoddejmlcnbdmaa.Pure.bJ hbd)).2 hsrt)
  have hsc : ∀ (s : PT) (j : Nat), t.erase.kids[j]? = some s -> j <= t.erase.keys.length -> kJ (aW s) := fun s j hx hj => Go.Proofs.Ytoddejmlcnbdmaa.Pure.lM hbd hsrt hx hj
  clear hsrt
  obtain ⟨⟨ho1, ho2, ho3⟩, qf⟩ := bL.1 hbd
  have h0 := fF hs
  obtain ⟨R, hR⟩ : ∃ R, R = kE (n + 1) t.erase key val := ⟨_, rfl⟩
  rw [<- hR]
  cases t with | mk tp EZ E8 E9 tks tvs bq =>
  have e0 : (NT.mk tp EZ E8 E9 tks tvs bq).erase = .mk tks tvs (NT.aQ bq) := rfl
  rw [e0] at hrd hbig hbd ho1 ho2 ho3 qf hR hsk hsc
  replace hrd : Rd 101 w tp (PT.mk tks tvs (NT.aQ bq)) := hrd
  unfold kW at h0
  simp only [NT.keys, NT.vals, NT.kids, NT.p, NT.kv, NT.vv, NT.cv] at h0 ⊢
  simp only [PT.keys, PT.vals, PT.kids] at ho1 ho2 ho3 qf hsk hsc
  have Xy := A_ hsc
  obtain ⟨kf, Xz⟩ := Pq tks key (by omega) hsk
  clear hsk hsc
  obtain ⟨i, hi⟩ : ∃ i, dm key tks = i := ⟨_, rfl⟩
  rw [kE] at hR
  simp only [PT.keys, PT.vals, PT.kids] at hR
  simp only [hi] at hR
  rw [hi] at Xz
  have Lt := A_ Xz
  clear Xz
  have hle : i <= tks.length := by rw [<- hi]; exact kU key tks
  have HM := A_ (show (PT.mk tks tvs (NT.aQ bq)).keys.length <= 1000000000000 by show tks.length <= _; omega)
  have HI := A_ (show dm key (PT.mk tks tvs (NT.aQ bq)).keys = i from hi)
  have BF := A_ hrd
  have dE := A_ hbs
  have IX : tvs.length <= 4 := by omega
  have Kg := A_ ho1
  have hi4 : i <= 4 := by omega
  obtain ⟨kG, il, rfl⟩ := Kd.av (h0.sr 1 rfl)
  obtain ⟨kQ, iA, rfl⟩ := Kd.av (h0.sr 2 rfl)
  obtain ⟨sZ, iM, rfl, hlc, hC⟩ := dZ (h0.q 3 rfl)
  obtain ⟨GC, SA⟩ : ∃ G, G = NT.bE 101 74 bq := ⟨_, rfl⟩
  rw [<- SA] at h0
  have HS := A_ h0
  have PZ := A_ SA
  have HRW := A_ (aa.row h0 1 rfl)
  have hz0_ := aa.z0 h0 0 rfl
  clear h0 SA hrd hs hi hbs
  cases hb : iJ tks i key with
  | true =>
   have QQ := A_ (show iI.f tks (i : Int) key = some true from by rw [Go.Proofs.Ytoddejmlcnbdmaa.Pure.yR, hb])
   rw [if_pos hb] at hR
   have HR := A_ hR
   have hlt : i < tvs.length := by have := jZ hb; omega
   obtain ⟨gv, _, ev, hgv, _, _⟩ := Kd.q8 (HS.out.sr 2 rfl) (by omega)
   obtain rfl : kQ = some ⟨gv, 0, none⟩ := by injection ev
   have Xk := A_ hgv
   have hz1 := HS.out.z 0 rfl 1
   have hcv := zQ (HS.out.sr 2 rfl) i hlt
   have hfv := iK (HS.out.sr 2 rfl) (by omega) i
   have QD := dJ (0 <= (i : Int))
   have QE := dJ ((i : Int) < (tvs.length : Int))
   have Ui : (i < tvs.length) = True := eq_true hlt
   clear hb hR ev hgv ho1 ho3 qf hlc hC hbig hbd e0
   go_enter Try.func108, Try.ntmps108
   go_wp2_with (first | (go_at_call 73; (with_reducible refine (fT.calls kf _ _ tks key (i : Int) _ ?aD ?dR Lt.out).mono ?_); (case aD => repeat (first | exact HRW.out.2.2 | (with_reducible refine Kd.dC ?_ _) | (with_reducible refine Kd.gm ?_))); (case dR => exact HRW.out.2.1); rintro e w1 ⟨rfl, ⟨nd, rfl⟩⟩) | (go_at_call 101; (with_reducible refine (iI.calls _ _ tks (i : Int) key true _ ?aD ?dR QQ.out).mono ?_); (case aD => repeat (first | exact HRW.out.2.2 | (with_reducible refine Kd.dC ?_ _) | (with_reducible refine Kd.gm ?_))); (case dR => exact HRW.out.2.1); rintro e w1 ⟨rfl, ⟨nd, rfl⟩⟩))
   go_end0
   refine ⟨rfl, NT.mk tp (.slice kG tks.length il) (.slice (some ⟨gv, 0, none⟩) tvs.length iA) (.slice sZ bq.length iM) tks (tvs.set i val) bq, rfl, ?_, ?_, ?_⟩
   ·rw [HR.out]
    rfl
   ·have hS0 := fun m => aa.zH (aa.drewN HS.out m) 2 rfl i val
    simp only [List.length_set] at hS0
    refine ko ?_
    unfold kW
    simp only [NT.keys, NT.vals, NT.kids, NT.p, NT.kv, NT.vv, NT.cv]
    rw [<- PZ.out]
    exact hS0 _
   ·exact (ah (Below.refl base w) _).setCell (p := ⟨gv, i, none⟩) Xk.out _
  | false =>
   have QQ := A_ (show iI.f tks (i : Int) key = some false from by rw [Go.Proofs.Ytoddejmlcnbdmaa.Pure.yR, hb])
   rw [if_neg (by rw [hb]; decide)] at hR
   by_cases h0 : bq.length = 0
   ·rw [if_pos (by rw [aK, List.length_map]; exact h0)] at hR
    have HR := A_ hR
    have hbl := A_ (show decide ((((PT.mk tks tvs (NT.aQ bq)).kids.length : Nat) : Int) = 0) = true from decide_eq_true (by show ((NT.aQ bq).length : Int) = 0; rw [aK, List.length_map]; omega))
    have Ch := A_ (show i <= tks.length /\ tks.length <= 1000000000000 by omega)
    have HL2 := A_ (show i <= tvs.length /\ tvs.length <= 1000000000000 by omega)
    clear hb hR ho1 ho3 qf hlc hC hbig hbd e0 h0
    go_enter Try.func108, Try.ntmps108
    go_upto_region 6 with (first | (go_at_call 73; (with_reducible refine (fT.calls kf _ _ tks key (i : Int) _ ?aD ?dR Lt.out).mono ?_); (case aD => repeat (first | exact HRW.out.2.2 | (with_reducible refine Kd.dC ?_ _) | (with_reducible refine Kd.gm ?_))); (case dR => exact HRW.out.2.1); rintro e w1 ⟨rfl, ⟨nd, rfl⟩⟩) | (go_at_call 101; (with_reducible refine (iI.calls _ _ tks (i : Int) key false _ ?aD ?dR QQ.out).mono ?_); (case aD => repeat (first | exact HRW.out.2.2 | (with_reducible refine Kd.dC ?_ _) | (with_reducible refine Kd.gm ?_))); (case dR => exact HRW.out.2.1); rintro e w1 ⟨rfl, ⟨nd, rfl⟩⟩) | (go_at_call 99; (with_reducible refine (gL.dA true hbl.out _ ?aD).mono ?_); (case aD => repeat (first | exact BF.out | (with_reducible refine Rd.drewN ?_ _) | (with_reducible refine Rd.drew ?_))); rintro e w' ⟨rfl, ⟨nd, rfl⟩⟩))
    generalize hW : World.drewN _ _ = w2
    have aj : af (aa w2 base [mM 101 tp kG tks.length il kQ tvs.length iA sZ bq.length iM, iT kG il tks, iT kQ iA tvs, qm 74 sZ iM bq, GC, L]) := ⟨by rw [<- hW]; exact aa.drewN HS.out _⟩
    have az : af (Below base w w2) := ⟨by rw [<- hW]; exact ah (Below.refl base w) _⟩
    clear HS hW
    have HS := aj
    have HB := az
    clear aj az
    have yh := A_ (show aa w2 base ([.box 101 tp #[.slice kG tks.length il, .slice kQ tvs.length iA, .slice sZ bq.length iM]] :: [txt (.slice kG tks.length il) tks] :: [txt (.slice kQ tvs.length iA) tvs] :: [qm 74 sZ iM bq, GC, L]) from HS.out)
    go_wp2_with (first | (go_at_call 126; (with_reducible refine (xZ.calls (i := i) (x := key) (y := val) Ch.out.1 HL2.out.1 Ch.out.2 HL2.out.2 base _ _ yh.out (dS dE HB)).mono ?_); rintro e w3 ⟨rfl, EO, EP, ER, ES, hs_, yo⟩; clear HS yh; have az := A_ (HB.out.trans yo); clear HB; have HB := az; have HS := A_ hs_; clear hs_ yo az))
    go_end0
    refine ⟨rfl, NT.mk tp (.slice EO (aI tks i key).length EP) (.slice ER (aI tvs i val).length ES) (.slice sZ bq.length iM) (aI tks i key) (aI tvs i val) bq, rfl, ?_, ?_, HB.out⟩
    ·rw [HR.out]
     rfl
    ·refine ko ?_
     unfold kW
     simp only [NT.keys, NT.vals, NT.kids, NT.p, NT.kv, NT.vv, NT.cv]
     rw [<- PZ.out]
     exact HS.out
   ·have hkl : bq.length = tks.length + 1 := by
     rcases ho3 with h | h
     ·rw [aK, List.length_map] at h; exact absurd h h0
     ·rw [aK, List.length_map] at h; exact h
    obtain ⟨s, hsx⟩ : ∃ s, bq[i]? = some s := ⟨bq[i], List.getElem?_eq_getElem (by omega)⟩
    have hse : (NT.aQ bq)[i]? = some s.erase := by rw [aK, List.getElem?_map, hsx]; rfl
    rw [if_neg (by rw [aK, List.length_map]; exact h0)] at hR
    simp only [hse] at hR
    have hsb : kC s.erase := qf _ (List.mem_of_getElem? hse)
    have hsg : s.erase.big <= n := by
     have := PT.fH (t := PT.mk tks tvs (NT.aQ bq)) hse
     omega
    have hbl := A_ (show decide ((((PT.mk tks tvs (NT.aQ bq)).kids.length : Nat) : Int) = 0) = false from decide_eq_false (by show ((NT.aQ bq).length : Int) ≠ 0; rw [aK, List.length_map]; omega))
    have HR := A_ hR
    obtain ⟨SE, Xl⟩ : ∃ x, x = s.erase := ⟨_, rfl⟩
    have Ol := A_ hsb
    have XA := A_ hse
    have Xm := A_ hsg
    have uu := A_ hsx
    have QG := A_ qf
    have hil : i < bq.length := (List.getElem?_eq_some_iff.1 hsx).1
    have hcl : bq.length <= 5 := by omega
    have GN := A_ hkl
    have Wi := A_ (show i <= tks.length /\ tks.length <= 4 by omega)
    clear hb hR ho1 ho3 qf hlc hC hbig hbd e0 h0 hse hsb hsg hkl Xl
    go_enter Try.func108, Try.ntmps108
    go_upto_region 1 with (first | (go_at_call 73; (with_reducible refine (fT.calls kf _ _ tks key (i : Int) _ ?aD ?dR Lt.out).mono ?_); (case aD => repeat (first | exact HRW.out.2.2 | (with_reducible refine Kd.dC ?_ _) | (with_reducible refine Kd.gm ?_))); (case dR => exact HRW.out.2.1); rintro e w1 ⟨rfl, ⟨nd, rfl⟩⟩) | (go_at_call 101; (with_reducible refine (iI.calls _ _ tks (i : Int) key false _ ?aD ?dR QQ.out).mono ?_); (case aD => repeat (first | exact HRW.out.2.2 | (with_reducible refine Kd.dC ?_ _) | (with_reducible refine Kd.gm ?_))); (case dR => exact HRW.out.2.1); rintro e w1 ⟨rfl, ⟨nd, rfl⟩⟩) | (go_at_call 99; (with_reducible refine (gL.dA false hbl.out _ ?aD).mono ?_); (case aD => repeat (first | exact BF.out | (with_reducible refine Rd.drewN ?_ _) | (with_reducible refine Rd.drew ?_))); rintro e w' ⟨rfl, ⟨nd, rfl⟩⟩))
    generalize hW : World.drewN _ _ = w2
    have aj : af (aa w2 base [mM 101 tp kG tks.length il kQ tvs.length iA sZ bq.length iM, iT kG il tks, iT kQ iA tvs, qm 74 sZ iM bq, GC, L]) := ⟨by rw [<- hW]; exact aa.drewN HS.out _⟩
    have az : af (Below base w w2) := ⟨by rw [<- hW]; exact ah (Below.refl base w) _⟩
    clear HS hW BF hbl
    have HS := aj
    have HB := az
    clear aj az
    obtain ⟨lI, rfl, OV⟩ := uR (aa.iZ HS.out 3 rfl).2.2 (i : Int) (by omega) (by omega)
    rw [show bI 0 (bq.map NT.p) (i : Int) = s.p by unfold bI; rw [Int.toNat_natCast, List.getD_eq_getElem?_getD, List.getElem?_map, hsx]; rfl, Int.toNat_natCast] at OV
    have hz2 := HS.out.z 0 rfl 2
    have QD := dJ (0 <= (i : Int))
    have QE := dJ ((i : Int) < (bq.length : Int))
    have Ui : (i < bq.length) = True := eq_true hil
    have HT : af (Sat w2 base ((NT.mk tp (.slice kG tks.length il) (.slice kQ tvs.length iA) (.slice (some lI) bq.length iM) tks tvs bq).dI 101 74 ++ L)) := ⟨by
     refine ko ?_
     unfold kW
     simp only [NT.keys, NT.vals, NT.kids, NT.p, NT.kv, NT.vv, NT.cv]
     rw [<- PZ.out]
     exact HS.out⟩
    clear HS PZ hsx
    obtain ⟨t0, ht0⟩ : ∃ t0, t0 = NT.mk tp (.slice kG tks.length il) (.slice kQ tvs.length iA) (.slice (some lI) bq.length iM) tks tvs bq := ⟨_, rfl⟩
    have HT0 := A_ ht0
    rw [<- ht0] at HT
    have QH : af (t0.kids[i]? = some s) := ⟨by rw [ht0]; exact uu.out⟩
    clear ht0
    go_upto_region 2 with (first | (go_at_call 108; (with_reducible refine (ih s Xm.out Ol.out (Xy.out _ i XA.out Wi.out.1) base (t0.hole 101 74 i L) _ (HT.out.perm (vP L QH.out)) (dS dE HB)).mono ?_); rintro e w3 ⟨rfl, s', hsp, wJ, hs', hb'⟩))
    have BG := lL n s.erase key val Ol.out
    rw [<- wJ] at BG
    cases s' with | mk sp QI Ul Um P5 Un Uo =>
    obtain rfl : sp = s.p := hsp
    obtain ⟨s', hs0⟩ : ∃ s', s' = NT.mk s.p QI Ul Um P5 Un Uo := ⟨_, rfl⟩
    rw [<- hs0] at wJ hs' BG
    have hsp : s'.p = s.p := by rw [hs0]; rfl
    have LH := A_ hs0
    have hT1 : Sat w3 base ((t0.gy i s').dI 101 74 ++ L) := hs'.perm (Hw L QH.out hsp)
    have hK1 : (t0.gy i s').kids[i]? = some s' := by rw [HT0.out]; exact (qR uu.out).1
    have hE1 : (t0.gy i s').erase = .mk tks tvs ((NT.aQ bq).set i s'.erase) := by rw [qU, HT0.out]; rfl
    have HB1 := A_ (HB.out.trans hb')
    have hbs1 : base <= w3.heap.size := Nat.le_trans dE.out (Below.size HB1.out)
    have Vj : Sat w3 base ((NT.mk tp (.slice kG tks.length il) (.slice kQ tvs.length iA) (.slice (some lI) bq.length iM) tks tvs (bq.set i s')).dI 101 74 ++ L) := by
     rw [HT0.out] at hT1
     exact hT1
    have hG := qo (t := NT.mk tp (.slice kG tks.length il) (.slice kQ tvs.length iA) (.slice (some lI) bq.length iM) tks tvs (bq.set i s')) (k := s') (i := i) (qR uu.out).1 Vj
    rw [hs0] at hG
    unfold vT at hG
    simp only [NT.keys, NT.vals, NT.kids, NT.p, NT.kv, NT.vv, NT.cv] at hG
    obtain ⟨lk, hlk⟩ : ∃ l, l = P5.length := ⟨_, rfl⟩
    have hl5 : lk <= 5 := by
     have := BG.1.2.1
     rw [hs0] at this
     rw [hlk]
     exact this
    have HE := A_ (And.intro wJ (And.intro hsp (And.intro BG (And.intro hT1 (And.intro hK1 (And.intro hE1 hlk))))))
    clear hG hs0 BG hT1 Vj hK1 hE1 wJ hs' hb' hlk HT hz2 OV
    by_cases h5 : 4 < lk
    ·skip
     have SC := HE.out.2.2.1.1
     unfold One at SC
     rw [bA, kX, bT] at SC
     have hll := HE.out.2.2.2.2.2.2
     have hsl : lk = s'.keys.length := by rw [hll, LH.out]; rfl
     have hC := uH.calls (t0.gy i s') s' i HE.out.2.2.2.2.1 (by omega) (by omega) SC.1 (by omega) (by omega) (by rw [HT0.out]; exact Wi.out.1) (by rw [HT0.out]; show tks.length <= _; omega) (by rw [HT0.out]; exact Kg.out) (by rw [HT0.out]; show (bq.set i s').length <= _; rw [List.length_set]; omega) base L w3 HE.out.2.2.2.1 (dS dE HB1)
     rw [show (t0.gy i s').p = tp by rw [HT0.out]; rfl] at hC
     go_wp2_with (first | (go_at_call 109; (with_reducible refine hC.mono ?_); rintro e w4 ⟨rfl, t2, ht1, ht2, ht3, Om⟩))
     go_end0
     refine ⟨rfl, t2, ?_, ?_, ht3, HB1.out.trans Om⟩
     ·rw [ht1, HT0.out]
      rfl
     ·rw [ht2, HE.out.2.2.2.2.2.1, zR, HR.out, <- HE.out.1, if_pos (by show 4 < s'.erase.keys.length; rw [bA]; omega)]
    ·skip
     have hll := HE.out.2.2.2.2.2.2
     have hsl : lk = s'.keys.length := by rw [hll, LH.out]; rfl
     have hC := yE.calls (t0.gy i s') s' i HE.out.2.2.2.2.1 (by omega) (by rw [HT0.out]; show (bq.set i s').length <= _; rw [List.length_set]; omega) base L w3 HE.out.2.2.2.1 (dS dE HB1)
     rw [show (t0.gy i s').p = tp by rw [HT0.out]; rfl] at hC
     have HC := A_ hC
     clear hC
     go_wp2_with (first | (go_at_call 109; (with_reducible refine HC.out.mono ?_); rintro e w4 ⟨rfl, rfl⟩))
     go_end0
     refine ⟨rfl, t0.gy i s', by rw [HT0.out]; rfl, ?_, HE.out.2.2.2.1, HB1.out⟩
     rw [HE.out.2.2.2.2.2.1, HR.out, <- HE.out.1, if_neg (by show ¬ 4 < s'.erase.keys.length; rw [bA]; omega)]
set_option maxHeartbeats 8000000
set_option maxRecDepth 100000
open Go.Proofs.Ytoddejmlcnbdmaa.Pure (kJ aW)
theorem KX.calls (t : NT) (key val : ByteArray) (hbd : kC t.erase) (QK : kJ (aW t.erase)) (base : Nat) (L : List Ck) (w : World) (hs : Sat w base (t.dI 101 74 ++ L)) (hbs : base <= w.heap.size) :
  Calls Try.prog 80 #[bG t.p, .string key, .string val] w (WP w base 101 74 L (ni t.erase key val)) := by
 have dE := A_ hbs
 have Vq := A_ hbd
 have hC := M3.calls key val t.erase.big t (Nat.le_refl _) hbd QK base L w hs hbs
 obtain ⟨R, hR⟩ : ∃ R, R = ni t.erase key val := ⟨_, rfl⟩
 rw [<- hR]
 unfold ni at hR
 have HR := A_ hR
 have Ow := lL t.erase.big t.erase key val hbd
 generalize kE t.erase.big t.erase key val = P1 at hC hR Ow HR
 obtain ⟨tp, htp⟩ : ∃ p, t.p = p := ⟨_, rfl⟩
 rw [htp] at hC ⊢
 have SI := A_ htp
 clear hR hbd hs hbs htp QK
 go_enter Try.func80, Try.ntmps80
 go_upto_region 2 with (first | (go_at_call 108; (with_reducible refine hC.mono ?_); rintro e w1 ⟨rfl, t1, ht1, ht2, ht3, Om⟩))
 rw [SI.out] at ht1
 cases t1 with | mk p1 Uq SK mi wS vs1 cs1 =>
 have ht1 : p1 = tp := ht1
 subst ht1
 obtain ⟨y7, ck1, SL⟩ := Kd.av ((fF ht3).sr 1 rfl)
 have SL : Uq = .slice y7 wS.length ck1 := SL
 subst SL
 obtain ⟨lk, hlk⟩ : ∃ n, wS.length = n := ⟨_, rfl⟩
 have fO : w1.cell? ⟨p1, 0, none⟩ = some (.slice y7 lk ck1) := by rw [<- hlk]; exact (fF ht3).z0 0 rfl
 obtain ⟨t1, ht0⟩ : ∃ t1, t1 = NT.mk p1 (.slice y7 wS.length ck1) SK mi wS vs1 cs1 := ⟨_, rfl⟩
 rw [<- ht0] at ht2 ht3
 have hk1 : t1.keys.length = lk := by rw [ht0]; exact hlk
 have tq : t1.p = p1 := by rw [ht0]; rfl
 have HT := A_ (And.intro ht2 (And.intro hk1 tq))
 rw [<- ht2] at Ow
 have SN := A_ Ow
 have hl5 : lk <= 5 := by have := Ow.1.2.1; rw [bA] at this; omega
 have HB := A_ Om
 have HS := A_ (Ar ht3)
 have QL := A_ ht3
 clear ht0 hk1 tq ht2 ht3 Om hlk Ow hC
 by_cases h4 : 4 < lk
 ·have ct := kT ((lk : Int) <= (4 : Int))
  go_upto_region 4 with fail
  clear fO QL
  go_upto_region 5 with (first | ((with_reducible refine dN (N := 20) rfl ?_); refine Kd.kH eT (w0 := w) base 74 ?hg (N := 20) ?hd (xs := [p1]) (inner := [bG p1]) (ok := fun _ => True) (okp := fun _ => False) ?hr (Kd.aX (enc := bG) [p1]) (fun _ h => h.elim) trivial HB.out (dS dE HB) (by simp) ?_; (case hd => rfl); (case hg => rfl); (case hr => first | (go_simp; done) | (go_simp; rfl)); intro v1 w2 ho hb hg hn; obtain ⟨A2, c3, rfl⟩ : ∃ A c, v1 = .slice A 1 c := Kd.av ho; have aj := lu (aa.DZ HS.out (tO ho) hg hn); have az : af (Below base w w2) := ⟨hb⟩; clear HS HB ho hb hg hn; have HS := aj; have HB := az; clear aj az) | (refine jf 22 #[.slice none 0 0, .slice none 0 0, .slice A2 1 c3] 101 ?_; intro g4 hg w3 aC hb; have aj := lu (aa.gI HS.out hg aC hb (dS dE HB)); have az : af (Below base w w3) := ⟨(HB.out).trans (hb.mono (dS dE HB))⟩; clear HS HB hg aC hb; have HS := aj; have HB := az; clear aj az))
  have hT : Sat w3 base ((NT.mk g4 (.slice none 0 0) (.slice none 0 0) (.slice A2 1 c3) [] [] [t1]).dI 101 74 ++ L) := JW (by rw [HT.out.2.2]; exact HS.out)
  have HT2 := A_ hT
  have hC := uH.calls (NT.mk g4 (.slice none 0 0) (.slice none 0 0) (.slice A2 1 c3) [] [] [t1]) t1 0 rfl (by have := HT.out.2.1; omega) (by have := HT.out.2.1; omega) (by have := SN.out.1.1; rw [bA, kX] at this; exact this) (by have := SN.out.1.2.2; rw [bA, bT] at this; have := HT.out.2.1; omega) (by have := SN.out.1.2.2; rw [bA, bT] at this; have := HT.out.2.1; omega) (Nat.le_refl _) (Nat.zero_le _) rfl (show (1 : Nat) <= 1001 by decide) base L w3 hT (dS dE HB)
  clear hT
  replace hC : Calls Try.prog 109 #[bG g4, .int .i64 0] w3 (WR w3 base 101 74 _ L _) := hC
  go_wp2_with (first | (go_at_call 109; (with_reducible refine hC.mono ?_); rintro e w9 ⟨rfl, t2, hu1, hu2, hu3, Xr⟩))
  have hu1 : t2.p = g4 := hu1
  rw [<- hu1]
  go_ret
  refine ⟨t2, rfl, ?_, hu3, HB.out.trans Xr⟩
  rw [hu2, HR.out, <- HT.out.1, bA, HT.out.2.1, if_pos h4]
  rfl
 ·have ct := kZ ((lk : Int) <= (4 : Int))
  go_wp2_with fail
  rw [<- HT.out.2.2]
  go_ret
  refine ⟨t1, rfl, ?_, QL.out, HB.out⟩
  rw [HR.out, <- HT.out.1, bA, HT.out.2.1, if_neg h4]
end Go.Proofs.Ytoddejmlcnbdmaa.Tree
namespace Go.Proofs.Ytoddejmlcnbdmaa.Fn
theorem yX {p0 p1 q : Prop} (h0 : p0) (h1 : p1) (h : p0 -> p1 -> q := by intro p9 Qa; repeat (first | (with_reducible first | exact p9 | apply ah | apply bC | refine bM ?_ Qa) | exact p9)) : q := h h0 h1
open Go.Proofs.Ytoddejmlcnbdmaa.Pure (wm mR pK aW jk kI iE jv mY bJ)
set_option maxHeartbeats 8000000
set_option maxRecDepth 100000
def nJ (P : List bH) : Bool := BQ P && decide (P.length <= 1048576)
theorem rz {P : List bH} (h : nJ P = true) : BQ P = true /\ P.length <= 1048576 := by
 unfold nJ at h
 simpa using h
def KY (o : Option PT) (key val : ByteArray) : List bH × Bool := match o with
 | none => ([], false)
 | some t => if pq key val = true then (if 40 < (bB (ni t key val)).length then ([], false) else (iF (ni t key val) 0, true)) else ([], false)
def fG (w : World) (base : Nat) (v : Value) (r : List bH) : Prop := ∃ A c pgs, v = .slice A (List.length pgs) c /\ List.map Pg.erase pgs = r /\ Sat w base (aM v pgs)
theorem fG.nil (w : World) (base : Nat) : fG w base (.slice none 0 0) [] := ⟨none, 0, [], rfl, rfl, Sat.one (c := l9 (.slice none 0 0) []) ⟨rfl, .inl ⟨rfl, rfl⟩⟩⟩
theorem mF {w : World} {base g n c : Nat} {A : Option Addr} {X : List Ck} {pgs : List Pg} (h : Sat w base (X ++ (aM (.slice A n c) pgs ++ [.box 29 g #[.slice none 0 0]]))) : Sat (w.setCell ⟨g, 0, none⟩ (.slice A n c)) base (aM (.slice A n c) pgs) := by
 have h1 : Sat w base (.box 29 g #[.slice none 0 0] :: (X ++ aM (.slice A n c) pgs)) := h.perm (by
  rw [<- List.append_assoc]
  exact List.perm_append_comm)
 have h2 : Sat (w.setCell ⟨g, 0, none⟩ (.slice A n c)) base (.box 29 g #[.slice A n c] :: (X ++ aM (.slice A n c) pgs)) := Sat.put (cs := #[.slice none 0 0]) h1 0 _ rfl
 exact h2.tail.right
def lD.f (bD : List bH) (a1 a2 : ByteArray) : Option (List bH × Bool) := if nJ bD = true then some (KY (pz bD) a1 a2) else none
theorem lD.nK (dw : Option Addr) (dx : Nat) (bD : List (bH)) (a1 a2 : ByteArray) (r1 : List bH) (r2 : Bool) (w : World) (jR : Kd.C jX w dw bD.length bD) (oW : bD.length <= dx) (h : lD.f bD a1 a2 = some (r1, r2)) :
  Calls Try.prog 36 #[.agg #[.slice dw bD.length dx], .string a1, .string a2] w fun e w' => ∃ iy : Value, e = .returned (.tuple #[.agg #[iy], .bool r2]) /\ fG w' w.heap.size iy r1 /\ Below w.heap.size w w' := by
 unfold lD.f at h
 have HP := A_ jR
 clear jR oW
 by_cases hok : nJ bD = true
 ·rw [if_pos hok] at h
  obtain ⟨hok1, hP⟩ := rz hok
  have oV := A_ (fo hok1).1
  have HM := A_ (fo hok1).2
  obtain ⟨o, hrs⟩ : ∃ o, pz bD = o := ⟨_, rfl⟩
  rw [hrs] at h
  have hof := hrs
  have h := Option.some.inj h
  have kP := A_ hrs
  clear hok hok1 hrs
  cases o with
  | none =>
   have h : (([] : List bH), false) = (r1, r2) := h
   injection h with e1 e2
   subst e1
   subst e2
   clear hof hP
   go_enter Try.func36, Try.ntmps36
   go_wp2_with (first | (refine jf 3 #[.slice dw bD.length dx] 29 ?_; intro b3 hg w1 aC hb; have HB := A_ hb; have hz3 : w1.cell? ⟨b3, 0, none⟩ = some (.slice dw bD.length dx) := (ak aC 0).trans rfl; clear hg aC hb) | (refine jf 6 #[.slice none 0 0] 29 ?_; intro g6 hg w2 aC hb; have tu := (hb.cell (World.block_lt_of_cell? w1 _ hz3)).trans hz3; clear hz3; have hz3 := tu; clear tu; have o8 := A_ (show w.heap.size <= g6 from by rw [hg]; exact Below.size HB.out); have aj := A_ (au HB.out hb); clear HB; have HB := aj; have eP := A_ aC; clear aj hg aC hb) | (go_at_call 57; (with_reducible refine (fU.calls bD oV.out dw dx _ (Kd.ax HP.out HB.out) HM.out).mono ?_); rintro e w3 ⟨hb, hr⟩; rw [kP.out] at hr; obtain ⟨-, rfl⟩ := hr.resolve_right (by rintro ⟨_, h, _⟩; cases h); have aj := A_ (au HB.out hb); have az := A_ (aT eP.out hb); clear HB eP; have HB := aj; have eP := az; clear aj az hb hr hz3; have wT := (ak eP.out 0).trans rfl; have wU := aY eP.out 0))
   refine bodyPost_ret (cZ rfl _ _ g6 29 #[.slice none 0 0] (0, 0) _ rfl (by (with_reducible repeat (first | refine bS ?_ _ | refine cz ?_ )); refine dH (cs := #[.slice none 0 0]) ?_ 0 _ rfl; (with_reducible repeat (first | refine bS ?_ _ | refine cz ?_)); exact eP.out) Try.underlying29 rfl (by kernel_rfl)) rfl ?_
   exact ⟨_, rfl, fG.nil _ _, (yX HB.out o8.out)⟩
  | some t =>
   have EU := A_ (pK hP hof)
   clear hof hP
   have h : (if pq a1 a2 = true then (if 40 < (bB (ni t a1 a2)).length then (([] : List bH), false) else (iF (ni t a1 a2) 0, true)) else ([], false)) = (r1, r2) := h
   cases hpr : pq a1 a2 with
   | false =>
    have EG := A_ ((nV a1 a2).trans (congrArg some hpr))
    rw [if_neg (by rw [hpr]; decide)] at h
    injection h with e1 e2
    subst e1
    subst e2
    clear hpr
    go_enter Try.func36, Try.ntmps36
    go_wp2_with (first | (refine jf 3 #[.slice dw bD.length dx] 29 ?_; intro b3 hg w1 aC hb; have HB := A_ hb; have hz3 : w1.cell? ⟨b3, 0, none⟩ = some (.slice dw bD.length dx) := (ak aC 0).trans rfl; clear hg aC hb) | (refine jf 6 #[.slice none 0 0] 29 ?_; intro g6 hg w2 aC hb; have tu := (hb.cell (World.block_lt_of_cell? w1 _ hz3)).trans hz3; clear hz3; have hz3 := tu; clear tu; have o8 := A_ (show w.heap.size <= g6 from by rw [hg]; exact Below.size HB.out); have aj := A_ (au HB.out hb); clear HB; have HB := aj; have eP := A_ aC; clear aj hg aC hb) | (go_at_call 57; (with_reducible refine (fU.calls bD oV.out dw dx _ (Kd.ax HP.out HB.out) HM.out).mono ?_); rintro e w3 ⟨hb, hr⟩; rw [kP.out] at hr; obtain ⟨nt, h9, rfl, hs⟩ := hr.resolve_left (by rintro ⟨h, _⟩; cases h); injection h9 with h9; subst h9; have aj := A_ (au HB.out hb); have az := A_ (aT eP.out hb); have HS := A_ (((Sat.one (c := .box 29 g6 #[.slice none 0 0]) ⟨o8.out, eP.out⟩).behind hb (Below.size HB.out) hs).perm List.perm_append_comm); clear HB eP; have HB := aj; have eP := az; clear aj az hb hr hs hz3; have wT := (ak eP.out 0).trans rfl; have wU := aY eP.out 0) | (go_at_call 75; (with_reducible refine (cK.calls a1 a2 false _ EG.out).mono ?_); rintro e w' ⟨rfl, ⟨nd, rfl⟩⟩))
    refine bodyPost_ret (cZ rfl _ _ g6 29 #[.slice none 0 0] (0, 0) _ rfl (by (with_reducible repeat (first | refine bS ?_ _ | refine cz ?_ )); refine dH (cs := #[.slice none 0 0]) ?_ 0 _ rfl; (with_reducible repeat (first | refine bS ?_ _ | refine cz ?_)); exact eP.out) Try.underlying29 rfl (by kernel_rfl)) rfl ?_
    exact ⟨_, rfl, fG.nil _ _, (yX HB.out o8.out)⟩
   | true =>
    have EG := A_ ((nV a1 a2).trans (congrArg some hpr))
    rw [if_pos hpr] at h
    clear hpr
    have HH := A_ h
    clear h
    go_enter Try.func36, Try.ntmps36
    go_upto_region 4 with (first | (refine jf 3 #[.slice dw bD.length dx] 29 ?_; intro b3 hg w1 aC hb; have HB := A_ hb; have hz3 : w1.cell? ⟨b3, 0, none⟩ = some (.slice dw bD.length dx) := (ak aC 0).trans rfl; clear hg aC hb) | (refine jf 6 #[.slice none 0 0] 29 ?_; intro g6 hg w2 aC hb; have tu := (hb.cell (World.block_lt_of_cell? w1 _ hz3)).trans hz3; clear hz3; have hz3 := tu; clear tu; have o8 := A_ (show w.heap.size <= g6 from by rw [hg]; exact Below.size HB.out); have aj := A_ (au HB.out hb); clear HB; have HB := aj; have eP := A_ aC; clear aj hg aC hb) | (go_at_call 57; (with_reducible refine (fU.calls bD oV.out dw dx _ (Kd.ax HP.out HB.out) HM.out).mono ?_); rintro e w3 ⟨hb, hr⟩; rw [kP.out] at hr; obtain ⟨nt, h9, rfl, hs⟩ := hr.resolve_left (by rintro ⟨h, _⟩; cases h); injection h9 with h9; subst h9; have aj := A_ (au HB.out hb); have az := A_ (aT eP.out hb); have HS := A_ (((Sat.one (c := .box 29 g6 #[.slice none 0 0]) ⟨o8.out, eP.out⟩).behind hb (Below.size HB.out) hs).perm List.perm_append_comm); clear HB eP; have HB := aj; have eP := az; clear aj az hb hr hs hz3; have wT := (ak eP.out 0).trans rfl; have wU := aY eP.out 0) | (go_at_call 75; (with_reducible refine (cK.calls a1 a2 true _ EG.out).mono ?_); rintro e w' ⟨rfl, ⟨nd, rfl⟩⟩))
    generalize hW : World.drewN w3 _ = w4
    have aj := A_ (show Below w.heap.size w w4 by rw [<- hW]; exact ah HB.out _)
    have az := A_ (show Sat w4 w.heap.size (nt.dI 96 70 ++ [.box 29 g6 #[.slice none 0 0]]) by rw [<- hW]; exact Sat.drewN HS.out _)
    clear HB HS eP wT wU hW
    have HB := aj
    have HS := az
    clear aj az
    go_upto_region 5 with (first | (go_at_call 76; (with_reducible refine (Au.calls nt a1 a2 EU.out.1.bnd w.heap.size _ w4 HS.out (Below.size HB.out)).mono ?_); rintro e w5 ⟨t1, rfl, ht1, ht2, ht3⟩))
    have hok1 : wm t1.erase /\ (bB t1.erase).length <= 41 := by
     obtain ⟨q1, q2⟩ := mR EU.out.1 a1 a2
     rw [ht1]
     refine ⟨q1, ?_⟩
     rw [<- mY (bJ q1.bnd), q2]
     have := jv (k := a1) (v := a2) (aW nt.erase)
     have := EU.out.2
     omega
    have yJ := A_ hok1
    have HT1 := A_ ht1
    have HZ1 := A_ (show (bB t1.erase).length <= 8796093022208 by omega)
    have HZ2 := A_ (show (dL t1.erase).length <= 8796093022208 by rw [iO (bJ hok1.1.bnd)]; omega)
    have EH := A_ (bJ hok1.1.bnd)
    have hl41 : (bB t1.erase).length <= 41 := hok1.2
    have HR2 := A_ (jI ht2.left)
    have aj := A_ (HB.out.trans ht3)
    clear HB HS hok1 ht1 ht3
    have HB := aj
    have HS := A_ ht2
    clear aj ht2
    go_upto_region 6 with (first | (go_at_call 65; (with_reducible refine (mX.iP t1.erase EH.out _ ?aD HZ1.out HZ2.out).mono ?_); (case aD => repeat (first | exact HR2.out | (with_reducible refine Rd.drewN ?_ _) | (with_reducible refine Rd.drew ?_))); rintro e w6 ⟨u1, u2, rfl, ho1, ho2, hne, hb⟩; obtain ⟨B1, d1, rfl, hl1, hc1⟩ := Kd.eU ho1; obtain ⟨B2, d2, rfl, hl2, hc2⟩ := Kd.eU ho2; have aj := A_ (au HB.out hb); have az := A_ (Sat.under HS.out hb); clear HB HS HR2; have HB := aj; have HS := az; clear aj az ho1 ho2 hne hb hl1 hl2 hc1 hc2))
    obtain ⟨nk, hnk⟩ : ∃ n, (bB t1.erase).length = n := ⟨_, rfl⟩
    rw [hnk] at hl41 ⊢
    have Vy := A_ hnk
    clear hnk
    by_cases Oo : 40 < nk
    ·have c_ := kZ ((40 : Int) < (nk : Int))
     have h := HH.out
     rw [<- HT1.out, Vy.out, if_pos Oo] at h
     injection h with e1 e2
     subst e1
     subst e2
     have eP := A_ (HS.out.cell (T := 29) (p := g6) (cs := #[.slice none 0 0]) (List.mem_append_right _ List.mem_cons_self))
     have wT := (ak eP.out 0).trans rfl; have wU := aY eP.out 0
     go_wp2_with fail
     refine bodyPost_ret (cZ rfl _ _ g6 29 #[.slice none 0 0] (0, 0) _ rfl (by (with_reducible repeat (first | refine bS ?_ _ | refine cz ?_ )); refine dH (cs := #[.slice none 0 0]) ?_ 0 _ rfl; (with_reducible repeat (first | refine bS ?_ _ | refine cz ?_)); exact eP.out) Try.underlying29 rfl (by kernel_rfl)) rfl ?_
     exact ⟨_, rfl, fG.nil _ _, (yX HB.out o8.out)⟩
    ·have c_ := kT ((40 : Int) < (nk : Int))
     have h := HH.out
     rw [<- HT1.out, Vy.out, if_neg Oo] at h
     injection h with e1 e2
     subst e1
     subst e2
     have rV := A_ (nD.calls t1 yJ.out.1.bnd (by have := yJ.out.1.small; have := yJ.out.2; have := mY EH.out; omega) w.heap.size _ w6 HS.out (Below.size HB.out))
     clear Oo
     go_wp2_with (first | (go_at_call 77; (with_reducible refine (rV.out).mono ?_); rintro e w7 ⟨vo, pgs, rfl, he, hs3, hb3⟩; obtain ⟨Ao, co, rfl⟩ := fZ (hs3.ok (l9 vo pgs) (List.mem_append_right _ List.mem_cons_self)); have eP := A_ (hs3.cell (T := 29) (p := g6) (cs := #[.slice none 0 0]) (List.mem_append_right _ (List.mem_append_right _ List.mem_cons_self))); have yh := A_ hs3; have HE := A_ he; have aj := A_ (HB.out.trans hb3); clear HB; have HB := aj; clear aj hs3 hb3 he; have wT := (ak eP.out 0).trans rfl; have wU := aY eP.out 0))
     refine bodyPost_ret (cZ rfl _ _ g6 29 #[.slice Ao pgs.length co] (0, 0) _ rfl (dH (cs := #[.slice none 0 0]) eP.out 0 _ rfl) Try.underlying29 rfl (by kernel_rfl)) rfl ?_
     refine ⟨_, rfl, ?_, (yX HB.out o8.out)⟩
     exact ⟨Ao, co, pgs, rfl, by rw [HE.out], mF yh.out⟩
 ·rw [if_neg hok] at h
  cases h
end Go.Proofs.Ytoddejmlcnbdmaa.Fn
namespace Go.Proofs.Ytoddejmlcnbdmaa.Pure
open Go.Proofs.Ytoddejmlcnbdmaa.Fn Go.Proofs.Ytoddejmlcnbdmaa.Tree
def jO (key : ByteArray) (l : List KV) : ByteArray × Bool := match l.find? (fun x => x.1.toList == key.toList) with
 | some x => (x.2, true)
 | none => (ByteArray.empty, false)
theorem ve {key : ByteArray} {A B : List KV} (h : ∀ x ∈ A, (x.1.toList == key.toList) = false) : jO key (A ++ B) = jO key B := by
 unfold jO
 rw [List.find?_append, List.find?_eq_none.2 (fun x hx => by rw [h x hx]; decide)]
 rfl
theorem FT {key : ByteArray} {A B : List KV} (h : ∀ x ∈ B, (x.1.toList == key.toList) = false) : jO key (A ++ B) = jO key A := by
 have hB : B.find? (fun x => x.1.toList == key.toList) = none := List.find?_eq_none.2 (fun x hx => by rw [h x hx]; decide)
 unfold jO
 rw [List.find?_append, hB, Option.or_none]
theorem KZ {key : ByteArray} {x : KV} {B : List KV} (h : (x.1.toList == key.toList) = true) : jO key (x :: B) = (x.2, true) := by
 unfold jO
 rw [List.find?_cons, h]
theorem K3 {key : ByteArray} {l : List KV} (h : ∀ x ∈ l, (x.1.toList == key.toList) = false) : jO key l = (ByteArray.empty, false) := by
 unfold jO
 rw [List.find?_eq_none.2 (fun x hx => by rw [h x hx]; decide)]
theorem Ay {key : ByteArray} {l : List KV} : (jO key l).2 = true ↔ Has key l := by
 unfold jO Has
 cases h : l.find? (fun x => x.1.toList == key.toList) with
 | none =>
  refine ⟨fun e => (by cases e), ?_⟩
  rintro ⟨x, hx, e⟩
  have := List.find?_eq_none.1 h x hx
  exact absurd e this
 | some x => exact ⟨fun _ => ⟨x, List.mem_of_find?_eq_some h, by have := List.find?_some h; exact this⟩, fun _ => rfl⟩
theorem wz : ∀ (n : Nat) (t : PT) (key : ByteArray), t.big <= n -> kC t -> kJ (aW t) -> zB n t key = jO key (aW t)
 | 0, t, key, hb, _, _ => absurd t.eH (by omega)
 | n + 1, t, key, hb, hbd, hs => by
  obtain ⟨⟨h1, h2, h3⟩, h4⟩ := bL.1 hbd
  have hle := kU key t.keys
  rw [zB]
  cases hS : iJ t.keys (dm key t.keys) key with
  | true =>
   rw [if_pos rfl]
   have hlt := jZ hS
   have hx : t.keys[dm key t.keys]? = some (bP t.keys (dm key t.keys)) := nY hlt
   have he : ((bP t.keys (dm key t.keys)).toList == key.toList) = true := by
    unfold iJ at hS
    rw [hx] at hS
    exact hS
   obtain ⟨A, B, V7⟩ := uT (t.kids.map aW) ((bK t).take (dm key t.keys)) ((bK t).drop (dm key t.keys + 1)) (by
    rw [List.length_map, List.length_take, qw h1]
    rcases h3 with h | h
    ·left
     rw [List.length_eq_zero_iff.1 h]
     rfl
    ·right
     omega)
   have e : aW t = A ++ (bP t.keys (dm key t.keys), bP t.vals (dm key t.keys)) :: B := by
    rw [dD (bJ hbd), <- V7]
    congr 1
    exact pX hlt h1
   rw [e] at hs ⊢
   rw [ve (fun x hx => by
    have := (List.pairwise_append.1 hs).2.2 x hx _ List.mem_cons_self
    rw [<- eq_of_beq he]
    exact zY this), KZ he]
   unfold bI bP
   rw [Int.toNat_natCast]
  | false =>
   rw [if_neg (by decide)]
   by_cases h0 : t.kids.length = 0
   ·rw [if_pos h0]
    have hsk : BZ t.keys := oH ((ng (bJ hbd)).2 hs)
    rw [gQ (bJ hbd) (List.length_eq_zero_iff.1 h0), <- List.take_append_drop (dm key t.keys) (bK t)]
    rw [ve (fun x hx => zY (pF h1 x hx)), K3 (fun x hx => zM (nX hsk hS x hx))]
   ·rw [if_neg h0]
    have hkl : t.kids.length = t.keys.length + 1 := h3.resolve_left h0
    have hx : t.kids[dm key t.keys]? = some t.kids[dm key t.keys] := List.getElem?_eq_getElem (by omega)
    generalize t.kids[dm key t.keys] = s at hx
    rw [hx]
    simp only
    have hm := List.mem_of_getElem? hx
    obtain ⟨hpre, yl, _⟩ := ru hbd hs hS hx
    rw [(qz hbd hx hle).1, ve (fun x hx => zY (hpre x hx)), FT (fun x hx => zM (yl x hx))]
    exact wz n s key (by have := PT.fH hx; omega) (h4 s hm) (lM hbd hs hx hle)
theorem Ps {t : PT} {key : ByteArray} {g : ByteArray × Bool} : ∀ {k m : Nat}, k <= m -> zC k k t key = some g -> zC m m t key = some g := by
 intro k m h e
 obtain ⟨d, rfl⟩ := Nat.exists_eq_add_of_le h
 clear h
 induction d with
 | zero => exact e
 | succ d ih => exact CF (k + d) (k + d) t key g ih
theorem K4 {k : Nat} {t : PT} {key : ByteArray} {g : ByteArray × Bool} (h : wm t) (e : zC k k t key = some g) : g = jO key (aW t) := by
 obtain ⟨K, hK⟩ := ME t.big t key (Nat.le_refl _) (bJ h.bnd) ((ng (bJ h.bnd)).2 h.Ic)
 have h1 := Ps (m := max k (max K t.big)) (by omega) e
 rw [hK _ (by omega) _ (by omega), wz t.big t key (Nat.le_refl _) h.bnd h.Ic] at h1
 exact (Option.some.inj h1).symm
end Go.Proofs.Ytoddejmlcnbdmaa.Pure
namespace Go.Proofs.Ytoddejmlcnbdmaa.Tree
set_option maxHeartbeats 8000000
set_option maxRecDepth 100000
theorem Ik.calls (t l r : NT) (P Q : List NT) (i : Nat) (hi : 0 < i) (ht : t.kids = P ++ l :: r :: Q) (hP : P.length = i - 1) (h2 : 2 < l.keys.length) (hl : OQ l.keys l.vals l.kids.length) (hr : OQ r.keys r.vals r.kids.length) (hj : i - 1 < t.keys.length /\ t.keys.length <= 1000 /\ t.vals.length = t.keys.length /\ t.kids.length = t.keys.length + 1)
  (base : Nat) (L : List Ck) (w : World) (hs : Sat w base (t.dI 96 70 ++ L)) (hbs : base <= w.heap.size) :
  Calls Try.prog 113 #[bG t.p, .int .i64 (i : Int)] w (WR w base 96 70 t L (H7 t.erase (i - 1))) := by
 cases t with | mk tp EZ E8 E9 tks tvs bq =>
 cases l with | mk lp QR QS QT gB uL lcs =>
 cases r with | mk rp QU QV rcv uM uy jW =>
 have h0 := open_pair ht hs
 unfold oK at h0
 simp only [NT.keys, NT.vals, NT.kids, NT.p, NT.kv, NT.vv, NT.cv] at ht hl hr hj h0 h2 ⊢
 clear hs
 unfold OQ at hl hr
 obtain ⟨hl1, hl2, hl3⟩ := hl
 obtain ⟨hr1, hr2, hr3⟩ := hr
 obtain ⟨hj1, hj2, Qb, Tf⟩ := hj
 have hil : i < bq.length := by rw [ht, List.length_append, hP]; simp only [List.length_cons]; omega
 have hij : i = (i - 1) + 1 := by omega
 have HP := A_ hP
 have HT := A_ ht
 have hkl : bq[(i - 1)]? = some (NT.mk lp QR QS QT gB uL lcs) /\ (NT.mk lp QR QS QT gB uL lcs).p = lp := ⟨by rw [ht]; exact Rc hP, rfl⟩
 have hkr : bq[i]? = some (NT.mk rp QU QV rcv uM uy jW) /\ (NT.mk rp QU QV rcv uM uy jW).p = rp := ⟨by rw [ht, hij]; exact Re hP, rfl⟩
 have GN := A_ hkl
 have Ur := A_ hkr
 clear hkl hkr ht hij
 obtain ⟨R, hR⟩ : ∃ R, R = H7 (NT.mk tp EZ E8 E9 tks tvs bq).erase (i - 1) := ⟨_, rfl⟩
 rw [<- hR]
 have HRR := A_ hR
 clear hR
 obtain ⟨kG, il, rfl⟩ := Kd.av (h0.sr 1 rfl)
 obtain ⟨qa, rfl⟩ := gD (h0.sr 1 rfl) (by omega)
 obtain ⟨kQ, iA, rfl⟩ := Kd.av (h0.sr 2 rfl)
 obtain ⟨qb, rfl⟩ := gD (h0.sr 2 rfl) (by omega)
 obtain ⟨sZ, iM, rfl, _, _⟩ := dZ (h0.q 3 rfl)
 obtain ⟨lI, rfl⟩ := iQ (h0.q 3 rfl) (by omega)
 obtain ⟨Us, BU, rfl⟩ := Kd.av (h0.sr 5 rfl)
 obtain ⟨GX, rfl⟩ := gD (h0.sr 5 rfl) (by omega)
 obtain ⟨Ut, BV, rfl⟩ := Kd.av (h0.sr 6 rfl)
 obtain ⟨GY, rfl⟩ := gD (h0.sr 6 rfl) (by omega)
 obtain ⟨I4, xO, rfl, _, _⟩ := dZ (h0.q 7 rfl)
 obtain ⟨Uu, Tg, rfl⟩ := Kd.av (h0.sr 10 rfl)
 obtain ⟨Uv, Ti, rfl⟩ := Kd.av (h0.sr 11 rfl)
 obtain ⟨I5, crc, rfl, _, _⟩ := dZ (h0.q 12 rfl)
 obtain ⟨GP, OA⟩ : ∃ G, G = NT.bE 96 70 P := ⟨_, rfl⟩
 obtain ⟨GQ, OB⟩ : ∃ G, G = NT.bE 96 70 Q ++ L := ⟨_, rfl⟩
 rw [<- OA, <- OB] at h0
 have HS := A_ h0
 have HB := A_ (Below.refl base w)
 have dE := A_ hbs
 have Tj := A_ OA
 have Tk := A_ OB
 clear h0 hbs OA OB hP
 have Vz := A_ (show jW.length <= 1001 by omega)
 have HV := A_ (show uL.length = gB.length /\ uy.length = uM.length /\ tvs.length = tks.length /\ (lcs.length = 0 ∨ lcs.length = gB.length + 1) /\ bq.length = tks.length + 1 from ⟨hl2, hr2, Qb, hl3, Tf⟩)
 have hlv : gB.length <= uL.length /\ uL.length <= 1000 := by omega
 have hrv : uy.length <= 1000 := by omega
 have IX : i - 1 < tvs.length /\ tvs.length <= 1000 := by omega
 have htc : bq.length <= 1001 := by omega
 have HI0 := A_ hi
 clear hl2 hl3 hr2 hr3 Qb Tf
 obtain ⟨tx, htx⟩ : ∃ x, bP tks (i - 1) = x := ⟨_, rfl⟩
 have yt : af ((i - 1) < tks.length /\ bP tks (i - 1) = tx) := ⟨by omega, htx⟩
 clear htx
 obtain ⟨ty, hty⟩ : ∃ x, bP tvs (i - 1) = x := ⟨_, rfl⟩
 have yu : af ((i - 1) < tvs.length /\ bP tvs (i - 1) = ty) := ⟨by omega, hty⟩
 clear hty
 obtain ⟨lx, hlx⟩ : ∃ x, bP gB (gB.length - 1) = x := ⟨_, rfl⟩
 have Tm : af ((gB.length - 1) < gB.length /\ bP gB (gB.length - 1) = lx) := ⟨by omega, hlx⟩
 clear hlx
 obtain ⟨ly, VA⟩ : ∃ x, bP uL (gB.length - 1) = x := ⟨_, rfl⟩
 have Tn : af ((gB.length - 1) < uL.length /\ bP uL (gB.length - 1) = ly) := ⟨by have := HV.out; omega, VA⟩
 clear VA
 obtain ⟨l1, wK⟩ := rM (aI uM 0 tx)
 obtain ⟨l2, y8⟩ := rM (aI uy 0 ty)
 obtain ⟨l3, IZ⟩ := rM (tks.set (i - 1) lx)
 obtain ⟨l4, Km⟩ := rM (tvs.set (i - 1) ly)
 obtain ⟨l5, Kn⟩ := rM (gB.take (gB.length - 1))
 obtain ⟨l6, Ko⟩ := rM (uL.take (gB.length - 1))
 go_enter Try.func113, Try.ntmps113
 have b7 := dJ (0 <= (i : Int))
 have b8 := dJ ((i : Int) < (bq.length : Int))
 have b9 := dJ (i < bq.length)
 have fO := (aa.z2 HS.out 0 rfl)
 have vF := (lC (aa.iZ HS.out 3 rfl) Ur.out)
 go_upto_region 2 with fail
 clear fO vF
 have c10 := kZ ((0 : Int) < (i : Int))
 have b11 := dJ (1 <= (i : Int))
 have b12 := dJ (((i : Int) - 1) < (bq.length : Int))
 have b13 := dJ ((i - 1) < bq.length)
 have c14 := kZ ((2 : Int) < (gB.length : Int))
 have fO := (aa.z2 HS.out 0 rfl)
 have vF := (lC (aa.iZ HS.out 3 rfl) GN.out)
 have BS := (aa.z0 HS.out 4 rfl)
 go_upto_region 3 with fail
 clear fO vF BS
 have fO := (aa.z2 HS.out 0 rfl)
 have vF := (lC (aa.iZ HS.out 3 rfl) GN.out)
 go_upto_region 4 with fail
 clear fO vF
 have fO := (aa.z0 HS.out 4 rfl)
 go_upto_region 5 with fail
 clear fO
 have b15 := dJ (((i : Int) - 1) < (tks.length : Int))
 have b16 := dJ ((i - 1) < tks.length)
 have sd17 : 0 <= uM.length /\ uM.length <= 1000000 := by omega
 have q20 : wrap64 ((i : Int) - 1) = ((i : Int) - 1) := rf (by omega)
 refine dz (n := 17) (S := fun w' => w'.cell? ⟨rp, 0, none⟩ = some (.slice Uu uM.length Tg) /\ w'.cell? ⟨tp, 0, none⟩ = some (.slice (some ⟨qa, 0, none⟩) tks.length il) /\ w'.cell? ⟨qa, (i - 1), none⟩ = some (.string tx)) (ds := [16]) (bt 17 0) (by kernel_rfl) rfl rfl ⟨(aa.z0 (aa.drew HS.out) 9 rfl), (aa.z0 (aa.drew HS.out) 0 rfl), (jF (aa.sr (aa.drew HS.out) 1 rfl) yt.out)⟩ (fun hHeld => ?_)
 refine aV 0 51 1 ?_
 refine aV 1 52 3 ?_
 refine aV 2 53 7 ?_
 refine aV 3 54 15 ?_
 refine aV 5 56 47 ?_
 refine aV 6 57 111 ?_
 refine aV 7 58 239 ?_
 refine aV 9 60 751 ?_
 refine aV 10 61 1775 ?_
 refine ik 4 55 1791 hHeld ?_
 refine ik 8 59 2047 hHeld ?_
 refine aV 11 62 4095 ?_
 refine ik 12 63 8191 hHeld ?_
 refine jg 13 (some 64) 16383 (fun K hK => ?_)
 refine uj Try.func124 #[.slice Uu uM.length Tg, .int .i64 0, .string tx] ?_
 with_reducible refine (Qt 0 0 tx rfl wK.out (aa.row (aa.drew HS.out) 10 rfl) sd17).mono ?_
 rintro e w2 ⟨iy, rfl, ho, hb⟩
 refine ⟨_, rfl, ?_⟩
 obtain ⟨uw, c19, rfl⟩ := Kd.av ho
 have aj := lu (aa.gJ (aa.drew HS.out) hb (dS dE HB) ho)
 have az : af (Below base w w2) := ⟨((aH HB.out)).trans (hb.mono (dS dE HB))⟩
 clear HS HB ho hb; have HS := aj; have HB := az; clear aj az
 have zs0 := aa.z0 HS.out 9 rfl
 have kS := aa.f HS.out 9 rfl 0
 refine hK.out _ _ ⟨(aa.z0 HS.out 9 rfl), (aa.z0 HS.out 0 rfl), (jF (aa.sr HS.out 1 rfl) yt.out)⟩ (fun hHeld => ?_)
 clear hK K
 refine eF 64 ?_
 refine aV 14 65 32767 ?_
 refine aV 15 66 65535 ?_
 refine wW 16 none 131071 (fun K hK => ?_)
 refine iU (w1 := ?_) (by rfl) rfl ?_ ?_
 rotate_left
 ·go_simp
  rfl
 refine hK.out _ _ ?_
 clear hK K
 refine fu (by kernel_rfl) ?_
 clear q20
 have aj := gK (World.setCell w2 ⟨rp, 0, none⟩ (.slice uw l1.length c19)) (aa.iN (aa.yC HS.out 9 rfl (.slice uw l1.length c19)) [0, 1, 2, 3, 4, 5, 6, 7, 8, 9, 16, 11, 12, 13, 14, 15] (by decide))
 have az : af (Below base w (World.setCell w2 ⟨rp, 0, none⟩ (.slice uw l1.length c19))) := ⟨(HB.out).setCell (p := ⟨rp, 0, none⟩) (aa.ge HS.out 9 rfl) _⟩
 generalize World.setCell w2 ⟨rp, 0, none⟩ (.slice uw l1.length c19) = w3 at aj az ⊢
 clear HS HB zs0 kS; have HS := aj; have HB := az; clear aj az
 go_upto_region 6 with fail
 have b21 := dJ (((i : Int) - 1) < (tvs.length : Int))
 have b22 := dJ ((i - 1) < tvs.length)
 have OC : 0 <= uy.length /\ uy.length <= 1000000 := by omega
 have q26 : wrap64 ((i : Int) - 1) = ((i : Int) - 1) := rf (by omega)
 refine dz (n := 17) (S := fun w' => w'.cell? ⟨rp, 1, none⟩ = some (.slice Uv uy.length Ti) /\ w'.cell? ⟨tp, 1, none⟩ = some (.slice (some ⟨qb, 0, none⟩) tvs.length iA) /\ w'.cell? ⟨qb, (i - 1), none⟩ = some (.string ty)) (ds := [16]) (bt 17 0) (by kernel_rfl) rfl rfl ⟨(aa.z1 (aa.drew HS.out) 9 rfl), (aa.z1 (aa.drew HS.out) 0 rfl), (jF (aa.sr (aa.drew HS.out) 2 rfl) yu.out)⟩ (fun hHeld => ?_)
 refine aV 0 67 1 ?_
 refine aV 1 68 3 ?_
 refine aV 2 69 7 ?_
 refine aV 3 70 15 ?_
 refine aV 5 72 47 ?_
 refine aV 6 73 111 ?_
 refine aV 7 74 239 ?_
 refine aV 9 76 751 ?_
 refine aV 10 77 1775 ?_
 refine ik 4 71 1791 hHeld ?_
 refine ik 8 75 2047 hHeld ?_
 refine aV 11 78 4095 ?_
 refine ik 12 79 8191 hHeld ?_
 refine jg 13 (some 80) 16383 (fun K hK => ?_)
 refine uj Try.func124 #[.slice Uv uy.length Ti, .int .i64 0, .string ty] ?_
 with_reducible refine (Qt 0 0 ty rfl y8.out (aa.row (aa.drew HS.out) 11 rfl) OC).mono ?_
 rintro e w4 ⟨iy, rfl, ho, hb⟩
 refine ⟨_, rfl, ?_⟩
 obtain ⟨Me, Kk, rfl⟩ := Kd.av ho
 have aj := lu (aa.gJ (aa.drew HS.out) hb (dS dE HB) ho)
 have az : af (Below base w w4) := ⟨((aH HB.out)).trans (hb.mono (dS dE HB))⟩
 clear HS HB ho hb; have HS := aj; have HB := az; clear aj az
 have zs0 := aa.z1 HS.out 9 rfl
 have kS := aa.f HS.out 9 rfl 1
 refine hK.out _ _ ⟨(aa.z1 HS.out 9 rfl), (aa.z1 HS.out 0 rfl), (jF (aa.sr HS.out 2 rfl) yu.out)⟩ (fun hHeld => ?_)
 clear hK K
 refine eF 80 ?_
 refine aV 14 81 32767 ?_
 refine aV 15 82 65535 ?_
 refine wW 16 none 131071 (fun K hK => ?_)
 refine iU (w1 := ?_) (by rfl) rfl ?_ ?_
 rotate_left
 ·go_simp
  rfl
 refine hK.out _ _ ?_
 clear hK K
 refine fu (by kernel_rfl) ?_
 clear q26
 have aj := gK (World.setCell w4 ⟨rp, 1, none⟩ (.slice Me l2.length Kk)) (aa.iN (aa.yD HS.out 9 rfl (.slice Me l2.length Kk)) [0, 1, 2, 3, 4, 5, 6, 7, 8, 9, 10, 16, 12, 13, 14, 15] (by decide))
 have az : af (Below base w (World.setCell w4 ⟨rp, 1, none⟩ (.slice Me l2.length Kk))) := ⟨(HB.out).setCell (p := ⟨rp, 1, none⟩) (aa.ge HS.out 9 rfl) _⟩
 generalize World.setCell w4 ⟨rp, 1, none⟩ (.slice Me l2.length Kk) = w5 at aj az ⊢
 clear HS HB zs0 kS; have HS := aj; have HB := az; clear aj az
 go_upto_region 7 with fail
 have b27 := dJ (1 <= (gB.length : Int))
 have b28 := dJ (((gB.length : Int) - 1) < (gB.length : Int))
 have b29 := dJ ((gB.length - 1) < gB.length)
 have q30 : wrap64 ((i : Int) - 1) = ((i : Int) - 1) := rf (by omega)
 have zs0 := jF (aa.sr (aa.drew HS.out) 1 rfl) yt.out
 have kS := iK (aa.sr (aa.drew HS.out) 1 rfl) (Nat.lt_of_le_of_lt (Nat.zero_le _) yt.out.1) (i - 1)
 refine dz (n := 15) (S := fun w' => w'.cell? ⟨tp, 0, none⟩ = some (.slice (some ⟨qa, 0, none⟩) tks.length il) /\ w'.cell? ⟨lp, 0, none⟩ = some (.slice (some ⟨GX, 0, none⟩) gB.length BU) /\ w'.cell? ⟨GX, (gB.length - 1), none⟩ = some (.string lx)) (ds := [14]) (bt 15 0) (by kernel_rfl) rfl rfl ⟨(aa.z0 (aa.drew HS.out) 0 rfl), (aa.z0 (aa.drew HS.out) 4 rfl), (jF (aa.sr (aa.drew HS.out) 5 rfl) Tm.out)⟩ (fun hHeld => ?_)
 refine aV 0 83 1 ?_
 refine aV 1 84 3 ?_
 refine aV 2 85 7 ?_
 refine aV 4 87 23 ?_
 refine aV 5 88 55 ?_
 refine aV 6 89 119 ?_
 refine aV 7 90 247 ?_
 refine aV 8 91 503 ?_
 refine aV 10 93 1527 ?_
 refine ik 3 86 1535 hHeld ?_
 refine ik 9 92 2047 hHeld ?_
 refine aV 11 94 4095 ?_
 refine ik 12 95 8191 hHeld ?_
 refine aV 13 96 16383 ?_
 refine wW 14 none 32767 (fun K hK => ?_)
 refine iU (w1 := ?_) (by rfl) rfl ?_ ?_
 rotate_left
 ·go_simp
  rfl
 refine hK.out _ _ ?_
 clear hK K
 refine fu (by kernel_rfl) ?_
 clear q30
 have aj := gK (World.drew (World.setCell w5 ⟨qa, (i - 1), none⟩ (.string lx))) (aa.uG (aa.drew HS.out) 1 rfl (i - 1) lx IZ.out)
 have az : af (Below base w (World.drew (World.setCell w5 ⟨qa, (i - 1), none⟩ (.string lx)))) := ⟨((aH HB.out)).setCell (p := ⟨qa, (i - 1), none⟩) (Da (aa.drew HS.out) 1 rfl yt.out) _⟩
 generalize World.drew (World.setCell w5 ⟨qa, (i - 1), none⟩ (.string lx)) = w6 at aj az ⊢
 clear HS HB zs0 kS; have HS := aj; have HB := az; clear aj az
 go_upto_region 8 with fail
 have b31 := dJ (((gB.length : Int) - 1) < (uL.length : Int))
 have b32 := dJ ((gB.length - 1) < uL.length)
 have q33 : wrap64 ((i : Int) - 1) = ((i : Int) - 1) := rf (by omega)
 have zs0 := jF (aa.sr (aa.drew HS.out) 2 rfl) yu.out
 have kS := iK (aa.sr (aa.drew HS.out) 2 rfl) (Nat.lt_of_le_of_lt (Nat.zero_le _) yu.out.1) (i - 1)
 refine dz (n := 15) (S := fun w' => w'.cell? ⟨tp, 1, none⟩ = some (.slice (some ⟨qb, 0, none⟩) tvs.length iA) /\ w'.cell? ⟨lp, 1, none⟩ = some (.slice (some ⟨GY, 0, none⟩) uL.length BV) /\ w'.cell? ⟨GY, (gB.length - 1), none⟩ = some (.string ly)) (ds := [14]) (bt 15 0) (by kernel_rfl) rfl rfl ⟨(aa.z1 (aa.drew HS.out) 0 rfl), (aa.z1 (aa.drew HS.out) 4 rfl), (jF (aa.sr (aa.drew HS.out) 6 rfl) Tn.out)⟩ (fun hHeld => ?_)
 refine aV 0 97 1 ?_
 refine aV 1 98 3 ?_
 refine aV 2 99 7 ?_
 refine aV 4 101 23 ?_
 refine aV 5 102 55 ?_
 refine aV 6 103 119 ?_
 refine aV 7 104 247 ?_
 refine aV 8 105 503 ?_
 refine aV 10 107 1527 ?_
 refine ik 3 100 1535 hHeld ?_
 refine ik 9 106 2047 hHeld ?_
 refine aV 11 108 4095 ?_
 refine ik 12 109 8191 hHeld ?_
 refine aV 13 110 16383 ?_
 refine wW 14 none 32767 (fun K hK => ?_)
 refine iU (w1 := ?_) (by rfl) rfl ?_ ?_
 rotate_left
 ·go_simp
  rfl
 refine hK.out _ _ ?_
 clear hK K
 refine fu (by kernel_rfl) ?_
 clear q33
 have aj := gK (World.drew (World.setCell w6 ⟨qb, (i - 1), none⟩ (.string ly))) (aa.uG (aa.drew HS.out) 2 rfl (i - 1) ly Km.out)
 have az : af (Below base w (World.drew (World.setCell w6 ⟨qb, (i - 1), none⟩ (.string ly)))) := ⟨((aH HB.out)).setCell (p := ⟨qb, (i - 1), none⟩) (Da (aa.drew HS.out) 2 rfl yu.out) _⟩
 generalize World.drew (World.setCell w6 ⟨qb, (i - 1), none⟩ (.string ly)) = w7 at aj az ⊢
 clear HS HB zs0 kS; have HS := aj; have HB := az; clear aj az
 go_upto_region 9 with fail
 obtain ⟨P7, lX, _, o9, _⟩ := info_parts dh
 have xN := nI (P := Try.prog) 38 9 .i64 Try.underlying38 lX (some ⟨GX, 0, none⟩) gB.length BU ((gB.length : Int) - 1) (by omega) (by omega) (aa.row HS.out 5 rfl).2.1
 simp only [show (((gB.length : Int) - 1)).toNat = (gB.length - 1) from by omega] at xN
 clear lX o9
 have fO := (aa.z0 HS.out 4 rfl)
 have zs0 := aa.z0 HS.out 4 rfl
 have kS := aa.f HS.out 4 rfl 0
 go_upto_region 10 with fail
 have aj := gK (World.setCell w7 ⟨lp, 0, none⟩ (.slice (some ⟨GX, 0, none⟩) (gB.length - 1) BU)) (yS (aa.yC HS.out 4 rfl (.slice (some ⟨GX, 0, none⟩) (gB.length - 1) BU)) 5 rfl Kn.out (by omega))
 have az : af (Below base w (World.setCell w7 ⟨lp, 0, none⟩ (.slice (some ⟨GX, 0, none⟩) (gB.length - 1) BU))) := ⟨(HB.out).setCell (p := ⟨lp, 0, none⟩) (aa.ge HS.out 4 rfl) _⟩
 generalize World.setCell w7 ⟨lp, 0, none⟩ (.slice (some ⟨GX, 0, none⟩) (gB.length - 1) BU) = w8 at aj az ⊢
 clear HS HB fO zs0 kS; have HS := aj; have HB := az; clear aj az
 clear xN
 obtain ⟨P7, lX, _, o9, _⟩ := info_parts dh
 have hcut35 := nI (P := Try.prog) 38 9 .i64 Try.underlying38 lX (some ⟨GY, 0, none⟩) uL.length BV ((gB.length : Int) - 1) (by omega) (by omega) (aa.row HS.out 6 rfl).2.1
 simp only [show (((gB.length : Int) - 1)).toNat = (gB.length - 1) from by omega] at hcut35
 clear lX o9
 have fO := (aa.z1 HS.out 4 rfl)
 have zs0 := aa.z1 HS.out 4 rfl
 have kS := aa.f HS.out 4 rfl 1
 go_upto_region 11 with fail
 have aj := gK (World.setCell w8 ⟨lp, 1, none⟩ (.slice (some ⟨GY, 0, none⟩) (gB.length - 1) BV)) (yS (aa.yD HS.out 4 rfl (.slice (some ⟨GY, 0, none⟩) (gB.length - 1) BV)) 6 rfl Ko.out (by omega))
 have az : af (Below base w (World.setCell w8 ⟨lp, 1, none⟩ (.slice (some ⟨GY, 0, none⟩) (gB.length - 1) BV))) := ⟨(HB.out).setCell (p := ⟨lp, 1, none⟩) (aa.ge HS.out 4 rfl) _⟩
 generalize World.setCell w8 ⟨lp, 1, none⟩ (.slice (some ⟨GY, 0, none⟩) (gB.length - 1) BV) = w9 at aj az ⊢
 clear HS HB fO zs0 kS; have HS := aj; have HB := az; clear aj az
 clear hcut35
 by_cases rT : lcs.length = 0
 ·skip
  have hl0 : lcs = [] := List.length_eq_zero_iff.1 rT
  have Vs := A_ hl0
  have BA := A_ ((aa.iN HS.out [4, 5, 6, 7, 8] (by decide)).Qr)
  have hbl := A_ (show decide (((NT.mk lp (.slice (some ⟨GX, 0, none⟩) (gB.length - 1) BU) (.slice (some ⟨GY, 0, none⟩) (gB.length - 1) BV) (.slice I4 lcs.length xO) l5 l6 lcs).erase.kids.length : Int) = 0) = true from decide_eq_true (by show ((NT.aQ lcs).length : Int) = 0; rw [aK, List.length_map]; omega))
  go_wp2_with (first | (go_at_call 84; (with_reducible refine (bY.dA true hbl.out _ ?aD).mono ?_); (case aD => repeat (first | exact BA.out | (with_reducible refine Rd.drewN ?_ _) | (with_reducible refine Rd.drew ?_))); rintro e w' ⟨rfl, ⟨nd, rfl⟩⟩))
  generalize hW : World.drewN _ _ = uK
  have aj : af (aa uK base [mM 96 tp (jV qa) tks.length il (jV qb) tvs.length iA (some lI) bq.length iM, xW (jV qa) tks.length il l3, xW (jV qb) tvs.length iA l4, qm 70 (some lI) iM bq, mM 96 lp (jV GX) (gB.length - 1) BU (jV GY) (gB.length - 1) BV I4 lcs.length xO, xW (jV GX) (gB.length - 1) BU l5, xW (jV GY) (gB.length - 1) BV l6, qm 70 I4 xO lcs, (NT.bE 96 70 lcs), mM 96 rp uw l1.length c19 Me l2.length Kk I5 jW.length crc, iT uw c19 l1, iT Me Kk l2, qm 70 I5 crc jW, (NT.bE 96 70 jW), GP, GQ]) := ⟨by rw [<- hW]; exact aa.drewN HS.out _⟩
  have az : af (Below base w uK) := ⟨by rw [<- hW]; exact ah HB.out _⟩
  clear HS HB BA hbl hW; have HS := aj; have HB := az; clear aj az
  go_end0
  have hS := Mt (aa.iN HS.out [0, 1, 2, 3, 4, 5, 6, 7, 8, 9, 10, 11, 12, 13, 14, 15] (by decide))
  refine ⟨rfl, NT.mk tp (.slice (some ⟨qa, 0, none⟩) tks.length il) (.slice (some ⟨qb, 0, none⟩) tvs.length iA) (.slice (some lI) bq.length iM) l3 l4 (P ++ NT.mk lp (.slice (some ⟨GX, 0, none⟩) (gB.length - 1) BU) (.slice (some ⟨GY, 0, none⟩) (gB.length - 1) BV) (.slice I4 lcs.length xO) l5 l6 lcs :: NT.mk rp (.slice uw l1.length c19) (.slice Me l2.length Kk) (.slice I5 jW.length crc) l1 l2 jW :: Q), rfl, ?_, shut_pair rfl ?_, HB.out⟩
  ·have e0 := HRR.out
   rw [HT.out] at e0
   rw [e0]
   show PT.mk l3 l4 (NT.aQ (P ++ _ :: _ :: Q)) = H7 (PT.mk tks tvs (NT.aQ (P ++ _ :: _ :: Q))) (i - 1)
   simp only [aK, List.map_append, List.map_cons]
   rw [Ea (by rw [List.length_map]; exact HP.out)]
   have LK := wK.out
   subst LK
   have LM := y8.out
   subst LM
   have LP := IZ.out
   subst LP
   have LQ := Km.out
   subst LQ
   have LU := Kn.out
   subst LU
   have LV := Ko.out
   subst LV
   have ex := yt.out.2
   subst ex
   have ey := yu.out.2
   subst ey
   have ez := Tm.out.2
   subst ez
   have eu := Tn.out.2
   subst eu
   have ec := Vs.out
   subst ec
   simp [uD, uE, NT.erase, NT.aQ, PT.keys, PT.vals, PT.kids]
  ·unfold oK
   simp only [NT.keys, NT.vals, NT.kids, NT.p, NT.kv, NT.vv, NT.cv]
   have hq : ∀ a b : NT, a.p = lp -> b.p = rp -> ptrs (P ++ a :: b :: Q) = ptrs bq := fun a b ha hb => by rw [HT.out]; simp only [ptrs, List.map_append, List.map_cons, ha, hb]; rfl
   rw [hq _ _ rfl rfl, <- Tj.out, <- Tk.out]
   exact hS
 ·skip
  have hlc : gB.length < lcs.length /\ lcs.length <= 1001 := by have := HV.out; omega
  have hrc : jW.length <= 1001 := by have := Vz.out; omega
  obtain ⟨s, hs0⟩ : ∃ s, lcs[gB.length]? = some s := ⟨lcs[gB.length], List.getElem?_eq_getElem hlc.1⟩
  obtain ⟨sp, hsp⟩ : ∃ p, s.p = p := ⟨_, rfl⟩
  have kD : af (lcs[gB.length]? = some s /\ s.p = sp) := ⟨hs0, hsp⟩
  clear hs0 hsp
  obtain ⟨LW, rfl⟩ := iQ (aa.q HS.out 7 rfl) (by omega)
  obtain ⟨OW, Tp⟩ := rM (aI jW 0 s)
  obtain ⟨Wm, Tq⟩ := rM (lcs.take gB.length)
  have VB : af (OW.map NT.p = aI (jW.map NT.p) 0 sp) := ⟨by rw [Tp.out, jr, kD.out.2]⟩
  have BA := A_ ((aa.iN HS.out [4, 5, 6, 7, 8] (by decide)).Qr)
  have hbl := A_ (show decide (((NT.mk lp (.slice (some ⟨GX, 0, none⟩) (gB.length - 1) BU) (.slice (some ⟨GY, 0, none⟩) (gB.length - 1) BV) (.slice (some LW) lcs.length xO) l5 l6 lcs).erase.kids.length : Int) = 0) = false from decide_eq_false (by show ((NT.aQ lcs).length : Int) ≠ 0; rw [aK, List.length_map]; omega))
  go_upto_region 12 with (first | (go_at_call 84; (with_reducible refine (bY.dA false hbl.out _ ?aD).mono ?_); (case aD => repeat (first | exact BA.out | (with_reducible refine Rd.drewN ?_ _) | (with_reducible refine Rd.drew ?_))); rintro e w' ⟨rfl, ⟨nd, rfl⟩⟩))
  generalize hW : World.drewN _ _ = uK
  have aj : af (aa uK base [mM 96 tp (jV qa) tks.length il (jV qb) tvs.length iA (some lI) bq.length iM, xW (jV qa) tks.length il l3, xW (jV qb) tvs.length iA l4, qm 70 (some lI) iM bq, mM 96 lp (jV GX) (gB.length - 1) BU (jV GY) (gB.length - 1) BV (some LW) lcs.length xO, xW (jV GX) (gB.length - 1) BU l5, xW (jV GY) (gB.length - 1) BV l6, qm 70 (some LW) xO lcs, (NT.bE 96 70 lcs), mM 96 rp uw l1.length c19 Me l2.length Kk I5 jW.length crc, iT uw c19 l1, iT Me Kk l2, qm 70 I5 crc jW, (NT.bE 96 70 jW), GP, GQ]) := ⟨by rw [<- hW]; exact aa.drewN HS.out _⟩
  have az : af (Below base w uK) := ⟨by rw [<- hW]; exact ah HB.out _⟩
  clear HS HB BA hbl hW; have HS := aj; have HB := az; clear aj az
  have b38 := dJ (0 <= (gB.length : Int))
  have b39 := dJ ((gB.length : Int) < (lcs.length : Int))
  have b40 := dJ (gB.length < lcs.length)
  have sd41 : 0 <= jW.length /\ jW.length <= 1000000 := by omega
  obtain ⟨q44, q45⟩ : (wrap64 (((gB.length : Int) - 1) + 1) = (gB.length : Int)) /\ (wrap64 (gB.length : Int) = (gB.length : Int)) := ⟨rf (by omega), rf (by omega)⟩
  refine dz (n := 17) (S := fun w' => w'.cell? ⟨rp, 2, none⟩ = some (.slice I5 jW.length crc) /\ w'.cell? ⟨lp, 2, none⟩ = some (.slice (some LW) lcs.length xO) /\ w'.cell? (LW.add gB.length) = some (bG sp)) (ds := [16]) (bt 17 0) (by kernel_rfl) rfl rfl ⟨(aa.z2 (aa.drew HS.out) 9 rfl), (aa.z2 (aa.drew HS.out) 4 rfl), (lC (aa.iZ (aa.drew HS.out) 7 rfl) kD.out)⟩ (fun hHeld => ?_)
  refine aV 0 132 1 ?_
  refine aV 1 133 3 ?_
  refine aV 2 134 7 ?_
  refine aV 3 135 15 ?_
  refine aV 5 137 47 ?_
  refine aV 6 138 111 ?_
  refine aV 7 139 239 ?_
  refine aV 9 141 751 ?_
  refine aV 10 142 1775 ?_
  refine ik 4 136 1791 hHeld ?_
  refine ik 8 140 2047 hHeld ?_
  refine aV 11 143 4095 ?_
  refine ik 12 144 8191 hHeld ?_
  refine jg 13 (some 145) 16383 (fun K hK => ?_)
  refine uj Try.func125 #[.slice I5 jW.length crc, .int .i64 0, bG sp] ?_
  with_reducible refine (UQ 0 0 s sp kD.out.2 rfl VB.out (aa.iZ (aa.drew HS.out) 12 rfl) sd41).mono ?_
  rintro e xM ⟨iy, rfl, ho, hb⟩
  refine ⟨_, rfl, ?_⟩
  obtain ⟨Kq, Kr, yn⟩ := Kd.av ho
  rw [List.length_map] at yn
  subst yn
  have aj := lu (aa.wZ (aa.drew HS.out) hb (dS dE HB) ho)
  have az : af (Below base w xM) := ⟨((aH HB.out)).trans (hb.mono (dS dE HB))⟩
  clear HS HB ho hb; have HS := aj; have HB := az; clear aj az
  have zs0 := aa.z2 HS.out 9 rfl
  have kS := aa.f HS.out 9 rfl 2
  refine hK.out _ _ ⟨(aa.z2 HS.out 9 rfl), (aa.z2 HS.out 4 rfl), (lC (aa.iZ HS.out 7 rfl) kD.out)⟩ (fun hHeld => ?_)
  clear hK K
  refine eF 145 ?_
  refine aV 14 146 32767 ?_
  refine aV 15 147 65535 ?_
  refine wW 16 none 131071 (fun K hK => ?_)
  refine iU (w1 := ?_) (by rfl) rfl ?_ ?_
  rotate_left
  ·go_simp
   rfl
  refine hK.out _ _ ?_
  clear hK K
  refine fu (by kernel_rfl) ?_
  clear q44 q45
  have aj := gK (World.setCell xM ⟨rp, 2, none⟩ (.slice Kq OW.length Kr)) (aa.iN (aa.vY HS.out 9 rfl (.slice Kq OW.length Kr)) [0, 1, 2, 3, 4, 5, 6, 7, 8, 9, 10, 11, 16, 13, 14, 15] (by decide))
  have az : af (Below base w (World.setCell xM ⟨rp, 2, none⟩ (.slice Kq OW.length Kr))) := ⟨(HB.out).setCell (p := ⟨rp, 2, none⟩) (aa.ge HS.out 9 rfl) _⟩
  generalize World.setCell xM ⟨rp, 2, none⟩ (.slice Kq OW.length Kr) = ym at aj az ⊢
  clear HS HB zs0 kS; have HS := aj; have HB := az; clear aj az
  go_upto_region 13 with fail
  obtain ⟨P7, lX, _, o9, _⟩ := info_parts jJ
  have hcut46 := nI (P := Try.prog) 94 70 .i64 iD lX (some LW) lcs.length xO (gB.length : Int) (by omega) (by omega) (aa.iZ HS.out 7 rfl).2.1
  simp only [show ((gB.length : Int)).toNat = gB.length from by omega] at hcut46
  clear lX o9
  have fO := (aa.z2 HS.out 4 rfl)
  have zs0 := aa.z2 HS.out 4 rfl
  have kS := aa.f HS.out 4 rfl 2
  go_wp2_with fail
  have aj := gK (World.setCell ym ⟨lp, 2, none⟩ (.slice (some LW) gB.length xO)) (JI (aa.vY HS.out 4 rfl (.slice (some LW) gB.length xO)) 7 rfl Tq.out (by omega))
  have az : af (Below base w (World.setCell ym ⟨lp, 2, none⟩ (.slice (some LW) gB.length xO))) := ⟨(HB.out).setCell (p := ⟨lp, 2, none⟩) (aa.ge HS.out 4 rfl) _⟩
  generalize World.setCell ym ⟨lp, 2, none⟩ (.slice (some LW) gB.length xO) = DD at aj az ⊢
  clear HS HB fO zs0 kS; have HS := aj; have HB := az; clear aj az
  clear hcut46
  have Vu : af (NT.bE 96 70 lcs = NT.bE 96 70 Wm ++ s.dI 96 70) := ⟨by rw [Tq.out, oF 96 70 kD.out.1, List.drop_eq_nil_of_le (by have := HV.out; omega), NT.bE, List.append_nil]⟩
  have aj : af (aa DD base [mM 96 tp (jV qa) tks.length il (jV qb) tvs.length iA (some lI) bq.length iM, xW (jV qa) tks.length il l3, xW (jV qb) tvs.length iA l4, qm 70 (some lI) iM bq, mM 96 lp (jV GX) (gB.length - 1) BU (jV GY) (gB.length - 1) BV (some LW) gB.length xO, xW (jV GX) (gB.length - 1) BU l5, xW (jV GY) (gB.length - 1) BV l6, Wv 70 (some LW) gB.length xO Wm, (NT.bE 96 70 Wm), mM 96 rp uw l1.length c19 Me l2.length Kk Kq OW.length Kr, iT uw c19 l1, iT Me Kk l2, qm 70 Kq Kr OW, (NT.bE 96 70 jW), GP, GQ, (s.dI 96 70)]) := ⟨aa.cut HS.out 8 (congrArg some Vu.out)⟩
  have az : af (Below base w DD) := ⟨HB.out⟩
  clear HS HB; have HS := aj; have HB := az; clear aj az
  go_end0
  have hS := Mt (aa.iN HS.out [0, 1, 2, 3, 4, 5, 6, 7, 8, 9, 10, 11, 12, 16, 13, 14, 15] (by decide))
  refine ⟨rfl, NT.mk tp (.slice (some ⟨qa, 0, none⟩) tks.length il) (.slice (some ⟨qb, 0, none⟩) tvs.length iA) (.slice (some lI) bq.length iM) l3 l4 (P ++ NT.mk lp (.slice (some ⟨GX, 0, none⟩) (gB.length - 1) BU) (.slice (some ⟨GY, 0, none⟩) (gB.length - 1) BV) (.slice (some LW) gB.length xO) l5 l6 Wm :: NT.mk rp (.slice uw l1.length c19) (.slice Me l2.length Kk) (.slice Kq OW.length Kr) l1 l2 OW :: Q), rfl, ?_, shut_pair rfl ?_, HB.out⟩
  ·have e0 := HRR.out
   rw [HT.out] at e0
   rw [e0]
   show PT.mk l3 l4 (NT.aQ (P ++ _ :: _ :: Q)) = H7 (PT.mk tks tvs (NT.aQ (P ++ _ :: _ :: Q))) (i - 1)
   simp only [aK, List.map_append, List.map_cons]
   rw [Ea (by rw [List.length_map]; exact HP.out)]
   have LK := wK.out
   subst LK
   have LM := y8.out
   subst LM
   have LP := IZ.out
   subst LP
   have LQ := Km.out
   subst LQ
   have LU := Kn.out
   subst LU
   have LV := Ko.out
   subst LV
   have ex := yt.out.2
   subst ex
   have ey := yu.out.2
   subst ey
   have ez := Tm.out.2
   subst ez
   have eu := Tn.out.2
   subst eu
   have el37 := Tq.out
   subst el37
   have el36 := Tp.out
   subst el36
   have hn : ¬ lcs = [] := fun h => rT (by rw [h]; rfl)
   simp [uD, uE, NT.erase, aK, PT.keys, PT.vals, PT.kids, fC, hn, jr, List.map_take]
   rw [kD.out.1]
   rfl
  ·unfold oK
   simp only [NT.keys, NT.vals, NT.kids, NT.p, NT.kv, NT.vv, NT.cv]
   have hq : ∀ a b : NT, a.p = lp -> b.p = rp -> ptrs (P ++ a :: b :: Q) = ptrs bq := fun a b ha hb => by rw [HT.out]; simp only [ptrs, List.map_append, List.map_cons, ha, hb]; rfl
   have hc : NT.bE 96 70 OW = s.dI 96 70 ++ NT.bE 96 70 jW := by rw [Tp.out]; show NT.bE 96 70 ([] ++ s :: jW.drop 0) = _; rw [List.nil_append, List.drop_zero, NT.bE]
   rw [hq _ _ rfl rfl, <- Tj.out, <- Tk.out, hc]
   unfold aa at hS ⊢
   simp only [List.flatten_cons, List.append_assoc] at hS ⊢
   exact hS
set_option maxHeartbeats 8000000
set_option maxRecDepth 100000
theorem Il.calls (t l r : NT) (P Q : List NT) (i : Nat) (hno : i = 0 ∨ 0 < i /\ ∃ s : NT, t.kids[i - 1]? = some s /\ s.keys.length <= 2) (ht : t.kids = P ++ l :: r :: Q) (hP : P.length = i) (h2 : 2 < r.keys.length) (hl : OQ l.keys l.vals l.kids.length) (hr : OQ r.keys r.vals r.kids.length) (hj : i < t.keys.length /\ t.keys.length <= 1000 /\ t.vals.length = t.keys.length /\ t.kids.length = t.keys.length + 1)
  (base : Nat) (L : List Ck) (w : World) (hs : Sat w base (t.dI 96 70 ++ L)) (hbs : base <= w.heap.size) :
  Calls Try.prog 113 #[bG t.p, .int .i64 (i : Int)] w (WR w base 96 70 t L (H8 t.erase i)) := by
 have Wn : af (i = 0 ∨ 0 < i /\ ∃ (sp n : Nat) (A : Option Addr) (c : Nat), UN t.kids (i - 1) sp /\ n <= 2 /\ w.cell? ⟨sp, 0, none⟩ = some (.slice A n c)) := ⟨by
  rcases hno with h | ⟨h, s, h1, h2⟩
  ·exact .inl h
  ·obtain ⟨A, c, h3⟩ := zU hs h1
   exact .inr ⟨h, s.p, s.keys.length, A, c, ⟨s, h1, rfl⟩, h2, h3⟩⟩
 clear hno
 cases t with | mk tp EZ E8 E9 tks tvs bq =>
 cases l with | mk lp QR QS QT gB uL lcs =>
 cases r with | mk rp QU QV rcv uM uy jW =>
 have h0 := open_pair ht hs
 unfold oK at h0
 simp only [NT.keys, NT.vals, NT.kids, NT.p, NT.kv, NT.vv, NT.cv] at ht hl hr hj h0 h2 Wn ⊢
 clear hs
 unfold OQ at hl hr
 obtain ⟨hl1, hl2, hl3⟩ := hl
 obtain ⟨hr1, hr2, hr3⟩ := hr
 obtain ⟨hj1, hj2, Qb, Tf⟩ := hj
 have hil : (i + 1) < bq.length := by rw [ht, List.length_append, hP]; simp only [List.length_cons]; omega
 have hij : (i + 1) = i + 1 := by omega
 have HP := A_ hP
 have HT := A_ ht
 have hkl : bq[i]? = some (NT.mk lp QR QS QT gB uL lcs) /\ (NT.mk lp QR QS QT gB uL lcs).p = lp := ⟨by rw [ht]; exact Rc hP, rfl⟩
 have hkr : bq[(i + 1)]? = some (NT.mk rp QU QV rcv uM uy jW) /\ (NT.mk rp QU QV rcv uM uy jW).p = rp := ⟨by rw [ht, hij]; exact Re hP, rfl⟩
 have GN := A_ hkl
 have Ur := A_ hkr
 clear hkl hkr ht hij
 obtain ⟨R, hR⟩ : ∃ R, R = H8 (NT.mk tp EZ E8 E9 tks tvs bq).erase i := ⟨_, rfl⟩
 rw [<- hR]
 have HRR := A_ hR
 clear hR
 obtain ⟨kG, il, rfl⟩ := Kd.av (h0.sr 1 rfl)
 obtain ⟨qa, rfl⟩ := gD (h0.sr 1 rfl) (by omega)
 obtain ⟨kQ, iA, rfl⟩ := Kd.av (h0.sr 2 rfl)
 obtain ⟨qb, rfl⟩ := gD (h0.sr 2 rfl) (by omega)
 obtain ⟨sZ, iM, rfl, _, _⟩ := dZ (h0.q 3 rfl)
 obtain ⟨lI, rfl⟩ := iQ (h0.q 3 rfl) (by omega)
 obtain ⟨Us, BU, rfl⟩ := Kd.av (h0.sr 5 rfl)
 obtain ⟨Ut, BV, rfl⟩ := Kd.av (h0.sr 6 rfl)
 obtain ⟨I4, xO, rfl, _, _⟩ := dZ (h0.q 7 rfl)
 obtain ⟨Uu, Tg, rfl⟩ := Kd.av (h0.sr 10 rfl)
 obtain ⟨grk, rfl⟩ := gD (h0.sr 10 rfl) (by omega)
 obtain ⟨Uv, Ti, rfl⟩ := Kd.av (h0.sr 11 rfl)
 obtain ⟨grv, rfl⟩ := gD (h0.sr 11 rfl) (by omega)
 obtain ⟨I5, crc, rfl, _, _⟩ := dZ (h0.q 12 rfl)
 obtain ⟨GP, OA⟩ : ∃ G, G = NT.bE 96 70 P := ⟨_, rfl⟩
 obtain ⟨GQ, OB⟩ : ∃ G, G = NT.bE 96 70 Q ++ L := ⟨_, rfl⟩
 rw [<- OA, <- OB] at h0
 have HS := A_ h0
 have HB := A_ (Below.refl base w)
 have dE := A_ hbs
 have Tj := A_ OA
 have Tk := A_ OB
 clear h0 hbs OA OB hP
 have Vz := A_ (show jW.length <= 1001 /\ lcs.length <= 1001 by omega)
 have HV := A_ (show uL.length = gB.length /\ uy.length = uM.length /\ tvs.length = tks.length /\ (jW.length = 0 ∨ jW.length = uM.length + 1) /\ bq.length = tks.length + 1 from ⟨hl2, hr2, Qb, hr3, Tf⟩)
 have hrv : uM.length <= uy.length /\ uy.length <= 1000 := by omega
 have hlv : uL.length <= 1000 := by omega
 have IX : i < tvs.length /\ tvs.length <= 1000 := by omega
 have htc : bq.length <= 1001 := by omega
 clear hl2 hl3 hr2 hr3 Qb Tf
 obtain ⟨tx, htx⟩ : ∃ x, bP tks i = x := ⟨_, rfl⟩
 have yt : af (i < tks.length /\ bP tks i = tx) := ⟨by omega, htx⟩
 clear htx
 obtain ⟨ty, hty⟩ : ∃ x, bP tvs i = x := ⟨_, rfl⟩
 have yu : af (i < tvs.length /\ bP tvs i = ty) := ⟨by omega, hty⟩
 clear hty
 obtain ⟨lx, hlx⟩ : ∃ x, bP uM 0 = x := ⟨_, rfl⟩
 have Tm : af (0 < uM.length /\ bP uM 0 = lx) := ⟨by omega, hlx⟩
 clear hlx
 obtain ⟨ly, VA⟩ : ∃ x, bP uy 0 = x := ⟨_, rfl⟩
 have Tn : af (0 < uy.length /\ bP uy 0 = ly) := ⟨by have := HV.out; omega, VA⟩
 clear VA
 obtain ⟨l1, wK⟩ := rM (gB ++ [tx])
 obtain ⟨l2, y8⟩ := rM (uL ++ [ty])
 obtain ⟨l3, IZ⟩ := rM (tks.set i lx)
 obtain ⟨l4, Km⟩ := rM (tvs.set i ly)
 obtain ⟨l5, Kn⟩ := rM (uM.eraseIdx 0)
 obtain ⟨l6, Ko⟩ := rM (uy.eraseIdx 0)
 go_enter Try.func113, Try.ntmps113
 have b7 := dJ (0 <= (i : Int))
 have b8 := dJ ((i : Int) < (bq.length : Int))
 have b9 := dJ (i < bq.length)
 have fO := (aa.z2 HS.out 0 rfl)
 have vF := (lC (aa.iZ HS.out 3 rfl) GN.out)
 go_upto_region 2 with fail
 clear fO vF
 go_cut [19] (fun v_ wc => v_ = .bool false /\ w = wc)
 case first =>
  skip
  rcases Wn.out with h0 | ⟨h0, s0p, ls, As, cs, ⟨s0, hs1, hs4⟩, hs2, hs3⟩
  ·have c_ := kT ((0 : Int) < (i : Int))
   go_wp2_with fail
   go_meet
   case rel => exact ⟨rfl, rfl⟩
  ·have c_ := kZ ((0 : Int) < (i : Int))
   have Wo := dJ (1 <= (i : Int))
   have XB := dJ (((i : Int) - 1) < (bq.length : Int))
   have b3_ := dJ ((i - 1) < bq.length)
   have Hf := kT ((2 : Int) < (ls : Int))
   have vF := aa.z2 HS.out 0 rfl
   have BS := lC (aa.iZ HS.out 3 rfl) (And.intro hs1 hs4)
   go_wp2_with fail
   go_meet
   case rel => exact ⟨rfl, rfl⟩
 case rest =>
  obtain ⟨rfl, ew⟩ := hcut
  subst ew
  go_upto_region 14 with fail
  have c10 := kZ ((i : Int) < (tks.length : Int))
  have b11 := dJ (0 <= ((i : Int) + 1))
  have b12 := dJ (((i : Int) + 1) < (bq.length : Int))
  have b13 := dJ ((i + 1) < bq.length)
  have c14 := kZ ((2 : Int) < (uM.length : Int))
  have fO := (aa.z0 HS.out 0 rfl)
  have vF := (aa.z2 HS.out 0 rfl)
  have BS := (D8 (aa.iZ HS.out 3 rfl) Ur.out (by omega))
  have LJ := (aa.z0 HS.out 9 rfl)
  go_upto_region 15 with fail
  clear fO vF BS LJ
  have fO := (aa.z2 HS.out 0 rfl)
  have vF := (D8 (aa.iZ HS.out 3 rfl) Ur.out (by omega))
  go_upto_region 16 with fail
  clear fO vF
  have b15 := dJ ((i : Int) < (tks.length : Int))
  have b16 := dJ (i < tks.length)
  have OC : (gB.length + 1) * 16 <= 140737488355328 := by omega
  refine dz (n := 17) (S := fun w' => w'.cell? ⟨lp, 0, none⟩ = some (.slice Us gB.length BU) /\ w'.cell? ⟨tp, 0, none⟩ = some (.slice (some ⟨qa, 0, none⟩) tks.length il) /\ w'.cell? ⟨qa, i, none⟩ = some (.string tx)) (ds := [16]) (bt 17 0) (by kernel_rfl) rfl rfl ⟨(aa.z0 (aa.drew HS.out) 4 rfl), (aa.z0 (aa.drew HS.out) 0 rfl), (jF (aa.sr (aa.drew HS.out) 1 rfl) yt.out)⟩ (fun hHeld => ?_)
  refine aV 0 189 1 ?_
  refine aV 1 190 3 ?_
  refine aV 2 191 7 ?_
  refine aV 3 192 15 ?_
  refine aV 5 194 47 ?_
  refine aV 6 195 111 ?_
  refine aV 7 196 239 ?_
  refine aV 9 198 751 ?_
  refine ik 4 193 767 hHeld ?_
  refine ik 8 197 1023 hHeld ?_
  refine aV 10 199 2047 ?_
  refine ik 11 200 4095 hHeld ?_
  refine jg 12 (some 201) 8191 (fun K hK => ?_)
  refine Kd.bn Kd.string (w0 := w) base 9 (by rfl) (N := 201) rfl (xs := [tx]) (inner := [.string tx]) (ok := fun _ => True) (okp := fun _ => False) ?hr (Kd.aX (enc := Value.string) [tx]) (fun _ h => h.elim) trivial (aH HB.out) (dS dE HB) (by simp) ?_
  (case hr => first | (go_simp; done) | (go_simp; rfl))
  intro v17 w2 ho hb hg hn
  obtain ⟨uw, c19, rfl⟩ : ∃ A c, v17 = .slice A 1 c := Kd.av ho
  have aj := lu (aa.lit (aa.drew HS.out) ho hg hn)
  have az : af (Below base w w2) := ⟨hb⟩
  clear HS HB ho hb hg hn; have HS := aj; have HB := az; clear aj az
  refine hK.out _ _ ⟨(aa.z0 HS.out 4 rfl), (aa.z0 HS.out 0 rfl), (jF (aa.sr HS.out 1 rfl) yt.out)⟩ (fun hHeld => ?_)
  clear hK K
  refine eF 201 ?_
  refine jg 13 (some 202) 16383 (fun K hK => ?_)
  refine Kd.aJ Kd.string (w0 := w) base (by rfl) (.tmp 193) (.tmp 201) 38 9 (.string ⟨#[]⟩) 16 rfl Try.underlying38 dh rfl (by decide) (by omega) (.slice Us gB.length BU) gB [tx] uw 1 c19 (fun _ => True) (fun _ => False) rfl rfl (aa.sr HS.out 5 rfl) (zV HS.out 16 rfl) (fun _ _ h => h) (fun _ h => h.elim) (fun _ _ => trivial) HB.out (dS dE HB) OC ?_
  intro u20 w3 ho hb hg hat
  rw [<- wK.out] at ho
  obtain ⟨Kt, Ku, rfl⟩ := Kd.av ho
  have aj := lu (aa.app 5 HS.out rfl ho hg hat)
  have az : af (Below base w w3) := ⟨hb⟩
  clear HS HB ho hb hg hat; have HS := aj; have HB := az; clear aj az
  have zs0 := aa.z0 HS.out 4 rfl
  have kS := aa.f HS.out 4 rfl 0
  refine hK.out _ _ ⟨(aa.z0 HS.out 4 rfl), (aa.z0 HS.out 0 rfl), (jF (aa.sr HS.out 1 rfl) yt.out)⟩ (fun hHeld => ?_)
  clear hK K
  refine eF 202 ?_
  refine aV 14 203 32767 ?_
  refine aV 15 204 65535 ?_
  refine wW 16 none 131071 (fun K hK => ?_)
  refine iU (w1 := ?_) (by rfl) rfl ?_ ?_
  rotate_left
  ·go_simp
   rfl
  refine hK.out _ _ ?_
  clear hK K
  refine fu (by kernel_rfl) ?_
  have aj := gK (World.setCell w3 ⟨lp, 0, none⟩ (.slice Kt l1.length Ku)) (aa.yC HS.out 4 rfl (.slice Kt l1.length Ku))
  have az : af (Below base w (World.setCell w3 ⟨lp, 0, none⟩ (.slice Kt l1.length Ku))) := ⟨(HB.out).setCell (p := ⟨lp, 0, none⟩) (aa.ge HS.out 4 rfl) _⟩
  generalize World.setCell w3 ⟨lp, 0, none⟩ (.slice Kt l1.length Ku) = w4 at aj az ⊢
  clear HS HB zs0 kS; have HS := aj; have HB := az; clear aj az
  go_upto_region 17 with fail
  have b24 := dJ ((i : Int) < (tvs.length : Int))
  have Wj := dJ (i < tvs.length)
  have sd32 : (uL.length + 1) * 16 <= 140737488355328 := by omega
  refine dz (n := 17) (S := fun w' => w'.cell? ⟨lp, 1, none⟩ = some (.slice Ut uL.length BV) /\ w'.cell? ⟨tp, 1, none⟩ = some (.slice (some ⟨qb, 0, none⟩) tvs.length iA) /\ w'.cell? ⟨qb, i, none⟩ = some (.string ty)) (ds := [16]) (bt 17 0) (by kernel_rfl) rfl rfl ⟨(aa.z1 (aa.drew HS.out) 4 rfl), (aa.z1 (aa.drew HS.out) 0 rfl), (jF (aa.sr (aa.drew HS.out) 2 rfl) yu.out)⟩ (fun hHeld => ?_)
  refine aV 0 205 1 ?_
  refine aV 1 206 3 ?_
  refine aV 2 207 7 ?_
  refine aV 3 208 15 ?_
  refine aV 5 210 47 ?_
  refine aV 6 211 111 ?_
  refine aV 7 212 239 ?_
  refine aV 9 214 751 ?_
  refine ik 4 209 767 hHeld ?_
  refine ik 8 213 1023 hHeld ?_
  refine aV 10 215 2047 ?_
  refine ik 11 216 4095 hHeld ?_
  refine jg 12 (some 217) 8191 (fun K hK => ?_)
  refine Kd.bn Kd.string (w0 := w) base 9 (by rfl) (N := 217) rfl (xs := [ty]) (inner := [.string ty]) (ok := fun _ => True) (okp := fun _ => False) ?hr (Kd.aX (enc := Value.string) [ty]) (fun _ h => h.elim) trivial (aH HB.out) (dS dE HB) (by simp) ?_
  (case hr => first | (go_simp; done) | (go_simp; rfl))
  intro v26 w5 ho hb hg hn
  obtain ⟨Wp, c28, rfl⟩ : ∃ A c, v26 = .slice A 1 c := Kd.av ho
  have aj := lu (aa.lit (aa.drew HS.out) ho hg hn)
  have az : af (Below base w w5) := ⟨hb⟩
  clear HS HB ho hb hg hn; have HS := aj; have HB := az; clear aj az
  refine hK.out _ _ ⟨(aa.z1 HS.out 4 rfl), (aa.z1 HS.out 0 rfl), (jF (aa.sr HS.out 2 rfl) yu.out)⟩ (fun hHeld => ?_)
  clear hK K
  refine eF 217 ?_
  refine jg 13 (some 218) 16383 (fun K hK => ?_)
  refine Kd.aJ Kd.string (w0 := w) base (by rfl) (.tmp 209) (.tmp 217) 38 9 (.string ⟨#[]⟩) 16 rfl Try.underlying38 dh rfl (by decide) (by omega) (.slice Ut uL.length BV) uL [ty] Wp 1 c28 (fun _ => True) (fun _ => False) rfl rfl (aa.sr HS.out 6 rfl) (zV HS.out 17 rfl) (fun _ _ h => h) (fun _ h => h.elim) (fun _ _ => trivial) HB.out (dS dE HB) sd32 ?_
  intro u29 w6 ho hb hg hat
  rw [<- y8.out] at ho
  obtain ⟨vH, c31, rfl⟩ := Kd.av ho
  have aj := lu (aa.app 6 HS.out rfl ho hg hat)
  have az : af (Below base w w6) := ⟨hb⟩
  clear HS HB ho hb hg hat; have HS := aj; have HB := az; clear aj az
  have zs0 := aa.z1 HS.out 4 rfl
  have kS := aa.f HS.out 4 rfl 1
  refine hK.out _ _ ⟨(aa.z1 HS.out 4 rfl), (aa.z1 HS.out 0 rfl), (jF (aa.sr HS.out 2 rfl) yu.out)⟩ (fun hHeld => ?_)
  clear hK K
  refine eF 218 ?_
  refine aV 14 219 32767 ?_
  refine aV 15 220 65535 ?_
  refine wW 16 none 131071 (fun K hK => ?_)
  refine iU (w1 := ?_) (by rfl) rfl ?_ ?_
  rotate_left
  ·go_simp
   rfl
  refine hK.out _ _ ?_
  clear hK K
  refine fu (by kernel_rfl) ?_
  have aj := gK (World.setCell w6 ⟨lp, 1, none⟩ (.slice vH l2.length c31)) (aa.yD HS.out 4 rfl (.slice vH l2.length c31))
  have az : af (Below base w (World.setCell w6 ⟨lp, 1, none⟩ (.slice vH l2.length c31))) := ⟨(HB.out).setCell (p := ⟨lp, 1, none⟩) (aa.ge HS.out 4 rfl) _⟩
  generalize World.setCell w6 ⟨lp, 1, none⟩ (.slice vH l2.length c31) = w7 at aj az ⊢
  clear HS HB zs0 kS; have HS := aj; have HB := az; clear aj az
  go_upto_region 18 with fail
  have b33 := dJ ((0 : Int) < (uM.length : Int))
  have b34 := dJ (0 < uM.length)
  have zs0 := jF (aa.sr (aa.drew HS.out) 1 rfl) yt.out
  have kS := iK (aa.sr (aa.drew HS.out) 1 rfl) (Nat.lt_of_le_of_lt (Nat.zero_le _) yt.out.1) i
  refine dz (n := 13) (S := fun w' => w'.cell? ⟨tp, 0, none⟩ = some (.slice (some ⟨qa, 0, none⟩) tks.length il) /\ w'.cell? ⟨rp, 0, none⟩ = some (.slice (some ⟨grk, 0, none⟩) uM.length Tg) /\ w'.cell? ⟨grk, 0, none⟩ = some (.string lx)) (ds := [12]) (bt 13 0) (by kernel_rfl) rfl rfl ⟨(aa.z0 (aa.drew HS.out) 0 rfl), (aa.z0 (aa.drew HS.out) 9 rfl), (jF (aa.sr (aa.drew HS.out) 10 rfl) Tm.out)⟩ (fun hHeld => ?_)
  refine aV 0 221 1 ?_
  refine aV 1 222 3 ?_
  refine aV 2 223 7 ?_
  refine aV 4 225 23 ?_
  refine aV 5 226 55 ?_
  refine aV 6 227 119 ?_
  refine aV 7 228 247 ?_
  refine ik 3 224 255 hHeld ?_
  refine ik 8 229 511 hHeld ?_
  refine aV 9 230 1023 ?_
  refine ik 10 231 2047 hHeld ?_
  refine aV 11 232 4095 ?_
  refine wW 12 none 8191 (fun K hK => ?_)
  refine iU (w1 := ?_) (by rfl) rfl ?_ ?_
  rotate_left
  ·go_simp
   rfl
  refine hK.out _ _ ?_
  clear hK K
  refine fu (by kernel_rfl) ?_
  have aj := gK (World.drew (World.setCell w7 ⟨qa, i, none⟩ (.string lx))) (aa.uG (aa.drew HS.out) 1 rfl i lx IZ.out)
  have az : af (Below base w (World.drew (World.setCell w7 ⟨qa, i, none⟩ (.string lx)))) := ⟨((aH HB.out)).setCell (p := ⟨qa, i, none⟩) (Da (aa.drew HS.out) 1 rfl yt.out) _⟩
  generalize World.drew (World.setCell w7 ⟨qa, i, none⟩ (.string lx)) = w8 at aj az ⊢
  clear HS HB zs0 kS; have HS := aj; have HB := az; clear aj az
  go_upto_region 19 with fail
  have b35 := dJ ((0 : Int) < (uy.length : Int))
  have b36 := dJ (0 < uy.length)
  have zs0 := jF (aa.sr (aa.drew HS.out) 2 rfl) yu.out
  have kS := iK (aa.sr (aa.drew HS.out) 2 rfl) (Nat.lt_of_le_of_lt (Nat.zero_le _) yu.out.1) i
  refine dz (n := 13) (S := fun w' => w'.cell? ⟨tp, 1, none⟩ = some (.slice (some ⟨qb, 0, none⟩) tvs.length iA) /\ w'.cell? ⟨rp, 1, none⟩ = some (.slice (some ⟨grv, 0, none⟩) uy.length Ti) /\ w'.cell? ⟨grv, 0, none⟩ = some (.string ly)) (ds := [12]) (bt 13 0) (by kernel_rfl) rfl rfl ⟨(aa.z1 (aa.drew HS.out) 0 rfl), (aa.z1 (aa.drew HS.out) 9 rfl), (jF (aa.sr (aa.drew HS.out) 11 rfl) Tn.out)⟩ (fun hHeld => ?_)
  refine aV 0 233 1 ?_
  refine aV 1 234 3 ?_
  refine aV 2 235 7 ?_
  refine aV 4 237 23 ?_
  refine aV 5 238 55 ?_
  refine aV 6 239 119 ?_
  refine aV 7 240 247 ?_
  refine ik 3 236 255 hHeld ?_
  refine ik 8 241 511 hHeld ?_
  refine aV 9 242 1023 ?_
  refine ik 10 243 2047 hHeld ?_
  refine aV 11 244 4095 ?_
  refine wW 12 none 8191 (fun K hK => ?_)
  refine iU (w1 := ?_) (by rfl) rfl ?_ ?_
  rotate_left
  ·go_simp
   rfl
  refine hK.out _ _ ?_
  clear hK K
  refine fu (by kernel_rfl) ?_
  have aj := gK (World.drew (World.setCell w8 ⟨qb, i, none⟩ (.string ly))) (aa.uG (aa.drew HS.out) 2 rfl i ly Km.out)
  have az : af (Below base w (World.drew (World.setCell w8 ⟨qb, i, none⟩ (.string ly)))) := ⟨((aH HB.out)).setCell (p := ⟨qb, i, none⟩) (Da (aa.drew HS.out) 2 rfl yu.out) _⟩
  generalize World.drew (World.setCell w8 ⟨qb, i, none⟩ (.string ly)) = w9 at aj az ⊢
  clear HS HB zs0 kS; have HS := aj; have HB := az; clear aj az
  go_upto_region 20 with fail
  have sd37 : 0 < uM.length /\ uM.length <= 1000000 := by omega
  have fO := (aa.z0 HS.out 9 rfl)
  go_upto_region 21 with (first | (go_at_call 112; (with_reducible refine (KP 0 0 rfl Kn.out (aa.row HS.out 10 rfl) sd37).mono ?_); rintro e uK ⟨iy, rfl, ho, hb⟩; obtain ⟨BR, DF, rfl⟩ := Kd.av ho; have aj := lu (aa.gJ HS.out hb (dS dE HB) ho); have az : af (Below base w uK) := ⟨(HB.out).trans (hb.mono (dS dE HB))⟩; clear HS HB ho hb; have HS := aj; have HB := az; clear aj az; clear fO; have fO := (aa.z0 HS.out 9 rfl); have zs0 := aa.z0 HS.out 9 rfl; have kS := aa.f HS.out 9 rfl 0))
  have aj := gK (World.setCell uK ⟨rp, 0, none⟩ (.slice BR l5.length DF)) (aa.iN (aa.yC HS.out 9 rfl (.slice BR l5.length DF)) [0, 1, 2, 3, 4, 5, 6, 7, 8, 9, 18, 11, 12, 13, 14, 15, 16, 17] (by decide))
  have az : af (Below base w (World.setCell uK ⟨rp, 0, none⟩ (.slice BR l5.length DF))) := ⟨(HB.out).setCell (p := ⟨rp, 0, none⟩) (aa.ge HS.out 9 rfl) _⟩
  generalize World.setCell uK ⟨rp, 0, none⟩ (.slice BR l5.length DF) = xM at aj az ⊢
  clear HS HB fO zs0 kS; have HS := aj; have HB := az; clear aj az
  have Tt : 0 < uy.length /\ uy.length <= 1000000 := by omega
  have fO := (aa.z1 HS.out 9 rfl)
  go_upto_region 22 with (first | (go_at_call 112; (with_reducible refine (KP 0 0 rfl Ko.out (aa.row HS.out 11 rfl) Tt).mono ?_); rintro e ym ⟨iy, rfl, ho, hb⟩; obtain ⟨Kv, Kw, rfl⟩ := Kd.av ho; have aj := lu (aa.gJ HS.out hb (dS dE HB) ho); have az : af (Below base w ym) := ⟨(HB.out).trans (hb.mono (dS dE HB))⟩; clear HS HB ho hb; have HS := aj; have HB := az; clear aj az; clear fO; have fO := (aa.z1 HS.out 9 rfl); have zs0 := aa.z1 HS.out 9 rfl; have kS := aa.f HS.out 9 rfl 1))
  have aj := gK (World.setCell ym ⟨rp, 1, none⟩ (.slice Kv l6.length Kw)) (aa.iN (aa.yD HS.out 9 rfl (.slice Kv l6.length Kw)) [0, 1, 2, 3, 4, 5, 6, 7, 8, 9, 10, 18, 12, 13, 14, 15, 16, 17] (by decide))
  have az : af (Below base w (World.setCell ym ⟨rp, 1, none⟩ (.slice Kv l6.length Kw))) := ⟨(HB.out).setCell (p := ⟨rp, 1, none⟩) (aa.ge HS.out 9 rfl) _⟩
  generalize World.setCell ym ⟨rp, 1, none⟩ (.slice Kv l6.length Kw) = DD at aj az ⊢
  clear HS HB fO zs0 kS; have HS := aj; have HB := az; clear aj az
  by_cases rT : jW.length = 0
  ·skip
   have hl0 : jW = [] := List.length_eq_zero_iff.1 rT
   have Vs := A_ hl0
   have BA := A_ ((aa.iN HS.out [9, 10, 11, 12, 13] (by decide)).Qr)
   have hbl := A_ (show decide (((NT.mk rp (.slice BR l5.length DF) (.slice Kv l6.length Kw) (.slice I5 jW.length crc) l5 l6 jW).erase.kids.length : Int) = 0) = true from decide_eq_true (by show ((NT.aQ jW).length : Int) = 0; rw [aK, List.length_map]; omega))
   go_wp2_with (first | (go_at_call 84; (with_reducible refine (bY.dA true hbl.out _ ?aD).mono ?_); (case aD => repeat (first | exact BA.out | (with_reducible refine Rd.drewN ?_ _) | (with_reducible refine Rd.drew ?_))); rintro e w' ⟨rfl, ⟨nd, rfl⟩⟩))
   generalize hW : World.drewN _ _ = wR
   have aj : af (aa wR base [mM 96 tp (jV qa) tks.length il (jV qb) tvs.length iA (some lI) bq.length iM, xW (jV qa) tks.length il l3, xW (jV qb) tvs.length iA l4, qm 70 (some lI) iM bq, mM 96 lp Kt l1.length Ku vH l2.length c31 I4 lcs.length xO, iT Kt Ku l1, iT vH c31 l2, qm 70 I4 xO lcs, (NT.bE 96 70 lcs), mM 96 rp BR l5.length DF Kv l6.length Kw I5 jW.length crc, iT BR DF l5, iT Kv Kw l6, qm 70 I5 crc jW, (NT.bE 96 70 jW), GP, GQ, [txt (.slice uw 1 c19) [tx]], [txt (.slice Wp 1 c28) [ty]]]) := ⟨by rw [<- hW]; exact aa.drewN HS.out _⟩
   have az : af (Below base w wR) := ⟨by rw [<- hW]; exact ah HB.out _⟩
   clear HS HB BA hbl hW; have HS := aj; have HB := az; clear aj az
   go_end0
   have hS := Mt (aa.iN HS.out [0, 1, 2, 3, 4, 5, 6, 7, 8, 9, 10, 11, 12, 13, 14, 15] (by decide))
   refine ⟨rfl, NT.mk tp (.slice (some ⟨qa, 0, none⟩) tks.length il) (.slice (some ⟨qb, 0, none⟩) tvs.length iA) (.slice (some lI) bq.length iM) l3 l4 (P ++ NT.mk lp (.slice Kt l1.length Ku) (.slice vH l2.length c31) (.slice I4 lcs.length xO) l1 l2 lcs :: NT.mk rp (.slice BR l5.length DF) (.slice Kv l6.length Kw) (.slice I5 jW.length crc) l5 l6 jW :: Q), rfl, ?_, shut_pair rfl ?_, HB.out⟩
   ·have e0 := HRR.out
    rw [HT.out] at e0
    rw [e0]
    show PT.mk l3 l4 (NT.aQ (P ++ _ :: _ :: Q)) = H8 (PT.mk tks tvs (NT.aQ (P ++ _ :: _ :: Q))) i
    simp only [aK, List.map_append, List.map_cons]
    rw [Eb (by rw [List.length_map]; exact HP.out)]
    have LK := wK.out
    subst LK
    have LM := y8.out
    subst LM
    have LP := IZ.out
    subst LP
    have LQ := Km.out
    subst LQ
    have LU := Kn.out
    subst LU
    have LV := Ko.out
    subst LV
    have VC := yt.out.2
    subst VC
    have ety := yu.out.2
    subst ety
    have XC := Tm.out.2
    subst XC
    have XD := Tn.out.2
    subst XD
    have ec := Vs.out
    subst ec
    simp [sF, uF, NT.erase, NT.aQ, PT.keys, PT.vals, PT.kids]
   ·unfold oK
    simp only [NT.keys, NT.vals, NT.kids, NT.p, NT.kv, NT.vv, NT.cv]
    have hq : ∀ a b : NT, a.p = lp -> b.p = rp -> ptrs (P ++ a :: b :: Q) = ptrs bq := fun a b ha hb => by rw [HT.out]; simp only [ptrs, List.map_append, List.map_cons, ha, hb]; rfl
    rw [hq _ _ rfl rfl, <- Tj.out, <- Tk.out]
    exact hS
  ·skip
   have hrc : 0 < jW.length /\ jW.length <= 1001 := by have := Vz.out; omega
   have hlc : lcs.length <= 1001 := by have := Vz.out; omega
   obtain ⟨s, hs0⟩ : ∃ s, jW[0]? = some s := ⟨jW[0], List.getElem?_eq_getElem hrc.1⟩
   obtain ⟨sp, hsp⟩ : ∃ p, s.p = p := ⟨_, rfl⟩
   have kD : af (jW[0]? = some s /\ s.p = sp) := ⟨hs0, hsp⟩
   clear hs0 hsp
   obtain ⟨VD, rfl⟩ := iQ (aa.q HS.out 12 rfl) (by omega)
   obtain ⟨OX, Tu⟩ := rM (lcs ++ [s])
   obtain ⟨OD, Tv⟩ := rM (jW.eraseIdx 0)
   have VB : af (lcs.map NT.p ++ [sp] = OX.map NT.p) := ⟨by rw [Tu.out, List.map_append, <- kD.out.2]; rfl⟩
   have BA := A_ ((aa.iN HS.out [9, 10, 11, 12, 13] (by decide)).Qr)
   have hbl := A_ (show decide (((NT.mk rp (.slice BR l5.length DF) (.slice Kv l6.length Kw) (.slice (some VD) jW.length crc) l5 l6 jW).erase.kids.length : Int) = 0) = false from decide_eq_false (by show ((NT.aQ jW).length : Int) ≠ 0; rw [aK, List.length_map]; omega))
   go_upto_region 23 with (first | (go_at_call 84; (with_reducible refine (bY.dA false hbl.out _ ?aD).mono ?_); (case aD => repeat (first | exact BA.out | (with_reducible refine Rd.drewN ?_ _) | (with_reducible refine Rd.drew ?_))); rintro e w' ⟨rfl, ⟨nd, rfl⟩⟩))
   generalize hW : World.drewN _ _ = wR
   have aj : af (aa wR base [mM 96 tp (jV qa) tks.length il (jV qb) tvs.length iA (some lI) bq.length iM, xW (jV qa) tks.length il l3, xW (jV qb) tvs.length iA l4, qm 70 (some lI) iM bq, mM 96 lp Kt l1.length Ku vH l2.length c31 I4 lcs.length xO, iT Kt Ku l1, iT vH c31 l2, qm 70 I4 xO lcs, (NT.bE 96 70 lcs), mM 96 rp BR l5.length DF Kv l6.length Kw (some VD) jW.length crc, iT BR DF l5, iT Kv Kw l6, qm 70 (some VD) crc jW, (NT.bE 96 70 jW), GP, GQ, [txt (.slice uw 1 c19) [tx]], [txt (.slice Wp 1 c28) [ty]]]) := ⟨by rw [<- hW]; exact aa.drewN HS.out _⟩
   have az : af (Below base w wR) := ⟨by rw [<- hW]; exact ah HB.out _⟩
   clear HS HB BA hbl hW; have HS := aj; have HB := az; clear aj az
   have b45 := dJ ((0 : Int) < (jW.length : Int))
   have b46 := dJ (0 < jW.length)
   have sd53 : ((lcs.map NT.p).length + 1) * 8 <= 140737488355328 := by rw [List.length_map]; omega
   refine dz (n := 16) (S := fun w' => w'.cell? ⟨lp, 2, none⟩ = some (.slice I4 lcs.length xO) /\ w'.cell? ⟨rp, 2, none⟩ = some (.slice (some VD) jW.length crc) /\ w'.cell? VD = some (bG sp)) (ds := [15]) (bt 16 0) (by kernel_rfl) rfl rfl ⟨(aa.z2 (aa.drew HS.out) 4 rfl), (aa.z2 (aa.drew HS.out) 9 rfl), (D9 (aa.iZ (aa.drew HS.out) 12 rfl) kD.out)⟩ (fun hHeld => ?_)
   refine aV 0 264 1 ?_
   refine aV 1 265 3 ?_
   refine aV 2 266 7 ?_
   refine aV 3 267 15 ?_
   refine aV 5 269 47 ?_
   refine aV 6 270 111 ?_
   refine aV 7 271 239 ?_
   refine ik 4 268 255 hHeld ?_
   refine ik 8 272 511 hHeld ?_
   refine aV 9 273 1023 ?_
   refine ik 10 274 2047 hHeld ?_
   refine jg 11 (some 275) 4095 (fun K hK => ?_)
   refine Kd.bn eT (w0 := w) base 70 (by rfl) (N := 275) rfl (xs := [sp]) (inner := [bG sp]) (ok := fun _ => True) (okp := fun _ => False) ?hr (Kd.aX (enc := bG) [sp]) (fun _ h => h.elim) trivial (aH HB.out) (dS dE HB) (by simp) ?_
   (case hr => first | (go_simp; done) | (go_simp; rfl))
   intro v47 Gs ho hb hg hn
   obtain ⟨A48, c49, rfl⟩ : ∃ A c, v47 = .slice A 1 c := Kd.av ho
   have aj := lu (aa.DZ (aa.drew HS.out) (tO ho) hg hn)
   have az : af (Below base w Gs) := ⟨hb⟩
   clear HS HB ho hb hg hn; have HS := aj; have HB := az; clear aj az
   refine hK.out _ _ ⟨(aa.z2 HS.out 4 rfl), (aa.z2 HS.out 9 rfl), (D9 (aa.iZ HS.out 12 rfl) kD.out)⟩ (fun hHeld => ?_)
   clear hK K
   refine eF 275 ?_
   refine jg 12 (some 276) 8191 (fun K hK => ?_)
   refine nP (w0 := w) base (by rfl) (.tmp 268) (.tmp 275) 94 70 rfl iD jJ (.slice I4 lcs.length xO) (lcs.map NT.p) [sp] A48 1 c49 rfl rfl (aa.q HS.out 7 rfl) (Wz HS.out 18 rfl) HB.out (dS dE HB) sd53 ?_
   intro u50 w16 ho hb hg hat
   rw [VB.out] at ho
   obtain ⟨Tw, Tx, yn⟩ := Kd.yO ho
   rw [List.length_map] at yn
   obtain ⟨rfl, _⟩ := yn
   have aj := lu (aa.Qs 7 HS.out rfl ho hg hat)
   have az : af (Below base w w16) := ⟨hb⟩
   clear HS HB ho hb hg hat; have HS := aj; have HB := az; clear aj az
   have zs0 := aa.z2 HS.out 4 rfl
   have kS := aa.f HS.out 4 rfl 2
   refine hK.out _ _ ⟨(aa.z2 HS.out 4 rfl), (aa.z2 HS.out 9 rfl), (D9 (aa.iZ HS.out 12 rfl) kD.out)⟩ (fun hHeld => ?_)
   clear hK K
   refine eF 276 ?_
   refine aV 13 277 16383 ?_
   refine aV 14 278 32767 ?_
   refine wW 15 none 65535 (fun K hK => ?_)
   refine iU (w1 := ?_) (by rfl) rfl ?_ ?_
   rotate_left
   ·go_simp
    rfl
   refine hK.out _ _ ?_
   clear hK K
   refine fu (by kernel_rfl) ?_
   have aj := gK (World.setCell w16 ⟨lp, 2, none⟩ (.slice Tw OX.length Tx)) (aa.vY HS.out 4 rfl (.slice Tw OX.length Tx))
   have az : af (Below base w (World.setCell w16 ⟨lp, 2, none⟩ (.slice Tw OX.length Tx))) := ⟨(HB.out).setCell (p := ⟨lp, 2, none⟩) (aa.ge HS.out 4 rfl) _⟩
   generalize World.setCell w16 ⟨lp, 2, none⟩ (.slice Tw OX.length Tx) = Kh at aj az ⊢
   clear HS HB zs0 kS; have HS := aj; have HB := az; clear aj az
   go_upto_region 24 with fail
   have sd54 : 0 < jW.length /\ jW.length <= 1000000 := by omega
   have Hl44m : af (OD.map NT.p = (jW.map NT.p).eraseIdx 0) := ⟨by rw [Tv.out, Db]⟩
   have fO := (aa.z2 HS.out 9 rfl)
   go_wp2_with (first | (go_at_call 129; (with_reducible refine (UR 0 0 rfl Hl44m.out (aa.iZ HS.out 12 rfl) sd54).mono ?_); rintro e Kl ⟨iy, rfl, ho, hb⟩; obtain ⟨Ty, Tz, yn⟩ := Kd.av ho; rw [List.length_map] at yn; subst yn; have aj := lu (aa.wZ HS.out hb (dS dE HB) ho); have az : af (Below base w Kl) := ⟨(HB.out).trans (hb.mono (dS dE HB))⟩; clear HS HB ho hb; have HS := aj; have HB := az; clear aj az; clear fO; have fO := (aa.z2 HS.out 9 rfl); have zs0 := aa.z2 HS.out 9 rfl; have kS := aa.f HS.out 9 rfl 2))
   have aj := gK (World.setCell Kl ⟨rp, 2, none⟩ (.slice Ty OD.length Tz)) (aa.iN (aa.vY HS.out 9 rfl (.slice Ty OD.length Tz)) [0, 1, 2, 3, 4, 5, 6, 7, 8, 9, 10, 11, 19, 13, 14, 15, 16, 17, 18] (by decide))
   have az : af (Below base w (World.setCell Kl ⟨rp, 2, none⟩ (.slice Ty OD.length Tz))) := ⟨(HB.out).setCell (p := ⟨rp, 2, none⟩) (aa.ge HS.out 9 rfl) _⟩
   generalize World.setCell Kl ⟨rp, 2, none⟩ (.slice Ty OD.length Tz) = Mc at aj az ⊢
   clear HS HB fO zs0 kS; have HS := aj; have HB := az; clear aj az
   have Vu : af (NT.bE 96 70 jW = s.dI 96 70 ++ NT.bE 96 70 OD) := ⟨by rw [Tv.out, oF 96 70 kD.out.1, List.take_zero, NT.bE, List.nil_append, List.eraseIdx_zero, <- List.drop_one]⟩
   have aj : af (aa Mc base [mM 96 tp (jV qa) tks.length il (jV qb) tvs.length iA (some lI) bq.length iM, xW (jV qa) tks.length il l3, xW (jV qb) tvs.length iA l4, qm 70 (some lI) iM bq, mM 96 lp Kt l1.length Ku vH l2.length c31 Tw OX.length Tx, iT Kt Ku l1, iT vH c31 l2, qm 70 Tw Tx OX, (NT.bE 96 70 lcs), mM 96 rp BR l5.length DF Kv l6.length Kw Ty OD.length Tz, iT BR DF l5, iT Kv Kw l6, qm 70 Ty Tz OD, (NT.bE 96 70 OD), GP, GQ, [txt (.slice uw 1 c19) [tx]], [txt (.slice Wp 1 c28) [ty]], [.own 70 (.slice A48 1 c49) (encs bG [sp])], (s.dI 96 70)]) := ⟨aa.Wy HS.out 13 (congrArg some Vu.out)⟩
   have az : af (Below base w Mc) := ⟨HB.out⟩
   clear HS HB; have HS := aj; have HB := az; clear aj az
   go_end0
   have hS := Mt (aa.iN HS.out [0, 1, 2, 3, 4, 5, 6, 7, 8, 19, 9, 10, 11, 12, 13, 14, 15] (by decide))
   refine ⟨rfl, NT.mk tp (.slice (some ⟨qa, 0, none⟩) tks.length il) (.slice (some ⟨qb, 0, none⟩) tvs.length iA) (.slice (some lI) bq.length iM) l3 l4 (P ++ NT.mk lp (.slice Kt l1.length Ku) (.slice vH l2.length c31) (.slice Tw OX.length Tx) l1 l2 OX :: NT.mk rp (.slice BR l5.length DF) (.slice Kv l6.length Kw) (.slice Ty OD.length Tz) l5 l6 OD :: Q), rfl, ?_, shut_pair rfl ?_, HB.out⟩
   ·have e0 := HRR.out
    rw [HT.out] at e0
    rw [e0]
    show PT.mk l3 l4 (NT.aQ (P ++ _ :: _ :: Q)) = H8 (PT.mk tks tvs (NT.aQ (P ++ _ :: _ :: Q))) i
    simp only [aK, List.map_append, List.map_cons]
    rw [Eb (by rw [List.length_map]; exact HP.out)]
    have LK := wK.out
    subst LK
    have LM := y8.out
    subst LM
    have LP := IZ.out
    subst LP
    have LQ := Km.out
    subst LQ
    have LU := Kn.out
    subst LU
    have LV := Ko.out
    subst LV
    have el43 := Tu.out
    subst el43
    have el44 := Tv.out
    subst el44
    have VC := yt.out.2
    subst VC
    have ety := yu.out.2
    subst ety
    have XC := Tm.out.2
    subst XC
    have XD := Tn.out.2
    subst XD
    have hn : ¬ jW = [] := fun h => rT (by rw [h]; rfl)
    have hs' : (jW.map NT.erase).head? = some s.erase := by rw [List.head?_eq_getElem?, List.getElem?_map, kD.out.1]; rfl
    simp [sF, uF, NT.erase, aK, PT.keys, PT.vals, PT.kids, fC, hn, List.map_drop, List.eraseIdx_zero]
    rw [kD.out.1]
    rfl
   ·unfold oK
    simp only [NT.keys, NT.vals, NT.kids, NT.p, NT.kv, NT.vv, NT.cv]
    have hq : ∀ a b : NT, a.p = lp -> b.p = rp -> ptrs (P ++ a :: b :: Q) = ptrs bq := fun a b ha hb => by rw [HT.out]; simp only [ptrs, List.map_append, List.map_cons, ha, hb]; rfl
    have hc : NT.bE 96 70 OX = NT.bE 96 70 lcs ++ s.dI 96 70 := by rw [Tu.out, iC, NT.bE, NT.bE, List.append_nil]
    rw [hq _ _ rfl rfl, <- Tj.out, <- Tk.out, hc]
    unfold aa at hS ⊢
    simp only [List.flatten_cons, List.append_assoc] at hS ⊢
    exact hS
set_option maxHeartbeats 8000000
set_option maxRecDepth 100000
theorem Dp.calls (t l r : NT) (P Q : List NT) (i : Nat) (ht : t.kids = P ++ l :: r :: Q) (hP : P.length = i) (hl : OQ l.keys l.vals l.kids.length) (hr : OQ r.keys r.vals r.kids.length) (hj : i < t.keys.length /\ t.keys.length <= 1000 /\ t.vals.length = t.keys.length /\ t.kids.length = t.keys.length + 1)
  (base : Nat) (L : List Ck) (w : World) (hs : Sat w base (t.dI 96 70 ++ L)) (hbs : base <= w.heap.size) :
  Calls Try.prog 130 #[bG t.p, .int .i64 (i : Int)] w (WR w base 96 70 t L (zO t.erase i)) := by
 cases t with | mk tp EZ E8 E9 tks tvs bq =>
 cases l with | mk lp QR QS QT gB uL lcs =>
 cases r with | mk rp QU QV rcv uM uy jW =>
 have h0 := open_pair ht hs
 unfold oK at h0
 simp only [NT.keys, NT.vals, NT.kids, NT.p, NT.kv, NT.vv, NT.cv] at ht hl hr hj h0 ⊢
 clear hs
 unfold OQ at hl hr
 obtain ⟨hl1, hl2, hl3⟩ := hl
 obtain ⟨hr1, hr2, hr3⟩ := hr
 obtain ⟨hj1, hj2, Qb, Tf⟩ := hj
 have hil : (i + 1) < bq.length := by rw [ht, List.length_append, hP]; simp only [List.length_cons]; omega
 have hij : (i + 1) = i + 1 := by omega
 have HP := A_ hP
 have HT := A_ ht
 have hkl : bq[i]? = some (NT.mk lp QR QS QT gB uL lcs) /\ (NT.mk lp QR QS QT gB uL lcs).p = lp := ⟨by rw [ht]; exact Rc hP, rfl⟩
 have hkr : bq[(i + 1)]? = some (NT.mk rp QU QV rcv uM uy jW) /\ (NT.mk rp QU QV rcv uM uy jW).p = rp := ⟨by rw [ht, hij]; exact Re hP, rfl⟩
 have GN := A_ hkl
 have Ur := A_ hkr
 clear hkl hkr ht hij
 obtain ⟨R, hR⟩ : ∃ R, R = zO (NT.mk tp EZ E8 E9 tks tvs bq).erase i := ⟨_, rfl⟩
 rw [<- hR]
 have HRR := A_ hR
 clear hR
 obtain ⟨kG, il, rfl⟩ := Kd.av (h0.sr 1 rfl)
 obtain ⟨qa, rfl⟩ := gD (h0.sr 1 rfl) (by omega)
 obtain ⟨kQ, iA, rfl⟩ := Kd.av (h0.sr 2 rfl)
 obtain ⟨qb, rfl⟩ := gD (h0.sr 2 rfl) (by omega)
 obtain ⟨sZ, iM, rfl, _, _⟩ := dZ (h0.q 3 rfl)
 obtain ⟨lI, rfl⟩ := iQ (h0.q 3 rfl) (by omega)
 obtain ⟨Us, BU, rfl⟩ := Kd.av (h0.sr 5 rfl)
 obtain ⟨Ut, BV, rfl⟩ := Kd.av (h0.sr 6 rfl)
 obtain ⟨I4, xO, rfl, _, _⟩ := dZ (h0.q 7 rfl)
 obtain ⟨Uu, Tg, rfl⟩ := Kd.av (h0.sr 10 rfl)
 obtain ⟨Uv, Ti, rfl⟩ := Kd.av (h0.sr 11 rfl)
 obtain ⟨I5, crc, rfl, _, _⟩ := dZ (h0.q 12 rfl)
 obtain ⟨GP, OA⟩ : ∃ G, G = NT.bE 96 70 P := ⟨_, rfl⟩
 obtain ⟨GQ, OB⟩ : ∃ G, G = NT.bE 96 70 Q ++ L := ⟨_, rfl⟩
 rw [<- OA, <- OB] at h0
 have HS := A_ h0
 have HB := A_ (Below.refl base w)
 have dE := A_ hbs
 have Tj := A_ OA
 have Tk := A_ OB
 clear h0 hbs OA OB hP
 have Vz := A_ (show jW.length <= 1001 /\ lcs.length <= 1001 by omega)
 have hrc : jW.length <= 1001 := by omega
 have hlc : lcs.length <= 1001 := by omega
 have hrv : uy.length <= 1000 := by omega
 have hlv : uL.length <= 1000 := by omega
 have IX : i < tvs.length /\ tvs.length <= 1000 := by omega
 have htc : bq.length <= 1001 := by omega
 clear hl2 hl3 hr2 hr3 Qb Tf
 obtain ⟨tx, htx⟩ : ∃ x, bP tks i = x := ⟨_, rfl⟩
 have yt : af (i < tks.length /\ bP tks i = tx) := ⟨by omega, htx⟩
 clear htx
 obtain ⟨ty, hty⟩ : ∃ x, bP tvs i = x := ⟨_, rfl⟩
 have yu : af (i < tvs.length /\ bP tvs i = ty) := ⟨by omega, hty⟩
 clear hty
 obtain ⟨l1, wK⟩ := rM (gB ++ [tx])
 obtain ⟨l2, y8⟩ := rM (l1 ++ uM)
 have hl1b : l1.length <= 1001 := by rw [wK.out, List.length_append]; simp only [List.length_cons, List.length_nil]; omega
 obtain ⟨l3, IZ⟩ := rM (uL ++ [ty])
 obtain ⟨l4, Km⟩ := rM (l3 ++ uy)
 have hl3b : l3.length <= 1001 := by rw [IZ.out, List.length_append]; simp only [List.length_cons, List.length_nil]; omega
 obtain ⟨l5, Kn⟩ := rM (tks.eraseIdx i)
 obtain ⟨l6, Ko⟩ := rM (tvs.eraseIdx i)
 obtain ⟨l7, XE⟩ := rM (lcs ++ jW)
 have VB : af (lcs.map NT.p ++ jW.map NT.p = l7.map NT.p) := ⟨by rw [XE.out, List.map_append]⟩
 obtain ⟨l8, XF⟩ := rM (bq.eraseIdx (i + 1))
 go_enter Try.func130, Try.ntmps130
 have b9 := dJ (0 <= (i : Int))
 have b10 := dJ ((i : Int) < (bq.length : Int))
 have b11 := dJ (i < bq.length)
 have fO := (aa.z2 HS.out 0 rfl)
 have vF := (lC (aa.iZ HS.out 3 rfl) GN.out)
 go_upto_region 1 with fail
 clear fO vF
 have b12 := dJ (0 <= ((i : Int) + 1))
 have b13 := dJ (((i : Int) + 1) < (bq.length : Int))
 have b14 := dJ ((i + 1) < bq.length)
 have fO := (aa.z2 HS.out 0 rfl)
 have vF := (D8 (aa.iZ HS.out 3 rfl) Ur.out (by omega))
 go_upto_region 2 with fail
 clear fO vF
 have b15 := dJ ((i : Int) < (tks.length : Int))
 have b16 := dJ (i < tks.length)
 have OC : (gB.length + 1) * 16 <= 140737488355328 := by omega
 have sd27 : (l1.length + uM.length) * 16 <= 140737488355328 := by omega
 refine dz (n := 22) (S := fun w' => w'.cell? ⟨lp, 0, none⟩ = some (.slice Us gB.length BU) /\ w'.cell? ⟨tp, 0, none⟩ = some (.slice (some ⟨qa, 0, none⟩) tks.length il) /\ w'.cell? ⟨qa, i, none⟩ = some (.string tx) /\ w'.cell? ⟨rp, 0, none⟩ = some (.slice Uu uM.length Tg)) (ds := [21]) (bt 22 0) (by kernel_rfl) rfl rfl ⟨(aa.z0 (aa.drew HS.out) 4 rfl), (aa.z0 (aa.drew HS.out) 0 rfl), (jF (aa.sr (aa.drew HS.out) 1 rfl) yt.out), (aa.z0 (aa.drew HS.out) 9 rfl)⟩ (fun hHeld => ?_)
 refine aV 0 21 1 ?_
 refine aV 1 22 3 ?_
 refine aV 2 23 7 ?_
 refine aV 3 24 15 ?_
 refine aV 5 26 47 ?_
 refine aV 6 27 111 ?_
 refine aV 7 28 239 ?_
 refine aV 9 30 751 ?_
 refine aV 14 35 17135 ?_
 refine aV 15 36 49903 ?_
 refine aV 16 37 115439 ?_
 refine ik 4 25 115455 hHeld ?_
 refine ik 8 29 115711 hHeld ?_
 refine aV 10 31 116735 ?_
 refine ik 11 32 118783 hHeld ?_
 refine ik 17 38 249855 hHeld ?_
 refine jg 12 (some 33) 253951 (fun K hK => ?_)
 refine Kd.bn Kd.string (w0 := w) base 9 (by rfl) (N := 33) rfl (xs := [tx]) (inner := [.string tx]) (ok := fun _ => True) (okp := fun _ => False) ?hr (Kd.aX (enc := Value.string) [tx]) (fun _ h => h.elim) trivial (aH HB.out) (dS dE HB) (by simp) ?_
 (case hr => first | (go_simp; done) | (go_simp; rfl))
 intro v17 w2 ho hb hg hn
 obtain ⟨uw, c19, rfl⟩ : ∃ A c, v17 = .slice A 1 c := Kd.av ho
 have aj := lu (aa.lit (aa.drew HS.out) ho hg hn)
 have az : af (Below base w w2) := ⟨hb⟩
 clear HS HB ho hb hg hn; have HS := aj; have HB := az; clear aj az
 refine hK.out _ _ ⟨(aa.z0 HS.out 4 rfl), (aa.z0 HS.out 0 rfl), (jF (aa.sr HS.out 1 rfl) yt.out), (aa.z0 HS.out 9 rfl)⟩ (fun hHeld => ?_)
 clear hK K
 refine eF 33 ?_
 refine jg 13 (some 34) 262143 (fun K hK => ?_)
 refine Kd.aJ Kd.string (w0 := w) base (by rfl) (.tmp 25) (.tmp 33) 38 9 (.string ⟨#[]⟩) 16 rfl Try.underlying38 dh rfl (by decide) (by omega) (.slice Us gB.length BU) gB [tx] uw 1 c19 (fun _ => True) (fun _ => False) rfl rfl (aa.sr HS.out 5 rfl) (zV HS.out 16 rfl) (fun _ _ h => h) (fun _ h => h.elim) (fun _ _ => trivial) HB.out (dS dE HB) OC ?_
 intro u20 w3 ho hb hg hat
 rw [<- wK.out] at ho
 obtain ⟨Kt, Ku, rfl⟩ := Kd.av ho
 have aj := lu (aa.app 5 HS.out rfl ho hg hat)
 have az : af (Below base w w3) := ⟨hb⟩
 clear HS HB ho hb hg hat; have HS := aj; have HB := az; clear aj az
 refine hK.out _ _ ⟨(aa.z0 HS.out 4 rfl), (aa.z0 HS.out 0 rfl), (jF (aa.sr HS.out 1 rfl) yt.out), (aa.z0 HS.out 9 rfl)⟩ (fun hHeld => ?_)
 clear hK K
 refine eF 34 ?_
 refine jg 18 (some 39) 524287 (fun K hK => ?_)
 refine Kd.aJ Kd.string (w0 := w) base (by rfl) (.tmp 34) (.tmp 38) 38 9 (.string ⟨#[]⟩) 16 rfl Try.underlying38 dh rfl (by decide) (by omega) (.slice Kt l1.length Ku) l1 uM Uu uM.length Tg (fun _ => True) (fun _ => False) rfl rfl (aa.sr HS.out 5 rfl) (zV HS.out 10 rfl) (fun _ _ h => h) (fun _ h => h.elim) (fun _ _ => trivial) HB.out (dS dE HB) sd27 ?_
 intro u24 w4 ho hb hg hat
 rw [<- y8.out] at ho
 obtain ⟨Sq, VE, rfl⟩ := Kd.av ho
 have aj := lu (aa.app 5 HS.out rfl ho hg hat)
 have az : af (Below base w w4) := ⟨hb⟩
 clear HS HB ho hb hg hat; have HS := aj; have HB := az; clear aj az
 have zs0 := aa.z0 HS.out 4 rfl
 have kS := aa.f HS.out 4 rfl 0
 refine hK.out _ _ ⟨(aa.z0 HS.out 4 rfl), (aa.z0 HS.out 0 rfl), (jF (aa.sr HS.out 1 rfl) yt.out), (aa.z0 HS.out 9 rfl)⟩ (fun hHeld => ?_)
 clear hK K
 refine eF 39 ?_
 refine aV 19 40 1048575 ?_
 refine aV 20 41 2097151 ?_
 refine wW 21 none 4194303 (fun K hK => ?_)
 refine iU (w1 := ?_) (by rfl) rfl ?_ ?_
 rotate_left
 ·go_simp
  rfl
 refine hK.out _ _ ?_
 clear hK K
 refine fu (by kernel_rfl) ?_
 have aj := gK (World.setCell w4 ⟨lp, 0, none⟩ (.slice Sq l2.length VE)) (aa.yC HS.out 4 rfl (.slice Sq l2.length VE))
 have az : af (Below base w (World.setCell w4 ⟨lp, 0, none⟩ (.slice Sq l2.length VE))) := ⟨(HB.out).setCell (p := ⟨lp, 0, none⟩) (aa.ge HS.out 4 rfl) _⟩
 generalize World.setCell w4 ⟨lp, 0, none⟩ (.slice Sq l2.length VE) = w5 at aj az ⊢
 clear HS HB zs0 kS; have HS := aj; have HB := az; clear aj az
 go_upto_region 3 with fail
 have b28 := dJ ((i : Int) < (tvs.length : Int))
 have b29 := dJ (i < tvs.length)
 have sd36 : (uL.length + 1) * 16 <= 140737488355328 := by omega
 have Tt : (l3.length + uy.length) * 16 <= 140737488355328 := by omega
 refine dz (n := 22) (S := fun w' => w'.cell? ⟨lp, 1, none⟩ = some (.slice Ut uL.length BV) /\ w'.cell? ⟨tp, 1, none⟩ = some (.slice (some ⟨qb, 0, none⟩) tvs.length iA) /\ w'.cell? ⟨qb, i, none⟩ = some (.string ty) /\ w'.cell? ⟨rp, 1, none⟩ = some (.slice Uv uy.length Ti)) (ds := [21]) (bt 22 0) (by kernel_rfl) rfl rfl ⟨(aa.z1 (aa.drew HS.out) 4 rfl), (aa.z1 (aa.drew HS.out) 0 rfl), (jF (aa.sr (aa.drew HS.out) 2 rfl) yu.out), (aa.z1 (aa.drew HS.out) 9 rfl)⟩ (fun hHeld => ?_)
 refine aV 0 42 1 ?_
 refine aV 1 43 3 ?_
 refine aV 2 44 7 ?_
 refine aV 3 45 15 ?_
 refine aV 5 47 47 ?_
 refine aV 6 48 111 ?_
 refine aV 7 49 239 ?_
 refine aV 9 51 751 ?_
 refine aV 14 56 17135 ?_
 refine aV 15 57 49903 ?_
 refine aV 16 58 115439 ?_
 refine ik 4 46 115455 hHeld ?_
 refine ik 8 50 115711 hHeld ?_
 refine aV 10 52 116735 ?_
 refine ik 11 53 118783 hHeld ?_
 refine ik 17 59 249855 hHeld ?_
 refine jg 12 (some 54) 253951 (fun K hK => ?_)
 refine Kd.bn Kd.string (w0 := w) base 9 (by rfl) (N := 54) rfl (xs := [ty]) (inner := [.string ty]) (ok := fun _ => True) (okp := fun _ => False) ?hr (Kd.aX (enc := Value.string) [ty]) (fun _ h => h.elim) trivial (aH HB.out) (dS dE HB) (by simp) ?_
 (case hr => first | (go_simp; done) | (go_simp; rfl))
 intro v30 w6 ho hb hg hn
 obtain ⟨A31, c32, rfl⟩ : ∃ A c, v30 = .slice A 1 c := Kd.av ho
 have aj := lu (aa.lit (aa.drew HS.out) ho hg hn)
 have az : af (Below base w w6) := ⟨hb⟩
 clear HS HB ho hb hg hn; have HS := aj; have HB := az; clear aj az
 refine hK.out _ _ ⟨(aa.z1 HS.out 4 rfl), (aa.z1 HS.out 0 rfl), (jF (aa.sr HS.out 2 rfl) yu.out), (aa.z1 HS.out 9 rfl)⟩ (fun hHeld => ?_)
 clear hK K
 refine eF 54 ?_
 refine jg 13 (some 55) 262143 (fun K hK => ?_)
 refine Kd.aJ Kd.string (w0 := w) base (by rfl) (.tmp 46) (.tmp 54) 38 9 (.string ⟨#[]⟩) 16 rfl Try.underlying38 dh rfl (by decide) (by omega) (.slice Ut uL.length BV) uL [ty] A31 1 c32 (fun _ => True) (fun _ => False) rfl rfl (aa.sr HS.out 6 rfl) (zV HS.out 17 rfl) (fun _ _ h => h) (fun _ h => h.elim) (fun _ _ => trivial) HB.out (dS dE HB) sd36 ?_
 intro u33 w7 ho hb hg hat
 rw [<- IZ.out] at ho
 obtain ⟨A34, c35, rfl⟩ := Kd.av ho
 have aj := lu (aa.app 6 HS.out rfl ho hg hat)
 have az : af (Below base w w7) := ⟨hb⟩
 clear HS HB ho hb hg hat; have HS := aj; have HB := az; clear aj az
 refine hK.out _ _ ⟨(aa.z1 HS.out 4 rfl), (aa.z1 HS.out 0 rfl), (jF (aa.sr HS.out 2 rfl) yu.out), (aa.z1 HS.out 9 rfl)⟩ (fun hHeld => ?_)
 clear hK K
 refine eF 55 ?_
 refine jg 18 (some 60) 524287 (fun K hK => ?_)
 refine Kd.aJ Kd.string (w0 := w) base (by rfl) (.tmp 55) (.tmp 59) 38 9 (.string ⟨#[]⟩) 16 rfl Try.underlying38 dh rfl (by decide) (by omega) (.slice A34 l3.length c35) l3 uy Uv uy.length Ti (fun _ => True) (fun _ => False) rfl rfl (aa.sr HS.out 6 rfl) (zV HS.out 11 rfl) (fun _ _ h => h) (fun _ h => h.elim) (fun _ _ => trivial) HB.out (dS dE HB) Tt ?_
 intro u37 w8 ho hb hg hat
 rw [<- Km.out] at ho
 obtain ⟨BR, DF, rfl⟩ := Kd.av ho
 have aj := lu (aa.app 6 HS.out rfl ho hg hat)
 have az : af (Below base w w8) := ⟨hb⟩
 clear HS HB ho hb hg hat; have HS := aj; have HB := az; clear aj az
 have zs0 := aa.z1 HS.out 4 rfl
 have kS := aa.f HS.out 4 rfl 1
 refine hK.out _ _ ⟨(aa.z1 HS.out 4 rfl), (aa.z1 HS.out 0 rfl), (jF (aa.sr HS.out 2 rfl) yu.out), (aa.z1 HS.out 9 rfl)⟩ (fun hHeld => ?_)
 clear hK K
 refine eF 60 ?_
 refine aV 19 61 1048575 ?_
 refine aV 20 62 2097151 ?_
 refine wW 21 none 4194303 (fun K hK => ?_)
 refine iU (w1 := ?_) (by rfl) rfl ?_ ?_
 rotate_left
 ·go_simp
  rfl
 refine hK.out _ _ ?_
 clear hK K
 refine fu (by kernel_rfl) ?_
 have aj := gK (World.setCell w8 ⟨lp, 1, none⟩ (.slice BR l4.length DF)) (aa.yD HS.out 4 rfl (.slice BR l4.length DF))
 have az : af (Below base w (World.setCell w8 ⟨lp, 1, none⟩ (.slice BR l4.length DF))) := ⟨(HB.out).setCell (p := ⟨lp, 1, none⟩) (aa.ge HS.out 4 rfl) _⟩
 generalize World.setCell w8 ⟨lp, 1, none⟩ (.slice BR l4.length DF) = w9 at aj az ⊢
 clear HS HB zs0 kS; have HS := aj; have HB := az; clear aj az
 go_upto_region 4 with fail
 have sd44 : ((lcs.map NT.p).length + jW.length) * 8 <= 140737488355328 := by rw [List.length_map]; omega
 refine dz (n := 13) (S := fun w' => w'.cell? ⟨lp, 2, none⟩ = some (.slice I4 lcs.length xO) /\ w'.cell? ⟨rp, 2, none⟩ = some (.slice I5 jW.length crc)) (ds := [12]) (bt 13 0) (by kernel_rfl) rfl rfl ⟨(aa.z2 (aa.drew HS.out) 4 rfl), (aa.z2 (aa.drew HS.out) 9 rfl)⟩ (fun hHeld => ?_)
 refine aV 0 63 1 ?_
 refine aV 1 64 3 ?_
 refine aV 2 65 7 ?_
 refine aV 3 66 15 ?_
 refine aV 5 68 47 ?_
 refine aV 6 69 111 ?_
 refine aV 7 70 239 ?_
 refine ik 4 67 255 hHeld ?_
 refine ik 8 71 511 hHeld ?_
 refine jg 9 (some 72) 1023 (fun K hK => ?_)
 refine nP (w0 := w) base (by rfl) (.tmp 67) (.tmp 71) 94 70 rfl iD jJ (.slice I4 lcs.length xO) (lcs.map NT.p) (jW.map NT.p) I5 jW.length crc rfl rfl (aa.q (aa.drew HS.out) 7 rfl) (UO (aa.drew HS.out) 12 rfl) (aH HB.out) (dS dE HB) sd44 ?_
 intro u41 uK ho hb hg hat
 rw [VB.out] at ho
 obtain ⟨Kq, Kr, yn⟩ := Kd.yO ho
 rw [List.length_map] at yn
 obtain ⟨rfl, _⟩ := yn
 have aj := lu (aa.Qs 7 (aa.drew HS.out) rfl ho hg hat)
 have az : af (Below base w uK) := ⟨hb⟩
 clear HS HB ho hb hg hat; have HS := aj; have HB := az; clear aj az
 have zs0 := aa.z2 HS.out 4 rfl
 have kS := aa.f HS.out 4 rfl 2
 refine hK.out _ _ ⟨(aa.z2 HS.out 4 rfl), (aa.z2 HS.out 9 rfl)⟩ (fun hHeld => ?_)
 clear hK K
 refine eF 72 ?_
 refine aV 10 73 2047 ?_
 refine aV 11 74 4095 ?_
 refine wW 12 none 8191 (fun K hK => ?_)
 refine iU (w1 := ?_) (by rfl) rfl ?_ ?_
 rotate_left
 ·go_simp
  rfl
 refine hK.out _ _ ?_
 clear hK K
 refine fu (by kernel_rfl) ?_
 have aj := gK (World.setCell uK ⟨lp, 2, none⟩ (.slice Kq l7.length Kr)) (aa.vY HS.out 4 rfl (.slice Kq l7.length Kr))
 have az : af (Below base w (World.setCell uK ⟨lp, 2, none⟩ (.slice Kq l7.length Kr))) := ⟨(HB.out).setCell (p := ⟨lp, 2, none⟩) (aa.ge HS.out 4 rfl) _⟩
 generalize World.setCell uK ⟨lp, 2, none⟩ (.slice Kq l7.length Kr) = xM at aj az ⊢
 clear HS HB zs0 kS; have HS := aj; have HB := az; clear aj az
 go_upto_region 5 with fail
 have sd45 : i < tks.length /\ tks.length <= 1000000 := by omega
 have fO := (aa.z0 HS.out 0 rfl)
 go_upto_region 6 with (first | (go_at_call 112; (with_reducible refine (KP i (i : Int) rfl Kn.out (aa.row HS.out 1 rfl) sd45).mono ?_); rintro e ym ⟨iy, rfl, ho, hb⟩; obtain ⟨VF, VG, rfl⟩ := Kd.av ho; have aj := lu (aa.gJ HS.out hb (dS dE HB) ho); have az : af (Below base w ym) := ⟨(HB.out).trans (hb.mono (dS dE HB))⟩; clear HS HB ho hb; have HS := aj; have HB := az; clear aj az; clear fO; have fO := (aa.z0 HS.out 0 rfl); have zs0 := aa.z0 HS.out 0 rfl; have kS := aa.f HS.out 0 rfl 0))
 have aj := gK (World.setCell ym ⟨tp, 0, none⟩ (.slice VF l5.length VG)) (aa.iN (aa.yC HS.out 0 rfl (.slice VF l5.length VG)) [0, 18, 2, 3, 4, 5, 6, 7, 8, 9, 10, 11, 12, 13, 14, 15, 16, 17] (by decide))
 have az : af (Below base w (World.setCell ym ⟨tp, 0, none⟩ (.slice VF l5.length VG))) := ⟨(HB.out).setCell (p := ⟨tp, 0, none⟩) (aa.ge HS.out 0 rfl) _⟩
 generalize World.setCell ym ⟨tp, 0, none⟩ (.slice VF l5.length VG) = DD at aj az ⊢
 clear HS HB fO zs0 kS; have HS := aj; have HB := az; clear aj az
 have sd48 : i < tvs.length /\ tvs.length <= 1000000 := by omega
 have fO := (aa.z1 HS.out 0 rfl)
 go_upto_region 7 with (first | (go_at_call 112; (with_reducible refine (KP i (i : Int) rfl Ko.out (aa.row HS.out 2 rfl) sd48).mono ?_); rintro e wR ⟨iy, rfl, ho, hb⟩; obtain ⟨VH, VI, rfl⟩ := Kd.av ho; have aj := lu (aa.gJ HS.out hb (dS dE HB) ho); have az : af (Below base w wR) := ⟨(HB.out).trans (hb.mono (dS dE HB))⟩; clear HS HB ho hb; have HS := aj; have HB := az; clear aj az; clear fO; have fO := (aa.z1 HS.out 0 rfl); have zs0 := aa.z1 HS.out 0 rfl; have kS := aa.f HS.out 0 rfl 1))
 have aj := gK (World.setCell wR ⟨tp, 1, none⟩ (.slice VH l6.length VI)) (aa.iN (aa.yD HS.out 0 rfl (.slice VH l6.length VI)) [0, 1, 18, 3, 4, 5, 6, 7, 8, 9, 10, 11, 12, 13, 14, 15, 16, 17] (by decide))
 have az : af (Below base w (World.setCell wR ⟨tp, 1, none⟩ (.slice VH l6.length VI))) := ⟨(HB.out).setCell (p := ⟨tp, 1, none⟩) (aa.ge HS.out 0 rfl) _⟩
 generalize World.setCell wR ⟨tp, 1, none⟩ (.slice VH l6.length VI) = Gs at aj az ⊢
 clear HS HB fO zs0 kS; have HS := aj; have HB := az; clear aj az
 have sd51 : (i + 1) < bq.length /\ bq.length <= 1000000 := by omega
 have Hl8m : af (l8.map NT.p = (bq.map NT.p).eraseIdx (i + 1)) := ⟨by rw [XF.out, Db]⟩
 have fO := (aa.z2 HS.out 0 rfl)
 go_wp2_with (first | (go_at_call 129; (with_reducible refine (UR (i + 1) ((i : Int) + 1) (by omega) Hl8m.out (aa.iZ HS.out 3 rfl) sd51).mono ?_); rintro e w16 ⟨iy, rfl, ho, hb⟩; obtain ⟨VJ, c53, yn⟩ := Kd.av ho; rw [List.length_map] at yn; subst yn; have aj := lu (aa.wZ HS.out hb (dS dE HB) ho); have az : af (Below base w w16) := ⟨(HB.out).trans (hb.mono (dS dE HB))⟩; clear HS HB ho hb; have HS := aj; have HB := az; clear aj az; clear fO; have fO := (aa.z2 HS.out 0 rfl); have zs0 := aa.z2 HS.out 0 rfl; have kS := aa.f HS.out 0 rfl 2))
 have aj := gK (World.setCell w16 ⟨tp, 2, none⟩ (.slice VJ l8.length c53)) (aa.iN (aa.vY HS.out 0 rfl (.slice VJ l8.length c53)) [0, 1, 2, 18, 4, 5, 6, 7, 8, 9, 10, 11, 12, 13, 14, 15, 16, 17] (by decide))
 have az : af (Below base w (World.setCell w16 ⟨tp, 2, none⟩ (.slice VJ l8.length c53))) := ⟨(HB.out).setCell (p := ⟨tp, 2, none⟩) (aa.ge HS.out 0 rfl) _⟩
 generalize World.setCell w16 ⟨tp, 2, none⟩ (.slice VJ l8.length c53) = Kh at aj az ⊢
 clear HS HB fO zs0 kS; have HS := aj; have HB := az; clear aj az
 go_end0
 have hS := Mt (aa.iN HS.out [0, 1, 2, 3, 4, 5, 6, 7, 8, 13, 14, 15] (by decide))
 obtain ⟨m, hm⟩ : ∃ m, m = NT.mk lp (.slice Sq l2.length VE) (.slice BR l4.length DF) (.slice Kq l7.length Kr) l2 l4 l7 := ⟨_, rfl⟩
 refine ⟨rfl, NT.mk tp (.slice VF l5.length VG) (.slice VH l6.length VI) (.slice VJ l8.length c53) l5 l6 (P ++ m :: Q), rfl, ?_, MM rfl ?_, HB.out⟩
 ·have e0 := HRR.out
  rw [HT.out] at e0
  rw [e0]
  show PT.mk l5 l6 (NT.aQ (P ++ m :: Q)) = zO (PT.mk tks tvs (NT.aQ (P ++ _ :: _ :: Q))) i
  simp only [aK, List.map_append, List.map_cons]
  rw [zW (by rw [List.length_map]; exact HP.out), hm]
  have LK := wK.out
  subst LK
  have LM := y8.out
  subst LM
  have LP := IZ.out
  subst LP
  have LQ := Km.out
  subst LQ
  have LU := Kn.out
  subst LU
  have LV := Ko.out
  subst LV
  have el7 := XE.out
  subst el7
  have el8 := XF.out
  subst el8
  have VC := yt.out.2
  subst VC
  have ety := yu.out.2
  subst ety
  simp [zN, NT.erase, aK, PT.keys, PT.vals, PT.kids]
 ·unfold JH
  simp only [NT.keys, NT.vals, NT.kids, NT.p, NT.kv, NT.vv, NT.cv]
  have hq : ptrs (P ++ m :: Q) = ptrs l8 := by
   have e1 := XF.out
   have e2 := HT.out
   have e3 := HP.out
   rw [e1, e2]
   subst e3
   exact (KO (by rw [hm]; rfl)).symm
  have hc : NT.bE 96 70 l7 = NT.bE 96 70 lcs ++ NT.bE 96 70 jW := by rw [XE.out, iC]
  rw [hq, <- Tj.out, <- Tk.out, hm]
  simp only [NT.keys, NT.vals, NT.kids, NT.p, NT.kv, NT.vv, NT.cv]
  rw [hc]
  unfold aa at hS ⊢
  simp only [List.flatten_cons, List.append_assoc] at hS ⊢
  exact hS
set_option maxHeartbeats 8000000
set_option maxRecDepth 100000
theorem Az {w : World} {base T E : Nat} {t : NT} {L : List Ck} (hs : Sat w base (t.dI T E ++ L)) (hc : 0 < t.kids.length) :
  ∃ (Ak Av : Option Addr) (ad : Addr) (ck cv cc : Nat), w.cell? ⟨t.p, 0, none⟩ = some (.slice Ak t.keys.length ck) /\ w.cell? ⟨t.p, 1, none⟩ = some (.slice Av t.vals.length cv) /\ w.cell? ⟨t.p, 2, none⟩ = some (.slice (some ad) t.kids.length cc) /\
   (t.kids.length = t.kids.length /\ t.kids.length <= cc /\ eT.C w (some ad) t.kids.length (t.kids.map NT.p)) := by
 have h0 := fF hs
 obtain ⟨Ak, ck, e1⟩ := Kd.av (h0.sr 1 rfl)
 obtain ⟨Av, cv, e2⟩ := Kd.av (h0.sr 2 rfl)
 obtain ⟨Ac, cc, e3, h3, h4⟩ := dZ (h0.q 3 rfl)
 have hq := h0.q 3 rfl
 rw [e3] at hq
 obtain ⟨ad, rfl⟩ := iQ hq hc
 have z0 := h0.z0 0 rfl
 have z1 := h0.z1 0 rfl
 have z2 := h0.z2 0 rfl
 rw [e1] at z0
 rw [e2] at z1
 rw [e3] at z2
 exact ⟨Ak, Av, ad, ck, cv, cc, z0, z1, z2, rfl, h3, h4⟩
theorem AA.calls (t : NT) (i : Nat) (R : PT) (hno : i = 0 ∨ 0 < i /\ ∃ s : NT, t.kids[i - 1]? = some s /\ s.keys.length <= 2) (hj : t.keys.length <= 1000 /\ t.kids.length = t.keys.length + 1 /\ i < t.kids.length) (base : Nat) (L : List Ck) (w : World) (hs : Sat w base (t.dI 96 70 ++ L))
  (hc : i < t.keys.length /\ (∃ s : NT, t.kids[i + 1]? = some s /\ s.keys.length <= 2) /\ Calls Try.prog 130 #[bG t.p, .int .i64 (i : Int)] w (WR w base 96 70 t L R) ∨
   i = t.keys.length /\ 0 < i /\ Calls Try.prog 130 #[bG t.p, .int .i64 ((i - 1 : Nat) : Int)] w (WR w base 96 70 t L R)) :
  Calls Try.prog 113 #[bG t.p, .int .i64 (i : Int)] w (WR w base 96 70 t L R) := by
 obtain ⟨Ak, Av, ad, ck, cv, cc, z0, z1, z2, hq⟩ := Az hs (by omega)
 have Wn : af (i = 0 ∨ 0 < i /\ ∃ (sp n : Nat) (A : Option Addr) (c : Nat), w.cell? (ad.add (i - 1)) = some (bG sp) /\ n <= 2 /\ w.cell? ⟨sp, 0, none⟩ = some (.slice A n c)) := ⟨by
  rcases hno with h | ⟨h, s, h1, h2⟩
  ·exact .inl h
  ·obtain ⟨A, c, h3⟩ := zU hs h1
   exact .inr ⟨h, s.p, s.keys.length, A, c, lC hq ⟨h1, rfl⟩, h2, h3⟩⟩
 have HC : af (i < t.keys.length /\ (∃ (sp n : Nat) (A : Option Addr) (c : Nat), w.cell? ⟨ad.block, ad.off + (i + 1), none⟩ = some (bG sp) /\ n <= 2 /\ w.cell? ⟨sp, 0, none⟩ = some (.slice A n c)) /\ Calls Try.prog 130 #[bG t.p, .int .i64 (i : Int)] w (WR w base 96 70 t L R) ∨
   i = t.keys.length /\ 0 < i /\ Calls Try.prog 130 #[bG t.p, .int .i64 ((i : Int) - 1)] w (WR w base 96 70 t L R)) := ⟨by
  rcases hc with ⟨h, ⟨s, h1, h2⟩, h3⟩ | ⟨h, h1, h2⟩
  ·obtain ⟨A, c, h4⟩ := zU hs h1
   exact .inl ⟨h, ⟨s.p, s.keys.length, A, c, D8 hq ⟨h1, rfl⟩ (by omega), h2, h4⟩, h3⟩
  ·rw [show ((i - 1 : Nat) : Int) = (i : Int) - 1 by omega] at h2
   exact .inr ⟨h, h1, h2⟩⟩
 have zi := lC hq (And.intro (List.getElem?_eq_getElem hj.2.2) rfl)
 generalize (t.kids[i]).p = ip at zi
 obtain ⟨hj1, hj2, Qb⟩ := hj
 obtain ⟨nk, hnk⟩ : ∃ n, t.keys.length = n := ⟨_, rfl⟩
 obtain ⟨nc, hnc⟩ : ∃ n, t.kids.length = n := ⟨_, rfl⟩
 obtain ⟨tp, htp⟩ : ∃ p, t.p = p := ⟨_, rfl⟩
 rw [hnk] at z0 hj1 hj2
 rw [hnc] at z2 hj2 Qb
 rw [htp] at z0 z1 z2 ⊢
 rw [hnk, htp] at HC
 have HJ := A_ hj2
 have hil : nk <= 1000 /\ i < nc /\ nc <= 1001 := by omega
 clear hno hc hs hq z1 hnk hnc hj2 htp
 have b0 := dJ (0 <= (i : Int))
 have b1 := dJ ((i : Int) < (nc : Int))
 have b2 := dJ (i < nc)
 go_enter Try.func113, Try.ntmps113
 go_upto_region 2 with fail
 go_cut [19] (fun v_ wc => v_ = .bool false /\ w = wc)
 case first =>
  rcases Wn.out with h0 | ⟨h0, sp, ls, As, cs, hs1, hs2, hs3⟩
  ·have c_ := kT ((0 : Int) < (i : Int))
   go_wp2_with fail
   go_meet
   case rel => exact ⟨rfl, rfl⟩
  ·have c_ := kZ ((0 : Int) < (i : Int))
   have Wo := dJ (1 <= (i : Int))
   have XB := dJ (((i : Int) - 1) < (nc : Int))
   have b3_ := dJ ((i - 1) < nc)
   have Hf := kT ((2 : Int) < (ls : Int))
   go_wp2_with fail
   go_meet
   case rel => exact ⟨rfl, rfl⟩
 case rest =>
  obtain ⟨rfl, ew⟩ := hcut
  subst ew
  go_upto_region 14 with fail
  rcases HC.out with ⟨h1, ⟨sp, n, A, c, hz1, hn, hz2⟩, hC⟩ | ⟨h1, h2, hC⟩
  ·have TA := kZ ((i : Int) < (nk : Int))
   have Wo := dJ (0 <= (i : Int) + 1)
   have XB : ((i : Int) + 1 < (nc : Int)) = True := eq_true (by have := HJ.out; omega)
   have b3_ : (i + 1 < nc) = True := eq_true (by have := HJ.out; omega)
   have Hf := kT ((2 : Int) < (n : Int))
   go_wp2_with (first | (go_at_call 130; (with_reducible refine hC.mono ?_); rintro e w1 ⟨rfl, hr⟩))
   go_end0
   exact ⟨rfl, hr⟩
  ·have hge : nk <= i := by omega
   clear h1
   have TA := kT ((i : Int) < (nk : Int))
   go_wp2_with (first | (go_at_call 130; (with_reducible refine hC.mono ?_); rintro e w1 ⟨rfl, hr⟩))
   go_end0
   exact ⟨rfl, hr⟩
def VW (t : NT) : Prop := OQ t.keys t.vals t.kids.length
theorem vg {t s : NT} {j : Nat} (h : t.kids[j]? = some s) : fC t.erase j = s.erase := by
 unfold fC
 rw [q9, List.getD_eq_getElem?_getD, List.getElem?_map, h]
 rfl
theorem Ej {l : List NT} {j : Nat} {a b : NT} (ha : l[j]? = some a) (hb : l[j + 1]? = some b) : l = l.take j ++ a :: b :: l.drop (j + 2) := by
 rw [<- dY hb, <- dY ha, List.take_append_drop]
theorem K5.calls (t : NT) (i : Nat) (ht : VW t) (hk : t.kids.length = t.keys.length + 1) (h0 : 0 < t.keys.length) (hi : i < t.kids.length) (hks : ∀ s ∈ t.kids, VW s) (base : Nat) (L : List Ck) (w : World) (hs : Sat w base (t.dI 96 70 ++ L)) (hbs : base <= w.heap.size) :
  Calls Try.prog 113 #[bG t.p, .int .i64 (i : Int)] w (WR w base 96 70 t L (JB t.erase i)) := by
 obtain ⟨ht1, ht2, _⟩ := ht
 have key : t.erase.keys.length = t.keys.length := by rw [bA]
 have get : ∀ j, j < t.kids.length -> ∃ s : NT, t.kids[j]? = some s /\ VW s /\ fC t.erase j = s.erase := fun j hj => by
  have e : t.kids[j]? = some t.kids[j] := List.getElem?_eq_getElem hj
  exact ⟨_, e, hks _ (List.getElem_mem hj), vg e⟩
 unfold JB
 by_cases hA : 0 < i /\ 2 < (fC t.erase (i - 1)).keys.length
 ·rw [if_pos hA]
  obtain ⟨l, hl, ol, el⟩ := get (i - 1) (by omega)
  obtain ⟨r, hr, Rq, er⟩ := get i hi
  rw [el, bA] at hA
  exact Ik.calls t l r (t.kids.take (i - 1)) (t.kids.drop (i - 1 + 2)) i hA.1 (Ej hl (by rw [show i - 1 + 1 = i by omega]; exact hr)) (by rw [List.length_take]; omega) hA.2 ol Rq ⟨by omega, ht1, ht2, hk⟩ base L w hs hbs
 ·rw [if_neg hA]
  have hno : i = 0 ∨ 0 < i /\ ∃ s : NT, t.kids[i - 1]? = some s /\ s.keys.length <= 2 := by
   rcases Nat.eq_zero_or_pos i with h | h
   ·exact .inl h
   ·obtain ⟨l, hl, ol, el⟩ := get (i - 1) (by omega)
    rw [el, bA] at hA
    exact .inr ⟨h, l, hl, by omega⟩
  rw [key]
  by_cases hB : i < t.keys.length
  ·obtain ⟨l, hl, ol, el⟩ := get i hi
   obtain ⟨r, hr, Rq, er⟩ := get (i + 1) (by omega)
   have hp := Ej hl hr
   have hl' : (t.kids.take i).length = i := by rw [List.length_take]; omega
   by_cases hC : 2 < r.keys.length
   ·rw [if_pos ⟨hB, by rw [er, bA]; exact hC⟩]
    exact Il.calls t l r _ _ i hno hp hl' hC ol Rq ⟨hB, ht1, ht2, hk⟩ base L w hs hbs
   ·rw [if_neg (by rw [er, bA]; omega), if_pos hB]
    exact AA.calls t i _ hno ⟨ht1, hk, hi⟩ base L w hs (.inl ⟨hB, ⟨r, hr, by omega⟩, Dp.calls t l r _ _ i hp hl' ol Rq ⟨hB, ht1, ht2, hk⟩ base L w hs hbs⟩)
  ·rw [if_neg (fun h => hB h.1), if_neg hB]
   obtain ⟨l, hl, ol, el⟩ := get (i - 1) (by omega)
   obtain ⟨r, hr, Rq, er⟩ := get i hi
   exact AA.calls t i _ hno ⟨ht1, hk, hi⟩ base L w hs (.inr ⟨by omega, by omega, Dp.calls t l r _ _ (i - 1) (Ej hl (by rw [show i - 1 + 1 = i by omega]; exact hr)) (by rw [List.length_take]; omega) ol Rq ⟨by omega, ht1, ht2, hk⟩ base L w hs hbs⟩)
theorem yY {p0 q : Prop} (h0 : p0) (h : p0 -> q := by intro p9; repeat (first | exact p9 | (with_reducible refine Rd.drewN ?_ _) | (with_reducible refine Rd.drew ?_))) : q := h h0
set_option maxHeartbeats 8000000
set_option maxRecDepth 100000
open Go.Proofs.Ytoddejmlcnbdmaa.Pure (kJ aW rQ Has pJ ru lM oM qA)
def mG : Nat -> NT -> NT
 | 0, u => u
 | n + 1, u => match u.kids[u.kids.length - 1]? with
  | none => u
  | some c => mG n c
theorem AB : ∀ (n : Nat) (u : NT), (mG n u).erase = jN n u.erase
 | 0, u => rfl
 | n + 1, u => by
  rw [mG, jN, bT]
  cases h : u.kids[u.kids.length - 1]? with
  | none =>
   have : u.kids.length <= u.kids.length - 1 := List.getElem?_eq_none_iff.1 h
   rw [if_pos (by omega)]
  | some c =>
   have : u.kids.length - 1 < u.kids.length := (List.getElem?_eq_some_iff.1 h).1
   rw [if_neg (by omega)]
   simp only
   rw [AB n c, vg h]
theorem FU {T E : Nat} {w : World} {base : Nat} : ∀ (n : Nat) {u : NT}, Sat w base (u.dI T E) -> Sat w base ((mG n u).dI T E)
 | 0, u, h => h
 | n + 1, u, h => by
  rw [mG]
  cases hc : u.kids[u.kids.length - 1]? with
  | none => exact h
  | some c =>
   rw [NT.jy] at h
   exact FU n (vJ h.right hc)
theorem K6 : ∀ {n : Nat} {u : NT}, u.kids.length = 0 -> mG n u = u
 | 0, u, _ => rfl
 | n + 1, u, h => by rw [mG, List.getElem?_eq_none (by omega)]
theorem AJ {T E : Nat} {w : World} {base : Nat} {gs : List (List Ck)} {bq : List NT} {y : NT} (h : aa w base gs) (i : Nat) (hi : gs[i]? = some (NT.bE T E bq)) (hy : ∃ (j : Nat) (s : NT) (n : Nat), bq[j]? = some s /\ mG n s = y) : Sat w base (y.dI T E) := by
 obtain ⟨j, s, n, h1, rfl⟩ := hy
 exact FU n (vJ (h.at i hi) h1)
theorem El {T E : Nat} {w : World} {base : Nat} {y : NT} {v : Value} (h : Sat w base (y.dI T E)) (e : y.kv = v) : w.cell? ⟨y.p, 0, none⟩ = some v := by
 subst e
 rw [NT.jy] at h
 exact h.left.z 0 rfl 0
theorem Pt {T E : Nat} {w : World} {base : Nat} {y : NT} {v : Value} (h : Sat w base (y.dI T E)) (e : y.vv = v) : w.cell? ⟨y.p, 1, none⟩ = some v := by
 subst e
 rw [NT.jy] at h
 exact h.left.z 0 rfl 1
theorem M4 {T E : Nat} {w : World} {base g n c i : Nat} {y : NT} {x : ByteArray} (h : Sat w base (y.dI T E)) (e : y.kv = .slice (some ⟨g, 0, none⟩) n c) (hx : i < y.keys.length /\ bP y.keys i = x) : w.cell? ⟨g, i, none⟩ = some (.string x) := by
 rw [NT.jy] at h
 have := h.left.sr 1 rfl
 rw [e] at this
 exact jF this hx
theorem Rs {T E : Nat} {w : World} {base g n c i : Nat} {y : NT} {x : ByteArray} (h : Sat w base (y.dI T E)) (e : y.vv = .slice (some ⟨g, 0, none⟩) n c) (hx : i < y.vals.length /\ bP y.vals i = x) : w.cell? ⟨g, i, none⟩ = some (.string x) := by
 rw [NT.jy] at h
 have := h.left.sr 2 rfl
 rw [e] at this
 exact jF this hx
theorem K7 {T E : Nat} {w : World} {base : Nat} {y : NT} (h : Sat w base (y.dI T E)) (h0 : 0 < y.keys.length) (h1 : 0 < y.vals.length) : ∃ gk ck gv cv, y.kv = .slice (some ⟨gk, 0, none⟩) y.keys.length ck /\ y.vv = .slice (some ⟨gv, 0, none⟩) y.vals.length cv := by
 rw [NT.jy] at h
 have hk := h.left.sr 1 rfl
 have hv := h.left.sr 2 rfl
 obtain ⟨Ak, ck, e1⟩ := Kd.av hk
 obtain ⟨Av, cv, e2⟩ := Kd.av hv
 rw [e1] at hk
 rw [e2] at hv
 obtain ⟨gk, rfl⟩ := gD hk h0
 obtain ⟨gv, rfl⟩ := gD hv h1
 exact ⟨gk, ck, gv, cv, e1, e2⟩
theorem Im {w : World} {base T E : Nat} {t : NT} (hs : Sat w base (t.dI T E)) (hc : 0 < t.kids.length) : ∃ (ad : Addr) (cc : Nat), w.cell? ⟨t.p, 2, none⟩ = some (.slice (some ad) t.kids.length cc) /\ (t.kids.length = t.kids.length /\ t.kids.length <= cc /\ eT.C w (some ad) t.kids.length (t.kids.map NT.p)) := by
 obtain ⟨_, _, ad, _, _, cc, _, _, z2, hq⟩ := Az (L := []) (by rw [List.append_nil]; exact hs) hc
 exact ⟨ad, cc, z2, hq⟩
theorem Rt {t : NT} (h : kC t.erase) : VW t := by
 obtain ⟨⟨h1, h2, h3⟩, _⟩ := bL.1 h
 rw [bA] at h1 h2 h3
 rw [kX] at h1
 rw [bT] at h3
 exact ⟨by omega, h1, h3⟩
theorem Dq : ∀ (n : Nat) (t : PT) (h : Nat), t.big <= n -> rQ h t -> 0 < t.keys.length -> 0 < (jN n t).keys.length /\ (jN n t).keys.length <= 4 /\ (jN n t).vals.length = (jN n t).keys.length
 | 0, t, h, hb, _, _ => absurd t.eH (by omega)
 | n + 1, t, 0, hb, hk, _ => hk.l.elim
 | n + 1, t, h + 1, hb, hk, h0 => by
  obtain ⟨⟨h1, h2, h3⟩, h4⟩ := bL.1 hk.b
  rw [jN]
  rcases Go.Proofs.Ytoddejmlcnbdmaa.Pure.kg hk.b hk.l with ⟨_, hc⟩ | ⟨hh, hc, ha⟩
  ·rw [if_pos (by rw [hc]; rfl)]
   exact ⟨h0, h2, h1⟩
  ·rw [if_neg (by omega), show t.kids.length - 1 = t.keys.length by omega]
   have hx : t.kids[t.keys.length]? = some (t.kids[t.keys.length]'(by omega)) := List.getElem?_eq_getElem (by omega)
   have hm := List.mem_of_getElem? hx
   rw [Go.Proofs.Ytoddejmlcnbdmaa.Pure.kK hx]
   exact Dq n _ h (by have := PT.fH hx; omega) ⟨h4 _ hm, (ha _ hm).1⟩ (by have := (ha _ hm).2; omega)
def DR (w : World) (base T E : Nat) (t : NT) (L : List Ck) (r : Option PT) (e : Ending) (w' : World) : Prop := ∃ r', r = some r' /\ WR w base T E t L r' e w'
theorem K8.calls : ∀ (n : Nat) (t : NT) (key : ByteArray) (h : Nat), t.erase.big <= n -> rQ h t.erase -> (t.kids.length ≠ 0 -> 0 < t.keys.length) -> kJ (aW t.erase) -> Has key (aW t.erase) -> ∀ (base : Nat) (L : List Ck) (w : World), Sat w base (t.dI 96 70 ++ L) -> base <= w.heap.size ->
  Calls Try.prog 83 #[bG t.p, .string key] w (DR w base 96 70 t L (mg n t.erase key)) := by
 intro n
 induction n with
 | zero =>
  intro t key h hb
  exact absurd t.erase.eH (by omega)
 | succ n ih =>
  intro t key h hbig hkd hroot hsrt hhas base L w hs hbs
  cases h with
  | zero => exact hkd.l.elim
  | succ h =>
  have hrd := jI hs.left
  have hbd := hkd.b
  obtain ⟨⟨ho1, ho2, ho3⟩, qf⟩ := bL.1 hbd
  have h0 := fF hs
  have TB := A_ (Go.Proofs.Ytoddejmlcnbdmaa.Pure.kg hkd.b hkd.l)
  have Uw := A_ hsrt
  have QQ := A_ hhas
  have Uh := A_ hkd.b
  cases t with | mk tp EZ E8 E9 tks tvs bq =>
  have e0 : (NT.mk tp EZ E8 E9 tks tvs bq).erase = .mk tks tvs (NT.aQ bq) := rfl
  rw [e0] at hrd hbig ho1 ho2 ho3 qf TB Uw QQ Uh ⊢
  replace hrd : Rd 96 w tp (PT.mk tks tvs (NT.aQ bq)) := hrd
  unfold kW at h0
  simp only [NT.keys, NT.vals, NT.kids, NT.p, NT.kv, NT.vv, NT.cv] at h0 hroot ⊢
  simp only [PT.keys, PT.vals, PT.kids] at ho1 ho2 ho3 qf
  obtain ⟨R, hR⟩ : ∃ R, R = mg (n + 1) (.mk tks tvs (NT.aQ bq)) key := ⟨_, rfl⟩
  rw [<- hR]
  obtain ⟨i, hi⟩ : ∃ i, dm key tks = i := ⟨_, rfl⟩
  obtain ⟨b, hb⟩ : ∃ b, iJ tks i key = b := ⟨_, rfl⟩
  rw [mg] at hR
  have hle : i <= tks.length := by rw [<- hi]; exact kU key tks
  have HM := A_ (show (PT.mk tks tvs (NT.aQ bq)).keys.length <= 1000000000000 by show tks.length <= _; omega)
  have HI := A_ (show dm key (PT.mk tks tvs (NT.aQ bq)).keys = i from hi)
  have yj := A_ (show iJ (PT.mk tks tvs (NT.aQ bq)).keys i key = b from hb)
  have BF := A_ hrd
  have dE := A_ hbs
  have Kg := A_ ho1
  have IX : tvs.length <= 4 /\ i <= tvs.length := by omega
  obtain ⟨kG, il, rfl⟩ := Kd.av (h0.sr 1 rfl)
  obtain ⟨kQ, iA, rfl⟩ := Kd.av (h0.sr 2 rfl)
  obtain ⟨sZ, iM, rfl, _, _⟩ := dZ (h0.q 3 rfl)
  have HS := A_ h0
  have HB := A_ (Below.refl base w)
  have HR := A_ hR
  have XG := A_ (And.intro hi hb)
  have QG := A_ qf
  have HO3 := A_ ho3
  have HRT := A_ hroot
  clear h0 hR hrd hs hi hb hbs ho1 ho3 qf hbd hsrt hhas hkd hroot
  by_cases hlf : bq.length = 0
  ·skip
   have hk0 : NT.aQ bq = [] := by rw [List.length_eq_zero_iff.1 hlf]; rfl
   have hS := qA Uh.out hk0 Uw.out QQ.out
   have hlt0 : i < tks.length := by
    have := jZ hS
    have e1 := XG.out.1
    simp only [PT.keys] at this
    omega
   have hltv : i < tvs.length := by have := Kg.out; omega
   have hbl := A_ (show decide ((((PT.mk tks tvs (NT.aQ bq)).kids.length : Nat) : Int) = 0) = true from decide_eq_true (by show ((NT.aQ bq).length : Int) = 0; rw [hk0]; rfl))
   have IB := A_ hk0
   clear hS hk0
   obtain ⟨l1, wK⟩ := rM (tks.eraseIdx i)
   obtain ⟨l2, y8⟩ := rM (tvs.eraseIdx i)
   go_enter Try.func83, Try.ntmps83
   go_upto_region 2 with (first | (go_at_call 100; (with_reducible refine (pE.calls (PT.mk tks tvs (NT.aQ bq)) HM.out key i b HI.out yj.out _ BF.out).mono ?_); rintro e w1 ⟨rfl, ⟨nd, rfl⟩⟩) | (go_at_call 84; (with_reducible refine (bY.dA true hbl.out _ ?aD).mono ?_); (case aD => exact yY BF.out); rintro e w' ⟨rfl, ⟨nd, rfl⟩⟩))
   generalize hW : World.drewN _ _ = w2
   have aj : af (aa w2 base [mM 96 tp kG tks.length il kQ tvs.length iA sZ bq.length iM, iT kG il tks, iT kQ iA tvs, qm 70 sZ iM bq, (NT.bE 96 70 bq), L]) := ⟨by rw [<- hW]; exact aa.drewN HS.out _⟩
   have az : af (Below base w w2) := ⟨by rw [<- hW]; exact ah HB.out _⟩
   clear HS HB BF hbl hW; have HS := aj; have HB := az; clear aj az
   have sd3 : i < tks.length /\ tks.length <= 1000000 := by omega
   have fO := (aa.z0 HS.out 0 rfl)
   go_upto_region 3 with (first | (go_at_call 112; (with_reducible refine (KP i (i : Int) rfl wK.out (aa.row HS.out 1 rfl) sd3).mono ?_); rintro e w3 ⟨iy, rfl, ho, hb⟩; obtain ⟨A4, c5, rfl⟩ := Kd.av ho; have aj := lu (aa.gJ HS.out hb (dS dE HB) ho); have az : af (Below base w w3) := ⟨(HB.out).trans (hb.mono (dS dE HB))⟩; clear HS HB ho hb; have HS := aj; have HB := az; clear aj az; clear fO; have fO := (aa.z0 HS.out 0 rfl); have zs0 := aa.z0 HS.out 0 rfl; have kS := aa.f HS.out 0 rfl 0))
   have aj := gK (World.setCell w3 ⟨tp, 0, none⟩ (.slice A4 l1.length c5)) (aa.iN (aa.yC HS.out 0 rfl (.slice A4 l1.length c5)) [0, 6, 2, 3, 4, 5] (by decide))
   have az : af (Below base w (World.setCell w3 ⟨tp, 0, none⟩ (.slice A4 l1.length c5))) := ⟨(HB.out).setCell (p := ⟨tp, 0, none⟩) (aa.ge HS.out 0 rfl) _⟩
   generalize World.setCell w3 ⟨tp, 0, none⟩ (.slice A4 l1.length c5) = w4 at aj az ⊢
   clear HS HB fO zs0 kS; have HS := aj; have HB := az; clear aj az
   have sd6 : i < tvs.length /\ tvs.length <= 1000000 := by omega
   have fO := (aa.z1 HS.out 0 rfl)
   go_wp2_with (first | (go_at_call 112; (with_reducible refine (KP i (i : Int) rfl y8.out (aa.row HS.out 2 rfl) sd6).mono ?_); rintro e w5 ⟨iy, rfl, ho, hb⟩; obtain ⟨A7, c8, rfl⟩ := Kd.av ho; have aj := lu (aa.gJ HS.out hb (dS dE HB) ho); have az : af (Below base w w5) := ⟨(HB.out).trans (hb.mono (dS dE HB))⟩; clear HS HB ho hb; have HS := aj; have HB := az; clear aj az; clear fO; have fO := (aa.z1 HS.out 0 rfl); have zs0 := aa.z1 HS.out 0 rfl; have kS := aa.f HS.out 0 rfl 1))
   have aj := gK (World.setCell w5 ⟨tp, 1, none⟩ (.slice A7 l2.length c8)) (aa.iN (aa.yD HS.out 0 rfl (.slice A7 l2.length c8)) [0, 1, 6, 3, 4, 5] (by decide))
   have az : af (Below base w (World.setCell w5 ⟨tp, 1, none⟩ (.slice A7 l2.length c8))) := ⟨(HB.out).setCell (p := ⟨tp, 1, none⟩) (aa.ge HS.out 0 rfl) _⟩
   generalize World.setCell w5 ⟨tp, 1, none⟩ (.slice A7 l2.length c8) = w6 at aj az ⊢
   clear HS HB fO zs0 kS; have HS := aj; have HB := az; clear aj az
   go_end0
   refine ⟨.mk (tks.eraseIdx i) (tvs.eraseIdx i) (NT.aQ bq), ?_, rfl, NT.mk tp (.slice A4 l1.length c5) (.slice A7 l2.length c8) (.slice sZ bq.length iM) l1 l2 bq, rfl, ?_, ?_, HB.out⟩
   ·have e1 := XG.out.1
    have e2 : dm key (PT.mk tks tvs (NT.aQ bq)).keys = i := XG.out.1
    rw [HR.out, if_pos (show (PT.mk tks tvs (NT.aQ bq)).kids.length = 0 by show (NT.aQ bq).length = 0; rw [IB.out]; rfl), e2, if_pos (show i < (PT.mk tks tvs (NT.aQ bq)).keys.length from hlt0)]
    rfl
   ·rw [wK.out, y8.out]
    rfl
   ·have hS := Mt (aa.iN HS.out [0, 1, 2, 3, 4, 5] (by decide))
    exact ko hS
  ·skip
   have hnl : (NT.aQ bq).length = bq.length := by rw [aK, List.length_map]
   have hkl : bq.length = tks.length + 1 := by
    have := HO3.out
    omega
   have h0k : 0 < tks.length := HRT.out hlf
   obtain ⟨s, hsx⟩ : ∃ s, bq[i]? = some s := ⟨bq[i]'(by omega), List.getElem?_eq_getElem (by omega)⟩
   have hse : (PT.mk tks tvs (NT.aQ bq)).kids[i]? = some s.erase := by show (NT.aQ bq)[i]? = _; rw [aK, List.getElem?_map, hsx]; rfl
   have hsm : s.erase ∈ NT.aQ bq := List.mem_of_getElem? hse
   have hor := TB.out.resolve_left (fun c => hlf (by have := congrArg List.length c.2; rw [<- hnl]; exact this))
   have kD := A_ (show rQ h s.erase /\ 2 <= s.keys.length from ⟨⟨QG.out _ hsm, (hor.2.2 _ hsm).1⟩, by have := (hor.2.2 _ hsm).2; rw [bA] at this; exact this⟩)
   have Ol := A_ (show s.erase.big <= n by have := PT.fH hse; omega)
   have QL := A_ (lM Uh.out Uw.out hse (show i <= tks.length by omega))
   have HMM := A_ hor.2.2
   have PX := A_ (show fC (PT.mk tks tvs (NT.aQ bq)) i = s.erase from Go.Proofs.Ytoddejmlcnbdmaa.Pure.kK hse)
   have uu := A_ hsx
   have XA := A_ hse
   have hil : i < bq.length := by omega
   have htc : bq.length <= 5 := by omega
   have GN := A_ hkl
   have hbl := A_ (show decide ((((PT.mk tks tvs (NT.aQ bq)).kids.length : Nat) : Int) = 0) = false from decide_eq_false (by show ((NT.aQ bq).length : Int) ≠ 0; omega))
   obtain ⟨lI, rfl⟩ := iQ (aa.q HS.out 3 rfl) (by omega)
   have HLF := A_ hlf
   clear hnl hkl hsx hse hsm hor hlf
   go_enter Try.func83, Try.ntmps83
   go_upto_if 34 with (first | (go_at_call 100; (with_reducible refine (pE.calls (PT.mk tks tvs (NT.aQ bq)) HM.out key i b HI.out yj.out _ BF.out).mono ?_); rintro e w1 ⟨rfl, ⟨nd, rfl⟩⟩) | (go_at_call 84; (with_reducible refine (bY.dA false hbl.out _ ?aD).mono ?_); (case aD => exact yY BF.out); rintro e w' ⟨rfl, ⟨nd, rfl⟩⟩))
   generalize hW : World.drewN _ _ = w2
   have aj : af (aa w2 base [mM 96 tp kG tks.length il kQ tvs.length iA (some lI) bq.length iM, iT kG il tks, iT kQ iA tvs, qm 70 (some lI) iM bq, (NT.bE 96 70 bq), L]) := ⟨by rw [<- hW]; exact aa.drewN HS.out _⟩
   have az : af (Below base w w2) := ⟨by rw [<- hW]; exact ah HB.out _⟩
   clear HS HB BF hbl hW; have HS := aj; have HB := az; clear aj az
   go_cut [1] (fun v_ wc => ∃ (k' : ByteArray) (t1 : NT), v_ = .string k' /\ af (t1.p = tp /\ t1.kids = bq /\ t1.keys.length = tks.length /\ t1.vals.length = tvs.length) /\ af (Sat wc base (t1.dI 96 70 ++ L)) /\ af (Below base w wc) /\ af (Has k' (aW s.erase)) /\ af (R = (mg n s.erase k').map fun s' => uU (.mk t1.keys t1.vals ((NT.aQ bq).set i s')) i))
   case first =>
    cases b with
    | false =>
     go_wp2_with fail
     go_meet
     case rel =>
      refine ⟨key, NT.mk tp (.slice kG tks.length il) (.slice kQ tvs.length iA) (.slice (some lI) bq.length iM) tks tvs bq, rfl, ⟨rfl, rfl, rfl, rfl⟩, ⟨ko HS.out⟩, HB, ⟨?_⟩, ⟨?_⟩⟩
      ·refine (ru (t := PT.mk tks tvs (NT.aQ bq)) Uh.out Uw.out ?_ ?_).2.2 QQ.out
       ·rw [HI.out]; exact yj.out
       ·rw [HI.out]; exact XA.out
      ·have e1 := HR.out
       rw [HI.out, PX.out] at e1
       rw [e1, if_neg (show ¬ (PT.mk tks tvs (NT.aQ bq)).kids.length = 0 from fun c => HLF.out (by have c' : (NT.aQ bq).length = 0 := c; rw [aK, List.length_map] at c'; exact c')), if_neg (show ¬ iJ (PT.mk tks tvs (NT.aQ bq)).keys i key = true from by rw [yj.out]; decide)]
       rfl
    | true =>
    have hil2 : i < tks.length := by
     have := jZ yj.out
     exact this
    have hiv2 : i < tvs.length := by have := Kg.out; omega
    obtain ⟨qa, rfl⟩ := gD (aa.sr HS.out 1 rfl) (by omega)
    obtain ⟨qb, rfl⟩ := gD (aa.sr HS.out 2 rfl) (by omega)
    obtain ⟨y, hy⟩ : ∃ y, y = mG n s := ⟨_, rfl⟩
    have TC : af (∃ (j : Nat) (s : NT) (n : Nat), bq[j]? = some s /\ mG n s = y) := ⟨i, s, n, uu.out, hy.symm⟩
    have XH : af (y.erase = jN n s.erase) := ⟨by rw [hy, AB]⟩
    obtain ⟨hy1, hy2, hy3⟩ := Dq n s.erase h Ol.out kD.out.1 (by rw [bA]; have := kD.out.2; omega)
    rw [<- XH.out, bA] at hy1 hy2 hy3
    rw [kX] at hy3
    obtain ⟨gyk, cyk, gyv, cyv, hyk, hyv⟩ := K7 (AJ HS.out 4 rfl TC.out) hy1 (by omega)
    have HY3 := A_ hy3
    rw [hy3] at hyv
    obtain ⟨ny, hny⟩ : ∃ n, y.keys.length = n := ⟨_, rfl⟩
    rw [hny] at hyk hyv hy1 hy2
    have VK := A_ hyk
    have HYV := A_ hyv
    obtain ⟨yx, hyx⟩ : ∃ x, bP y.keys (ny - 1) = x := ⟨_, rfl⟩
    obtain ⟨yz, hyz⟩ : ∃ x, bP y.vals (ny - 1) = x := ⟨_, rfl⟩
    have XI : af (ny - 1 < y.keys.length /\ bP y.keys (ny - 1) = yx) := ⟨by omega, hyx⟩
    have Hyz : af (ny - 1 < y.vals.length /\ bP y.vals (ny - 1) = yz) := ⟨by omega, hyz⟩
    have HNY := A_ hny
    have HY := A_ hy
    clear hy hy3 hyk hyv hyx hyz hny
    have BS := aa.z2 HS.out 0 rfl
    have zp_ := lC (aa.iZ HS.out 3 rfl) (And.intro uu.out rfl)
    have QD := dJ (0 <= (i : Int))
    have QE := dJ ((i : Int) < (bq.length : Int))
    have Ui : (i < bq.length) = True := eq_true hil
    go_wp2_with fail
    clear BS zp_
    go_loopg [6] n (fun kq u6 w' => ∃ (u : NT) (m nd : Nat), u6 = bG u.p /\ af (kq = m) /\ af (mG m u = y /\ u.erase.big <= m) /\ af (Sat w2 base (u.dI 96 70)) /\ af (kC u.erase) /\ w' = w2.drewN nd)
    case atStart => exact ⟨s, n, 0, by first | rfl | (simp; done), ⟨rfl⟩, ⟨HY.out.symm, Ol.out⟩, ⟨vJ (aa.at HS.out 4 rfl) uu.out⟩, ⟨kD.out.1.b⟩, by first | rfl | (simp; done)⟩
    case round =>
     obtain ⟨u, m, nd, rfl, SF, HU, VL, HBU, rfl⟩ := hrel
     have XJ := A_ (jI VL.out)
     by_cases XK : u.kids.length = 0
     ·have hbl := A_ (show decide ((u.erase.kids.length : Int) = 0) = true from decide_eq_true (by rw [bT]; omega))
      have huy : y = u := by rw [<- HU.out.1, K6 XK]
      subst huy
      clear XK
      have fO := El VL.out VK.out
      go_upto_region 9 with (first | (go_at_call 84; (with_reducible refine (bY.dA true hbl.out _ ?aD).mono ?_); (case aD => exact yY XJ.out); rintro e w' ⟨rfl, ⟨nd2, rfl⟩⟩))
      clear fO XJ hbl VL
      generalize hW : World.drewN _ _ = w3
      have aj : af (aa w3 base [mM 96 tp (jV qa) tks.length il (jV qb) tvs.length iA (some lI) bq.length iM, iT (jV qa) il tks, iT (jV qb) iA tvs, qm 70 (some lI) iM bq, (NT.bE 96 70 bq), L]) := ⟨by rw [<- hW]; exact aa.drewN HS.out _⟩
      have az : af (Below base w w3) := ⟨by rw [<- hW]; exact ah HB.out _⟩
      clear HS HB hW; have HS := aj; have HB := az; clear aj az
      obtain ⟨tx, htx⟩ : ∃ x, bP tks i = x := ⟨_, rfl⟩
      have yt : af (i < tks.length /\ bP tks i = tx) := ⟨by omega, htx⟩
      clear htx
      obtain ⟨ty, hty⟩ : ∃ x, bP tvs i = x := ⟨_, rfl⟩
      have yu : af (i < tvs.length /\ bP tvs i = ty) := ⟨by omega, hty⟩
      clear hty
      obtain ⟨l1, wK⟩ := rM (tks.set i yx)
      obtain ⟨l2, y8⟩ := rM (tvs.set i yz)
      have b3 := dJ (1 <= (ny : Int))
      have b4 := dJ (((ny : Int) - 1) < (ny : Int))
      have b5 := dJ ((ny - 1) < ny)
      have b6 := dJ (0 <= (i : Int))
      have b7 := dJ ((i : Int) < (tks.length : Int))
      have b8 := dJ (i < tks.length)
      have zs0 := jF (aa.sr (aa.drew HS.out) 1 rfl) yt.out
      have kS := iK (aa.sr (aa.drew HS.out) 1 rfl) (Nat.lt_of_le_of_lt (Nat.zero_le _) yt.out.1) i
      refine dz (n := 14) (S := fun w' => w'.cell? ⟨tp, 0, none⟩ = some (.slice (some ⟨qa, 0, none⟩) tks.length il) /\ w'.cell? ⟨y.p, 0, none⟩ = some (.slice (some ⟨gyk, 0, none⟩) ny cyk) /\ w'.cell? ⟨gyk, (ny - 1), none⟩ = some (.string yx)) (ds := [13]) (bt 14 0) (by kernel_rfl) rfl rfl ⟨(aa.z0 (aa.drew HS.out) 0 rfl), (El (AJ (aa.drew HS.out) 4 rfl TC.out) VK.out), (M4 (AJ (aa.drew HS.out) 4 rfl TC.out) VK.out XI.out)⟩ (fun hHeld => ?_)
      refine aV 0 63 1 ?_
      refine aV 1 64 3 ?_
      refine aV 2 65 7 ?_
      refine aV 4 67 23 ?_
      refine aV 5 68 55 ?_
      refine aV 6 69 119 ?_
      refine aV 7 70 247 ?_
      refine aV 9 72 759 ?_
      refine ik 3 66 767 hHeld ?_
      refine ik 8 71 1023 hHeld ?_
      refine aV 10 73 2047 ?_
      refine ik 11 74 4095 hHeld ?_
      refine aV 12 75 8191 ?_
      refine wW 13 none 16383 (fun K hK => ?_)
      refine iU (w1 := ?_) (by rfl) rfl ?_ ?_
      rotate_left
      ·go_simp
       rfl
      refine hK.out _ _ ?_
      clear hK K
      refine fu (by kernel_rfl) ?_
      have aj := gK (World.drew (World.setCell w3 ⟨qa, i, none⟩ (.string yx))) (aa.uG (aa.drew HS.out) 1 rfl i yx wK.out)
      have az : af (Below base w (World.drew (World.setCell w3 ⟨qa, i, none⟩ (.string yx)))) := ⟨((aH HB.out)).setCell (p := ⟨qa, i, none⟩) (Da (aa.drew HS.out) 1 rfl yt.out) _⟩
      generalize World.drew (World.setCell w3 ⟨qa, i, none⟩ (.string yx)) = w4 at aj az ⊢
      clear HS HB zs0 kS; have HS := aj; have HB := az; clear aj az
      go_upto_region 10 with fail
      have b9 := dJ ((i : Int) < (tvs.length : Int))
      have b10 := dJ (i < tvs.length)
      have zs0 := jF (aa.sr (aa.drew HS.out) 2 rfl) yu.out
      have kS := iK (aa.sr (aa.drew HS.out) 2 rfl) (Nat.lt_of_le_of_lt (Nat.zero_le _) yu.out.1) i
      refine dz (n := 14) (S := fun w' => w'.cell? ⟨tp, 1, none⟩ = some (.slice (some ⟨qb, 0, none⟩) tvs.length iA) /\ w'.cell? ⟨y.p, 1, none⟩ = some (.slice (some ⟨gyv, 0, none⟩) ny cyv) /\ w'.cell? ⟨gyv, (ny - 1), none⟩ = some (.string yz)) (ds := [13]) (bt 14 0) (by kernel_rfl) rfl rfl ⟨(aa.z1 (aa.drew HS.out) 0 rfl), (Pt (AJ (aa.drew HS.out) 4 rfl TC.out) HYV.out), (Rs (AJ (aa.drew HS.out) 4 rfl TC.out) HYV.out Hyz.out)⟩ (fun hHeld => ?_)
      refine aV 0 76 1 ?_
      refine aV 1 77 3 ?_
      refine aV 2 78 7 ?_
      refine aV 4 80 23 ?_
      refine aV 5 81 55 ?_
      refine aV 6 82 119 ?_
      refine aV 7 83 247 ?_
      refine aV 9 85 759 ?_
      refine ik 3 79 767 hHeld ?_
      refine ik 8 84 1023 hHeld ?_
      refine aV 10 86 2047 ?_
      refine ik 11 87 4095 hHeld ?_
      refine aV 12 88 8191 ?_
      refine wW 13 none 16383 (fun K hK => ?_)
      refine iU (w1 := ?_) (by rfl) rfl ?_ ?_
      rotate_left
      ·go_simp
       rfl
      refine hK.out _ _ ?_
      clear hK K
      refine fu (by kernel_rfl) ?_
      have aj := gK (World.drew (World.setCell w4 ⟨qb, i, none⟩ (.string yz))) (aa.uG (aa.drew HS.out) 2 rfl i yz y8.out)
      have az : af (Below base w (World.drew (World.setCell w4 ⟨qb, i, none⟩ (.string yz)))) := ⟨((aH HB.out)).setCell (p := ⟨qb, i, none⟩) (Da (aa.drew HS.out) 2 rfl yu.out) _⟩
      generalize World.drew (World.setCell w4 ⟨qb, i, none⟩ (.string yz)) = w5 at aj az ⊢
      clear HS HB zs0 kS; have HS := aj; have HB := az; clear aj az
      go_upto_region 11 with fail
      have fO := (El (AJ HS.out 4 rfl TC.out) VK.out)
      have vF := (M4 (AJ HS.out 4 rfl TC.out) VK.out XI.out)
      go_wp2_with fail
      clear fO vF
      go_meet
      case rel =>
       have ek : mD n s.erase = yx := by unfold mD; rw [<- XH.out, bA, HNY.out]; exact XI.out.2
       have ev : sG n s.erase = yz := by unfold sG; rw [<- XH.out, bA, kX, HNY.out]; exact Hyz.out.2
       refine ⟨yx, NT.mk tp (.slice (some ⟨qa, 0, none⟩) tks.length il) (.slice (some ⟨qb, 0, none⟩) tvs.length iA) (.slice (some lI) bq.length iM) l1 l2 bq, rfl, ⟨rfl, rfl, by show l1.length = _; rw [wK.out, List.length_set], by show l2.length = _; rw [y8.out, List.length_set]⟩, ⟨ko HS.out⟩, HB, ⟨?_⟩, ⟨?_⟩⟩
       ·obtain ⟨X, eX⟩ := oM n s.erase h Ol.out kD.out.1 (by rw [bA]; have := kD.out.2; omega)
        rw [<- ek, eX]
        exact ⟨_, List.mem_append_right _ (List.mem_singleton_self _), by simp⟩
       ·have e1 := HR.out
        rw [HI.out, PX.out] at e1
        rw [e1, if_neg (show ¬ (PT.mk tks tvs (NT.aQ bq)).kids.length = 0 from fun c => HLF.out (by have c' : (NT.aQ bq).length = 0 := c; rw [aK, List.length_map] at c'; exact c')), if_pos (show iJ (PT.mk tks tvs (NT.aQ bq)).keys i key = true from yj.out), ek, ev]
        show _ = (mg n s.erase yx).map fun s' => uU (.mk l1 l2 _) i
        rw [wK.out, y8.out]
        rfl
     ·have hbl := A_ (show decide ((u.erase.kids.length : Int) = 0) = false from decide_eq_false (by rw [bT]; omega))
      obtain ⟨adu, ccu, zu2, huq⟩ := Im VL.out (by omega)
      obtain ⟨c, hc⟩ : ∃ c, u.kids[u.kids.length - 1]? = some c := ⟨u.kids[u.kids.length - 1]'(by omega), List.getElem?_eq_getElem (by omega)⟩
      have zup := lC huq (And.intro hc rfl)
      have Wq := A_ hc
      have hu5 : u.kids.length <= 5 := by
       obtain ⟨⟨_, q2, q3⟩, _⟩ := bL.1 HBU.out
       rw [bT] at q3
       omega
      obtain ⟨nu, hnu⟩ : ∃ a, u.kids.length = a := ⟨_, rfl⟩
      have HNU := A_ hnu
      rw [hnu] at zu2 zup XK hu5
      have hkq : 0 < m := by have := HU.out.2; have := u.erase.eH; omega
      have HNEXT : af (mG (m - 1) c = y /\ c.erase.big <= m - 1) := ⟨by
       have e1 := HU.out.1
       obtain ⟨m', em⟩ : ∃ m', m = m' + 1 := ⟨m - 1, by omega⟩
       rw [em] at e1
       rw [show m - 1 = m' by omega]
       rw [mG, Wq.out] at e1
       exact e1, by
       have e2 : u.erase.kids[u.kids.length - 1]? = some c.erase := by rw [q9, List.getElem?_map, Wq.out]; rfl
       have := PT.fH e2
       have := HU.out.2
       omega⟩
      have Xy : af (Sat w2 base (c.dI 96 70)) := ⟨by
       have e1 := VL.out
       rw [NT.jy] at e1
       exact vJ e1.right Wq.out⟩
      have HBC : af (kC c.erase) := ⟨(bL.1 HBU.out).2 _ (by rw [q9]; exact List.mem_map_of_mem (List.mem_of_getElem? Wq.out))⟩
      clear hnu hc huq
      have b0_ := dJ (1 <= (nu : Int))
      have Wo := dJ (((nu : Int) - 1) < (nu : Int))
      have XB := dJ ((nu - 1) < nu)
      have q_ : wrap64 ((nu : Int) - 1) = ((nu : Int) - 1) := rf (by omega)
      go_wp2_with (first | (go_at_call 84; (with_reducible refine (bY.dA false hbl.out _ ?aD).mono ?_); (case aD => exact yY XJ.out); rintro e w' ⟨rfl, ⟨nd2, rfl⟩⟩))
      go_quiet (fail)
      go_wp2_with fail
      go_roundg (m - 1)
      case measure => have := SF.out; omega
      case rel => exact ⟨c, m - 1, nd + nd2 + nq, by first | rfl | (simp; done), ⟨rfl⟩, HNEXT, Xy, HBC, by first | rfl | (simp; done)⟩
   case rest =>
    obtain ⟨k', t1, rfl, HT1, uh, HB1, HHA1, HR1⟩ := hcut
    cases t1 with | mk p1 Uq SK mi wS vs1 cs1 =>
    obtain ⟨a1, a2, a3, a4⟩ := HT1.out
    have a1 : p1 = tp := a1
    have a2 : cs1 = bq := a2
    have a3 : wS.length = tks.length := a3
    have a4 : vs1.length = tvs.length := a4
    subst a1
    subst a2
    have Ch := A_ (And.intro a3 a4)
    obtain ⟨U5, Ug, XL, hlc1, hC1⟩ := dZ ((fF uh.out).q 3 rfl)
    have XL : mi = .slice U5 cs1.length Ug := XL
    subst XL
    obtain ⟨V6, rfl⟩ := iQ ((fF uh.out).q 3 rfl) (show 0 < cs1.length by omega)
    obtain ⟨sp, TD⟩ : ∃ p, s.p = p := ⟨_, rfl⟩
    have OV := lC ((fF uh.out).iZ 3 rfl) (And.intro uu.out TD)
    have hz2 := (fF uh.out).z2 0 rfl
    simp only [NT.p] at hz2
    have OE := A_ TD
    clear a3 a4 HT1 HS HB hlc1 hC1 TD
    have QD := dJ (0 <= (i : Int))
    have QE := dJ ((i : Int) < (cs1.length : Int))
    have Ui : (i < cs1.length) = True := eq_true hil
    obtain ⟨t0, ht0⟩ : ∃ t0, t0 = NT.mk p1 Uq SK (.slice (some V6) cs1.length Ug) wS vs1 cs1 := ⟨_, rfl⟩
    have HT0 := A_ ht0
    rw [<- ht0] at uh
    have QH : af (t0.kids[i]? = some s) := ⟨by rw [ht0]; exact uu.out⟩
    clear ht0
    have hC := fun (w : World) (hs : Sat w base (t0.dI 96 70 ++ L)) (hb : base <= w.heap.size) => ih s k' h Ol.out kD.out.1 (fun _ => by have := kD.out.2; omega) QL.out HHA1.out base (t0.hole 96 70 i L) w (hs.perm (vP L QH.out)) hb
    rw [OE.out] at hC
    have HC := A_ hC
    clear hC
    go_upto_region 13 with (first | (go_at_call 83; (with_reducible refine (HC.out _ uh.out (dS dE HB1)).mono ?_); rintro e w8 ⟨rs, hrs, rfl, s', hsp, wJ, hs', hb'⟩))
    obtain ⟨rs', TE, hkr, hlr, _⟩ := pJ n s.erase k' h Ol.out kD.out.1 (fun _ => by have := kD.out.2; rw [bA]; omega) QL.out HHA1.out
    obtain rfl : rs = rs' := by rw [hrs] at TE; exact Option.some.inj TE
    have kP := A_ (And.intro hrs (And.intro hkr hlr))
    clear hrs TE hkr hlr
    rw [OE.out] at hsp
    cases s' with | mk sp' QI Ul Um P5 Un Uo =>
    have hsp' : sp' = sp := hsp
    subst hsp'
    obtain ⟨s', hs0⟩ : ∃ s', s' = NT.mk sp' QI Ul Um P5 Un Uo := ⟨_, rfl⟩
    rw [<- hs0] at wJ hs'
    have LH := A_ hs0
    have hspp : s'.p = s.p := by rw [hs0, OE.out]; rfl
    have hT1 : Sat w8 base ((t0.gy i s').dI 96 70 ++ L) := hs'.perm (Hw L QH.out hspp)
    have hK1 : (t0.gy i s').kids[i]? = some s' := by rw [HT0.out]; exact (qR uu.out).1
    have hE1 : (t0.gy i s').erase = .mk wS vs1 ((NT.aQ cs1).set i s'.erase) := by rw [qU, HT0.out]; rfl
    have HB2 := A_ (HB1.out.trans hb')
    have hG := qo hK1 hT1
    rw [HT0.out, hs0] at hG
    unfold vT NT.gy at hG
    simp only [NT.keys, NT.vals, NT.kids, NT.p, NT.kv, NT.vv, NT.cv] at hG
    have hz2' := hG.z2 0 rfl
    have OU : w8.cell? ⟨sp', 0, none⟩ = some QI := hG.z0 5 rfl
    have SB := lC (hG.iZ 3 rfl) (And.intro (qR (s' := NT.mk sp' QI Ul Um P5 Un Uo) uu.out).1 rfl)
    simp only [NT.p] at SB
    obtain ⟨Ask, csk, Vk⟩ := Kd.av (aa.sr hG 6 rfl)
    rw [Vk] at OU
    obtain ⟨lk, hlk⟩ : ∃ l, l = P5.length := ⟨_, rfl⟩
    rw [<- hlk] at OU
    have hlk4 : lk <= 4 := by
     have := (bL.1 kP.out.2.1.b).1.2.1
     rw [<- wJ, bA, hs0] at this
     rw [hlk]
     exact this
    have HE := A_ (And.intro wJ (And.intro hT1 (And.intro hK1 (And.intro hE1 hlk))))
    clear hG Vk hT1 hK1 hE1 wJ hs' hb' hlk hs0 hspp hsp hz2 OV
    have HF : af (R = some (uU (.mk wS vs1 ((NT.aQ cs1).set i rs)) i)) := ⟨by rw [HR1.out, kP.out.1]; rfl⟩
    have VM : af (fC (.mk wS vs1 ((NT.aQ cs1).set i rs)) i = rs) := ⟨Go.Proofs.Ytoddejmlcnbdmaa.Pure.kK (by show ((NT.aQ cs1).set i rs)[i]? = _; rw [List.getElem?_set_self (by rw [aK, List.length_map]; exact hil)])⟩
    have HLR : af (rs.keys.length = lk) := ⟨by rw [HE.out.2.2.2.2, <- HE.out.1, bA, LH.out]; rfl⟩
    by_cases h2 : lk < 2
    ·have ct := kZ ((lk : Int) < (2 : Int))
     have hC := K5.calls (t0.gy i s') i (by rw [HT0.out]; exact ⟨by have := Ch.out; show wS.length <= 1000; omega, by have := Ch.out; have := Kg.out; show vs1.length = wS.length; omega, .inr (by have := Ch.out; have := GN.out; show (cs1.set i s').length = wS.length + 1; rw [List.length_set]; omega)⟩) (by rw [HT0.out]; have := Ch.out; have := GN.out; show (cs1.set i s').length = wS.length + 1; rw [List.length_set]; omega) (by rw [HT0.out]; have := Ch.out; show 0 < wS.length; omega) (by rw [HT0.out]; show i < (cs1.set i s').length; rw [List.length_set]; exact hil) (fun c hc => by
      rw [HT0.out] at hc
      have hc : c ∈ cs1.set i s' := hc
      refine Rt ?_
      rcases List.mem_or_eq_of_mem_set hc with hc | rfl
      ·exact QG.out _ (by rw [aK]; exact List.mem_map_of_mem hc)
      ·rw [HE.out.1]; exact kP.out.2.1.b) base L w8 HE.out.2.1 (dS dE HB2)
     rw [show (t0.gy i s').p = p1 by rw [HT0.out]; rfl] at hC
     have rV := A_ hC
     clear hC
     go_wp2_with (first | (go_at_call 113; (with_reducible refine rV.out.mono ?_); rintro e w9 ⟨rfl, t2, ht1, ht2, ht3, Om⟩))
     go_end0
     refine ⟨_, HF.out, rfl, t2, ?_, ?_, ht3, HB2.out.trans Om⟩
     ·rw [ht1, HT0.out]
      rfl
     ·rw [ht2, HE.out.2.2.2.1, HE.out.1]
      unfold uU
      rw [VM.out, if_pos (by rw [HLR.out]; exact h2)]
    ·have ct := kT ((lk : Int) < (2 : Int))
     go_wp2_with fail
     go_end0
     refine ⟨_, HF.out, rfl, t0.gy i s', by rw [HT0.out]; rfl, ?_, HE.out.2.1, HB2.out⟩
     rw [HE.out.2.2.2.1, HE.out.1]
     unfold uU
     rw [VM.out, if_neg (by rw [HLR.out]; exact h2)]
set_option maxHeartbeats 8000000
set_option maxRecDepth 100000
set_option maxHeartbeats 8000000
set_option maxRecDepth 100000
set_option maxHeartbeats 8000000
set_option maxRecDepth 100000
set_option maxHeartbeats 8000000
set_option maxRecDepth 100000
set_option maxHeartbeats 8000000
set_option maxRecDepth 100000
open Go.Proofs.Ytoddejmlcnbdmaa.Pure (kJ aW rQ Has pJ ru lM oM qA vZ wh)
theorem K9 {w : World} {base T E i : Nat} {t s : NT} {L : List Ck} (hk : t.kids[i]? = some s) (hs : Sat w base (t.dI T E ++ L)) :
  aa w base [[.box T t.p #[t.kv, t.vv, t.cv]], [txt t.kv t.keys], [txt t.vv t.vals], [.jE E t.cv (ptrs t.kids)], NT.bE T E (t.kids.take i), s.dI T E, NT.bE T E (t.kids.drop (i + 1)), L] := by
 have h := fF hs
 unfold kW at h
 rw [oF T E hk] at h
 unfold aa at h ⊢
 simp only [List.flatten_cons, List.flatten_nil, List.append_assoc] at h ⊢
 exact h
set_option maxHeartbeats 8000000
set_option maxRecDepth 100000
open Go.Proofs.Ytoddejmlcnbdmaa.Pure (kJ aW rQ Has pJ ru lM oM qA vZ wh)
set_option maxHeartbeats 8000000
set_option maxRecDepth 100000
open Go.Proofs.Ytoddejmlcnbdmaa.Pure (kJ aW rQ Has)
theorem La {w : World} {base T E i : Nat} {t s : NT} {L : List Ck} (hk : t.kids[i]? = some s) (hs : Sat w base (t.dI T E ++ L)) : Sat w base (s.dI T E ++ L) := by
 have h := aa.iN (K9 hk hs) [5, 7] (by decide)
 unfold aa at h
 simp only [iN, List.map_cons, List.map_nil, List.getD_cons_succ, List.getD_cons_zero, List.flatten_cons, List.flatten_nil, List.append_nil] at h
 exact h
end Go.Proofs.Ytoddejmlcnbdmaa.Tree
namespace Go.Proofs.Ytoddejmlcnbdmaa.Fn
theorem wB {p0 p1 q : Prop} (h0 : p0) (h1 : p1) (h : p0 -> p1 -> q := by intro p9 Qa; repeat (first | (with_reducible first | exact p9 | apply ah | apply bC | refine bM ?_ Qa) | exact p9)) : q := h h0 h1
open Go.Proofs.Ytoddejmlcnbdmaa.Pure (wm mR pK aW jk kI iE jv mY bJ oL Has jO Ay wz K4 zZ KQ)
set_option maxHeartbeats 8000000
set_option maxRecDepth 100000
def Dr (o : Option PT) (key : ByteArray) : List bH × Bool := match o with
 | none => ([], false)
 | some t => if (jO key (aW t)).2 = true then (match mg t.big t key with
  | none => ([], false)
  | some r => (iF (pG r) 0, true)) else ([], false)
theorem Lb {key : ByteArray} {l : List Go.Proofs.Ytoddejmlcnbdmaa.Pure.KV} : (oL key l).length <= l.length := List.length_filter_le _ _
def ky.f (bD : List bH) (a1 : ByteArray) : Option (List bH × Bool) := if nJ bD = true then some (Dr (pz bD) a1) else none
theorem ky.nK (dw : Option Addr) (dx : Nat) (bD : List (bH)) (a1 : ByteArray) (r1 : List bH) (r2 : Bool) (w : World) (jR : Kd.C jX w dw bD.length bD) (oW : bD.length <= dx) (h : ky.f bD a1 = some (r1, r2)) :
  Calls Try.prog 39 #[.agg #[.slice dw bD.length dx], .string a1] w fun e w' => ∃ iy : Value, e = .returned (.tuple #[.agg #[iy], .bool r2]) /\ fG w' w.heap.size iy r1 /\ Below w.heap.size w w' := by
 unfold ky.f at h
 have HP := A_ jR
 clear jR oW
 by_cases hok : nJ bD = true
 ·rw [if_pos hok] at h
  obtain ⟨hok1, hP⟩ := rz hok
  have oV := A_ (fo hok1).1
  have HM := A_ (fo hok1).2
  obtain ⟨o, hrs⟩ : ∃ o, pz bD = o := ⟨_, rfl⟩
  rw [hrs] at h
  have hof := hrs
  have h := Option.some.inj h
  have kP := A_ hrs
  clear hok hok1 hrs
  cases o with
  | none =>
   have h : (([] : List bH), false) = (r1, r2) := h
   injection h with e1 e2
   subst e1
   subst e2
   clear hof hP
   go_enter Try.func39, Try.ntmps39
   go_wp2_with (first | (refine jf 2 #[.slice dw bD.length dx] 29 ?_; intro b3 hg w1 aC hb; have HB := A_ hb; have hz3 : w1.cell? ⟨b3, 0, none⟩ = some (.slice dw bD.length dx) := (ak aC 0).trans rfl; clear hg aC hb) | (refine jf 4 #[.slice none 0 0] 29 ?_; intro g6 hg w2 aC hb; have tu := (hb.cell (World.block_lt_of_cell? w1 _ hz3)).trans hz3; clear hz3; have hz3 := tu; clear tu; have o8 := A_ (show w.heap.size <= g6 from by rw [hg]; exact Below.size HB.out); have aj := A_ (au HB.out hb); clear HB; have HB := aj; have eP := A_ aC; clear aj hg aC hb) | (go_at_call 57; (with_reducible refine (fU.calls bD oV.out dw dx _ (Kd.ax HP.out HB.out) HM.out).mono ?_); rintro e w3 ⟨hb, hr⟩; rw [kP.out] at hr; obtain ⟨-, rfl⟩ := hr.resolve_right (by rintro ⟨_, h, _⟩; cases h); have aj := A_ (au HB.out hb); have az := A_ (aT eP.out hb); clear HB eP; have HB := aj; have eP := az; clear aj az hb hr hz3; have wT := (ak eP.out 0).trans rfl; have wU := aY eP.out 0))
   refine bodyPost_ret (cZ rfl _ _ g6 29 #[.slice none 0 0] (0, 0) _ rfl (by (with_reducible repeat (first | refine bS ?_ _ | refine cz ?_ )); refine dH (cs := #[.slice none 0 0]) ?_ 0 _ rfl; (with_reducible repeat (first | refine bS ?_ _ | refine cz ?_)); exact eP.out) Try.underlying29 rfl (by kernel_rfl)) rfl ?_
   exact ⟨_, rfl, fG.nil _ _, (wB HB.out o8.out)⟩
  | some t =>
   have EU := A_ (pK hP hof)
   clear hof hP
   have hg := wz t.big t a1 (Nat.le_refl _) EU.out.1.bnd EU.out.1.Ic
   have h : (if (jO a1 (aW t)).2 = true then (match mg t.big t a1 with | none => ([], false) | some r => (iF (pG r) 0, true)) else (([] : List bH), false)) = (r1, r2) := h
   have TF : (zB t.big t a1).2 = true -> Has a1 (aW t) := fun e => Ay.1 (by rw [<- hg]; exact e)
   rw [<- hg] at h
   obtain ⟨⟨gv, gb⟩, hgg⟩ : ∃ g, zB t.big t a1 = g := ⟨_, rfl⟩
   rw [hgg] at h TF
   have HX := A_ hgg
   clear hg hgg
   have EH := A_ (bJ EU.out.1.bnd)
   cases gb with
   | false =>
    have h : (([] : List bH), false) = (r1, r2) := h
    injection h with e1 e2
    subst e1
    subst e2
    clear TF
    go_enter Try.func39, Try.ntmps39
    go_wp2_with (first | (refine jf 2 #[.slice dw bD.length dx] 29 ?_; intro b3 hg w1 aC hb; have HB := A_ hb; have hz3 : w1.cell? ⟨b3, 0, none⟩ = some (.slice dw bD.length dx) := (ak aC 0).trans rfl; clear hg aC hb) | (refine jf 4 #[.slice none 0 0] 29 ?_; intro g6 hg w2 aC hb; have tu := (hb.cell (World.block_lt_of_cell? w1 _ hz3)).trans hz3; clear hz3; have hz3 := tu; clear tu; have o8 := A_ (show w.heap.size <= g6 from by rw [hg]; exact Below.size HB.out); have aj := A_ (au HB.out hb); clear HB; have HB := aj; have eP := A_ aC; clear aj hg aC hb) | (go_at_call 57; (with_reducible refine (fU.calls bD oV.out dw dx _ (Kd.ax HP.out HB.out) HM.out).mono ?_); rintro e w3 ⟨hb, hr⟩; rw [kP.out] at hr; obtain ⟨nt, h9, rfl, hs⟩ := hr.resolve_left (by rintro ⟨h, _⟩; cases h); injection h9 with h9; subst h9; have aj := A_ (au HB.out hb); have az := A_ (aT eP.out hb); have HS := A_ (((Sat.one (c := .box 29 g6 #[.slice none 0 0]) ⟨o8.out, eP.out⟩).behind hb (Below.size HB.out) hs).perm List.perm_append_comm); clear HB eP; have HB := aj; have eP := az; clear aj az hb hr hs hz3; have wT := (ak eP.out 0).trans rfl; have wU := aY eP.out 0) | (go_at_call 63; (with_reducible refine (Fs.calls _ nt.erase (Nat.le_refl _) EH.out a1 gv _ HX.out _ ?aD).mono ?_); (case aD => repeat (first | exact jI HS.out.left | (with_reducible refine Rd.drewN ?_ _) | (with_reducible refine Rd.drew ?_))); rintro e w' ⟨rfl, ⟨nd, rfl⟩⟩))
    refine bodyPost_ret (cZ rfl _ _ g6 29 #[.slice none 0 0] (0, 0) _ rfl (by (with_reducible repeat (first | refine bS ?_ _ | refine cz ?_ )); refine dH (cs := #[.slice none 0 0]) ?_ 0 _ rfl; (with_reducible repeat (first | refine bS ?_ _ | refine cz ?_)); exact eP.out) Try.underlying29 rfl (by kernel_rfl)) rfl ?_
    exact ⟨_, rfl, fG.nil _ _, (wB HB.out o8.out)⟩
   | true =>
    have TF := TF rfl
    obtain ⟨r, hr, hro, hra⟩ := zZ EU.out.1 TF
    obtain ⟨hgd, hkd⟩ := EU.out.1.kid
    have h : (match mg t.big t a1 with | none => ([], false) | some r => (iF (pG r) 0, true)) = (r1, r2) := h
    rw [hr] at h
    have h : (iF (pG r) 0, true) = (r1, r2) := h
    injection h with e1 e2
    subst e1
    subst e2
    have HHS := A_ TF
    have HRR := A_ hr
    have XM := A_ hro
    have PX := A_ hkd
    have hsm : (pG r).big <= 100000 := by
     have h1 := hro.small
     rw [hra] at h1
     have h2 := Lb (key := a1) (l := aW t)
     have h3 := EU.out.2
     omega
    have Lp := A_ hsm
    clear TF hr hro hra hkd hsm
    go_enter Try.func39, Try.ntmps39
    go_upto_region 7 with (first | (refine jf 2 #[.slice dw bD.length dx] 29 ?_; intro b3 hg w1 aC hb; have HB := A_ hb; have hz3 : w1.cell? ⟨b3, 0, none⟩ = some (.slice dw bD.length dx) := (ak aC 0).trans rfl; clear hg aC hb) | (refine jf 4 #[.slice none 0 0] 29 ?_; intro g6 hg w2 aC hb; have tu := (hb.cell (World.block_lt_of_cell? w1 _ hz3)).trans hz3; clear hz3; have hz3 := tu; clear tu; have o8 := A_ (show w.heap.size <= g6 from by rw [hg]; exact Below.size HB.out); have aj := A_ (au HB.out hb); clear HB; have HB := aj; have eP := A_ aC; clear aj hg aC hb) | (go_at_call 57; (with_reducible refine (fU.calls bD oV.out dw dx _ (Kd.ax HP.out HB.out) HM.out).mono ?_); rintro e w3 ⟨hb, hr⟩; rw [kP.out] at hr; obtain ⟨nt, h9, rfl, hs⟩ := hr.resolve_left (by rintro ⟨h, _⟩; cases h); injection h9 with h9; subst h9; have aj := A_ (au HB.out hb); have az := A_ (aT eP.out hb); have HS := A_ (((Sat.one (c := .box 29 g6 #[.slice none 0 0]) ⟨o8.out, eP.out⟩).behind hb (Below.size HB.out) hs).perm List.perm_append_comm); clear HB eP; have HB := aj; have eP := az; clear aj az hb hr hs hz3; have wT := (ak eP.out 0).trans rfl; have wU := aY eP.out 0) | (go_at_call 63; (with_reducible refine (Fs.calls _ nt.erase (Nat.le_refl _) EH.out a1 gv _ HX.out _ ?aD).mono ?_); (case aD => repeat (first | exact jI HS.out.left | (with_reducible refine Rd.drewN ?_ _) | (with_reducible refine Rd.drew ?_))); rintro e w' ⟨rfl, ⟨nd, rfl⟩⟩))
    generalize hW : World.drewN w3 _ = w4
    have aj := A_ (show Below w.heap.size w w4 by rw [<- hW]; exact ah HB.out _)
    have az := A_ (show Sat w4 w.heap.size (nt.dI 96 70 ++ [.box 29 g6 #[.slice none 0 0]]) by rw [<- hW]; exact Sat.drewN HS.out _)
    clear HB HS eP wT wU hW
    have HB := aj
    have HS := az
    clear aj az
    have Bi := A_ (K8.calls nt.erase.big nt a1 _ (Nat.le_refl _) PX.out (fun e => by have := EU.out.1.root (fun c => e (by rw [<- bT, c]; rfl)); rw [bA] at this; exact this) EU.out.1.Ic HHS.out w.heap.size _ w4 HS.out (Below.size HB.out))
    go_upto_region 8 with (first | (go_at_call 83; (with_reducible refine (Bi.out).mono ?_); rintro e w5 ⟨r', hr', rfl, t1, ht0, ht1, ht2, ht3⟩))
    obtain rfl : r = r' := by rw [HRR.out] at hr'; exact Option.some.inj hr'
    have aj := A_ (HB.out.trans ht3)
    clear HB HS Bi hr' ht3
    have HB := aj
    clear aj
    have hrb : kC t1.erase := by
     obtain ⟨r', h1, h2, _⟩ := Go.Proofs.Ytoddejmlcnbdmaa.Pure.pJ nt.erase.big nt.erase a1 _ (Nat.le_refl _) PX.out EU.out.1.root EU.out.1.Ic HHS.out
     obtain rfl : r = r' := by rw [HRR.out] at h1; exact Option.some.inj h1
     rw [ht1]
     exact h2.b
    have hrd := jI ht2.left
    have h0 := fF ht2
    obtain ⟨p0, hp1⟩ : ∃ p, nt.p = p := ⟨_, rfl⟩
    rw [hp1] at ht0 ⊢
    cases t1 with | mk p1 Uq SK mi wS vs1 cs1 =>
    have ht0 : p1 = p0 := ht0
    subst ht0
    unfold kW at h0
    simp only [NT.keys, NT.vals, NT.kids, NT.p, NT.kv, NT.vv, NT.cv] at h0
    obtain ⟨y7, ck1, rfl⟩ := Kd.av (h0.sr 1 rfl)
    obtain ⟨U5, Ug, rfl, _, _⟩ := dZ (h0.q 3 rfl)
    have fO := aa.z0 h0 0 rfl
    have BS := aa.z2 h0 0 rfl
    obtain ⟨t1, VN⟩ : ∃ t1, t1 = NT.mk p1 (.slice y7 wS.length ck1) SK (.slice U5 cs1.length Ug) wS vs1 cs1 := ⟨_, rfl⟩
    rw [<- VN] at ht1 ht2 hrd hrb
    have HT1 := A_ VN
    have Qc : af (t1.p = p1) := ⟨by rw [VN]; rfl⟩
    have nQ := A_ ht1
    have HS := A_ ht2
    have BF : af (Rd 96 w5 p1 t1.erase) := ⟨by have h9 := hrd; rw [Qc.out] at h9; exact h9⟩
    have hks : wS.length <= 4 /\ cs1.length <= 5 := by
     obtain ⟨⟨_, q2, q3⟩, _⟩ := bL.1 hrb
     rw [bA, VN] at q2 q3
     rw [bT] at q3
     have q2 : wS.length <= 4 := q2
     have q3 : cs1.length = 0 ∨ cs1.length = wS.length + 1 := q3
     omega
    have HQ := A_ h0
    clear ht1 ht2 hrd h0 VN hrb hp1
    obtain ⟨nk, hnk⟩ : ∃ n, wS.length = n := ⟨_, rfl⟩
    have Vy := A_ hnk
    rw [hnk] at fO hks
    by_cases hk0 : nk = 0
    ·have ck := kZ ((nk : Int) = (0 : Int))
     have ck2 : ((nk : Int) == (0 : Int)) = true := by rw [hk0]; rfl
     by_cases hc0 : cs1.length = 0
     ·have hbl := A_ (show decide ((t1.erase.kids.length : Int) = 0) = true from decide_eq_true (by rw [bT, HT1.out]; show (cs1.length : Int) = 0; omega))
      have rG := A_ hc0
      clear hnk hc0
      go_upto_region 10 with (first | (go_at_call 84; (with_reducible refine (bY.dA true hbl.out _ ?aD).mono ?_); (case aD => repeat (first | exact BF.out | (with_reducible refine Rd.drewN ?_ _) | (with_reducible refine Rd.drew ?_))); rintro e w' ⟨rfl, ⟨nd, rfl⟩⟩))
      generalize hW : World.drewN w5 _ = w6
      have aj := A_ (show Below w.heap.size w w6 by rw [<- hW]; exact ah HB.out _)
      have az := A_ (show Sat w6 w.heap.size (t1.dI 96 70 ++ [.box 29 g6 #[.slice none 0 0]]) by rw [<- hW]; exact Sat.drewN HS.out _)
      clear HB HS hW
      have HB := aj
      have HS := az
      clear aj az
      have OG : af (t1.erase = pG r) := ⟨by unfold pG; rw [if_neg (by rintro ⟨_, c⟩; exact c (by rw [<- nQ.out, bT, HT1.out]; exact rG.out)), nQ.out]⟩
      have rV := A_ (nD.calls t1 (by rw [OG.out]; exact XM.out.bnd) (by rw [OG.out]; exact Lp.out) w.heap.size _ w6 HS.out (Below.size HB.out))
      replace rV : af (Calls Try.prog 77 #[bG p1] w6 _) := ⟨by have h9 := rV.out; rw [Qc.out] at h9; exact h9⟩
      go_wp2_with (first | (go_at_call 77; (with_reducible refine (rV.out).mono ?_); rintro e w7 ⟨vo, pgs, rfl, he, hs3, hb3⟩; obtain ⟨Ao, co, rfl⟩ := fZ (hs3.ok (l9 vo pgs) (List.mem_append_right _ List.mem_cons_self)); have eP := A_ (hs3.cell (T := 29) (p := g6) (cs := #[.slice none 0 0]) (List.mem_append_right _ (List.mem_append_right _ List.mem_cons_self))); have yh := A_ hs3; have HE := A_ he; have aj := A_ (HB.out.trans hb3); clear HB; have HB := aj; clear aj hs3 hb3 he; have wT := (ak eP.out 0).trans rfl; have wU := aY eP.out 0))
      refine bodyPost_ret (cZ rfl _ _ g6 29 #[.slice Ao pgs.length co] (0, 0) _ rfl (dH (cs := #[.slice none 0 0]) eP.out 0 _ rfl) Try.underlying29 rfl (by kernel_rfl)) rfl ?_
      refine ⟨_, rfl, ?_, (wB HB.out o8.out)⟩
      exact ⟨Ao, co, pgs, rfl, by rw [HE.out, OG.out], mF yh.out⟩
     ·have hbl := A_ (show decide ((t1.erase.kids.length : Int) = 0) = false from decide_eq_false (by rw [bT, HT1.out]; show ¬ (cs1.length : Int) = 0; omega))
      obtain ⟨s, hsx⟩ : ∃ s, cs1[0]? = some s := ⟨cs1[0]'(by omega), List.getElem?_eq_getElem (by omega)⟩
      obtain ⟨sp, hsp⟩ : ∃ p, s.p = p := ⟨_, rfl⟩
      obtain ⟨V6, rfl⟩ := iQ (aa.q HQ.out 3 rfl) (by omega)
      have zp_ := D9 (aa.iZ HQ.out 3 rfl) (And.intro hsx hsp)
      have P6 := A_ (And.intro hsx hsp)
      have b0_ := dJ ((0 : Int) < (cs1.length : Int))
      have Wo := dJ (0 < cs1.length)
      have rG := A_ hc0
      have hk1 : t1.kids[0]? = some s := by rw [HT1.out]; exact hsx
      have yJ := A_ hk1
      clear hnk hsx hsp hc0 hk1
      go_upto_region 10 with (first | (go_at_call 84; (with_reducible refine (bY.dA false hbl.out _ ?aD).mono ?_); (case aD => repeat (first | exact BF.out | (with_reducible refine Rd.drewN ?_ _) | (with_reducible refine Rd.drew ?_))); rintro e w' ⟨rfl, ⟨nd, rfl⟩⟩))
      generalize hW : World.drewN w5 _ = w6
      have aj := A_ (show Below w.heap.size w w6 by rw [<- hW]; exact ah HB.out _)
      have az := A_ (show Sat w6 w.heap.size (s.dI 96 70 ++ [.box 29 g6 #[.slice none 0 0]]) by rw [<- hW]; exact Sat.drewN (La yJ.out HS.out) _)
      clear HB HS hW
      have HB := aj
      have HS := az
      clear aj az
      have OG : af (s.erase = pG r) := ⟨by unfold pG; rw [if_pos ⟨by rw [<- nQ.out, bA, HT1.out]; show wS.length = 0; rw [Vy.out]; exact hk0, fun c => rG.out (by rw [<- nQ.out, bT, HT1.out] at c; exact c)⟩, <- nQ.out, vg yJ.out]⟩
      have rV := A_ (nD.calls s (by rw [OG.out]; exact XM.out.bnd) (by rw [OG.out]; exact Lp.out) w.heap.size _ w6 HS.out (Below.size HB.out))
      replace rV : af (Calls Try.prog 77 #[bG sp] w6 _) := ⟨by have h9 := rV.out; rw [P6.out.2] at h9; exact h9⟩
      go_wp2_with (first | (go_at_call 77; (with_reducible refine (rV.out).mono ?_); rintro e w7 ⟨vo, pgs, rfl, he, hs3, hb3⟩; obtain ⟨Ao, co, rfl⟩ := fZ (hs3.ok (l9 vo pgs) (List.mem_append_right _ List.mem_cons_self)); have eP := A_ (hs3.cell (T := 29) (p := g6) (cs := #[.slice none 0 0]) (List.mem_append_right _ (List.mem_append_right _ List.mem_cons_self))); have yh := A_ hs3; have HE := A_ he; have aj := A_ (HB.out.trans hb3); clear HB; have HB := aj; clear aj hs3 hb3 he; have wT := (ak eP.out 0).trans rfl; have wU := aY eP.out 0))
      refine bodyPost_ret (cZ rfl _ _ g6 29 #[.slice Ao pgs.length co] (0, 0) _ rfl (dH (cs := #[.slice none 0 0]) eP.out 0 _ rfl) Try.underlying29 rfl (by kernel_rfl)) rfl ?_
      refine ⟨_, rfl, ?_, (wB HB.out o8.out)⟩
      exact ⟨Ao, co, pgs, rfl, by rw [HE.out, OG.out], mF yh.out⟩
    ·have ck := kT ((nk : Int) = (0 : Int))
     have ck2 : ((nk : Int) == (0 : Int)) = false := beq_eq_false_iff_ne.2 (by omega)
     clear hnk
     go_upto_region 10 with fail
     have OG : af (t1.erase = pG r) := ⟨by unfold pG; rw [if_neg (by rintro ⟨c, _⟩; rw [<- nQ.out, bA, HT1.out] at c; exact hk0 (Vy.out.symm.trans c)), nQ.out]⟩
     have rV := A_ (nD.calls t1 (by rw [OG.out]; exact XM.out.bnd) (by rw [OG.out]; exact Lp.out) w.heap.size _ w5 HS.out (Below.size HB.out))
     replace rV : af (Calls Try.prog 77 #[bG p1] w5 _) := ⟨by have h9 := rV.out; rw [Qc.out] at h9; exact h9⟩
     go_wp2_with (first | (go_at_call 77; (with_reducible refine (rV.out).mono ?_); rintro e w7 ⟨vo, pgs, rfl, he, hs3, hb3⟩; obtain ⟨Ao, co, rfl⟩ := fZ (hs3.ok (l9 vo pgs) (List.mem_append_right _ List.mem_cons_self)); have eP := A_ (hs3.cell (T := 29) (p := g6) (cs := #[.slice none 0 0]) (List.mem_append_right _ (List.mem_append_right _ List.mem_cons_self))); have yh := A_ hs3; have HE := A_ he; have aj := A_ (HB.out.trans hb3); clear HB; have HB := aj; clear aj hs3 hb3 he; have wT := (ak eP.out 0).trans rfl; have wU := aY eP.out 0))
     refine bodyPost_ret (cZ rfl _ _ g6 29 #[.slice Ao pgs.length co] (0, 0) _ rfl (dH (cs := #[.slice none 0 0]) eP.out 0 _ rfl) Try.underlying29 rfl (by kernel_rfl)) rfl ?_
     refine ⟨_, rfl, ?_, (wB HB.out o8.out)⟩
     exact ⟨Ao, co, pgs, rfl, by rw [HE.out, OG.out], mF yh.out⟩
 ·rw [if_neg hok] at h
  cases h
def aG (w0 W : World) (g : Nat) (f0 : List Int) (f1 : Int) (f2 : Int) : Prop := ∃ A0 c0, W.heap[g]? = some (.cells #[.slice A0 f0.length c0, .int .i64 f1, .int .u64 f2] 105 (0, 0)) /\ w0.heap.size <= g /\ Kd.C (Kd.int .u8) w0 A0 f0.length f0
theorem aG.grown {w0 W : World} {g : Nat} {f0 : List Int} {f1 : Int} {f2 : Int} {W1 : World} {row : Option Nat} (h : aG w0 W g f0 f1 f2) (hw : W.grownBy W1 row) (hne : some g ≠ row) : aG w0 W1 g f0 f1 f2 := by
 obtain ⟨A0, c0, hb, hg, hr0⟩ := h
 exact ⟨A0, c0, Lc hb hw hne, hg, hr0⟩
theorem aG.kept {w0 W : World} {g : Nat} {f0 : List Int} {f1 : Int} {f2 : Int} {W1 : World} {S : Nat -> Prop} (h : aG w0 W g f0 f1 f2) (hk : Kept W W1 S) (hne : ¬ S g) : aG w0 W1 g f0 f1 f2 := by
 obtain ⟨A0, c0, hb, hg, hr0⟩ := h
 exact ⟨A0, c0, su hb hk hne, hg, hr0⟩
theorem aG.below {w0 W : World} {g : Nat} {f0 : List Int} {f1 : Int} {f2 : Int} {W1 : World} (h : aG w0 W g f0 f1 f2) (hw : Below W.heap.size W W1) : aG w0 W1 g f0 f1 f2 := h.grown (AL hw none) (by simp)
theorem aG.alloc {w0 W : World} {g : Nat} {f0 : List Int} {f1 : Int} {f2 : Int} (h : aG w0 W g f0 f1 f2) (o : Obj) : aG w0 (W.alloc o) g f0 f1 f2 := h.below (bu (Below.refl _ _) o)
theorem aG.drewN {w0 W : World} {g : Nat} {f0 : List Int} {f1 : Int} {f2 : Int} (h : aG w0 W g f0 f1 f2) (m : Nat) : aG w0 (W.drewN m) g f0 f1 f2 := h
theorem aG.drew {w0 W : World} {g : Nat} {f0 : List Int} {f1 : Int} {f2 : Int} (h : aG w0 W g f0 f1 f2) : aG w0 W.drew g f0 f1 f2 := h
theorem aG.ge {w0 W : World} {g : Nat} {f0 : List Int} {f1 : Int} {f2 : Int} (h : aG w0 W g f0 f1 f2) : w0.heap.size <= g := by
 obtain ⟨A0, c0, hb, hg, hr0⟩ := h
 exact hg
theorem rA {W : World} {g : Nat} {A0 : Option Addr} {c0 : Nat} {f0 : List Int} {f1 : Int} {f2 : Int} (h : W.heap[g]? = some (.cells #[.slice A0 f0.length c0, .int .i64 f1, .int .u64 f2] 105 (0, 0))) : W.cell? ⟨g, 0, none⟩ = some (.slice A0 f0.length c0) := (ak h 0).trans rfl
theorem rC {W : World} {g : Nat} {A0 : Option Addr} {c0 : Nat} {f0 : List Int} {f1 : Int} {f2 : Int} (h : W.heap[g]? = some (.cells #[.slice A0 f0.length c0, .int .i64 f1, .int .u64 f2] 105 (0, 0))) : W.cell? ⟨g, 1, none⟩ = some (.int .i64 f1) := (ak h 1).trans rfl
theorem aG.oO {w0 W : World} {g : Nat} {f0 : List Int} {f1 : Int} {f2 : Int} (h : aG w0 W g f0 f1 f2) (x : Int) : aG w0 (W.setCell ⟨g, 1, none⟩ (.int .i64 x)) g f0 x f2 := by
 obtain ⟨A0, c0, hb, hg, hr0⟩ := h
 exact ⟨A0, c0, by simpa using yZ hb 1 (.int .i64 x), hg, hr0⟩
theorem rD {W : World} {g : Nat} {A0 : Option Addr} {c0 : Nat} {f0 : List Int} {f1 : Int} {f2 : Int} (h : W.heap[g]? = some (.cells #[.slice A0 f0.length c0, .int .i64 f1, .int .u64 f2] 105 (0, 0))) : W.cell? ⟨g, 2, none⟩ = some (.int .u64 f2) := (ak h 2).trans rfl
theorem aG.oP {w0 W : World} {g : Nat} {f0 : List Int} {f1 : Int} {f2 : Int} (h : aG w0 W g f0 f1 f2) (x : Int) : aG w0 (W.setCell ⟨g, 2, none⟩ (.int .u64 x)) g f0 f1 x := by
 obtain ⟨A0, c0, hb, hg, hr0⟩ := h
 exact ⟨A0, c0, by simpa using yZ hb 2 (.int .u64 x), hg, hr0⟩
def dn.f (dU : List Int) (dF : Int) (ig : Int) : Option (Int × Int × Int) := if dF < (dU.length : Int) then (if 0 <= dF then (if (wrap64 (dF + 1)) <= (dU.length : Int) then (some (wrap64 (rd dU dF), wrap64 (dF + 1), IntKind.u64.wrap ((IntKind.u64.wrap ((IntKind.u64.wrap (ig * 6364136223846793005)) + (IntKind.u64.wrap (wrap64 (rd dU dF))))) + 1442695040888963407))) else (some (wrap64 (Go.bits .and .u64 ((IntKind.u64.wrap ((IntKind.u64.wrap ((IntKind.u64.wrap (ig * 6364136223846793005)) + (IntKind.u64.wrap (wrap64 (rd dU dF))))) + 1442695040888963407)) / 1099511627776) 255), wrap64 (dF + 1), IntKind.u64.wrap ((IntKind.u64.wrap ((IntKind.u64.wrap (ig * 6364136223846793005)) + (IntKind.u64.wrap (wrap64 (rd dU dF))))) + 1442695040888963407)))) else (none)) else (if (wrap64 (dF + 1)) <= (dU.length : Int) then (some (0, wrap64 (dF + 1), IntKind.u64.wrap ((IntKind.u64.wrap (IntKind.u64.wrap (ig * 6364136223846793005))) + 1442695040888963407))) else (some (wrap64 (Go.bits .and .u64 ((IntKind.u64.wrap ((IntKind.u64.wrap (IntKind.u64.wrap (ig * 6364136223846793005))) + 1442695040888963407)) / 1099511627776) 255), wrap64 (dF + 1), IntKind.u64.wrap ((IntKind.u64.wrap (IntKind.u64.wrap (ig * 6364136223846793005))) + 1442695040888963407))))
theorem dn.calls (g : Nat) (dU : List Int) (dF : Int) (ig : Int) (r1 : Int) (r2 : Int) (r3 : Int) (w0 w : World) (hI : aG w0 w g dU dF ig) (hB : Below w0.heap.size w0 w) (h : dn.f dU dF ig = some (r1, r2, r3)) :
  Calls Try.prog 118 #[.pointer (some ⟨g, 0, none⟩)] w fun e w' => e = .returned (.int .i64 r1) /\ aG w0 w' g dU r2 r3 /\ Below w0.heap.size w0 w' /\ bf w w' g none := by
 have HI0 := A_ hI
 have HK := A_ (bf.refl w g none)
 have HL := A_ hB.size
 clear hI
 have HW0 := A_ hB.size
 have HB := A_ hB
 clear hB
 have H : (if dF < (dU.length : Int) then (if 0 <= dF then (if (wrap64 (dF + 1)) <= (dU.length : Int) then (some (wrap64 (rd dU dF), wrap64 (dF + 1), IntKind.u64.wrap ((IntKind.u64.wrap ((IntKind.u64.wrap (ig * 6364136223846793005)) + (IntKind.u64.wrap (wrap64 (rd dU dF))))) + 1442695040888963407))) else (some (wrap64 (Go.bits .and .u64 ((IntKind.u64.wrap ((IntKind.u64.wrap ((IntKind.u64.wrap (ig * 6364136223846793005)) + (IntKind.u64.wrap (wrap64 (rd dU dF))))) + 1442695040888963407)) / 1099511627776) 255), wrap64 (dF + 1), IntKind.u64.wrap ((IntKind.u64.wrap ((IntKind.u64.wrap (ig * 6364136223846793005)) + (IntKind.u64.wrap (wrap64 (rd dU dF))))) + 1442695040888963407)))) else (none)) else (if (wrap64 (dF + 1)) <= (dU.length : Int) then (some (0, wrap64 (dF + 1), IntKind.u64.wrap ((IntKind.u64.wrap (IntKind.u64.wrap (ig * 6364136223846793005))) + 1442695040888963407))) else (some (wrap64 (Go.bits .and .u64 ((IntKind.u64.wrap ((IntKind.u64.wrap (IntKind.u64.wrap (ig * 6364136223846793005))) + 1442695040888963407)) / 1099511627776) 255), wrap64 (dF + 1), IntKind.u64.wrap ((IntKind.u64.wrap (IntKind.u64.wrap (ig * 6364136223846793005))) + 1442695040888963407))))) = some (r1, r2, r3) := h
 clear h
 by_cases c2 : dF < (dU.length : Int)
 ·rw [if_pos c2] at H
  have R5 : decide (dF < (dU.length : Int)) = true := decide_eq_true c2
  clear c2
  by_cases c3 : 0 <= dF
  ·rw [if_pos c3] at H
   have sP : decide (0 <= dF) = true := decide_eq_true c3
   clear c3
   by_cases c4 : (wrap64 (dF + 1)) <= (dU.length : Int)
   ·rw [if_pos c4] at H
    have rU : decide ((wrap64 (dF + 1)) <= (dU.length : Int)) = true := decide_eq_true c4
    clear c4
    simp only [Option.some.injEq, Prod.mk.injEq] at H
    obtain ⟨rfl, rfl, rfl⟩ := H
    obtain ⟨ASz5_0, cSz5_0, LX, hgz5, HSz5_0⟩ := HI0.out
    have hcz5_0 := rA LX
    have hcz5_1 := rC LX
    have hcz5_2 := rD LX
    have hfz5_1 := aY LX 1
    have hfz5_2 := aY LX 2
    clear LX hgz5
    have I6 : 0 <= (dF : Int) := of_decide_eq_true iL
    have I7 : dF < (dU.length : Int) := of_decide_eq_true iL
    obtain ⟨ad372, TG, wM⟩ := Kd.pV HSz5_0 dF I6 I7
    cases TG
    replace wM := pY HB.out wM
    replace I6 := eq_true I6
    replace I7 := eq_true I7
    go_enter Try.func118, Try.ntmps118
    go_wp2
    repeat (go_quiet (fail); try go_wp2)
    go_ret
    exact ⟨Jn, by repeat (first | (with_reducible first | exact HI0.out | apply aG.alloc | apply aG.drewN | apply aG.drew | apply aG.oO | apply aG.oP) | exact HI0.out), by repeat (first | (with_reducible first | exact HB.out | apply bu | apply ah | apply bC | refine bM ?_ (aG.ge HI0.out)) | exact HB.out), by repeat (first | (with_reducible first | exact HK.out | apply bf.uN | apply eB | apply fD | apply eD) | exact HK.out)⟩
   ·rw [if_neg c4] at H
    have rU : decide ((wrap64 (dF + 1)) <= (dU.length : Int)) = false := decide_eq_false c4
    clear c4
    simp only [Option.some.injEq, Prod.mk.injEq] at H
    obtain ⟨rfl, rfl, rfl⟩ := H
    obtain ⟨ASz6_0, cSz6_0, LY, hgz6, HSz6_0⟩ := HI0.out
    have hcz6_0 := rA LY
    have hcz6_1 := rC LY
    have hcz6_2 := rD LY
    have hfz6_1 := aY LY 1
    have hfz6_2 := aY LY 2
    clear LY hgz6
    have I6 : 0 <= (dF : Int) := of_decide_eq_true iL
    have I7 : dF < (dU.length : Int) := of_decide_eq_true iL
    obtain ⟨ad372, TG, wM⟩ := Kd.pV HSz6_0 dF I6 I7
    cases TG
    replace wM := pY HB.out wM
    replace I6 := eq_true I6
    replace I7 := eq_true I7
    go_enter Try.func118, Try.ntmps118
    go_wp2
    repeat (go_quiet (fail); try go_wp2)
    go_ret
    exact ⟨Jn, by repeat (first | (with_reducible first | exact HI0.out | apply aG.alloc | apply aG.drewN | apply aG.drew | apply aG.oO | apply aG.oP) | exact HI0.out), by repeat (first | (with_reducible first | exact HB.out | apply bu | apply ah | apply bC | refine bM ?_ (aG.ge HI0.out)) | exact HB.out), by repeat (first | (with_reducible first | exact HK.out | apply bf.uN | apply eB | apply fD | apply eD) | exact HK.out)⟩
  ·rw [if_neg c3] at H
   exact absurd H (by simp)
 ·rw [if_neg c2] at H
  have R5 : decide (dF < (dU.length : Int)) = false := decide_eq_false c2
  clear c2
  by_cases c7 : (wrap64 (dF + 1)) <= (dU.length : Int)
  ·rw [if_pos c7] at H
   have Gh : decide ((wrap64 (dF + 1)) <= (dU.length : Int)) = true := decide_eq_true c7
   clear c7
   simp only [Option.some.injEq, Prod.mk.injEq] at H
   obtain ⟨rfl, rfl, rfl⟩ := H
   obtain ⟨ASz8_0, cSz8_0, LZ, hgz8, HSz8_0⟩ := HI0.out
   have hcz8_0 := rA LZ
   have hcz8_1 := rC LZ
   have hcz8_2 := rD LZ
   have hfz8_1 := aY LZ 1
   have hfz8_2 := aY LZ 2
   clear LZ hgz8
   go_enter Try.func118, Try.ntmps118
   go_wp2
   repeat (go_quiet (fail); try go_wp2)
   go_ret
   exact ⟨Jn, by repeat (first | (with_reducible first | exact HI0.out | apply aG.alloc | apply aG.drewN | apply aG.drew | apply aG.oO | apply aG.oP) | exact HI0.out), by repeat (first | (with_reducible first | exact HB.out | apply bu | apply ah | apply bC | refine bM ?_ (aG.ge HI0.out)) | exact HB.out), by repeat (first | (with_reducible first | exact HK.out | apply bf.uN | apply eB | apply fD | apply eD) | exact HK.out)⟩
  ·rw [if_neg c7] at H
   have Gh : decide ((wrap64 (dF + 1)) <= (dU.length : Int)) = false := decide_eq_false c7
   clear c7
   simp only [Option.some.injEq, Prod.mk.injEq] at H
   obtain ⟨rfl, rfl, rfl⟩ := H
   obtain ⟨ASz9_0, cSz9_0, L6, hgz9, HSz9_0⟩ := HI0.out
   have hcz9_0 := rA L6
   have hcz9_1 := rC L6
   have hcz9_2 := rD L6
   have hfz9_1 := aY L6 1
   have hfz9_2 := aY L6 2
   clear L6 hgz9
   go_enter Try.func118, Try.ntmps118
   go_wp2
   repeat (go_quiet (fail); try go_wp2)
   go_ret
   exact ⟨Jn, by repeat (first | (with_reducible first | exact HI0.out | apply aG.alloc | apply aG.drewN | apply aG.drew | apply aG.oO | apply aG.oP) | exact HI0.out), by repeat (first | (with_reducible first | exact HB.out | apply bu | apply ah | apply bC | refine bM ?_ (aG.ge HI0.out)) | exact HB.out), by repeat (first | (with_reducible first | exact HK.out | apply bf.uN | apply eB | apply fD | apply eD) | exact HK.out)⟩
theorem M5 {p0 q : Prop} (h0 : p0) (h : p0 -> q := by intro p9; repeat (first | (with_reducible first | exact p9 | apply aG.alloc | apply aG.drewN | apply aG.drew | apply aG.oO | apply aG.oP) | exact p9)) : q := h h0
theorem M6 {p0 p1 q : Prop} (h0 : p0) (h1 : p1) (h : p0 -> p1 -> q := by intro p9 Qa; repeat (first | (with_reducible first | exact p9 | apply bu | apply ah | apply bC | refine bM ?_ (aG.ge Qa)) | exact p9)) : q := h h0 h1
theorem M7 {p0 q : Prop} (h0 : p0) (h : p0 -> q := by intro p9; repeat (first | (with_reducible first | exact p9 | apply bf.uN | apply eB | apply fD | apply eD) | exact p9)) : q := h h0
def bZ.f (dU : List Int) (dF : Int) (ig : Int) (a1 : Int) : Option (Int × Int × Int) := if a1 <= 1 then (some (0, dF, ig)) else ((dn.f dU dF ig).bind fun qH => (if a1 > 200 then ((dn.f dU qH.2.1 qH.2.2).bind fun tC => (if a1 = 0 then (none) else (some (Int.tmod (wrap64 ((wrap64 (qH.1 * 256)) + tC.1)) a1, tC.2.1, tC.2.2)))) else (if a1 = 0 then (none) else (some (Int.tmod qH.1 a1, qH.2.1, qH.2.2)))))
theorem bZ.calls (g : Nat) (dU : List Int) (dF : Int) (ig : Int) (a1 : Int) (r1 : Int) (r2 : Int) (r3 : Int) (w0 w : World) (hI : aG w0 w g dU dF ig) (hB : Below w0.heap.size w0 w) (h : bZ.f dU dF ig a1 = some (r1, r2, r3)) :
  Calls Try.prog 92 #[.pointer (some ⟨g, 0, none⟩), .int .i64 a1] w fun e w' => e = .returned (.int .i64 r1) /\ aG w0 w' g dU r2 r3 /\ Below w0.heap.size w0 w' /\ bf w w' g none := by
 have HI0 := A_ hI
 have HK := A_ (bf.refl w g none)
 have HL := A_ hB.size
 clear hI
 have HW0 := A_ hB.size
 have HB := A_ hB
 clear hB
 have H : (if a1 <= 1 then (some (0, dF, ig)) else ((dn.f dU dF ig).bind fun qH => (if a1 > 200 then ((dn.f dU qH.2.1 qH.2.2).bind fun tC => (if a1 = 0 then (none) else (some (Int.tmod (wrap64 ((wrap64 (qH.1 * 256)) + tC.1)) a1, tC.2.1, tC.2.2)))) else (if a1 = 0 then (none) else (some (Int.tmod qH.1 a1, qH.2.1, qH.2.2)))))) = some (r1, r2, r3) := h
 clear h
 by_cases c3 : a1 <= 1
 ·rw [if_pos c3] at H
  have sP : decide (a1 <= 1) = true := decide_eq_true c3
  clear c3
  simp only [Option.some.injEq, Prod.mk.injEq] at H
  obtain ⟨rfl, rfl, rfl⟩ := H
  go_enter Try.func92, Try.ntmps92
  go_wp2
  go_ret
  exact ⟨Jn, by repeat (first | (with_reducible first | exact HI0.out | apply aG.alloc | apply aG.drewN | apply aG.drew | apply aG.oO | apply aG.oP) | exact HI0.out), by repeat (first | (with_reducible first | exact HB.out | apply bu | apply ah | apply bC | refine bM ?_ (aG.ge HI0.out)) | exact HB.out), by repeat (first | (with_reducible first | exact HK.out | apply bf.uN | apply eB | apply fD | apply eD) | exact HK.out)⟩
 ·rw [if_neg c3] at H
  have sP : decide (a1 <= 1) = false := decide_eq_false c3
  clear c3
  replace H := Option.bind_eq_some_iff.mp H
  obtain ⟨⟨OH, OI, OJ⟩, A40, H⟩ := H
  replace H : (if a1 > 200 then ((dn.f dU OI OJ).bind fun tC => (if a1 = 0 then (none) else (some (Int.tmod (wrap64 ((wrap64 (OH * 256)) + tC.1)) a1, tC.2.1, tC.2.2)))) else (if a1 = 0 then (none) else (some (Int.tmod OH a1, OI, OJ)))) = some (r1, r2, r3) := H
  have A4 := A_ A40
  clear A40
  by_cases c5 : a1 > 200
  ·rw [if_pos c5] at H
   have EC : decide (200 < a1) = true := decide_eq_true c5
   clear c5
   replace H := Option.bind_eq_some_iff.mp H
   obtain ⟨⟨t376, t377, t378⟩, U7, H⟩ := H
   replace H : (if a1 = 0 then (none) else (some (Int.tmod (wrap64 ((wrap64 (OH * 256)) + t376)) a1, t377, t378))) = some (r1, r2, r3) := H
   have A6 := A_ U7
   clear U7
   by_cases c7 : a1 = 0
   ·rw [if_pos c7] at H
    exact absurd H (by simp)
   ·rw [if_neg c7] at H
    have Gh : (a1 == 0) = false := beq_eq_false_iff_ne.mpr c7
    have c7b1 : (a1 != 0) = true := bne_iff_ne.mpr c7
    simp only [Option.some.injEq, Prod.mk.injEq] at H
    obtain ⟨rfl, rfl, rfl⟩ := H
    go_enter Try.func92, Try.ntmps92
    go_wp2_with (first | ((with_reducible refine bW (f := 118) rfl ?_); refine iw (some 9) rfl rfl Try.func118 (by kernel_rfl) rfl #[.pointer (some ⟨g, 0, none⟩)] rfl (BM) ?_; (with_reducible refine (dn.calls g dU dF ig OH OI OJ w0 _ ?aD ?dR A4.out).mono ?_); (case aD => exact M5 HI0.out); (case dR => exact M6 HB.out HI0.out); rintro e w8 ⟨rfl, hi, hb, hk⟩; refine ⟨_, rfl, ?_⟩; replace HK := A_ (bf.trans (M7 HK.out) hk (.inl rfl)); replace HB := A_ (hb); replace HI0 := A_ (hi); (try clear hb); (try clear hb2); (try clear hk); (try clear hi)) | ((with_reducible refine bW (f := 118) rfl ?_); refine iw (some 15) rfl rfl Try.func118 (by kernel_rfl) rfl #[.pointer (some ⟨g, 0, none⟩)] rfl (BM) ?_; (with_reducible refine (dn.calls g dU OI OJ t376 t377 t378 w0 _ ?aD ?dR A6.out).mono ?_); (case aD => exact M5 HI0.out); (case dR => exact M6 HB.out HI0.out); rintro e w9 ⟨rfl, hi, hb, hk⟩; refine ⟨_, rfl, ?_⟩; replace HK := A_ (bf.trans (M7 HK.out) hk (.inl rfl)); replace HB := A_ (hb); replace HI0 := A_ (hi); (try clear hb); (try clear hb2); (try clear hk); (try clear hi)))
    go_ret
    exact ⟨Jn, by repeat (first | (with_reducible first | exact HI0.out | apply aG.alloc | apply aG.drewN | apply aG.drew | apply aG.oO | apply aG.oP) | exact HI0.out), by repeat (first | (with_reducible first | exact HB.out | apply bu | apply ah | apply bC | refine bM ?_ (aG.ge HI0.out)) | exact HB.out), by repeat (first | (with_reducible first | exact HK.out | apply bf.uN | apply eB | apply fD | apply eD) | exact HK.out)⟩
  ·rw [if_neg c5] at H
   have EC : decide (200 < a1) = false := decide_eq_false c5
   clear c5
   by_cases c10 : a1 = 0
   ·rw [if_pos c10] at H
    exact absurd H (by simp)
   ·rw [if_neg c10] at H
    have c10b0 : (a1 == 0) = false := beq_eq_false_iff_ne.mpr c10
    have c10b1 : (a1 != 0) = true := bne_iff_ne.mpr c10
    simp only [Option.some.injEq, Prod.mk.injEq] at H
    obtain ⟨rfl, rfl, rfl⟩ := H
    go_enter Try.func92, Try.ntmps92
    go_wp2_with (first | ((with_reducible refine bW (f := 118) rfl ?_); refine iw (some 9) rfl rfl Try.func118 (by kernel_rfl) rfl #[.pointer (some ⟨g, 0, none⟩)] rfl (BM) ?_; (with_reducible refine (dn.calls g dU dF ig OH OI OJ w0 _ ?aD ?dR A4.out).mono ?_); (case aD => exact M5 HI0.out); (case dR => exact M6 HB.out HI0.out); rintro e xM ⟨rfl, hi, hb, hk⟩; refine ⟨_, rfl, ?_⟩; replace HK := A_ (bf.trans (M7 HK.out) hk (.inl rfl)); replace HB := A_ (hb); replace HI0 := A_ (hi); (try clear hb); (try clear hb2); (try clear hk); (try clear hi)))
    go_ret
    exact ⟨Jn, by repeat (first | (with_reducible first | exact HI0.out | apply aG.alloc | apply aG.drewN | apply aG.drew | apply aG.oO | apply aG.oP) | exact HI0.out), by repeat (first | (with_reducible first | exact HB.out | apply bu | apply ah | apply bC | refine bM ?_ (aG.ge HI0.out)) | exact HB.out), by repeat (first | (with_reducible first | exact HK.out | apply bf.uN | apply eB | apply fD | apply eD) | exact HK.out)⟩
theorem M8 {p0 q : Prop} (h0 : p0) (h : p0 -> q := by intro p9; repeat (first | (with_reducible first | exact p9 | apply bf.uN | apply eB | apply fD | apply eD) | exact p9)) : q := h h0
def jl.f (dU : List Int) (dF : Int) (ig : Int) : Option (ByteArray × Int × Int) := (bZ.f dU dF ig 30).bind fun wN => (some (strOfNums (([(wrap64 (97 + (wrap64 (Int.tdiv wN.1 6)))) % 256, (wrap64 (97 + (Int.tmod wN.1 6))) % 256] : List Int)), wN.2.1, wN.2.2))
theorem jl.calls (g : Nat) (dU : List Int) (dF : Int) (ig : Int) (r1 : ByteArray) (r2 : Int) (r3 : Int) (w0 w : World) (hI : aG w0 w g dU dF ig) (hB : Below w0.heap.size w0 w) (h : jl.f dU dF ig = some (r1, r2, r3)) :
  Calls Try.prog 89 #[.pointer (some ⟨g, 0, none⟩)] w fun e w' => e = .returned (.string r1) /\ aG w0 w' g dU r2 r3 /\ Below w0.heap.size w0 w' /\ bf w w' g none := by
 have HI0 := A_ hI
 have HK := A_ (bf.refl w g none)
 have HL := A_ hB.size
 clear hI
 have HW0 := A_ hB.size
 have HB := A_ hB
 clear hB
 have H : ((bZ.f dU dF ig 30).bind fun wN => (some (strOfNums (([(wrap64 (97 + (wrap64 (Int.tdiv wN.1 6)))) % 256, (wrap64 (97 + (Int.tmod wN.1 6))) % 256] : List Int)), wN.2.1, wN.2.2))) = some (r1, r2, r3) := h
 clear h
 replace H := Option.bind_eq_some_iff.mp H
 obtain ⟨⟨xP, TH, TI⟩, QC, H⟩ := H
 replace H : (some (strOfNums (([(wrap64 (97 + (wrap64 (Int.tdiv xP 6)))) % 256, (wrap64 (97 + (Int.tmod xP 6))) % 256] : List Int)), TH, TI)) = some (r1, r2, r3) := H
 have A2 := A_ QC
 clear QC
 obtain ⟨y386, GZ⟩ : ∃ y_ : List Int, y_ = (([(wrap64 (97 + (wrap64 (Int.tdiv xP 6)))) % 256, (wrap64 (97 + (Int.tmod xP 6))) % 256] : List Int)) := ⟨_, rfl⟩
 replace H : (some (strOfNums y386, TH, TI)) = some (r1, r2, r3) := by first | (rw [GZ]; with_reducible exact H) | (have jA := (Option.bind_some _ _).symm.trans H; rw [GZ]; with_reducible exact jA) | (have jA := (Option.bind_some _ _).symm.trans H; with_reducible exact jA) | with_reducible exact H | (rw [GZ]; exact H) | exact H
 have Ny386 := A_ GZ
 clear GZ
 simp only [Option.some.injEq, Prod.mk.injEq] at H
 obtain ⟨rfl, rfl, rfl⟩ := H
 go_enter Try.func89, Try.ntmps89
 go_wp2_with (first | ((with_reducible refine bW (f := 92) rfl ?_); refine iw (some 5) rfl rfl Try.func92 (by kernel_rfl) rfl #[.pointer (some ⟨g, 0, none⟩), .int .i64 30] rfl (BM) ?_; (with_reducible refine (bZ.calls g dU dF ig 30 xP TH TI w0 _ ?aD ?dR A2.out).mono ?_); (case aD => repeat (first | (with_reducible first | exact HI0.out | apply aG.alloc | apply aG.drewN | apply aG.drew | apply aG.oO | apply aG.oP) | exact HI0.out)); (case dR => repeat (first | (with_reducible first | exact HB.out | apply bu | apply ah | apply bC | refine bM ?_ (aG.ge HI0.out)) | exact HB.out)); rintro e w3 ⟨rfl, hi, hb, hk⟩; refine ⟨_, rfl, ?_⟩; replace HK := A_ (bf.trans (M8 HK.out) hk (.inl rfl)); replace HB := A_ (hb); replace HI0 := A_ (hi); (try clear hb); (try clear hb2); (try clear hk); (try clear hi)) | ((with_reducible refine dN (N := 14) rfl ?_); refine Kd.kH (Kd.int .u8) _ 5 ?hg (N := 14) ?hd (xs := ([(wrap64 (97 + (wrap64 (Int.tdiv xP 6)))) % 256, (wrap64 (97 + (Int.tmod xP 6))) % 256] : List Int)) (inner := [.int .u8 ((wrap64 (97 + (wrap64 (Int.tdiv xP 6)))) % 256), .int .u8 ((wrap64 (97 + (Int.tmod xP 6))) % 256)]) (ok := fun _ => True) (okp := fun _ => True) ?hr ?hp (fun _ hk => hk) trivial (Below.refl _ _) (Nat.le_refl _) (by simp) ?_; (case hd => rfl); (case hg => rfl); (case hr => first | (go_simp; done) | (go_simp; rfl)); (case hp => exact (fq.one (show Kd.M (Kd.int .u8) _ _ _ ((wrap64 (97 + (wrap64 (Int.tdiv xP 6)))) % 256) [.int .u8 ((wrap64 (97 + (wrap64 (Int.tdiv xP 6)))) % 256)] from rfl) (fq.one (show Kd.M (Kd.int .u8) _ _ _ ((wrap64 (97 + (Int.tmod xP 6))) % 256) [.int .u8 ((wrap64 (97 + (Int.tmod xP 6))) % 256)] from rfl) (fq.none _ _)))); intro v387 w4 VO hb Lu qG; clear Lu qG; (first | rw [<- Ny386.out] at VO | (simp only [Int.reduceToNat] at VO; rw [<- Ny386.out] at VO)); have HO388 := A_ (Kd.fI VO (Ld (w := w) (g := g) (row := none) (M8 HK.out))); replace HK := A_ (bf.trans (M8 HK.out) (bf.of_below hb g none) (.inl rfl)); replace HB := A_ (au (by repeat (first | (with_reducible first | exact HB.out | apply bu | apply ah | apply bC | refine bM ?_ (aG.ge HI0.out)) | exact HB.out)) hb); replace HI0 := A_ (aG.below (by repeat (first | (with_reducible first | exact HI0.out | apply aG.alloc | apply aG.drewN | apply aG.drew | apply aG.oO | apply aG.oP) | exact HI0.out)) hb); clear hb VO; have hcv6 := Io (P := Try.prog) Try.underlying56 Try.underlying5 Try.underlying9 (Kd.rY HO388.out)))
 go_ret
 exact ⟨Jn, by repeat (first | (with_reducible first | exact HI0.out | apply aG.alloc | apply aG.drewN | apply aG.drew | apply aG.oO | apply aG.oP) | exact HI0.out), by repeat (first | (with_reducible first | exact HB.out | apply bu | apply ah | apply bC | refine bM ?_ (aG.ge HI0.out)) | exact HB.out), by repeat (first | (with_reducible first | exact HK.out | apply bf.uN | apply eB | apply fD | apply eD) | exact HK.out)⟩
end Go.Proofs.Ytoddejmlcnbdmaa.Fn
namespace Go.Proofs.Ytoddejmlcnbdmaa.Tree
theorem aa.keep {w w1 : World} {base g : Nat} {gs : List (List Ck)} (h : aa w base gs) (hk : bf w w1 g none) (hg : g < base) : aa w1 base gs :=
 Sat.Qm (S := fun k => k = g) h ((Kept.refl w _).Pv hk (.inl rfl)) (fun k e => e ▸ hg)
structure Cu (w0 w W : World) (g : Nat) (s : List Int) (p q : Int) (gs : List (List Ck)) : Prop where
 I : aG w0 W g s p q
 B : Below w0.heap.size w0 W
 K : bf w W g none
 S : aa W w.heap.size gs
 lt : g < w.heap.size
section
variable {w0 w W W1 : World} {g : Nat} {s : List Int} {p q p1 q1 : Int} {gs gs1 : List (List Ck)}
theorem Cu.size (h : Cu w0 w W g s p q gs) : w.heap.size <= W.heap.size := h.K.1
theorem Cu.cur (h : Cu w0 w W g s p q gs) (h1 : aG w0 W1 g s p1 q1) (h2 : Below w0.heap.size w0 W1) (h3 : bf W W1 g none) : Cu w0 w W1 g s p1 q1 gs :=
 ⟨h1, h2, h.K.trans h3 (.inl rfl), h.S.keep h3 h.lt, h.lt⟩
theorem Cu.under (h : Cu w0 w W g s p q gs) (hb : Below W.heap.size W W1) : Cu w0 w W1 g s p q gs :=
 ⟨h.I.below hb, au h.B hb, h.K.trans (bf.of_below hb g none) (.inl rfl), h.S.under hb, h.lt⟩
theorem Cu.drew (h : Cu w0 w W g s p q gs) : Cu w0 w W.drew g s p q gs := h.under (aH (Below.refl _ _))
theorem Cu.box (h : Cu w0 w W g s p q gs) {T b : Nat} {cs : Array Value} (hg : b = W.heap.size) (aC : W1.heap[b]? = some (.cells cs T (0, 0))) (hb : Below W.heap.size W W1) : Cu w0 w W1 g s p q (gs ++ [[.box T b cs]]) :=
 ⟨(h.under hb).I, (h.under hb).B, (h.under hb).K, h.S.gI hg aC hb h.size, h.lt⟩
theorem Cu.put (h : Cu w0 w W g s p q gs) (i : Nat) {T b : Nat} {cs cs' : Array Value} (hi : gs[i]? = some [.box T b cs]) (j : Nat) (u : Value) (e : cs.setIfInBounds j u = cs') : Cu w0 w (W.setCell ⟨b, j, none⟩ u) g s p q (gs.set i [.box T b cs']) := by
 have h1 : w.heap.size <= b := ((h.S.at i hi).ok _ List.mem_cons_self).1
 have hk : Kept W (W.setCell ⟨b, j, none⟩ u) (fun k => k = b) := (Kept.refl W (fun k => k = b)).setCell (p := ⟨b, j, none⟩) (.inl rfl) u
 have hK : bf W (W.setCell ⟨b, j, none⟩ u) b none := ⟨hk.1, fun i hi hn _ => hk.2 i hi hn⟩
 have h2 : w0.heap.size <= b := Nat.le_trans (by have := h.I; obtain ⟨_, _, _, h5, _⟩ := this; exact Nat.le_trans h5 (Nat.le_of_lt h.lt)) h1
 refine ⟨h.I.kept hk (fun e => by have := h.lt; omega), bM h.B h2, ?_, h.S.put i hi j u e, h.lt⟩
 exact Kept.keep (S2 := fun k => k = b) h.K hk (fun k e => by rw [e]; exact h1)
theorem Cu.to (h : Cu w0 w W g s p q gs) (hs : aa W w.heap.size gs1) : Cu w0 w W g s p q gs1 := ⟨h.I, h.B, h.K, hs, h.lt⟩
end
end Go.Proofs.Ytoddejmlcnbdmaa.Tree
namespace Go.Proofs.Ytoddejmlcnbdmaa.Fn
theorem wC {p0 p1 q : Prop} (h0 : p0) (h1 : p1) (h : p0 -> p1 -> q := by intro p9 Qa; repeat (first | (with_reducible first | exact p9 | apply ah | apply bC | refine bM ?_ Qa) | exact p9)) : q := h h0 h1
open Go.Proofs.Ytoddejmlcnbdmaa.Pure (jk kI)
set_option maxHeartbeats 8000000
set_option maxRecDepth 100000
def vw (key val : ByteArray) : List bH × Bool := if pq key val = true then ([⟨[key], [val], []⟩], true) else ([], false)
theorem JZ {W : World} {base g gp : Nat} {v0 v1 : Value} {key val : ByteArray} (h : aa W base [[.box 29 g #[.slice none 0 0]], [txt v0 [key]], [txt v1 [val]], [.row 110 3 (.slice (some ⟨gp, 0, none⟩) 1 1) 1 [v0, v1, .slice none 0 0]]]) :
  fG (W.setCell ⟨g, 0, none⟩ (.slice (some ⟨gp, 0, none⟩) 1 1)) base (.slice (some ⟨gp, 0, none⟩) 1 1) [⟨[key], [val], []⟩] := by
 refine ⟨some ⟨gp, 0, none⟩, 1, [⟨v0, v1, .slice none 0 0, [key], [val], []⟩], rfl, rfl, ?_⟩
 have h2 := (h.tX 3).iN [3, 1, 2, 4, 0] (by decide)
 exact mF (X := []) (n := 1) h2
theorem wD.nK (a1 a2 : ByteArray) (w : World) :
  Calls Try.prog 55 #[.string a1, .string a2] w fun e w' => ∃ iy : Value, e = .returned (.tuple #[.agg #[iy], .bool (vw a1 a2).2]) /\ fG w' w.heap.size iy (vw a1 a2).1 /\ Below w.heap.size w w' := by
 unfold vw
 cases hpr : pq a1 a2 with
 | false =>
  have EG := A_ ((nV a1 a2).trans (congrArg some hpr))
  clear hpr
  rw [if_neg (by decide)]
  go_enter Try.func55, Try.ntmps55
  go_wp2_with (first | (refine jf 4 #[.slice none 0 0] 29 ?_; intro g6 hg w2 aC hb; have HB := A_ (Below.refl w.heap.size w); have o8 := A_ (show w.heap.size <= g6 from by rw [hg]; exact Below.size HB.out); have aj := A_ (au HB.out hb); clear HB; have HB := aj; have eP := A_ aC; clear aj hg aC hb; have wT := (ak eP.out 0).trans rfl; have wU := aY eP.out 0) | (go_at_call 75; (with_reducible refine (cK.calls a1 a2 false _ EG.out).mono ?_); rintro e w' ⟨rfl, ⟨nd, rfl⟩⟩))
  refine bodyPost_ret (cZ rfl _ _ g6 29 #[.slice none 0 0] (0, 0) _ rfl (by (with_reducible repeat (first | refine bS ?_ _ | refine cz ?_ )); refine dH (cs := #[.slice none 0 0]) ?_ 0 _ rfl; (with_reducible repeat (first | refine bS ?_ _ | refine cz ?_)); exact eP.out) Try.underlying29 rfl (by kernel_rfl)) rfl ?_
  exact ⟨_, rfl, fG.nil _ _, (wC HB.out o8.out)⟩
 | true =>
  have EG := A_ ((nV a1 a2).trans (congrArg some hpr))
  clear hpr
  rw [if_pos rfl]
  go_enter Try.func55, Try.ntmps55
  go_upto_region 3 with (first | (refine jf 4 #[.slice none 0 0] 29 ?_; intro g6 hg w2 aC hb; have HB := A_ (Below.refl w.heap.size w); have o8 := A_ (show w.heap.size <= g6 from by rw [hg]; exact Below.size HB.out); have aj := A_ (au HB.out hb); clear HB; have HB := aj; have eP := A_ aC; clear aj hg aC hb; have wT := (ak eP.out 0).trans rfl; have wU := aY eP.out 0) | (go_at_call 75; (with_reducible refine (cK.calls a1 a2 true _ EG.out).mono ?_); rintro e w' ⟨rfl, ⟨nd, rfl⟩⟩))
  generalize hW : World.drewN w2 _ = w3
  have aj := A_ (show Below w.heap.size w w3 by rw [<- hW]; exact (wC HB.out o8.out))
  have az : af (aa w3 w.heap.size [[.box 29 g6 #[.slice none 0 0]]]) := ⟨by rw [<- hW]; exact Sat.drewN (Sat.one (c := .box 29 g6 #[.slice none 0 0]) ⟨o8.out, eP.out⟩) _⟩
  clear HB eP wT wU hW
  have HB := aj
  have HS := az
  clear aj az
  go_wp2_with (first | ((with_reducible refine dN (N := 12) rfl ?_); refine Kd.kH Kd.string (w0 := w) w.heap.size 9 ?hg (N := 12) ?hd (xs := [a1]) (inner := [.string a1]) (ok := fun _ => True) (okp := fun _ => False) ?hr (Kd.aX (enc := Value.string) [a1]) (fun _ h => h.elim) trivial HB.out (Nat.le_trans (Nat.le_refl _) (Below.size HB.out)) (by simp) ?_; (case hd => rfl); (case hg => rfl); (case hr => first | (go_simp; done) | (go_simp; rfl)); intro v1 w4 ho hb hg hn; obtain ⟨oo, mi, rfl⟩ : ∃ A c, v1 = .slice A 1 c := Kd.av ho; have aj : af (aa w4 w.heap.size [[.box 29 g6 #[.slice none 0 0]], [txt (.slice oo 1 mi) [a1]]]) := ⟨aa.lit HS.out ho hg hn⟩; have az : af (Below w.heap.size w w4) := ⟨hb⟩; clear HS HB ho hb hg hn; have HS := aj; have HB := az; clear aj az) | ((with_reducible refine dN (N := 14) rfl ?_); refine Kd.kH Kd.string (w0 := w) w.heap.size 9 ?hg (N := 14) ?hd (xs := [a2]) (inner := [.string a2]) (ok := fun _ => True) (okp := fun _ => False) ?hr (Kd.aX (enc := Value.string) [a2]) (fun _ h => h.elim) trivial HB.out (Nat.le_trans (Nat.le_refl _) (Below.size HB.out)) (by simp) ?_; (case hd => rfl); (case hg => rfl); (case hr => first | (go_simp; done) | (go_simp; rfl)); intro v2 w5 ho hb hg hn; obtain ⟨I8, Cn, rfl⟩ : ∃ A c, v2 = .slice A 1 c := Kd.av ho; have aj : af (aa w5 w.heap.size [[.box 29 g6 #[.slice none 0 0]], [txt (.slice oo 1 mi) [a1]], [txt (.slice I8 1 Cn) [a2]]]) := ⟨aa.lit HS.out ho hg hn⟩; have az : af (Below w.heap.size w w5) := ⟨hb⟩; clear HS HB ho hb hg hn; have HS := aj; have HB := az; clear aj az) | ((with_reducible refine dN (N := 16) rfl ?_); refine JU 110 3 [.slice oo 1 mi, .slice I8 1 Cn, .slice none 0 0] rfl ?hg (N := 16) ?hd ?hr ?_; (case hd => rfl); (case hg => rfl); (case hr => first | (go_simp; done) | (go_simp; rfl)); intro gp w6 hg ho hb; have aj : af (aa w6 w.heap.size [[.box 29 g6 #[.slice none 0 0]], [txt (.slice oo 1 mi) [a1]], [txt (.slice I8 1 Cn) [a2]], [.row 110 3 (.slice (some ⟨gp, 0, none⟩) 1 1) 1 [.slice oo 1 mi, .slice I8 1 Cn, .slice none 0 0]]]) := ⟨aa.newRow HS.out hb (Nat.le_trans (Nat.le_refl _) (Below.size HB.out)) (by rw [<- hg] at *; exact ho)⟩; have az : af (Below w.heap.size w w6) := ⟨HB.out.trans (hb.mono (Nat.le_trans (Nat.le_refl _) (Below.size HB.out)))⟩; clear HS HB hg ho hb; have HS := aj; have HB := az; clear aj az; have wT := (aa.z HS.out 0 rfl 0).trans rfl; have wU := aa.f HS.out 0 rfl 0))
  refine bodyPost_ret (cZ rfl _ _ g6 29 #[.slice (some ⟨gp, 0, none⟩) 1 1] (0, 0) _ rfl (dH (cs := #[.slice none 0 0]) (aa.blk HS.out 0 rfl) 0 _ rfl) Try.underlying29 rfl (by kernel_rfl)) rfl ?_
  exact ⟨_, rfl, JZ HS.out, bM HB.out o8.out⟩
theorem Em.nK (a1 a2 : ByteArray) (w : World) :
  Calls Try.prog 54 #[.string a1, .string a2] w fun e w' => ∃ iy : Value, e = .returned (.tuple #[.agg #[iy], .bool (vw a1 a2).2]) /\ fG w' w.heap.size iy (vw a1 a2).1 /\ Below w.heap.size w w' := by
 unfold vw
 rw [Go.Proofs.Ytoddejmlcnbdmaa.Pure.zJ]
 have HKO0 := A_ (Go.Proofs.Ytoddejmlcnbdmaa.Pure.Fx a1)
 have HVO0 := A_ (Go.Proofs.Ytoddejmlcnbdmaa.Pure.vU a2)
 cases hk : jk a1 with
 | false =>
  have TB := A_ (HKO0.out.trans (congrArg some hk))
  clear hk
  rw [Bool.false_and, if_neg (by decide)]
  go_enter Try.func54, Try.ntmps54
  go_wp2_with (first | (refine jf 4 #[.slice none 0 0] 29 ?_; intro g6 hg w2 aC hb; have HB := A_ (Below.refl w.heap.size w); have o8 := A_ (show w.heap.size <= g6 from by rw [hg]; exact Below.size HB.out); have aj := A_ (au HB.out hb); clear HB; have HB := aj; have eP := A_ aC; clear aj hg aC hb; have wT := (ak eP.out 0).trans rfl; have wU := aY eP.out 0) | (go_at_call 78; (with_reducible refine (gq.calls a1 false _ TB.out).mono ?_); rintro e w' ⟨rfl, ⟨nd, rfl⟩⟩))
  refine bodyPost_ret (cZ rfl _ _ g6 29 #[.slice none 0 0] (0, 0) _ rfl (by (with_reducible repeat (first | refine bS ?_ _ | refine cz ?_ )); refine dH (cs := #[.slice none 0 0]) ?_ 0 _ rfl; (with_reducible repeat (first | refine bS ?_ _ | refine cz ?_)); exact eP.out) Try.underlying29 rfl (by kernel_rfl)) rfl ?_
  exact ⟨_, rfl, fG.nil _ _, (wC HB.out o8.out)⟩
 | true =>
  have TB := A_ (HKO0.out.trans (congrArg some hk))
  clear hk
  cases hv : kI a2 with
  | false =>
   have XN := A_ (HVO0.out.trans (congrArg some hv))
   clear hv
   rw [if_neg (by decide)]
   go_enter Try.func54, Try.ntmps54
   go_wp2_with (first | (refine jf 4 #[.slice none 0 0] 29 ?_; intro g6 hg w2 aC hb; have HB := A_ (Below.refl w.heap.size w); have o8 := A_ (show w.heap.size <= g6 from by rw [hg]; exact Below.size HB.out); have aj := A_ (au HB.out hb); clear HB; have HB := aj; have eP := A_ aC; clear aj hg aC hb; have wT := (ak eP.out 0).trans rfl; have wU := aY eP.out 0) | (go_at_call 78; (with_reducible refine (gq.calls a1 true _ TB.out).mono ?_); rintro e w' ⟨rfl, ⟨nd, rfl⟩⟩) | (go_at_call 79; (with_reducible refine (iX.calls a2 false _ XN.out).mono ?_); rintro e w' ⟨rfl, ⟨nd, rfl⟩⟩))
   refine bodyPost_ret (cZ rfl _ _ g6 29 #[.slice none 0 0] (0, 0) _ rfl (by (with_reducible repeat (first | refine bS ?_ _ | refine cz ?_ )); refine dH (cs := #[.slice none 0 0]) ?_ 0 _ rfl; (with_reducible repeat (first | refine bS ?_ _ | refine cz ?_)); exact eP.out) Try.underlying29 rfl (by kernel_rfl)) rfl ?_
   exact ⟨_, rfl, fG.nil _ _, (wC HB.out o8.out)⟩
  | true =>
   have XN := A_ (HVO0.out.trans (congrArg some hv))
   clear hv
   rw [Bool.and_self, if_pos rfl]
   go_enter Try.func54, Try.ntmps54
   go_upto_region 3 with (first | (refine jf 4 #[.slice none 0 0] 29 ?_; intro g6 hg w2 aC hb; have HB := A_ (Below.refl w.heap.size w); have o8 := A_ (show w.heap.size <= g6 from by rw [hg]; exact Below.size HB.out); have aj := A_ (au HB.out hb); clear HB; have HB := aj; have eP := A_ aC; clear aj hg aC hb; have wT := (ak eP.out 0).trans rfl; have wU := aY eP.out 0) | (go_at_call 78; (with_reducible refine (gq.calls a1 true _ TB.out).mono ?_); rintro e w' ⟨rfl, ⟨nd, rfl⟩⟩) | (go_at_call 79; (with_reducible refine (iX.calls a2 true _ XN.out).mono ?_); rintro e w' ⟨rfl, ⟨nd, rfl⟩⟩))
   generalize hW : World.drewN w2 _ = w3
   have aj := A_ (show Below w.heap.size w w3 by rw [<- hW]; exact (wC HB.out o8.out))
   have az : af (aa w3 w.heap.size [[.box 29 g6 #[.slice none 0 0]]]) := ⟨by rw [<- hW]; exact Sat.drewN (Sat.one (c := .box 29 g6 #[.slice none 0 0]) ⟨o8.out, eP.out⟩) _⟩
   clear HB eP wT wU hW
   have HB := aj
   have HS := az
   clear aj az
   go_wp2_with (first | ((with_reducible refine dN (N := 16) rfl ?_); refine Kd.kH Kd.string (w0 := w) w.heap.size 9 ?hg (N := 16) ?hd (xs := [a1]) (inner := [.string a1]) (ok := fun _ => True) (okp := fun _ => False) ?hr (Kd.aX (enc := Value.string) [a1]) (fun _ h => h.elim) trivial HB.out (Nat.le_trans (Nat.le_refl _) (Below.size HB.out)) (by simp) ?_; (case hd => rfl); (case hg => rfl); (case hr => first | (go_simp; done) | (go_simp; rfl)); intro v1 w4 ho hb hg hn; obtain ⟨oo, mi, rfl⟩ : ∃ A c, v1 = .slice A 1 c := Kd.av ho; have aj : af (aa w4 w.heap.size [[.box 29 g6 #[.slice none 0 0]], [txt (.slice oo 1 mi) [a1]]]) := ⟨aa.lit HS.out ho hg hn⟩; have az : af (Below w.heap.size w w4) := ⟨hb⟩; clear HS HB ho hb hg hn; have HS := aj; have HB := az; clear aj az) | ((with_reducible refine dN (N := 18) rfl ?_); refine Kd.kH Kd.string (w0 := w) w.heap.size 9 ?hg (N := 18) ?hd (xs := [a2]) (inner := [.string a2]) (ok := fun _ => True) (okp := fun _ => False) ?hr (Kd.aX (enc := Value.string) [a2]) (fun _ h => h.elim) trivial HB.out (Nat.le_trans (Nat.le_refl _) (Below.size HB.out)) (by simp) ?_; (case hd => rfl); (case hg => rfl); (case hr => first | (go_simp; done) | (go_simp; rfl)); intro v2 w5 ho hb hg hn; obtain ⟨I8, Cn, rfl⟩ : ∃ A c, v2 = .slice A 1 c := Kd.av ho; have aj : af (aa w5 w.heap.size [[.box 29 g6 #[.slice none 0 0]], [txt (.slice oo 1 mi) [a1]], [txt (.slice I8 1 Cn) [a2]]]) := ⟨aa.lit HS.out ho hg hn⟩; have az : af (Below w.heap.size w w5) := ⟨hb⟩; clear HS HB ho hb hg hn; have HS := aj; have HB := az; clear aj az) | ((with_reducible refine dN (N := 20) rfl ?_); refine JU 110 3 [.slice oo 1 mi, .slice I8 1 Cn, .slice none 0 0] rfl ?hg (N := 20) ?hd ?hr ?_; (case hd => rfl); (case hg => rfl); (case hr => first | (go_simp; done) | (go_simp; rfl)); intro gp w6 hg ho hb; have aj : af (aa w6 w.heap.size [[.box 29 g6 #[.slice none 0 0]], [txt (.slice oo 1 mi) [a1]], [txt (.slice I8 1 Cn) [a2]], [.row 110 3 (.slice (some ⟨gp, 0, none⟩) 1 1) 1 [.slice oo 1 mi, .slice I8 1 Cn, .slice none 0 0]]]) := ⟨aa.newRow HS.out hb (Nat.le_trans (Nat.le_refl _) (Below.size HB.out)) (by rw [<- hg] at *; exact ho)⟩; have az : af (Below w.heap.size w w6) := ⟨HB.out.trans (hb.mono (Nat.le_trans (Nat.le_refl _) (Below.size HB.out)))⟩; clear HS HB hg ho hb; have HS := aj; have HB := az; clear aj az; have wT := (aa.z HS.out 0 rfl 0).trans rfl; have wU := aa.f HS.out 0 rfl 0))
   refine bodyPost_ret (cZ rfl _ _ g6 29 #[.slice (some ⟨gp, 0, none⟩) 1 1] (0, 0) _ rfl (dH (cs := #[.slice none 0 0]) (aa.blk HS.out 0 rfl) 0 _ rfl) Try.underlying29 rfl (by kernel_rfl)) rfl ?_
   exact ⟨_, rfl, JZ HS.out, bM HB.out o8.out⟩
set_option maxHeartbeats 8000000
set_option maxRecDepth 100000
def Yg (a b k : ByteArray) : Bool := !(Op.bytesLess k.toList a.toList) && Op.bytesLess k.toList b.toList
def WA (a b : ByteArray) (K : List ByteArray) : List ByteArray := K.filter (Yg a b)
def Ru (a b : ByteArray) : List ByteArray -> List ByteArray -> List ByteArray
 | k :: K, v :: V => if Yg a b k = true then v :: Ru a b K V else Ru a b K V
 | _, _ => []
theorem oD {l : List ByteArray} (h : l.length < 8796093022208) : aZ.f l = some l := by
 unfold aZ.f
 simp only [Option.bind_some, List.length_nil, Nat.zero_add]
 rw [if_pos h]
 rfl
end Go.Proofs.Ytoddejmlcnbdmaa.Fn
namespace Go.Proofs.Ytoddejmlcnbdmaa.Pure
open Go.Proofs.Ytoddejmlcnbdmaa.Fn Go.Proofs.Ytoddejmlcnbdmaa.Tree
def Pw (a b : ByteArray) : Bool := jk a && (jk b && wP a b)
def Rv (t : PT) (a b : ByteArray) : List ByteArray × List ByteArray × Bool := if Pw a b = true then (WA a b (bB t), Ru a b (bB t) (dL t), true) else ([], [], false)
def WB (P : List bH) (a b : ByteArray) : List ByteArray × List ByteArray × Bool := match pz P with | none => ([], [], false) | some t => Rv t a b
def AO (P : List bH) : List ByteArray × Bool := match pz P with | none => ([], false) | some t => (bB t, true)
theorem J2 {P : List bH} (hok : BQ P = true) : gM.f P = some (AO P) := by
 unfold gM.f AO
 rw [if_pos hok]
 cases pz P <;> rfl
open Go.Proofs.Ytoddejmlcnbdmaa.Fn
open Go.Proofs.Ytoddejmlcnbdmaa.Fn Go.Proofs.Ytoddejmlcnbdmaa.Tree
end Go.Proofs.Ytoddejmlcnbdmaa.Pure
namespace Go.Proofs.Ytoddejmlcnbdmaa.Fn
end Go.Proofs.Ytoddejmlcnbdmaa.Fn
namespace Go.Proofs.Ytoddejmlcnbdmaa.Pure
open Go.Proofs.Ytoddejmlcnbdmaa.Fn Go.Proofs.Ytoddejmlcnbdmaa.Tree
mutual
theorem AP : ∀ (t : PT) (a : Nat), kC t -> ∀ p ∈ iF t a, p.f0.length <= 4 /\ p.f1.length <= 4 /\ p.f2.length <= 5
 | .mk ks vs cs, a, hb, p, hp => by
  obtain ⟨⟨h1, h2, h3⟩, h4⟩ := bL.1 hb
  rw [iF] at hp
  rcases List.mem_cons.1 hp with rfl | hp
  ·have h1 : vs.length = ks.length := h1
   have h2 : ks.length <= 4 := h2
   have h3 : cs.length = 0 ∨ cs.length = ks.length + 1 := h3
   exact ⟨h2, by show vs.length <= 4; omega, by show (starts cs (a + 1)).length <= 5; rw [oN]; omega⟩
  ·exact x9 cs (a + 1) h4 p hp
theorem x9 : ∀ (l : List PT) (a : Nat), (∀ s ∈ l, kC s) -> ∀ p ∈ nC l a, p.f0.length <= 4 /\ p.f1.length <= 4 /\ p.f2.length <= 5
 | [], _, _, p, hp => by cases hp
 | c :: cs, a, hb, p, hp => by
  rw [nC] at hp
  rcases List.mem_append.1 hp with hp | hp
  ·exact AP c a (hb c List.mem_cons_self) p hp
  ·exact x9 cs (a + c.big) (fun s hs => hb s (List.mem_cons_of_mem _ hs)) p hp
end
theorem J3 {t : PT} (h : wm t) (hl : (aW t).length <= 41) : (iF t 0).length <= 1000 /\ ∀ p ∈ iF t 0, p.f0.length <= 4 /\ p.f1.length <= 4 /\ p.f2.length <= 5 := by
 refine ⟨?_, AP t 0 h.bnd⟩
 rw [sJ]
 have := h.small
 omega
open Go.Proofs.Ytoddejmlcnbdmaa.Fn
theorem AQ (n : Int) : IntKind.u64.wrap n = n % 18446744073709551616 := by simp [IntKind.wrap, IntKind.bits, IntKind.signed]
theorem Px (y : Int) (h0 : 0 <= y) (h1 : y < 18446744073709551616) : 0 <= Go.bits .and .u64 y 255 /\ Go.bits .and .u64 y 255 <= 255 := by
 have e : Go.bits .and .u64 y (2 ^ 8 - 1) = y % 2 ^ 8 := bits_mask .u64 64 (by decide) (fun n h0 h1 => by rw [AQ]; omega) 8 (by decide) y h0 h1
 have e2 : ((2 : Int) ^ 8 - 1) = 255 := by decide
 rw [e2] at e
 rw [e]
 omega
def Code (c : List Int) : Prop := ∀ y ∈ c, 0 <= y /\ y <= 255
theorem Dt (c : List Int) (hc : Code c) (a s : Int) (h0 : 0 <= a) (h1 : a <= 2305843009213693952) : ∃ x s' : Int, dn.f c a s = some (x, a + 1, s') /\ 0 <= x /\ x <= 255 := by
 have ea : wrap64 (a + 1) = a + 1 := eY (by omega) (by omega)
 have hm : ∀ z : Int, 0 <= wrap64 (Go.bits .and .u64 (IntKind.u64.wrap z / 1099511627776) 255) /\ wrap64 (Go.bits .and .u64 (IntKind.u64.wrap z / 1099511627776) 255) <= 255 := by
  intro z
  have h := Px (IntKind.u64.wrap z / 1099511627776) (by rw [AQ]; omega) (by rw [AQ]; omega)
  rw [eY (by omega) (by omega)]
  exact h
 have hr : a < (c.length : Int) -> 0 <= wrap64 (rd c a) /\ wrap64 (rd c a) <= 255 := by
  intro h
  have hx : c[a.toNat]? = some c[a.toNat] := List.getElem?_eq_getElem (by omega)
  have e : rd c a = c[a.toNat] := by
   have := UJ hx
   rw [show ((a.toNat : Nat) : Int) = a by omega] at this
   exact this
  have hy := hc _ (List.mem_of_getElem? hx)
  rw [e, eY (by omega) (by omega)]
  exact hy
 simp only [dn.f, ea]
 by_cases h : a < (c.length : Int)
 ·rw [if_pos h, if_pos h0]
  by_cases h2 : a + 1 <= (c.length : Int)
  ·rw [if_pos h2]
   exact ⟨_, _, rfl, (hr h).1, (hr h).2⟩
  ·rw [if_neg h2]
   exact ⟨_, _, rfl, (hm _).1, (hm _).2⟩
 ·rw [if_neg h]
  by_cases h2 : a + 1 <= (c.length : Int)
  ·rw [if_pos h2]
   exact ⟨_, _, rfl, by omega, by omega⟩
  ·rw [if_neg h2]
   exact ⟨_, _, rfl, (hm _).1, (hm _).2⟩
theorem AR (x n : Int) (h0 : 0 <= x) (h1 : 0 < n) : 0 <= Int.tmod x n /\ Int.tmod x n < n := by
 rw [Int.tmod_eq_emod_of_nonneg h0]
 exact ⟨Int.emod_nonneg _ (by omega), Int.emod_lt_of_pos _ h1⟩
theorem qE (c : List Int) (hc : Code c) (a s : Int) (h0 : 0 <= a) (h1 : a <= 1152921504606846976) (n : Int) :
  ∃ x a' s' : Int, bZ.f c a s n = some (x, a', s') /\ a <= a' /\ a' <= a + 2 /\ 0 <= x /\ (0 < n -> x < n) /\ (n <= 0 -> x = 0) := by
 simp only [bZ.f]
 by_cases hn : n <= 1
 ·rw [if_pos hn]
  exact ⟨0, a, s, rfl, by omega, by omega, by omega, fun h => h, fun _ => rfl⟩
 ·obtain ⟨x, s1, e1, b1, b2⟩ := Dt c hc a s h0 (by omega)
  rw [if_neg hn, e1, Option.bind_some]
  by_cases h2 : n > 200
  ·obtain ⟨y, s2, e2, c1, c2⟩ := Dt c hc (a + 1) s1 (by omega) (by omega)
   have ew : wrap64 (wrap64 (x * 256) + y) = x * 256 + y := by rw [eY (n := x * 256) (by omega) (by omega), eY (by omega) (by omega)]
   have hr := AR (x * 256 + y) n (by omega) (by omega)
   simp only [if_pos h2, e2, Option.bind_some, if_neg (show ¬ n = 0 by omega), ew]
   exact ⟨_, _, _, rfl, by omega, by omega, hr.1, fun _ => hr.2, fun h => by omega⟩
  ·have hr := AR x n (by omega) (by omega)
   simp only [if_neg h2, if_neg (show ¬ n = 0 by omega)]
   exact ⟨_, _, _, rfl, by omega, by omega, hr.1, fun _ => hr.2, fun h => by omega⟩
end Go.Proofs.Ytoddejmlcnbdmaa.Pure
namespace Go.Proofs.Ytoddejmlcnbdmaa.Fn
def kM.f (dU : List Int) (dF : Int) (ig : Int) (l1 : List ByteArray) : Option (ByteArray × Int × Int) := (bZ.f dU dF ig (l1.length : Int)).bind fun tF => (if 0 <= tF.1 then (if tF.1 < (l1.length : Int) then (some (bI ByteArray.empty l1 tF.1, tF.2.1, tF.2.2)) else (none)) else (none))
theorem kM.calls (g : Nat) (dU : List Int) (dF : Int) (ig : Int) (A1 : Option Addr) (c1 : Nat) (l1 : List ByteArray) (r1 : ByteArray) (r2 : Int) (r3 : Int) (w0 w : World) (hI : aG w0 w g dU dF ig) (hB : Below w0.heap.size w0 w) (hr1 : Kd.C Kd.string w A1 l1.length l1) (hc1 : l1.length <= c1) (hf1 : ∀ ad, A1 = some ad -> 0 < l1.length -> ad.block ≠ g) (h : kM.f dU dF ig l1 = some (r1, r2, r3)) :
  Calls Try.prog 88 #[.pointer (some ⟨g, 0, none⟩), .slice A1 l1.length c1] w fun e w' => e = .returned (.string r1) /\ aG w0 w' g dU r2 r3 /\ Below w0.heap.size w0 w' /\ bf w w' g none := by
 have HR1 := A_ hr1
 have Bi := A_ hc1
 clear hr1 hc1
 have HI0 := A_ hI
 have HK := A_ (bf.refl w g none)
 have HL := A_ hB.size
 clear hI
 have HW0 := A_ hB.size
 have HB := A_ hB
 clear hB
 have H : ((bZ.f dU dF ig (l1.length : Int)).bind fun tF => (if 0 <= tF.1 then (if tF.1 < (l1.length : Int) then (some (bI ByteArray.empty l1 tF.1, tF.2.1, tF.2.2)) else (none)) else (none))) = some (r1, r2, r3) := h
 clear h
 replace H := Option.bind_eq_some_iff.mp H
 obtain ⟨⟨BH, t380, t381⟩, vH, H⟩ := H
 replace H : (if 0 <= BH then (if BH < (l1.length : Int) then (some (bI ByteArray.empty l1 BH, t380, t381)) else (none)) else (none)) = some (r1, r2, r3) := H
 have A3 := A_ vH
 clear vH
 by_cases c4 : 0 <= BH
 ·rw [if_pos c4] at H
  have rU : decide (0 <= BH) = true := decide_eq_true c4
  clear c4
  by_cases c5 : BH < (l1.length : Int)
  ·rw [if_pos c5] at H
   have EC : decide (BH < (l1.length : Int)) = true := decide_eq_true c5
   clear c5
   simp only [Option.some.injEq, Prod.mk.injEq] at H
   obtain ⟨rfl, rfl, rfl⟩ := H
   go_enter Try.func88, Try.ntmps88
   go_wp2_with (first | ((with_reducible refine bW (f := 92) rfl ?_); refine iw (some 9) rfl rfl Try.func92 (by kernel_rfl) rfl #[.pointer (some ⟨g, 0, none⟩), .int .i64 (l1.length : Int)] rfl (BM) ?_; (with_reducible refine (bZ.calls g dU dF ig (l1.length : Int) BH t380 t381 w0 _ ?aD ?dR A3.out).mono ?_); (case aD => repeat (first | (with_reducible first | exact HI0.out | apply aG.alloc | apply aG.drewN | apply aG.drew | apply aG.oO | apply aG.oP) | exact HI0.out)); (case dR => repeat (first | (with_reducible first | exact HB.out | apply bu | apply ah | apply bC | refine bM ?_ (aG.ge HI0.out)) | exact HB.out)); rintro e w6 ⟨rfl, hi, hb, hk⟩; refine ⟨_, rfl, ?_⟩; replace HK := A_ (bf.trans (by repeat (first | (with_reducible first | exact HK.out | apply bf.uN | apply eB | apply fD | apply eD) | exact HK.out)) hk (.inl rfl)); replace HB := A_ (hb); replace HI0 := A_ (hi); (try clear hb); (try clear hb2); (try clear hk); (try clear hi); have TJ : 0 <= (BH : Int) := of_decide_eq_true iL; have TK : BH < (l1.length : Int) := of_decide_eq_true iL; obtain ⟨ad382, e382, hx382_0⟩ := Kd.bF HR1.out BH TJ TK; cases e382; replace hx382_0 := Le HK.out hx382_0 (by first | (rw [add_block]; exact hf1 _ rfl (by omega)) | exact hf1 _ rfl (by omega) | exact hf1 ad382 rfl (by omega)); replace TJ := eq_true TJ; replace TK := eq_true TK))
   go_ret
   exact ⟨Jn, by repeat (first | (with_reducible first | exact HI0.out | apply aG.alloc | apply aG.drewN | apply aG.drew | apply aG.oO | apply aG.oP) | exact HI0.out), by repeat (first | (with_reducible first | exact HB.out | apply bu | apply ah | apply bC | refine bM ?_ (aG.ge HI0.out)) | exact HB.out), by repeat (first | (with_reducible first | exact HK.out | apply bf.uN | apply eB | apply fD | apply eD) | exact HK.out)⟩
  ·rw [if_neg c5] at H
   exact absurd H (by simp)
 ·rw [if_neg c4] at H
  exact absurd H (by simp)
end Go.Proofs.Ytoddejmlcnbdmaa.Fn

