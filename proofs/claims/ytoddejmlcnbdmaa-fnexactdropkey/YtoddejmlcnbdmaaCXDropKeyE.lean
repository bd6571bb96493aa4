/- The law FnExactDropKey holds of the given program: at every input it answers true and leaves its arguments as they were; no condition. This text: part 5 of what its proof reaches. -/
import Derived.Deep.QuietTactic
import Derived.BigQuiet
import Derived.Test.YtoddejmlcnbdmaaCXDropKeyA
import Derived.Test.YtoddejmlcnbdmaaCXDropKeyB
import Derived.Test.YtoddejmlcnbdmaaCXDropKeyC
import Derived.Test.YtoddejmlcnbdmaaCXDropKeyD
set_option maxHeartbeats 8000000
set_option maxRecDepth 100000
set_option linter.unusedVariables false
set_option linter.unusedSimpArgs false
open Go.Proofs.Ytoddejmlcnbdmaa.Fn
open Go.RowKit Go.Proofs.YtoddejmlcnbdmaaW.PrintWords Go.Proofs.YtoddejmlcnbdmaaW.PrintLast Go.Proofs.YtoddejmlcnbdmaaW.PrintMore Go.Proofs.Ytoddejmlcnbdmaa.Gen
namespace Go.Proofs.Ytoddejmlcnbdmaa.Tree
theorem Di {p0 q : Prop} (h0 : p0) (h : p0 -> q := by intro Dl; repeat (first | exact Dl | (with_reducible refine Rd.drewN ?_ _) | (with_reducible refine Rd.drew ?_))) : q := h h0
set_option maxHeartbeats 8000000
set_option maxRecDepth 100000
open Go.Proofs.Ytoddejmlcnbdmaa.Pure (mO bD rZ Has nN sw mg pU rO)
def oZ : Nat -> NT -> NT
 | 0, u => u
 | n + 1, u => match u.kids[u.kids.length - 1]? with
  | none => u
  | some c => oZ n c
theorem Ex : ∀ (n : Nat) (u : NT), (oZ n u).erase = jA n u.erase
 | 0, u => rfl
 | n + 1, u => by
  rw [oZ, jA, cZ]
  cases h : u.kids[u.kids.length - 1]? with
  | none =>
   have : u.kids.length <= u.kids.length - 1 := List.getElem?_eq_none_iff.1 h
   rw [if_pos (by omega)]
  | some c =>
   have : u.kids.length - 1 < u.kids.length := (List.getElem?_eq_some_iff.1 h).1
   rw [if_neg (by omega)]
   simp only
   rw [Ex n c, rQ h]
theorem LG {T E : Nat} {w : World} {base : Nat} : ∀ (n : Nat) {u : NT}, Sat w base (u.fB T E) -> Sat w base ((oZ n u).fB T E)
 | 0, u, h => h
 | n + 1, u, h => by
  rw [oZ]
  cases hc : u.kids[u.kids.length - 1]? with
  | none => exact h
  | some c =>
   rw [NT.kK] at h
   exact LG n (yV h.right hc)
theorem Rv : ∀ {n : Nat} {u : NT}, u.kids.length = 0 -> oZ n u = u
 | 0, u, _ => rfl
 | n + 1, u, h => by rw [oZ, List.getElem?_eq_none (by omega)]
theorem Ey {T E : Nat} {w : World} {base : Nat} {gs : List (List Ck)} {aZ : List NT} {y : NT} (h : aa w base gs) (i : Nat) (hi : gs[i]? = some (NT.bI T E aZ)) (hy : ∃ (j : Nat) (s : NT) (n : Nat), aZ[j]? = some s /\ oZ n s = y) : Sat w base (y.fB T E) := by
 obtain ⟨j, s, n, h1, rfl⟩ := hy
 exact LG n (yV (h.at i hi) h1)
theorem JA {T E : Nat} {w : World} {base : Nat} {y : NT} {v : Value} (h : Sat w base (y.fB T E)) (e : y.kv = v) : w.cell? ⟨y.p, 0, none⟩ = some v := by
 subst e
 rw [NT.kK] at h
 exact h.left.z 0 rfl 0
theorem We {T E : Nat} {w : World} {base : Nat} {y : NT} {v : Value} (h : Sat w base (y.fB T E)) (e : y.vv = v) : w.cell? ⟨y.p, 1, none⟩ = some v := by
 subst e
 rw [NT.kK] at h
 exact h.left.z 0 rfl 1
theorem TI {T E : Nat} {w : World} {base g n c i : Nat} {y : NT} {x : ByteArray} (h : Sat w base (y.fB T E)) (e : y.kv = .slice (some ⟨g, 0, none⟩) n c) (hx : i < y.keys.length /\ bF y.keys i = x) : w.cell? ⟨g, i, none⟩ = some (.string x) := by
 rw [NT.kK] at h
 have := h.left.sr 1 rfl
 rw [e] at this
 exact iY this hx
theorem X3 {T E : Nat} {w : World} {base g n c i : Nat} {y : NT} {x : ByteArray} (h : Sat w base (y.fB T E)) (e : y.vv = .slice (some ⟨g, 0, none⟩) n c) (hx : i < y.vals.length /\ bF y.vals i = x) : w.cell? ⟨g, i, none⟩ = some (.string x) := by
 rw [NT.kK] at h
 have := h.left.sr 2 rfl
 rw [e] at this
 exact iY this hx
theorem Rw {T E : Nat} {w : World} {base : Nat} {y : NT} (h : Sat w base (y.fB T E)) (h0 : 0 < y.keys.length) (h1 : 0 < y.vals.length) : ∃ gk ck gv cv, y.kv = .slice (some ⟨gk, 0, none⟩) y.keys.length ck /\ y.vv = .slice (some ⟨gv, 0, none⟩) y.vals.length cv := by
 rw [NT.kK] at h
 have hk := h.left.sr 1 rfl
 have hv := h.left.sr 2 rfl
 obtain ⟨Ak, ck, e1⟩ := Kd.au hk
 obtain ⟨Av, cv, e2⟩ := Kd.au hv
 rw [e1] at hk
 rw [e2] at hv
 obtain ⟨gk, rfl⟩ := dP hk h0
 obtain ⟨gv, rfl⟩ := dP hv h1
 exact ⟨gk, ck, gv, cv, e1, e2⟩
theorem NZ {w : World} {base T E : Nat} {t : NT} (hs : Sat w base (t.fB T E)) (hc : 0 < t.kids.length) : ∃ (ad : Addr) (cc : Nat), w.cell? ⟨t.p, 2, none⟩ = some (.slice (some ad) t.kids.length cc) /\ (t.kids.length = t.kids.length /\ t.kids.length <= cc /\ gL.C w (some ad) t.kids.length (t.kids.map NT.p)) := by
 obtain ⟨_, _, ad, _, _, cc, _, _, z2, hq⟩ := yA (L := []) (by rw [List.append_nil]; exact hs) hc
 exact ⟨ad, cc, z2, hq⟩
theorem JB {t : NT} (h : mG t.erase) : X0 t := by
 obtain ⟨⟨h1, h2, h3⟩, _⟩ := cz.1 h
 rw [bN] at h1 h2 h3
 rw [yj] at h1
 rw [cZ] at h3
 exact ⟨by omega, h1, h3⟩
theorem Io : ∀ (n : Nat) (t : PT) (h : Nat), t.big <= n -> rZ h t -> 0 < t.keys.length -> 0 < (jA n t).keys.length /\ (jA n t).keys.length <= 4 /\ (jA n t).vals.length = (jA n t).keys.length
 | 0, t, h, hb, _, _ => absurd t.fZ (by omega)
 | n + 1, t, 0, hb, hk, _ => hk.l.elim
 | n + 1, t, h + 1, hb, hk, h0 => by
  obtain ⟨⟨h1, h2, h3⟩, h4⟩ := cz.1 hk.b
  rw [jA]
  rcases Go.Proofs.Ytoddejmlcnbdmaa.Pure.jV hk.b hk.l with ⟨_, hc⟩ | ⟨hh, hc, ha⟩
  ·rw [if_pos (by rw [hc]; rfl)]
   exact ⟨h0, h2, h1⟩
  ·rw [if_neg (by omega), show t.kids.length - 1 = t.keys.length by omega]
   have hx : t.kids[t.keys.length]? = some (t.kids[t.keys.length]'(by omega)) := List.getElem?_eq_getElem (by omega)
   have hm := List.mem_of_getElem? hx
   rw [Go.Proofs.Ytoddejmlcnbdmaa.Pure.kz hx]
   exact Io n _ h (by have := PT.gK hx; omega) ⟨h4 _ hm, (ha _ hm).1⟩ (by have := (ha _ hm).2; omega)
def DR (w : World) (base T E : Nat) (t : NT) (L : List Ck) (r : Option PT) (e : Ending) (w' : World) : Prop := ∃ r', r = some r' /\ WR w base T E t L r' e w'
theorem Rx.calls : ∀ (n : Nat) (t : NT) (key : ByteArray) (h : Nat), t.erase.big <= n -> rZ h t.erase -> (t.kids.length ≠ 0 -> 0 < t.keys.length) -> mO (bD t.erase) -> Has key (bD t.erase) -> ∀ (base : Nat) (L : List Ck) (w : World), Sat w base (t.fB 96 70 ++ L) -> base <= w.heap.size ->
  Calls Try.prog 83 #[bO t.p, .string key] w (DR w base 96 70 t L (mV n t.erase key)) := by
 intro n
 induction n with
 | zero =>
  intro t key h hb
  exact absurd t.erase.fZ (by omega)
 | succ n ih =>
  intro t key h hbig hkd hroot hsrt hhas base L w hs hbs
  cases h with
  | zero => exact hkd.l.elim
  | succ h =>
  have hrd := pK hs.left
  have hbd := hkd.b
  obtain ⟨⟨ho1, ho2, ho3⟩, yN⟩ := cz.1 hbd
  have h0 := jb hs
  have Xr := A_ (Go.Proofs.Ytoddejmlcnbdmaa.Pure.jV hkd.b hkd.l)
  have R9 := A_ hsrt
  have Uk := A_ hhas
  have O1 := A_ hkd.b
  cases t with | mk tp Gq Gr Gs tks tvs aZ =>
  have e0 : (NT.mk tp Gq Gr Gs tks tvs aZ).erase = .mk tks tvs (NT.aD aZ) := rfl
  rw [e0] at hrd hbig ho1 ho2 ho3 yN Xr R9 Uk O1 ⊢
  replace hrd : Rd 96 w tp (PT.mk tks tvs (NT.aD aZ)) := hrd
  unfold rH at h0
  simp only [NT.keys, NT.vals, NT.kids, NT.p, NT.kv, NT.vv, NT.cv] at h0 hroot ⊢
  simp only [PT.keys, PT.vals, PT.kids] at ho1 ho2 ho3 yN
  obtain ⟨R, hR⟩ : ∃ R, R = mV (n + 1) (.mk tks tvs (NT.aD aZ)) key := ⟨_, rfl⟩
  rw [<- hR]
  obtain ⟨i, hi⟩ : ∃ i, dV key tks = i := ⟨_, rfl⟩
  obtain ⟨b, hb⟩ : ∃ b, jI tks i key = b := ⟨_, rfl⟩
  rw [mV] at hR
  have hle : i <= tks.length := by rw [<- hi]; exact nJ key tks
  have HM := A_ (show (PT.mk tks tvs (NT.aD aZ)).keys.length <= 1000000000000 by show tks.length <= _; omega)
  have HI := A_ (show dV key (PT.mk tks tvs (NT.aD aZ)).keys = i from hi)
  have Gp := A_ (show jI (PT.mk tks tvs (NT.aD aZ)).keys i key = b from hb)
  have FM := A_ hrd
  have eB := A_ hbs
  have R5 := A_ ho1
  have Vl : tvs.length <= 4 /\ i <= tvs.length := by omega
  obtain ⟨tF, ja, rfl⟩ := Kd.au (h0.sr 1 rfl)
  obtain ⟨uF, jk, rfl⟩ := Kd.au (h0.sr 2 rfl)
  obtain ⟨Cc, jC, rfl, _, _⟩ := eO (h0.q 3 rfl)
  have HS := A_ h0
  have HB := A_ (Below.refl base w)
  have HR := A_ hR
  have U9 := A_ (And.intro hi hb)
  have R6 := A_ yN
  have HO3 := A_ ho3
  have HRT := A_ hroot
  clear h0 hR hrd hs hi hb hbs ho1 ho3 yN hbd hsrt hhas hkd hroot
  by_cases hlf : aZ.length = 0
  ·skip
   have hk0 : NT.aD aZ = [] := by rw [List.length_eq_zero_iff.1 hlf]; rfl
   have hS := rO O1.out hk0 R9.out Uk.out
   have Zw : i < tks.length := by
    have := lJ hS
    have e1 := U9.out.1
    simp only [PT.keys] at this
    omega
   have Zx : i < tvs.length := by have := R5.out; omega
   have hbl := A_ (show decide ((((PT.mk tks tvs (NT.aD aZ)).kids.length : Nat) : Int) = 0) = true from decide_eq_true (by show ((NT.aD aZ).length : Int) = 0; rw [hk0]; rfl))
   have WH := A_ hk0
   clear hS hk0
   obtain ⟨l1, oF⟩ := oI (tks.eraseIdx i)
   obtain ⟨l2, sS⟩ := oI (tvs.eraseIdx i)
   go_enter Try.func83, Try.ntmps83
   go_upto_region 2 with (first | (go_at_call 100; (with_reducible refine (ze.calls (PT.mk tks tvs (NT.aD aZ)) HM.out key i b HI.out Gp.out _ FM.out).mono ?_); rintro e w1 ⟨rfl, ⟨nd, rfl⟩⟩) | (go_at_call 84; (with_reducible refine (dZ.dQ true hbl.out _ ?aj).mono ?_); (case aj => exact Di FM.out); rintro e w' ⟨rfl, ⟨nd, rfl⟩⟩))
   generalize hW : World.drewN _ _ = w2
   have az : ae (aa w2 base [qW 96 tp tF tks.length ja uF tvs.length jk Cc aZ.length jC, lW tF ja tks, lW uF jk tvs, rY 70 Cc jC aZ, (NT.bI 96 70 aZ), L]) := ⟨by rw [<- hW]; exact aa.drewN HS.out _⟩
   have aG : ae (Below base w w2) := ⟨by rw [<- hW]; exact ah HB.out _⟩
   clear HS HB FM hbl hW; have HS := az; have HB := aG; clear az aG
   have sd3 : i < tks.length /\ tks.length <= 1000000 := by omega
   have gy := (aa.z0 HS.out 0 rfl)
   go_upto_region 3 with (first | (go_at_call 112; (with_reducible refine (Rk i (i : Int) rfl oF.out (aa.row HS.out 1 rfl) sd3).mono ?_); rintro e w3 ⟨kI, rfl, ho, hb⟩; obtain ⟨A4, c5, rfl⟩ := Kd.au ho; have az := oK (aa.gQ HS.out hb (eY eB HB) ho); have aG : ae (Below base w w3) := ⟨(HB.out).trans (hb.mono (eY eB HB))⟩; clear HS HB ho hb; have HS := az; have HB := aG; clear az aG; clear gy; have gy := (aa.z0 HS.out 0 rfl); have zs0 := aa.z0 HS.out 0 rfl; have kJ := aa.f HS.out 0 rfl 0))
   have az := jr (World.setCell w3 ⟨tp, 0, none⟩ (.slice A4 l1.length c5)) (aa.ky (aa.Eb HS.out 0 rfl (.slice A4 l1.length c5)) [0, 6, 2, 3, 4, 5] (by decide))
   have aG : ae (Below base w (World.setCell w3 ⟨tp, 0, none⟩ (.slice A4 l1.length c5))) := ⟨(HB.out).setCell (p := ⟨tp, 0, none⟩) (aa.ge HS.out 0 rfl) _⟩
   generalize World.setCell w3 ⟨tp, 0, none⟩ (.slice A4 l1.length c5) = w4 at az aG ⊢
   clear HS HB gy zs0 kJ; have HS := az; have HB := aG; clear az aG
   have sd6 : i < tvs.length /\ tvs.length <= 1000000 := by omega
   have gy := (aa.z1 HS.out 0 rfl)
   go_wp2_with (first | (go_at_call 112; (with_reducible refine (Rk i (i : Int) rfl sS.out (aa.row HS.out 2 rfl) sd6).mono ?_); rintro e w5 ⟨kI, rfl, ho, hb⟩; obtain ⟨A7, c8, rfl⟩ := Kd.au ho; have az := oK (aa.gQ HS.out hb (eY eB HB) ho); have aG : ae (Below base w w5) := ⟨(HB.out).trans (hb.mono (eY eB HB))⟩; clear HS HB ho hb; have HS := az; have HB := aG; clear az aG; clear gy; have gy := (aa.z1 HS.out 0 rfl); have zs0 := aa.z1 HS.out 0 rfl; have kJ := aa.f HS.out 0 rfl 1))
   have az := jr (World.setCell w5 ⟨tp, 1, none⟩ (.slice A7 l2.length c8)) (aa.ky (aa.Ec HS.out 0 rfl (.slice A7 l2.length c8)) [0, 1, 6, 3, 4, 5] (by decide))
   have aG : ae (Below base w (World.setCell w5 ⟨tp, 1, none⟩ (.slice A7 l2.length c8))) := ⟨(HB.out).setCell (p := ⟨tp, 1, none⟩) (aa.ge HS.out 0 rfl) _⟩
   generalize World.setCell w5 ⟨tp, 1, none⟩ (.slice A7 l2.length c8) = w6 at az aG ⊢
   clear HS HB gy zs0 kJ; have HS := az; have HB := aG; clear az aG
   go_end0
   refine ⟨.mk (tks.eraseIdx i) (tvs.eraseIdx i) (NT.aD aZ), ?_, rfl, NT.mk tp (.slice A4 l1.length c5) (.slice A7 l2.length c8) (.slice Cc aZ.length jC) l1 l2 aZ, rfl, ?_, ?_, HB.out⟩
   ·have e1 := U9.out.1
    have e2 : dV key (PT.mk tks tvs (NT.aD aZ)).keys = i := U9.out.1
    rw [HR.out, if_pos (show (PT.mk tks tvs (NT.aD aZ)).kids.length = 0 by show (NT.aD aZ).length = 0; rw [WH.out]; rfl), e2, if_pos (show i < (PT.mk tks tvs (NT.aD aZ)).keys.length from Zw)]
    rfl
   ·rw [oF.out, sS.out]
    rfl
   ·have hS := FR (aa.ky HS.out [0, 1, 2, 3, 4, 5] (by decide))
    exact lK hS
  ·skip
   have hnl : (NT.aD aZ).length = aZ.length := by rw [aN, List.length_map]
   have hkl : aZ.length = tks.length + 1 := by
    have := HO3.out
    omega
   have h0k : 0 < tks.length := HRT.out hlf
   obtain ⟨s, hsx⟩ : ∃ s, aZ[i]? = some s := ⟨aZ[i]'(by omega), List.getElem?_eq_getElem (by omega)⟩
   have hse : (PT.mk tks tvs (NT.aD aZ)).kids[i]? = some s.erase := by show (NT.aD aZ)[i]? = _; rw [aN, List.getElem?_map, hsx]; rfl
   have hsm : s.erase ∈ NT.aD aZ := List.mem_of_getElem? hse
   have hor := Xr.out.resolve_left (fun c => hlf (by have := congrArg List.length c.2; rw [<- hnl]; exact this))
   have jl := A_ (show rZ h s.erase /\ 2 <= s.keys.length from ⟨⟨R6.out _ hsm, (hor.2.2 _ hsm).1⟩, by have := (hor.2.2 _ hsm).2; rw [bN] at this; exact this⟩)
   have QU := A_ (show s.erase.big <= n by have := PT.gK hse; omega)
   have Va := A_ (mg O1.out R9.out hse (show i <= tks.length by omega))
   have HMM := A_ hor.2.2
   have Nc := A_ (show fJ (PT.mk tks tvs (NT.aD aZ)) i = s.erase from Go.Proofs.Ytoddejmlcnbdmaa.Pure.kz hse)
   have FU := A_ hsx
   have HSE := A_ hse
   have hil : i < aZ.length := by omega
   have htc : aZ.length <= 5 := by omega
   have Bb := A_ hkl
   have hbl := A_ (show decide ((((PT.mk tks tvs (NT.aD aZ)).kids.length : Nat) : Int) = 0) = false from decide_eq_false (by show ((NT.aD aZ).length : Int) ≠ 0; omega))
   obtain ⟨kS, rfl⟩ := gq (aa.q HS.out 3 rfl) (by omega)
   have Zy := A_ hlf
   clear hnl hkl hsx hse hsm hor hlf
   go_enter Try.func83, Try.ntmps83
   go_upto_if 34 with (first | (go_at_call 100; (with_reducible refine (ze.calls (PT.mk tks tvs (NT.aD aZ)) HM.out key i b HI.out Gp.out _ FM.out).mono ?_); rintro e w1 ⟨rfl, ⟨nd, rfl⟩⟩) | (go_at_call 84; (with_reducible refine (dZ.dQ false hbl.out _ ?aj).mono ?_); (case aj => exact Di FM.out); rintro e w' ⟨rfl, ⟨nd, rfl⟩⟩))
   generalize hW : World.drewN _ _ = w2
   have az : ae (aa w2 base [qW 96 tp tF tks.length ja uF tvs.length jk (some kS) aZ.length jC, lW tF ja tks, lW uF jk tvs, rY 70 (some kS) jC aZ, (NT.bI 96 70 aZ), L]) := ⟨by rw [<- hW]; exact aa.drewN HS.out _⟩
   have aG : ae (Below base w w2) := ⟨by rw [<- hW]; exact ah HB.out _⟩
   clear HS HB FM hbl hW; have HS := az; have HB := aG; clear az aG
   go_cut [1] (fun v_ wc => ∃ (k' : ByteArray) (t1 : NT), v_ = .string k' /\ ae (t1.p = tp /\ t1.kids = aZ /\ t1.keys.length = tks.length /\ t1.vals.length = tvs.length) /\ ae (Sat wc base (t1.fB 96 70 ++ L)) /\ ae (Below base w wc) /\ ae (Has k' (bD s.erase)) /\ ae (R = (mV n s.erase k').map fun s' => uV (.mk t1.keys t1.vals ((NT.aD aZ).set i s')) i))
   case first =>
    cases b with
    | false =>
     go_wp2_with fail
     go_meet
     case rel =>
      refine ⟨key, NT.mk tp (.slice tF tks.length ja) (.slice uF tvs.length jk) (.slice (some kS) aZ.length jC) tks tvs aZ, rfl, ⟨rfl, rfl, rfl, rfl⟩, ⟨lK HS.out⟩, HB, ⟨?_⟩, ⟨?_⟩⟩
      ·refine (sw (t := PT.mk tks tvs (NT.aD aZ)) O1.out R9.out ?_ ?_).2.2 Uk.out
       ·rw [HI.out]; exact Gp.out
       ·rw [HI.out]; exact HSE.out
      ·have e1 := HR.out
       rw [HI.out, Nc.out] at e1
       rw [e1, if_neg (show ¬ (PT.mk tks tvs (NT.aD aZ)).kids.length = 0 from fun c => Zy.out (by have c' : (NT.aD aZ).length = 0 := c; rw [aN, List.length_map] at c'; exact c')), if_neg (show ¬ jI (PT.mk tks tvs (NT.aD aZ)).keys i key = true from by rw [Gp.out]; decide)]
       rfl
    | true =>
    have hil2 : i < tks.length := by
     have := lJ Gp.out
     exact this
    have hiv2 : i < tvs.length := by have := R5.out; omega
    obtain ⟨jE, rfl⟩ := dP (aa.sr HS.out 1 rfl) (by omega)
    obtain ⟨jF, rfl⟩ := dP (aa.sr HS.out 2 rfl) (by omega)
    obtain ⟨y, hy⟩ : ∃ y, y = oZ n s := ⟨_, rfl⟩
    have Zz : ae (∃ (j : Nat) (s : NT) (n : Nat), aZ[j]? = some s /\ oZ n s = y) := ⟨i, s, n, FU.out, hy.symm⟩
    have HYE : ae (y.erase = jA n s.erase) := ⟨by rw [hy, Ex]⟩
    obtain ⟨hy1, hy2, hy3⟩ := Io n s.erase h QU.out jl.out.1 (by rw [bN]; have := jl.out.2; omega)
    rw [<- HYE.out, bN] at hy1 hy2 hy3
    rw [yj] at hy3
    obtain ⟨gyk, cyk, gyv, cyv, hyk, hyv⟩ := Rw (Ey HS.out 4 rfl Zz.out) hy1 (by omega)
    have HY3 := A_ hy3
    rw [hy3] at hyv
    obtain ⟨ny, hny⟩ : ∃ n, y.keys.length = n := ⟨_, rfl⟩
    rw [hny] at hyk hyv hy1 hy2
    have HYK := A_ hyk
    have HYV := A_ hyv
    obtain ⟨yx, hyx⟩ : ∃ x, bF y.keys (ny - 1) = x := ⟨_, rfl⟩
    obtain ⟨yz, Z6⟩ : ∃ x, bF y.vals (ny - 1) = x := ⟨_, rfl⟩
    have Hyx : ae (ny - 1 < y.keys.length /\ bF y.keys (ny - 1) = yx) := ⟨by omega, hyx⟩
    have Hyz : ae (ny - 1 < y.vals.length /\ bF y.vals (ny - 1) = yz) := ⟨by omega, Z6⟩
    have HNY := A_ hny
    have HY := A_ hy
    clear hy hy3 hyk hyv hyx Z6 hny
    have Ce := aa.z2 HS.out 0 rfl
    have ZA := il (aa.gX HS.out 3 rfl) (And.intro FU.out rfl)
    have ci0 := dN (0 <= (i : Int))
    have ci1 := dN ((i : Int) < (aZ.length : Int))
    have ci2 : (i < aZ.length) = True := eq_true hil
    go_wp2_with fail
    clear Ce ZA
    go_loopg [6] n (fun kq u6 w' => ∃ (u : NT) (m nd : Nat), u6 = bO u.p /\ ae (kq = m) /\ ae (oZ m u = y /\ u.erase.big <= m) /\ ae (Sat w2 base (u.fB 96 70)) /\ ae (mG u.erase) /\ w' = w2.drewN nd)
    case atStart => exact ⟨s, n, 0, by first | rfl | (simp; done), ⟨rfl⟩, ⟨HY.out.symm, QU.out⟩, ⟨yV (aa.at HS.out 4 rfl) FU.out⟩, ⟨jl.out.1.b⟩, by first | rfl | (simp; done)⟩
    case round =>
     obtain ⟨u, m, nd, rfl, Zb, HU, HSU, HBU, rfl⟩ := hrel
     have HRU := A_ (pK HSU.out)
     by_cases hul : u.kids.length = 0
     ·have hbl := A_ (show decide ((u.erase.kids.length : Int) = 0) = true from decide_eq_true (by rw [cZ]; omega))
      have huy : y = u := by rw [<- HU.out.1, Rv hul]
      subst huy
      clear hul
      have gy := JA HSU.out HYK.out
      go_upto_region 9 with (first | (go_at_call 84; (with_reducible refine (dZ.dQ true hbl.out _ ?aj).mono ?_); (case aj => exact Di HRU.out); rintro e w' ⟨rfl, ⟨nd2, rfl⟩⟩))
      clear gy HRU hbl HSU
      generalize hW : World.drewN _ _ = w3
      have az : ae (aa w3 base [qW 96 tp (mF jE) tks.length ja (mF jF) tvs.length jk (some kS) aZ.length jC, lW (mF jE) ja tks, lW (mF jF) jk tvs, rY 70 (some kS) jC aZ, (NT.bI 96 70 aZ), L]) := ⟨by rw [<- hW]; exact aa.drewN HS.out _⟩
      have aG : ae (Below base w w3) := ⟨by rw [<- hW]; exact ah HB.out _⟩
      clear HS HB hW; have HS := az; have HB := aG; clear az aG
      obtain ⟨tx, htx⟩ : ∃ x, bF tks i = x := ⟨_, rfl⟩
      have qb : ae (i < tks.length /\ bF tks i = tx) := ⟨by omega, htx⟩
      clear htx
      obtain ⟨ty, hty⟩ : ∃ x, bF tvs i = x := ⟨_, rfl⟩
      have o7 : ae (i < tvs.length /\ bF tvs i = ty) := ⟨by omega, hty⟩
      clear hty
      obtain ⟨l1, oF⟩ := oI (tks.set i yx)
      obtain ⟨l2, sS⟩ := oI (tvs.set i yz)
      have b3 := dN (1 <= (ny : Int))
      have b4 := dN (((ny : Int) - 1) < (ny : Int))
      have b5 := dN ((ny - 1) < ny)
      have b6 := dN (0 <= (i : Int))
      have b7 := dN ((i : Int) < (tks.length : Int))
      have b8 := dN (i < tks.length)
      have zs0 := iY (aa.sr (aa.drew HS.out) 1 rfl) qb.out
      have kJ := ik (aa.sr (aa.drew HS.out) 1 rfl) (Nat.lt_of_le_of_lt (Nat.zero_le _) qb.out.1) i
      refine dL (n := 14) (S := fun w' => w'.cell? ⟨tp, 0, none⟩ = some (.slice (some ⟨jE, 0, none⟩) tks.length ja) /\ w'.cell? ⟨y.p, 0, none⟩ = some (.slice (some ⟨gyk, 0, none⟩) ny cyk) /\ w'.cell? ⟨gyk, (ny - 1), none⟩ = some (.string yx)) (ds := [13]) (bt 14 0) (by kernel_rfl) rfl rfl ⟨(aa.z0 (aa.drew HS.out) 0 rfl), (JA (Ey (aa.drew HS.out) 4 rfl Zz.out) HYK.out), (TI (Ey (aa.drew HS.out) 4 rfl Zz.out) HYK.out Hyx.out)⟩ (fun hHeld => ?_)
      refine aQ 0 63 1 ?_
      refine aQ 1 64 3 ?_
      refine aQ 2 65 7 ?_
      refine aQ 4 67 23 ?_
      refine aQ 5 68 55 ?_
      refine aQ 6 69 119 ?_
      refine aQ 7 70 247 ?_
      refine aQ 9 72 759 ?_
      refine gF 3 66 767 hHeld ?_
      refine gF 8 71 1023 hHeld ?_
      refine aQ 10 73 2047 ?_
      refine gF 11 74 4095 hHeld ?_
      refine aQ 12 75 8191 ?_
      refine wZ 13 none 16383 (fun K hK => ?_)
      refine iN (w1 := ?_) (by rfl) rfl ?_ ?_
      rotate_left
      ·go_simp
       rfl
      refine hK.out _ _ ?_
      clear hK K
      refine fA (by kernel_rfl) ?_
      have az := jr (World.drew (World.setCell w3 ⟨jE, i, none⟩ (.string yx))) (aa.rM (aa.drew HS.out) 1 rfl i yx oF.out)
      have aG : ae (Below base w (World.drew (World.setCell w3 ⟨jE, i, none⟩ (.string yx)))) := ⟨((aH HB.out)).setCell (p := ⟨jE, i, none⟩) (vL (aa.drew HS.out) 1 rfl qb.out) _⟩
      generalize World.drew (World.setCell w3 ⟨jE, i, none⟩ (.string yx)) = w4 at az aG ⊢
      clear HS HB zs0 kJ; have HS := az; have HB := aG; clear az aG
      go_upto_region 10 with fail
      have b9 := dN ((i : Int) < (tvs.length : Int))
      have b10 := dN (i < tvs.length)
      have zs0 := iY (aa.sr (aa.drew HS.out) 2 rfl) o7.out
      have kJ := ik (aa.sr (aa.drew HS.out) 2 rfl) (Nat.lt_of_le_of_lt (Nat.zero_le _) o7.out.1) i
      refine dL (n := 14) (S := fun w' => w'.cell? ⟨tp, 1, none⟩ = some (.slice (some ⟨jF, 0, none⟩) tvs.length jk) /\ w'.cell? ⟨y.p, 1, none⟩ = some (.slice (some ⟨gyv, 0, none⟩) ny cyv) /\ w'.cell? ⟨gyv, (ny - 1), none⟩ = some (.string yz)) (ds := [13]) (bt 14 0) (by kernel_rfl) rfl rfl ⟨(aa.z1 (aa.drew HS.out) 0 rfl), (We (Ey (aa.drew HS.out) 4 rfl Zz.out) HYV.out), (X3 (Ey (aa.drew HS.out) 4 rfl Zz.out) HYV.out Hyz.out)⟩ (fun hHeld => ?_)
      refine aQ 0 76 1 ?_
      refine aQ 1 77 3 ?_
      refine aQ 2 78 7 ?_
      refine aQ 4 80 23 ?_
      refine aQ 5 81 55 ?_
      refine aQ 6 82 119 ?_
      refine aQ 7 83 247 ?_
      refine aQ 9 85 759 ?_
      refine gF 3 79 767 hHeld ?_
      refine gF 8 84 1023 hHeld ?_
      refine aQ 10 86 2047 ?_
      refine gF 11 87 4095 hHeld ?_
      refine aQ 12 88 8191 ?_
      refine wZ 13 none 16383 (fun K hK => ?_)
      refine iN (w1 := ?_) (by rfl) rfl ?_ ?_
      rotate_left
      ·go_simp
       rfl
      refine hK.out _ _ ?_
      clear hK K
      refine fA (by kernel_rfl) ?_
      have az := jr (World.drew (World.setCell w4 ⟨jF, i, none⟩ (.string yz))) (aa.rM (aa.drew HS.out) 2 rfl i yz sS.out)
      have aG : ae (Below base w (World.drew (World.setCell w4 ⟨jF, i, none⟩ (.string yz)))) := ⟨((aH HB.out)).setCell (p := ⟨jF, i, none⟩) (vL (aa.drew HS.out) 2 rfl o7.out) _⟩
      generalize World.drew (World.setCell w4 ⟨jF, i, none⟩ (.string yz)) = w5 at az aG ⊢
      clear HS HB zs0 kJ; have HS := az; have HB := aG; clear az aG
      go_upto_region 11 with fail
      have gy := (JA (Ey HS.out 4 rfl Zz.out) HYK.out)
      have uG := (TI (Ey HS.out 4 rfl Zz.out) HYK.out Hyx.out)
      go_wp2_with fail
      clear gy uG
      go_meet
      case rel =>
       have ek : kR n s.erase = yx := by unfold kR; rw [<- HYE.out, bN, HNY.out]; exact Hyx.out.2
       have ev : qg n s.erase = yz := by unfold qg; rw [<- HYE.out, bN, yj, HNY.out]; exact Hyz.out.2
       refine ⟨yx, NT.mk tp (.slice (some ⟨jE, 0, none⟩) tks.length ja) (.slice (some ⟨jF, 0, none⟩) tvs.length jk) (.slice (some kS) aZ.length jC) l1 l2 aZ, rfl, ⟨rfl, rfl, by show l1.length = _; rw [oF.out, List.length_set], by show l2.length = _; rw [sS.out, List.length_set]⟩, ⟨lK HS.out⟩, HB, ⟨?_⟩, ⟨?_⟩⟩
       ·obtain ⟨X, eX⟩ := pU n s.erase h QU.out jl.out.1 (by rw [bN]; have := jl.out.2; omega)
        rw [<- ek, eX]
        exact ⟨_, List.mem_append_right _ (List.mem_singleton_self _), by simp⟩
       ·have e1 := HR.out
        rw [HI.out, Nc.out] at e1
        rw [e1, if_neg (show ¬ (PT.mk tks tvs (NT.aD aZ)).kids.length = 0 from fun c => Zy.out (by have c' : (NT.aD aZ).length = 0 := c; rw [aN, List.length_map] at c'; exact c')), if_pos (show jI (PT.mk tks tvs (NT.aD aZ)).keys i key = true from Gp.out), ek, ev]
        show _ = (mV n s.erase yx).map fun s' => uV (.mk l1 l2 _) i
        rw [oF.out, sS.out]
        rfl
     ·have hbl := A_ (show decide ((u.erase.kids.length : Int) = 0) = false from decide_eq_false (by rw [cZ]; omega))
      obtain ⟨adu, ccu, zu2, huq⟩ := NZ HSU.out (by omega)
      obtain ⟨c, hc⟩ : ∃ c, u.kids[u.kids.length - 1]? = some c := ⟨u.kids[u.kids.length - 1]'(by omega), List.getElem?_eq_getElem (by omega)⟩
      have zup := il huq (And.intro hc rfl)
      have HCU := A_ hc
      have hu5 : u.kids.length <= 5 := by
       obtain ⟨⟨_, q2, q3⟩, _⟩ := cz.1 HBU.out
       rw [cZ] at q3
       omega
      obtain ⟨nu, hnu⟩ : ∃ a, u.kids.length = a := ⟨_, rfl⟩
      have HNU := A_ hnu
      rw [hnu] at zu2 zup hul hu5
      have hkq : 0 < m := by have := HU.out.2; have := u.erase.fZ; omega
      have HNEXT : ae (oZ (m - 1) c = y /\ c.erase.big <= m - 1) := ⟨by
       have e1 := HU.out.1
       obtain ⟨m', em⟩ : ∃ m', m = m' + 1 := ⟨m - 1, by omega⟩
       rw [em] at e1
       rw [show m - 1 = m' by omega]
       rw [oZ, HCU.out] at e1
       exact e1, by
       have e2 : u.erase.kids[u.kids.length - 1]? = some c.erase := by rw [rJ, List.getElem?_map, HCU.out]; rfl
       have := PT.gK e2
       have := HU.out.2
       omega⟩
      have HSC : ae (Sat w2 base (c.fB 96 70)) := ⟨by
       have e1 := HSU.out
       rw [NT.kK] at e1
       exact yV e1.right HCU.out⟩
      have HBC : ae (mG c.erase) := ⟨(cz.1 HBU.out).2 _ (by rw [rJ]; exact List.mem_map_of_mem (List.mem_of_getElem? HCU.out))⟩
      clear hnu hc huq
      have b0_ := dN (1 <= (nu : Int))
      have Vr := dN (((nu : Int) - 1) < (nu : Int))
      have Xq := dN ((nu - 1) < nu)
      have q_ : wrap64 ((nu : Int) - 1) = ((nu : Int) - 1) := jW (by omega)
      go_wp2_with (first | (go_at_call 84; (with_reducible refine (dZ.dQ false hbl.out _ ?aj).mono ?_); (case aj => exact Di HRU.out); rintro e w' ⟨rfl, ⟨nd2, rfl⟩⟩))
      go_quiet (fail)
      go_wp2_with fail
      go_roundg (m - 1)
      case measure => have := Zb.out; omega
      case rel => exact ⟨c, m - 1, nd + nd2 + nq, by first | rfl | (simp; done), ⟨rfl⟩, HNEXT, HSC, HBC, by first | rfl | (simp; done)⟩
   case rest =>
    obtain ⟨k', t1, rfl, HT1, vQ, HB1, HHA1, HR1⟩ := hcut
    cases t1 with | mk p1 kv1 vv1 xW CK vs1 cs1 =>
    obtain ⟨a1, a2, a3, a4⟩ := HT1.out
    have a1 : p1 = tp := a1
    have a2 : cs1 = aZ := a2
    have a3 : CK.length = tks.length := a3
    have a4 : vs1.length = tvs.length := a4
    subst a1
    subst a2
    have OL := A_ (And.intro a3 a4)
    obtain ⟨YN, Xo, ec1, hlc1, hC1⟩ := eO ((jb vQ.out).q 3 rfl)
    have ec1 : xW = .slice YN cs1.length Xo := ec1
    subst ec1
    obtain ⟨ad1, rfl⟩ := gq ((jb vQ.out).q 3 rfl) (show 0 < cs1.length by omega)
    obtain ⟨sp, xN⟩ : ∃ p, s.p = p := ⟨_, rfl⟩
    have hzp := il ((jb vQ.out).gX 3 rfl) (And.intro FU.out xN)
    have hz2 := (jb vQ.out).z2 0 rfl
    simp only [NT.p] at hz2
    have wW := A_ xN
    clear a3 a4 HT1 HS HB hlc1 hC1 xN
    have ci0 := dN (0 <= (i : Int))
    have ci1 := dN ((i : Int) < (cs1.length : Int))
    have ci2 : (i < cs1.length) = True := eq_true hil
    obtain ⟨t0, ht0⟩ : ∃ t0, t0 = NT.mk p1 kv1 vv1 (.slice (some ad1) cs1.length Xo) CK vs1 cs1 := ⟨_, rfl⟩
    have HT0 := A_ ht0
    rw [<- ht0] at vQ
    have Xt : ae (t0.kids[i]? = some s) := ⟨by rw [ht0]; exact FU.out⟩
    clear ht0
    have hC := fun (w : World) (hs : Sat w base (t0.fB 96 70 ++ L)) (hb : base <= w.heap.size) => ih s k' h QU.out jl.out.1 (fun _ => by have := jl.out.2; omega) Va.out HHA1.out base (t0.hole 96 70 i L) w (hs.perm (zf L Xt.out)) hb
    rw [wW.out] at hC
    have HC := A_ hC
    clear hC
    go_upto_region 13 with (first | (go_at_call 83; (with_reducible refine (HC.out _ vQ.out (eY eB HB1)).mono ?_); rintro e w8 ⟨rs, hrs, rfl, s', hsp, yK, hs', hb'⟩))
    obtain ⟨rs', PR, hkr, hlr, _⟩ := nN n s.erase k' h QU.out jl.out.1 (fun _ => by have := jl.out.2; rw [bN]; omega) Va.out HHA1.out
    obtain rfl : rs = rs' := by rw [hrs] at PR; exact Option.some.inj PR
    have uB := A_ (And.intro hrs (And.intro hkr hlr))
    clear hrs PR hkr hlr
    rw [wW.out] at hsp
    cases s' with | mk sp' skv svv scv sks svs scs =>
    have WL : sp' = sp := hsp
    subst WL
    obtain ⟨s', hs0⟩ : ∃ s', s' = NT.mk sp' skv svv scv sks svs scs := ⟨_, rfl⟩
    rw [<- hs0] at yK hs'
    have Ze := A_ hs0
    have M7 : s'.p = s.p := by rw [hs0, wW.out]; rfl
    have hT1 : Sat w8 base ((t0.jq i s').fB 96 70 ++ L) := hs'.perm (NA L Xt.out M7)
    have hK1 : (t0.jq i s').kids[i]? = some s' := by rw [HT0.out]; exact (Dc FU.out).1
    have hE1 : (t0.jq i s').erase = .mk CK vs1 ((NT.aD cs1).set i s'.erase) := by rw [uQ, HT0.out]; rfl
    have HB2 := A_ (HB1.out.trans hb')
    have hG := SV hK1 hT1
    rw [HT0.out, hs0] at hG
    unfold Qc NT.jq at hG
    simp only [NT.keys, NT.vals, NT.kids, NT.p, NT.kv, NT.vv, NT.cv] at hG
    have hz2' := hG.z2 0 rfl
    have YM : w8.cell? ⟨sp', 0, none⟩ = some skv := hG.z0 5 rfl
    have hzp' := il (hG.gX 3 rfl) (And.intro (Dc (s' := NT.mk sp' skv svv scv sks svs scs) FU.out).1 rfl)
    simp only [NT.p] at hzp'
    obtain ⟨Ask, csk, esk⟩ := Kd.au (aa.sr hG 6 rfl)
    rw [esk] at YM
    obtain ⟨lk, hlk⟩ : ∃ l, l = sks.length := ⟨_, rfl⟩
    rw [<- hlk] at YM
    have hlk4 : lk <= 4 := by
     have := (cz.1 uB.out.2.1.b).1.2.1
     rw [<- yK, bN, hs0] at this
     rw [hlk]
     exact this
    have HE := A_ (And.intro yK (And.intro hT1 (And.intro hK1 (And.intro hE1 hlk))))
    clear hG esk hT1 hK1 hE1 yK hs' hb' hlk hs0 M7 hsp hz2 hzp
    have HF : ae (R = some (uV (.mk CK vs1 ((NT.aD cs1).set i rs)) i)) := ⟨by rw [HR1.out, uB.out.1]; rfl⟩
    have HKF : ae (fJ (.mk CK vs1 ((NT.aD cs1).set i rs)) i = rs) := ⟨Go.Proofs.Ytoddejmlcnbdmaa.Pure.kz (by show ((NT.aD cs1).set i rs)[i]? = _; rw [List.getElem?_set_self (by rw [aN, List.length_map]; exact hil)])⟩
    have HLR : ae (rs.keys.length = lk) := ⟨by rw [HE.out.2.2.2.2, <- HE.out.1, bN, Ze.out]; rfl⟩
    by_cases h2 : lk < 2
    ·have ct := pF ((lk : Int) < (2 : Int))
     have hC := Ru.calls (t0.jq i s') i (by rw [HT0.out]; exact ⟨by have := OL.out; show CK.length <= 1000; omega, by have := OL.out; have := R5.out; show vs1.length = CK.length; omega, .inr (by have := OL.out; have := Bb.out; show (cs1.set i s').length = CK.length + 1; rw [List.length_set]; omega)⟩) (by rw [HT0.out]; have := OL.out; have := Bb.out; show (cs1.set i s').length = CK.length + 1; rw [List.length_set]; omega) (by rw [HT0.out]; have := OL.out; show 0 < CK.length; omega) (by rw [HT0.out]; show i < (cs1.set i s').length; rw [List.length_set]; exact hil) (fun c hc => by
      rw [HT0.out] at hc
      have hc : c ∈ cs1.set i s' := hc
      refine JB ?_
      rcases List.mem_or_eq_of_mem_set hc with hc | rfl
      ·exact R6.out _ (by rw [aN]; exact List.mem_map_of_mem hc)
      ·rw [HE.out.1]; exact uB.out.2.1.b) base L w8 HE.out.2.1 (eY eB HB2)
     rw [show (t0.jq i s').p = p1 by rw [HT0.out]; rfl] at hC
     have CV := A_ hC
     clear hC
     go_wp2_with (first | (go_at_call 113; (with_reducible refine CV.out.mono ?_); rintro e w9 ⟨rfl, t2, ht1, ht2, ht3, Vt⟩))
     go_end0
     refine ⟨_, HF.out, rfl, t2, ?_, ?_, ht3, HB2.out.trans Vt⟩
     ·rw [ht1, HT0.out]
      rfl
     ·rw [ht2, HE.out.2.2.2.1, HE.out.1]
      unfold uV
      rw [HKF.out, if_pos (by rw [HLR.out]; exact h2)]
    ·have ct := mZ ((lk : Int) < (2 : Int))
     go_wp2_with fail
     go_end0
     refine ⟨_, HF.out, rfl, t0.jq i s', by rw [HT0.out]; rfl, ?_, HE.out.2.1, HB2.out⟩
     rw [HE.out.2.2.2.1, HE.out.1]
     unfold uV
     rw [HKF.out, if_neg (by rw [HLR.out]; exact h2)]
set_option maxHeartbeats 8000000
set_option maxRecDepth 100000
theorem N7.calls (t l r : NT) (P Q : List NT) (i : Nat) (hi : 0 < i) (ht : t.kids = P ++ l :: r :: Q) (hP : P.length = i - 1) (h2 : 2 < l.keys.length) (hk2 : r.keys.length < 2) (hl : Jo l.keys l.vals l.kids.length) (hr : Jo r.keys r.vals r.kids.length) (hj : i - 1 < t.keys.length /\ t.keys.length <= 1000 /\ t.vals.length = t.keys.length /\ t.kids.length = t.keys.length + 1)
  (base : Nat) (L : List Ck) (w : World) (hs : Sat w base (t.fB 101 74 ++ L)) (hbs : base <= w.heap.size) :
  Calls Try.prog 133 #[bO t.p, .int .i64 (i : Int)] w (WR w base 101 74 t L (D9 t.erase (i - 1))) := by
 cases t with | mk tp Gq Gr Gs tks tvs aZ =>
 cases l with | mk lp MZ M0 M3 dO kG lcs =>
 cases r with | mk rp M4 M5 rcv mP lS fo =>
 have h0 := open_pair ht hs
 unfold kL at h0
 simp only [NT.keys, NT.vals, NT.kids, NT.p, NT.kv, NT.vv, NT.cv] at ht hl hr hj h0 h2 hk2 ⊢
 clear hs
 unfold Jo at hl hr
 obtain ⟨hl1, hl2, hl3⟩ := hl
 obtain ⟨hr1, hr2, hr3⟩ := hr
 obtain ⟨hj1, hj2, M6, PH⟩ := hj
 have hil : i < aZ.length := by rw [ht, List.length_append, hP]; simp only [List.length_cons]; omega
 have hij : i = (i - 1) + 1 := by omega
 have HP := A_ hP
 have HT := A_ ht
 have hkl : aZ[(i - 1)]? = some (NT.mk lp MZ M0 M3 dO kG lcs) /\ (NT.mk lp MZ M0 M3 dO kG lcs).p = lp := ⟨by rw [ht]; exact Ri hP, rfl⟩
 have hkr : aZ[i]? = some (NT.mk rp M4 M5 rcv mP lS fo) /\ (NT.mk rp M4 M5 rcv mP lS fo).p = rp := ⟨by rw [ht, hij]; exact Rj hP, rfl⟩
 have Bb := A_ hkl
 have Sr := A_ hkr
 clear hkl hkr ht hij
 obtain ⟨R, hR⟩ : ∃ R, R = D9 (NT.mk tp Gq Gr Gs tks tvs aZ).erase (i - 1) := ⟨_, rfl⟩
 rw [<- hR]
 have HRR := A_ hR
 clear hR
 obtain ⟨tF, ja, rfl⟩ := Kd.au (h0.sr 1 rfl)
 obtain ⟨jE, rfl⟩ := dP (h0.sr 1 rfl) (by omega)
 obtain ⟨uF, jk, rfl⟩ := Kd.au (h0.sr 2 rfl)
 obtain ⟨jF, rfl⟩ := dP (h0.sr 2 rfl) (by omega)
 obtain ⟨Cc, jC, rfl, _, _⟩ := eO (h0.q 3 rfl)
 obtain ⟨kS, rfl⟩ := gq (h0.q 3 rfl) (by omega)
 obtain ⟨IG, wo, rfl⟩ := Kd.au (h0.sr 5 rfl)
 obtain ⟨KI, rfl⟩ := dP (h0.sr 5 rfl) (by omega)
 obtain ⟨Dn, uJ, rfl⟩ := Kd.au (h0.sr 6 rfl)
 obtain ⟨KJ, rfl⟩ := dP (h0.sr 6 rfl) (by omega)
 obtain ⟨xL, oM, rfl, _, _⟩ := eO (h0.q 7 rfl)
 obtain ⟨Kt, II, rfl⟩ := Kd.au (h0.sr 10 rfl)
 obtain ⟨Dp, CY, rfl⟩ := Kd.au (h0.sr 11 rfl)
 obtain ⟨xM, crc, rfl, _, _⟩ := eO (h0.q 12 rfl)
 obtain ⟨GP, FH⟩ : ∃ G, G = NT.bI 101 74 P := ⟨_, rfl⟩
 obtain ⟨GQ, FI⟩ : ∃ G, G = NT.bI 101 74 Q ++ L := ⟨_, rfl⟩
 rw [<- FH, <- FI] at h0
 have HS := A_ h0
 have HB := A_ (Below.refl base w)
 have eB := A_ hbs
 have PI := A_ FH
 have PK := A_ FI
 clear h0 hbs FH FI hP
 have Vo := A_ (show fo.length <= 1001 by omega)
 have HV := A_ (show kG.length = dO.length /\ lS.length = mP.length /\ tvs.length = tks.length /\ (lcs.length = 0 ∨ lcs.length = dO.length + 1) /\ aZ.length = tks.length + 1 from ⟨hl2, hr2, M6, hl3, PH⟩)
 have hlv : dO.length <= kG.length /\ kG.length <= 1000 := by omega
 have hrv : lS.length <= 1000 := by omega
 have Vl : i - 1 < tvs.length /\ tvs.length <= 1000 := by omega
 have htc : aZ.length <= 1001 := by omega
 have HI0 := A_ hi
 clear hl2 hl3 hr2 hr3 M6 PH
 obtain ⟨tx, htx⟩ : ∃ x, bF tks (i - 1) = x := ⟨_, rfl⟩
 have qb : ae ((i - 1) < tks.length /\ bF tks (i - 1) = tx) := ⟨by omega, htx⟩
 clear htx
 obtain ⟨ty, hty⟩ : ∃ x, bF tvs (i - 1) = x := ⟨_, rfl⟩
 have o7 : ae ((i - 1) < tvs.length /\ bF tvs (i - 1) = ty) := ⟨by omega, hty⟩
 clear hty
 obtain ⟨lx, hlx⟩ : ∃ x, bF dO (dO.length - 1) = x := ⟨_, rfl⟩
 have PL : ae ((dO.length - 1) < dO.length /\ bF dO (dO.length - 1) = lx) := ⟨by omega, hlx⟩
 clear hlx
 obtain ⟨ly, U4⟩ : ∃ x, bF kG (dO.length - 1) = x := ⟨_, rfl⟩
 have PM : ae ((dO.length - 1) < kG.length /\ bF kG (dO.length - 1) = ly) := ⟨by have := HV.out; omega, U4⟩
 clear U4
 obtain ⟨l1, oF⟩ := oI (bz mP 0 tx)
 obtain ⟨l2, sS⟩ := oI (bz lS 0 ty)
 obtain ⟨l3, Dq⟩ := oI (tks.set (i - 1) lx)
 obtain ⟨l4, Gt⟩ := oI (tvs.set (i - 1) ly)
 obtain ⟨l5, FV⟩ := oI (dO.eraseIdx (dO.length - 1))
 obtain ⟨l6, FW⟩ := oI (kG.eraseIdx (dO.length - 1))
 go_enter Try.func133, Try.ntmps133
 have b7 := dN (0 <= (i : Int))
 have b8 := dN ((i : Int) < (aZ.length : Int))
 have b9 := dN (i < aZ.length)
 have gy := (aa.z2 HS.out 0 rfl)
 have uG := (il (aa.gX HS.out 3 rfl) Sr.out)
 go_upto_region 1 with fail
 clear gy uG
 have c10 := mZ ((2 : Int) <= (mP.length : Int))
 have gy := (aa.z0 HS.out 9 rfl)
 go_upto_region 2 with fail
 clear gy
 have c11 := pF ((0 : Int) < (i : Int))
 go_upto_region 3 with fail
 have b12 := dN (1 <= (i : Int))
 have b13 := dN (((i : Int) - 1) < (aZ.length : Int))
 have b14 := dN ((i - 1) < aZ.length)
 have gy := (aa.z2 HS.out 0 rfl)
 have uG := (il (aa.gX HS.out 3 rfl) Bb.out)
 go_upto_region 4 with fail
 clear gy uG
 have c15 := pF ((2 : Int) < (dO.length : Int))
 have gy := (aa.z0 HS.out 4 rfl)
 go_upto_region 5 with fail
 clear gy
 have b16 := dN (((i : Int) - 1) < (tks.length : Int))
 have b17 := dN ((i - 1) < tks.length)
 have b18 := dN (((i : Int) - 1) < (tvs.length : Int))
 have b19 := dN ((i - 1) < tvs.length)
 have q24 : wrap64 ((i : Int) - 1) = ((i : Int) - 1) := jW (by omega)
 refine dL (n := 18) (S := fun w' => w'.cell? ⟨tp, 0, none⟩ = some (.slice (some ⟨jE, 0, none⟩) tks.length ja) /\ w'.cell? ⟨jE, (i - 1), none⟩ = some (.string tx) /\ w'.cell? ⟨tp, 1, none⟩ = some (.slice (some ⟨jF, 0, none⟩) tvs.length jk) /\ w'.cell? ⟨jF, (i - 1), none⟩ = some (.string ty)) (ds := [17]) (bt 18 0) (by kernel_rfl) rfl rfl ⟨(aa.z0 (aa.drew HS.out) 0 rfl), (iY (aa.sr (aa.drew HS.out) 1 rfl) qb.out), (aa.z1 (aa.drew HS.out) 0 rfl), (iY (aa.sr (aa.drew HS.out) 2 rfl) o7.out)⟩ (fun hHeld => ?_)
 refine aQ 0 41 1 ?_
 refine aQ 1 42 3 ?_
 refine aQ 2 43 7 ?_
 refine aQ 3 44 15 ?_
 refine aQ 5 46 47 ?_
 refine aQ 6 47 111 ?_
 refine aQ 9 50 623 ?_
 refine aQ 10 51 1647 ?_
 refine aQ 11 52 3695 ?_
 refine aQ 13 54 11887 ?_
 refine aQ 14 55 28271 ?_
 refine gF 4 45 28287 hHeld ?_
 refine aQ 7 48 28415 ?_
 refine gF 8 49 28671 hHeld ?_
 refine gF 12 53 32767 hHeld ?_
 refine aQ 15 56 65535 ?_
 refine gF 16 57 131071 hHeld ?_
 refine wZ 17 (some 58) 262143 (fun K hK => ?_)
 have FN := FR (aa.ky (aa.drew HS.out) [9, 10, 11, 0, 1, 2, 3, 4, 5, 6, 7, 8, 12, 13, 14, 15] (by decide))
 refine wm Try.func126 #[bO rp, .int .i64 0, .string tx, .string ty] ?_
 with_reducible refine (Qx (i := 0) FN oF.out sS.out (by omega) (eY eB HB)).mono ?_
 rintro e w2 ⟨rfl, zW, c21, FO, c23, hs_, rV⟩
 refine ⟨_, rfl, ?_⟩
 have az := oK hs_
 have aG : ae (Below base w w2) := ⟨((aH HB.out)).trans rV⟩
 clear HS HB hs_ rV FN; have HS := az; have HB := aG; clear az aG
 refine hK.out _ _ ?_
 clear hK K
 refine fw 58 ?_
 refine fA (by kernel_rfl) ?_
 clear q24
 go_upto_region 6 with fail
 obtain ⟨q29, q30⟩ : (wrap64 ((i : Int) - 1) = ((i : Int) - 1)) /\ (wrap64 ((dO.length : Int) - 1) = ((dO.length : Int) - 1)) := ⟨jW (by omega), jW (by omega)⟩
 refine dL (n := 27) (S := fun w' => w'.cell? ⟨tp, 0, none⟩ = some (.slice (some ⟨jE, 0, none⟩) tks.length ja) /\ w'.cell? ⟨tp, 1, none⟩ = some (.slice (some ⟨jF, 0, none⟩) tvs.length jk)) (ds := [24, 26]) (bt 27 0) (by kernel_rfl) rfl rfl ⟨(aa.z0 (aa.drew HS.out) 3 rfl), (aa.z1 (aa.drew HS.out) 3 rfl)⟩ (fun hHeld => ?_)
 refine aQ 0 60 1 ?_
 refine aQ 1 61 3 ?_
 refine aQ 2 62 7 ?_
 refine aQ 4 64 23 ?_
 refine aQ 5 65 55 ?_
 refine aQ 6 66 119 ?_
 refine aQ 7 67 247 ?_
 refine aQ 8 68 503 ?_
 refine aQ 10 70 1527 ?_
 refine aQ 11 71 3575 ?_
 refine aQ 12 72 7671 ?_
 refine aQ 13 73 15863 ?_
 refine aQ 14 74 32247 ?_
 refine aQ 15 75 65015 ?_
 refine gF 3 63 65023 hHeld ?_
 refine gF 9 69 65535 hHeld ?_
 refine jm 16 (some 76) 131071 (fun K hK => ?_)
 have zl_ := (aa.z0 (aa.drew HS.out) 7 rfl)
 refine X4 (w1 := ?_) (v := ?_) (by rfl) rfl ?_ ?_
 rotate_left 2
 ·go_simp
  constructor
  ·rfl
  ·rfl
 clear zl_
 refine hK.out _ _ ⟨(aa.z0 (aa.drew HS.out) 3 rfl), (aa.z1 (aa.drew HS.out) 3 rfl)⟩ (fun hHeld => ?_)
 clear hK K
 refine fw 76 ?_
 refine aQ 17 77 262143 ?_
 refine aQ 18 78 524287 ?_
 refine jm 19 (some 79) 1048575 (fun K hK => ?_)
 have FN := FR (aa.ky (aa.drew HS.out) [7, 8, 9, 0, 1, 2, 3, 4, 5, 6, 10, 11, 12, 13, 14, 15] (by decide))
 refine wm Try.func131 #[bO lp, .int .i64 (wrap64 ((dO.length : Int) - 1))] ?_
 rw [show wrap64 ((dO.length : Int) - 1) = ((dO.length : Int) - 1) by assumption]
 with_reducible refine (zC (i := (dO.length - 1)) FN PL.out PM.out FV.out FW.out (by omega) (eY eB HB)).mono ?_
 rintro e w3 ⟨rfl, Na, Nb, PN, c28, hs_, rV⟩
 refine ⟨_, rfl, ?_⟩
 have az := oK hs_
 have aG : ae (Below base w w3) := ⟨((aH HB.out)).trans rV⟩
 clear HS HB hs_ rV FN; have HS := az; have HB := aG; clear az aG
 have zs0 := iY (aa.sr HS.out 7 rfl) qb.out
 have kJ := ik (aa.sr HS.out 7 rfl) (Nat.lt_of_le_of_lt (Nat.zero_le _) qb.out.1) (i - 1)
 have Vm := iY (aa.sr HS.out 8 rfl) o7.out
 have Vn := ik (aa.sr HS.out 8 rfl) (Nat.lt_of_le_of_lt (Nat.zero_le _) o7.out.1) (i - 1)
 refine hK.out _ _ ⟨(aa.z0 HS.out 6 rfl), (aa.z1 HS.out 6 rfl)⟩ (fun hHeld => ?_)
 clear hK K
 refine fw 79 ?_
 refine aQ 20 59 2097151 ?_
 refine aQ 21 80 4194303 ?_
 refine aQ 22 81 8388607 ?_
 refine aQ 23 82 16777215 ?_
 refine wZ 24 none 33554431 (fun K hK => ?_)
 refine iN (w1 := ?_) (by rfl) rfl ?_ ?_
 rotate_left
 ·go_simp
  rfl
 refine hK.out _ _ ?_
 clear hK K
 refine aQ 25 83 67108863 ?_
 refine wZ 26 none 134217727 (fun K hK => ?_)
 have Vb := iY (aa.sr (aa.rM HS.out 7 rfl (i - 1) lx Dq.out) 8 rfl) o7.out
 refine iN (w1 := ?_) (by rfl) rfl ?_ ?_
 rotate_left
 ·go_simp
  rfl
 clear Vb
 refine hK.out _ _ ?_
 clear hK K
 refine fA (by kernel_rfl) ?_
 clear q29 q30
 have az := jr (World.setCell (World.setCell w3 ⟨jE, (i - 1), none⟩ (.string lx)) ⟨jF, (i - 1), none⟩ (.string ly)) (aa.rM (aa.rM HS.out 7 rfl (i - 1) lx Dq.out) 8 rfl (i - 1) ly Gt.out)
 have aG : ae (Below base w (World.setCell (World.setCell w3 ⟨jE, (i - 1), none⟩ (.string lx)) ⟨jF, (i - 1), none⟩ (.string ly))) := ⟨((HB.out).setCell (p := ⟨jE, (i - 1), none⟩) (vL HS.out 7 rfl qb.out) _).setCell (p := ⟨jF, (i - 1), none⟩) (vL HS.out 8 rfl o7.out) _⟩
 generalize World.setCell (World.setCell w3 ⟨jE, (i - 1), none⟩ (.string lx)) ⟨jF, (i - 1), none⟩ (.string ly) = w4 at az aG ⊢
 clear HS HB zs0 kJ Vm Vn; have HS := az; have HB := aG; clear az aG
 go_upto_region 7 with fail
 by_cases wV : lcs.length = 0
 ·skip
  have hl0 : lcs = [] := List.length_eq_zero_iff.1 wV
  have Zi := A_ hl0
  have CJ := A_ ((aa.ky HS.out [0, 1, 2, 10, 11] (by decide)).Xf)
  have hbl := A_ (show decide (((NT.mk lp (.slice Na l5.length Nb) (.slice PN l6.length c28) (.slice xL lcs.length oM) l5 l6 lcs).erase.kids.length : Int) = 0) = true from decide_eq_true (by show ((NT.aD lcs).length : Int) = 0; rw [aN, List.length_map]; omega))
  go_wp2_with (first | (go_at_call 99; (with_reducible refine (dU.dQ true hbl.out _ ?aj).mono ?_); (case aj => repeat (first | exact CJ.out | (with_reducible refine Rd.drewN ?_ _) | (with_reducible refine Rd.drew ?_))); rintro e w' ⟨rfl, ⟨nd, rfl⟩⟩))
  generalize hW : World.drewN _ _ = w5
  have az : ae (aa w5 base [qW 101 lp Na l5.length Nb PN l6.length c28 xL lcs.length oM, lW Na Nb l5, lW PN c28 l6, qW 101 rp zW l1.length c21 FO l2.length c23 xM fo.length crc, lW zW c21 l1, lW FO c23 l2, qW 101 tp (mF jE) tks.length ja (mF jF) tvs.length jk (some kS) aZ.length jC, yM (mF jE) tks.length ja l3, yM (mF jF) tvs.length jk l4, rY 74 (some kS) jC aZ, rY 74 xL oM lcs, (NT.bI 101 74 lcs), rY 74 xM crc fo, (NT.bI 101 74 fo), GP, GQ]) := ⟨by rw [<- hW]; exact aa.drewN HS.out _⟩
  have aG : ae (Below base w w5) := ⟨by rw [<- hW]; exact ah HB.out _⟩
  clear HS HB CJ hbl hW; have HS := az; have HB := aG; clear az aG
  refine bodyPost_ret (results_none rfl _ _ _) rfl ?_
  have hS := FR (aa.ky HS.out [6, 7, 8, 9, 0, 1, 2, 10, 11, 3, 4, 5, 12, 13, 14, 15] (by decide))
  refine ⟨rfl, NT.mk tp (.slice (some ⟨jE, 0, none⟩) tks.length ja) (.slice (some ⟨jF, 0, none⟩) tvs.length jk) (.slice (some kS) aZ.length jC) l3 l4 (P ++ NT.mk lp (.slice Na l5.length Nb) (.slice PN l6.length c28) (.slice xL lcs.length oM) l5 l6 lcs :: NT.mk rp (.slice zW l1.length c21) (.slice FO l2.length c23) (.slice xM fo.length crc) l1 l2 fo :: Q), rfl, ?_, shut_pair rfl ?_, HB.out⟩
  ·have e0 := HRR.out
   rw [HT.out] at e0
   rw [e0]
   show PT.mk l3 l4 (NT.aD (P ++ _ :: _ :: Q)) = D9 (PT.mk tks tvs (NT.aD (P ++ _ :: _ :: Q))) (i - 1)
   simp only [aN, List.map_append, List.map_cons]
   rw [zq (by rw [List.length_map]; exact HP.out)]
   have Ku := oF.out
   subst Ku
   have Kv := sS.out
   subst Kv
   have Kw := Dq.out
   subst Kw
   have Ky := Gt.out
   subst Ky
   have Kz := FV.out
   subst Kz
   have KA := FW.out
   subst KA
   have PO := qb.out.2
   subst PO
   have ety := o7.out.2
   subst ety
   have U6 := PL.out.2
   subst U6
   have U7 := PM.out.2
   subst U7
   have q1 : dO.eraseIdx (dO.length - 1) = dO.take (dO.length - 1) := zB (by omega)
   have q2 : kG.eraseIdx (dO.length - 1) = kG.take (dO.length - 1) := zB (by have := HV.out; omega)
   rw [q1, q2]
   have ec := Zi.out
   subst ec
   simp [vI, vJ, NT.erase, NT.aD, PT.keys, PT.vals, PT.kids]
  ·unfold kL
   simp only [NT.keys, NT.vals, NT.kids, NT.p, NT.kv, NT.vv, NT.cv]
   have hq : ∀ a b : NT, a.p = lp -> b.p = rp -> ptrs (P ++ a :: b :: Q) = ptrs aZ := fun a b ha hb => by rw [HT.out]; simp only [ptrs, List.map_append, List.map_cons, ha, hb]; rfl
   rw [hq _ _ rfl rfl, <- PI.out, <- PK.out]
   exact hS
 ·skip
  have hlc : 1 <= lcs.length /\ lcs.length <= 1001 := by have := HV.out; omega
  have hrc : fo.length <= 1001 := by have := Vo.out; omega
  obtain ⟨s, hs0⟩ : ∃ s, lcs[lcs.length - 1]? = some s := ⟨lcs[lcs.length - 1], List.getElem?_eq_getElem (by omega)⟩
  obtain ⟨sp, hsp⟩ : ∃ p, s.p = p := ⟨_, rfl⟩
  have jl : ae (lcs[lcs.length - 1]? = some s /\ s.p = sp) := ⟨hs0, hsp⟩
  have HSP := A_ hsp
  clear hs0 hsp
  obtain ⟨Cf, rfl⟩ := gq (aa.q HS.out 10 rfl) (by omega)
  obtain ⟨WM, WN⟩ := oI (bz fo 0 s)
  obtain ⟨l32, ZB⟩ := oI (lcs.take (lcs.length - 1))
  have CJ := A_ ((aa.ky HS.out [0, 1, 2, 10, 11] (by decide)).Xf)
  have hbl := A_ (show decide (((NT.mk lp (.slice Na l5.length Nb) (.slice PN l6.length c28) (.slice (some Cf) lcs.length oM) l5 l6 lcs).erase.kids.length : Int) = 0) = false from decide_eq_false (by show ((NT.aD lcs).length : Int) ≠ 0; rw [aN, List.length_map]; omega))
  go_upto_region 8 with (first | (go_at_call 99; (with_reducible refine (dU.dQ false hbl.out _ ?aj).mono ?_); (case aj => repeat (first | exact CJ.out | (with_reducible refine Rd.drewN ?_ _) | (with_reducible refine Rd.drew ?_))); rintro e w' ⟨rfl, ⟨nd, rfl⟩⟩))
  generalize hW : World.drewN _ _ = w5
  have az : ae (aa w5 base [qW 101 lp Na l5.length Nb PN l6.length c28 (some Cf) lcs.length oM, lW Na Nb l5, lW PN c28 l6, qW 101 rp zW l1.length c21 FO l2.length c23 xM fo.length crc, lW zW c21 l1, lW FO c23 l2, qW 101 tp (mF jE) tks.length ja (mF jF) tvs.length jk (some kS) aZ.length jC, yM (mF jE) tks.length ja l3, yM (mF jF) tvs.length jk l4, rY 74 (some kS) jC aZ, rY 74 (some Cf) oM lcs, (NT.bI 101 74 lcs), rY 74 xM crc fo, (NT.bI 101 74 fo), GP, GQ]) := ⟨by rw [<- hW]; exact aa.drewN HS.out _⟩
  have aG : ae (Below base w w5) := ⟨by rw [<- hW]; exact ah HB.out _⟩
  clear HS HB CJ hbl hW; have HS := az; have HB := aG; clear az aG
  have gy := (aa.z2 HS.out 0 rfl)
  go_upto_region 9 with fail
  clear gy
  have b33 := dN (1 <= (lcs.length : Int))
  have b34 := dN (((lcs.length : Int) - 1) < (lcs.length : Int))
  have b35 := dN ((lcs.length - 1) < lcs.length)
  refine dL (n := 17) (S := fun w' => w'.cell? ⟨rp, 2, none⟩ = some (.slice xM fo.length crc) /\ w'.cell? ⟨lp, 2, none⟩ = some (.slice (some Cf) lcs.length oM) /\ w'.cell? (Cf.add (lcs.length - 1)) = some (bO sp)) (ds := [16]) (bt 17 0) (by kernel_rfl) rfl rfl ⟨(aa.z2 (aa.drew HS.out) 3 rfl), (aa.z2 (aa.drew HS.out) 0 rfl), (il (aa.gX (aa.drew HS.out) 10 rfl) jl.out)⟩ (fun hHeld => ?_)
  refine aQ 0 93 1 ?_
  refine aQ 1 94 3 ?_
  refine aQ 2 95 7 ?_
  refine aQ 3 96 15 ?_
  refine aQ 5 98 47 ?_
  refine aQ 6 99 111 ?_
  refine aQ 7 100 239 ?_
  refine aQ 9 102 751 ?_
  refine gF 4 97 767 hHeld ?_
  refine gF 8 101 1023 hHeld ?_
  refine aQ 10 103 2047 ?_
  refine gF 11 104 4095 hHeld ?_
  refine jm 12 (some 105) 8191 (fun K hK => ?_)
  refine Kd.bB gL (w0 := w) base 74 (by rfl) (N := 105) rfl (xs := [sp]) (inner := [bO sp]) (ok := fun _ => True) (okp := fun _ => False) ?hr (Kd.bH (enc := bO) [sp]) (fun _ h => h.elim) trivial (aH HB.out) (eY eB HB) (by simp) ?_
  (case hr => first | (go_simp; done) | (go_simp; rfl))
  intro v36 w6 ho hb hg hn
  obtain ⟨A37, c38, rfl⟩ : ∃ A c, v36 = .slice A 1 c := Kd.au ho
  have az := oK (aa.rA (aa.drew HS.out) (Ji ho) hg hn)
  have aG : ae (Below base w w6) := ⟨hb⟩
  clear HS HB ho hb hg hn; have HS := az; have HB := aG; clear az aG
  refine hK.out _ _ ⟨(aa.z2 HS.out 3 rfl), (aa.z2 HS.out 0 rfl), (il (aa.gX HS.out 10 rfl) jl.out)⟩ (fun hHeld => ?_)
  clear hK K
  refine fw 105 ?_
  refine jm 13 (some 106) 16383 (fun K hK => ?_)
  refine wm Try.func128 #[.slice xM fo.length crc, .int .i64 0, .slice A37 1 c38] ?_
  with_reducible refine (V8 (ia := 12) (ib := 16) (i := 0) (r := s) HS.out (by omega) rfl rfl HSP.out (by decide) (by omega) (eY eB HB) (by omega) HB.out).mono ?_
  rintro e w7 ⟨ZC, c40, rfl, hs_, rV⟩
  refine ⟨_, rfl, ?_⟩
  rw [<- WN.out] at hs_
  rw [<- WN.out]
  have az := oK hs_
  have aG : ae (Below base w w7) := ⟨rV⟩
  clear HS HB hs_ rV; have HS := az; have HB := aG; clear az aG
  have zs0 := aa.z2 HS.out 3 rfl
  have kJ := aa.f HS.out 3 rfl 2
  refine hK.out _ _ ⟨(aa.z2 HS.out 3 rfl), (aa.z2 HS.out 0 rfl), (il (aa.gX HS.out 10 rfl) jl.out)⟩ (fun hHeld => ?_)
  clear hK K
  refine fw 106 ?_
  refine aQ 14 107 32767 ?_
  refine aQ 15 108 65535 ?_
  refine wZ 16 none 131071 (fun K hK => ?_)
  refine iN (w1 := ?_) (by rfl) rfl ?_ ?_
  rotate_left
  ·go_simp
   rfl
  refine hK.out _ _ ?_
  clear hK K
  refine fA (by kernel_rfl) ?_
  have az := jr (World.setCell w7 ⟨rp, 2, none⟩ (.slice ZC WM.length c40)) (aa.zo HS.out 3 rfl (.slice ZC WM.length c40))
  have aG : ae (Below base w (World.setCell w7 ⟨rp, 2, none⟩ (.slice ZC WM.length c40))) := ⟨(HB.out).setCell (p := ⟨rp, 2, none⟩) (aa.ge HS.out 3 rfl) _⟩
  generalize World.setCell w7 ⟨rp, 2, none⟩ (.slice ZC WM.length c40) = w8 at az aG ⊢
  clear HS HB zs0 kJ; have HS := az; have HB := aG; clear az aG
  go_upto_region 10 with fail
  obtain ⟨i0_, Be, _, Gu, _⟩ := info_parts nH
  have hcut41 := Jz (P := Try.prog) 99 74 .i64 yY Be (some Cf) lcs.length oM ((lcs.length : Int) - 1) (by omega) (by omega) (aa.gX HS.out 10 rfl).2.1
  simp only [show (((lcs.length : Int) - 1)).toNat = (lcs.length - 1) from by omega] at hcut41
  clear Be Gu
  have gy := (aa.z2 HS.out 0 rfl)
  have zs0 := aa.z2 HS.out 0 rfl
  have kJ := aa.f HS.out 0 rfl 2
  go_wp2_with fail
  have az := jr (World.setCell w8 ⟨lp, 2, none⟩ (.slice (some Cf) (lcs.length - 1) oM)) (Qj (aa.zo HS.out 0 rfl (.slice (some Cf) (lcs.length - 1) oM)) 10 rfl ZB.out (by omega))
  have aG : ae (Below base w (World.setCell w8 ⟨lp, 2, none⟩ (.slice (some Cf) (lcs.length - 1) oM))) := ⟨(HB.out).setCell (p := ⟨lp, 2, none⟩) (aa.ge HS.out 0 rfl) _⟩
  generalize World.setCell w8 ⟨lp, 2, none⟩ (.slice (some Cf) (lcs.length - 1) oM) = w9 at az aG ⊢
  clear HS HB gy zs0 kJ; have HS := az; have HB := aG; clear az aG
  clear hcut41
  have WK : ae (NT.bI 101 74 lcs = NT.bI 101 74 l32 ++ s.fB 101 74) := ⟨by rw [ZB.out, ma 101 74 jl.out.1, List.drop_eq_nil_of_le (by omega), NT.bI, List.append_nil]⟩
  have az : ae (aa w9 base [qW 101 lp Na l5.length Nb PN l6.length c28 (some Cf) (lcs.length - 1) oM, lW Na Nb l5, lW PN c28 l6, qW 101 rp zW l1.length c21 FO l2.length c23 ZC WM.length c40, lW zW c21 l1, lW FO c23 l2, qW 101 tp (mF jE) tks.length ja (mF jF) tvs.length jk (some kS) aZ.length jC, yM (mF jE) tks.length ja l3, yM (mF jF) tvs.length jk l4, rY 74 (some kS) jC aZ, qy_ 74 (some Cf) (lcs.length - 1) oM l32, (NT.bI 101 74 l32), rY 74 ZC c40 WM, (NT.bI 101 74 fo), GP, GQ, [.own 74 (.slice A37 1 c38) (encs bO [sp])], (s.fB 101 74)]) := ⟨aa.cut HS.out 11 (congrArg some WK.out)⟩
  have aG : ae (Below base w w9) := ⟨HB.out⟩
  clear HS HB; have HS := az; have HB := aG; clear az aG
  refine bodyPost_ret (results_none rfl _ _ _) rfl ?_
  have hS := FR (aa.ky HS.out [6, 7, 8, 9, 0, 1, 2, 10, 11, 3, 4, 5, 12, 17, 13, 14, 15] (by decide))
  refine ⟨rfl, NT.mk tp (.slice (some ⟨jE, 0, none⟩) tks.length ja) (.slice (some ⟨jF, 0, none⟩) tvs.length jk) (.slice (some kS) aZ.length jC) l3 l4 (P ++ NT.mk lp (.slice Na l5.length Nb) (.slice PN l6.length c28) (.slice (some Cf) (lcs.length - 1) oM) l5 l6 l32 :: NT.mk rp (.slice zW l1.length c21) (.slice FO l2.length c23) (.slice ZC WM.length c40) l1 l2 WM :: Q), rfl, ?_, shut_pair rfl ?_, HB.out⟩
  ·have e0 := HRR.out
   rw [HT.out] at e0
   rw [e0]
   show PT.mk l3 l4 (NT.aD (P ++ _ :: _ :: Q)) = D9 (PT.mk tks tvs (NT.aD (P ++ _ :: _ :: Q))) (i - 1)
   simp only [aN, List.map_append, List.map_cons]
   rw [zq (by rw [List.length_map]; exact HP.out)]
   have Ku := oF.out
   subst Ku
   have Kv := sS.out
   subst Kv
   have Kw := Dq.out
   subst Kw
   have Ky := Gt.out
   subst Ky
   have Kz := FV.out
   subst Kz
   have KA := FW.out
   subst KA
   have el32 := ZB.out
   subst el32
   have el31 := WN.out
   subst el31
   have PO := qb.out.2
   subst PO
   have ety := o7.out.2
   subst ety
   have U6 := PL.out.2
   subst U6
   have U7 := PM.out.2
   subst U7
   have q1 : dO.eraseIdx (dO.length - 1) = dO.take (dO.length - 1) := zB (by omega)
   have q2 : kG.eraseIdx (dO.length - 1) = kG.take (dO.length - 1) := zB (by have := HV.out; omega)
   rw [q1, q2]
   have hn : ¬ lcs = [] := fun h => wV (by rw [h]; rfl)
   have hll : lcs.length - 1 = dO.length := by have := HV.out; omega
   have hks := jl.out.1
   rw [hll] at hks ⊢
   simp [vI, vJ, NT.erase, aN, PT.keys, PT.vals, PT.kids, fJ, hn, qX, List.map_take]
   rw [hks]
   rfl
  ·unfold kL
   simp only [NT.keys, NT.vals, NT.kids, NT.p, NT.kv, NT.vv, NT.cv]
   have hq : ∀ a b : NT, a.p = lp -> b.p = rp -> ptrs (P ++ a :: b :: Q) = ptrs aZ := fun a b ha hb => by rw [HT.out]; simp only [ptrs, List.map_append, List.map_cons, ha, hb]; rfl
   have hc : NT.bI 101 74 WM = s.fB 101 74 ++ NT.bI 101 74 fo := by rw [WN.out]; show NT.bI 101 74 ([] ++ s :: fo.drop 0) = _; rw [List.nil_append, List.drop_zero, NT.bI]
   rw [hq _ _ rfl rfl, <- PI.out, <- PK.out, hc]
   unfold aa at hS ⊢
   simp only [List.flatten_cons, List.append_assoc] at hS ⊢
   exact hS
set_option maxHeartbeats 8000000
set_option maxRecDepth 100000
theorem Dj {l : List ByteArray} {n : Nat} {x : ByteArray} (h : n = l.length) : bz l n x = l ++ [x] := by
 subst h
 unfold bz
 rw [List.take_length, List.drop_length]
theorem N8.calls (t l r : NT) (P Q : List NT) (i : Nat) (hno : i = 0 ∨ 0 < i /\ ∃ s : NT, t.kids[i - 1]? = some s /\ s.keys.length <= 2) (ht : t.kids = P ++ l :: r :: Q) (hP : P.length = i) (h2 : 2 < r.keys.length) (hk2 : l.keys.length < 2) (hl : Jo l.keys l.vals l.kids.length) (hr : Jo r.keys r.vals r.kids.length) (hj : i < t.keys.length /\ t.keys.length <= 1000 /\ t.vals.length = t.keys.length /\ t.kids.length = t.keys.length + 1)
  (base : Nat) (L : List Ck) (w : World) (hs : Sat w base (t.fB 101 74 ++ L)) (hbs : base <= w.heap.size) :
  Calls Try.prog 133 #[bO t.p, .int .i64 (i : Int)] w (WR w base 101 74 t L (Ea t.erase i)) := by
 have Vq : ae (i = 0 ∨ 0 < i /\ ∃ (sp n : Nat) (A : Option Addr) (c : Nat), Lp t.kids (i - 1) sp /\ n <= 2 /\ w.cell? ⟨sp, 0, none⟩ = some (.slice A n c)) := ⟨by
  rcases hno with h | ⟨h, s, h1, h2⟩
  ·exact .inl h
  ·obtain ⟨A, c, h3⟩ := pR hs h1
   exact .inr ⟨h, s.p, s.keys.length, A, c, ⟨s, h1, rfl⟩, h2, h3⟩⟩
 clear hno
 cases t with | mk tp Gq Gr Gs tks tvs aZ =>
 cases l with | mk lp MZ M0 M3 dO kG lcs =>
 cases r with | mk rp M4 M5 rcv mP lS fo =>
 have h0 := open_pair ht hs
 unfold kL at h0
 simp only [NT.keys, NT.vals, NT.kids, NT.p, NT.kv, NT.vv, NT.cv] at ht hl hr hj h0 h2 hk2 Vq ⊢
 clear hs
 unfold Jo at hl hr
 obtain ⟨hl1, hl2, hl3⟩ := hl
 obtain ⟨hr1, hr2, hr3⟩ := hr
 obtain ⟨hj1, hj2, M6, PH⟩ := hj
 have hil : (i + 1) < aZ.length := by rw [ht, List.length_append, hP]; simp only [List.length_cons]; omega
 have hij : (i + 1) = i + 1 := by omega
 have HP := A_ hP
 have HT := A_ ht
 have hkl : aZ[i]? = some (NT.mk lp MZ M0 M3 dO kG lcs) /\ (NT.mk lp MZ M0 M3 dO kG lcs).p = lp := ⟨by rw [ht]; exact Ri hP, rfl⟩
 have hkr : aZ[(i + 1)]? = some (NT.mk rp M4 M5 rcv mP lS fo) /\ (NT.mk rp M4 M5 rcv mP lS fo).p = rp := ⟨by rw [ht, hij]; exact Rj hP, rfl⟩
 have Bb := A_ hkl
 have Sr := A_ hkr
 clear hkl hkr ht hij
 obtain ⟨R, hR⟩ : ∃ R, R = Ea (NT.mk tp Gq Gr Gs tks tvs aZ).erase i := ⟨_, rfl⟩
 rw [<- hR]
 have HRR := A_ hR
 clear hR
 obtain ⟨tF, ja, rfl⟩ := Kd.au (h0.sr 1 rfl)
 obtain ⟨jE, rfl⟩ := dP (h0.sr 1 rfl) (by omega)
 obtain ⟨uF, jk, rfl⟩ := Kd.au (h0.sr 2 rfl)
 obtain ⟨jF, rfl⟩ := dP (h0.sr 2 rfl) (by omega)
 obtain ⟨Cc, jC, rfl, _, _⟩ := eO (h0.q 3 rfl)
 obtain ⟨kS, rfl⟩ := gq (h0.q 3 rfl) (by omega)
 obtain ⟨IG, wo, rfl⟩ := Kd.au (h0.sr 5 rfl)
 obtain ⟨Dn, uJ, rfl⟩ := Kd.au (h0.sr 6 rfl)
 obtain ⟨xL, oM, rfl, _, _⟩ := eO (h0.q 7 rfl)
 obtain ⟨Kt, II, rfl⟩ := Kd.au (h0.sr 10 rfl)
 obtain ⟨grk, rfl⟩ := dP (h0.sr 10 rfl) (by omega)
 obtain ⟨Dp, CY, rfl⟩ := Kd.au (h0.sr 11 rfl)
 obtain ⟨grv, rfl⟩ := dP (h0.sr 11 rfl) (by omega)
 obtain ⟨xM, crc, rfl, _, _⟩ := eO (h0.q 12 rfl)
 obtain ⟨GP, FH⟩ : ∃ G, G = NT.bI 101 74 P := ⟨_, rfl⟩
 obtain ⟨GQ, FI⟩ : ∃ G, G = NT.bI 101 74 Q ++ L := ⟨_, rfl⟩
 rw [<- FH, <- FI] at h0
 have HS := A_ h0
 have HB := A_ (Below.refl base w)
 have eB := A_ hbs
 have PI := A_ FH
 have PK := A_ FI
 clear h0 hbs FH FI hP
 have Vo := A_ (show fo.length <= 1001 /\ lcs.length <= 1001 by omega)
 have HV := A_ (show kG.length = dO.length /\ lS.length = mP.length /\ tvs.length = tks.length /\ (fo.length = 0 ∨ fo.length = mP.length + 1) /\ aZ.length = tks.length + 1 from ⟨hl2, hr2, M6, hr3, PH⟩)
 have hrv : mP.length <= lS.length /\ lS.length <= 1000 := by omega
 have hlv : dO.length <= kG.length /\ kG.length <= 1000 := by omega
 have Vl : i < tvs.length /\ tvs.length <= 1000 := by omega
 have htc : i + 1 < aZ.length /\ aZ.length <= 1001 := by omega
 clear hl2 hl3 hr2 hr3 M6 PH
 obtain ⟨tx, htx⟩ : ∃ x, bF tks i = x := ⟨_, rfl⟩
 have qb : ae (i < tks.length /\ bF tks i = tx) := ⟨by omega, htx⟩
 clear htx
 obtain ⟨ty, hty⟩ : ∃ x, bF tvs i = x := ⟨_, rfl⟩
 have o7 : ae (i < tvs.length /\ bF tvs i = ty) := ⟨by omega, hty⟩
 clear hty
 obtain ⟨lx, hlx⟩ : ∃ x, bF mP 0 = x := ⟨_, rfl⟩
 have PL : ae (0 < mP.length /\ bF mP 0 = lx) := ⟨by omega, hlx⟩
 clear hlx
 obtain ⟨ly, U4⟩ : ∃ x, bF lS 0 = x := ⟨_, rfl⟩
 have PM : ae (0 < lS.length /\ bF lS 0 = ly) := ⟨by have := HV.out; omega, U4⟩
 clear U4
 obtain ⟨l1, oF⟩ := oI (bz dO dO.length tx)
 obtain ⟨l2, sS⟩ := oI (bz kG dO.length ty)
 obtain ⟨l3, Dq⟩ := oI (tks.set i lx)
 obtain ⟨l4, Gt⟩ := oI (tvs.set i ly)
 obtain ⟨l5, FV⟩ := oI (mP.eraseIdx 0)
 obtain ⟨l6, FW⟩ := oI (lS.eraseIdx 0)
 go_enter Try.func133, Try.ntmps133
 have b7 := dN (0 <= (i : Int))
 have b8 := dN ((i : Int) < (aZ.length : Int))
 have b9 := dN (i < aZ.length)
 have gy := (aa.z2 HS.out 0 rfl)
 have uG := (il (aa.gX HS.out 3 rfl) Bb.out)
 go_upto_region 1 with fail
 clear gy uG
 have c10 := mZ ((2 : Int) <= (dO.length : Int))
 have gy := (aa.z0 HS.out 4 rfl)
 go_upto_if 26 with fail
 clear gy
 go_cut [] (fun wc => w = wc)
 case first =>
  skip
  rcases Vq.out with h0 | ⟨h0, s0p, ls, As, cs, ⟨s0, hs1, hs4⟩, hs2, hs3⟩
  ·have c_ : (0 < (i : Int)) = False := eq_false (by omega)
   have Zn := mZ ((0 : Int) < (i : Int))
   go_wp2_with fail
   go_meet
   case rel => rfl
  ·have c_ := pF ((0 : Int) < (i : Int))
   have Vr := dN (1 <= (i : Int))
   have Xq := dN (((i : Int) - 1) < (aZ.length : Int))
   have Zm := dN ((i - 1) < aZ.length)
   have Zn := mZ ((2 : Int) < (ls : Int))
   have uG := aa.z2 HS.out 0 rfl
   have Ce := il (aa.gX HS.out 3 rfl) (And.intro hs1 hs4)
   go_wp2_with fail
   go_meet
   case rel => rfl
 case rest =>
  have ew := hcut
  subst ew
  go_upto_region 11 with fail
  have c11 := pF (((i : Int) + 1) < (aZ.length : Int))
  have gy := (aa.z2 HS.out 0 rfl)
  go_upto_region 12 with fail
  clear gy
  have b12 := dN (0 <= ((i : Int) + 1))
  have b13 := dN (((i : Int) + 1) < (aZ.length : Int))
  have b14 := dN ((i + 1) < aZ.length)
  have gy := (aa.z2 HS.out 0 rfl)
  have uG := (yl (aa.gX HS.out 3 rfl) Sr.out (by omega))
  go_upto_region 13 with fail
  clear gy uG
  have c15 := pF ((2 : Int) < (mP.length : Int))
  have gy := (aa.z0 HS.out 9 rfl)
  go_upto_region 14 with fail
  clear gy
  have b16 := dN ((i : Int) < (tks.length : Int))
  have b17 := dN (i < tks.length)
  have b18 := dN ((i : Int) < (tvs.length : Int))
  have b19 := dN (i < tvs.length)
  refine dL (n := 21) (S := fun w' => w'.cell? ⟨lp, 0, none⟩ = some (.slice IG dO.length wo) /\ w'.cell? ⟨tp, 0, none⟩ = some (.slice (some ⟨jE, 0, none⟩) tks.length ja) /\ w'.cell? ⟨jE, i, none⟩ = some (.string tx) /\ w'.cell? ⟨tp, 1, none⟩ = some (.slice (some ⟨jF, 0, none⟩) tvs.length jk) /\ w'.cell? ⟨jF, i, none⟩ = some (.string ty)) (ds := [20]) (bt 21 0) (by kernel_rfl) rfl rfl ⟨(aa.z0 (aa.drew HS.out) 4 rfl), (aa.z0 (aa.drew HS.out) 0 rfl), (iY (aa.sr (aa.drew HS.out) 1 rfl) qb.out), (aa.z1 (aa.drew HS.out) 0 rfl), (iY (aa.sr (aa.drew HS.out) 2 rfl) o7.out)⟩ (fun hHeld => ?_)
  refine aQ 0 140 1 ?_
  refine aQ 1 141 3 ?_
  refine aQ 2 142 7 ?_
  refine aQ 3 143 15 ?_
  refine aQ 6 146 79 ?_
  refine aQ 7 147 207 ?_
  refine aQ 8 148 463 ?_
  refine aQ 10 150 1487 ?_
  refine aQ 13 153 9679 ?_
  refine aQ 14 154 26063 ?_
  refine aQ 15 155 58831 ?_
  refine aQ 17 157 189903 ?_
  refine gF 4 144 189919 hHeld ?_
  refine aQ 5 145 189951 ?_
  refine gF 9 149 190463 hHeld ?_
  refine aQ 11 151 192511 ?_
  refine gF 12 152 196607 hHeld ?_
  refine gF 16 156 262143 hHeld ?_
  refine aQ 18 158 524287 ?_
  refine gF 19 159 1048575 hHeld ?_
  refine wZ 20 (some 160) 2097151 (fun K hK => ?_)
  have FN := FR (aa.ky (aa.drew HS.out) [4, 5, 6, 0, 1, 2, 3, 7, 8, 9, 10, 11, 12, 13, 14, 15] (by decide))
  refine wm Try.func126 #[bO lp, .int .i64 (dO.length : Int), .string tx, .string ty] ?_
  with_reducible refine (Qx (i := dO.length) FN oF.out sS.out (by omega) (eY eB HB)).mono ?_
  rintro e w2 ⟨rfl, zW, c21, FO, c23, hs_, rV⟩
  refine ⟨_, rfl, ?_⟩
  have az := oK hs_
  have aG : ae (Below base w w2) := ⟨((aH HB.out)).trans rV⟩
  clear HS HB hs_ rV FN; have HS := az; have HB := aG; clear az aG
  refine hK.out _ _ ?_
  clear hK K
  refine fw 160 ?_
  refine fA (by kernel_rfl) ?_
  go_upto_region 15 with fail
  refine dL (n := 19) (S := fun w' => w'.cell? ⟨tp, 0, none⟩ = some (.slice (some ⟨jE, 0, none⟩) tks.length ja) /\ w'.cell? ⟨tp, 1, none⟩ = some (.slice (some ⟨jF, 0, none⟩) tvs.length jk)) (ds := [16, 18]) (bt 19 0) (by kernel_rfl) rfl rfl ⟨(aa.z0 (aa.drew HS.out) 3 rfl), (aa.z1 (aa.drew HS.out) 3 rfl)⟩ (fun hHeld => ?_)
  refine aQ 0 162 1 ?_
  refine aQ 1 163 3 ?_
  refine aQ 2 164 7 ?_
  refine aQ 4 166 23 ?_
  refine aQ 5 167 55 ?_
  refine aQ 6 168 119 ?_
  refine aQ 7 169 247 ?_
  refine aQ 9 171 759 ?_
  refine aQ 10 172 1783 ?_
  refine gF 3 165 1791 hHeld ?_
  refine gF 8 170 2047 hHeld ?_
  refine jm 11 (some 173) 4095 (fun K hK => ?_)
  have FN := FR (aa.ky (aa.drew HS.out) [9, 10, 11, 0, 1, 2, 3, 4, 5, 6, 7, 8, 12, 13, 14, 15] (by decide))
  refine wm Try.func131 #[bO rp, .int .i64 0] ?_
  with_reducible refine (zC (i := 0) FN PL.out PM.out FV.out FW.out (by omega) (eY eB HB)).mono ?_
  rintro e w3 ⟨rfl, FJ, FL, Vu, Vv, hs_, rV⟩
  refine ⟨_, rfl, ?_⟩
  have az := oK hs_
  have aG : ae (Below base w w3) := ⟨((aH HB.out)).trans rV⟩
  clear HS HB hs_ rV FN; have HS := az; have HB := aG; clear az aG
  have zs0 := iY (aa.sr HS.out 7 rfl) qb.out
  have kJ := ik (aa.sr HS.out 7 rfl) (Nat.lt_of_le_of_lt (Nat.zero_le _) qb.out.1) i
  have Vm := iY (aa.sr HS.out 8 rfl) o7.out
  have Vn := ik (aa.sr HS.out 8 rfl) (Nat.lt_of_le_of_lt (Nat.zero_le _) o7.out.1) i
  refine hK.out _ _ ⟨(aa.z0 HS.out 6 rfl), (aa.z1 HS.out 6 rfl)⟩ (fun hHeld => ?_)
  clear hK K
  refine fw 173 ?_
  refine aQ 12 161 8191 ?_
  refine aQ 13 174 16383 ?_
  refine aQ 14 175 32767 ?_
  refine aQ 15 176 65535 ?_
  refine wZ 16 none 131071 (fun K hK => ?_)
  refine iN (w1 := ?_) (by rfl) rfl ?_ ?_
  rotate_left
  ·go_simp
   rfl
  refine hK.out _ _ ?_
  clear hK K
  refine aQ 17 177 262143 ?_
  refine wZ 18 none 524287 (fun K hK => ?_)
  have Vb := iY (aa.sr (aa.rM HS.out 7 rfl i lx Dq.out) 8 rfl) o7.out
  refine iN (w1 := ?_) (by rfl) rfl ?_ ?_
  rotate_left
  ·go_simp
   rfl
  clear Vb
  refine hK.out _ _ ?_
  clear hK K
  refine fA (by kernel_rfl) ?_
  have az := jr (World.setCell (World.setCell w3 ⟨jE, i, none⟩ (.string lx)) ⟨jF, i, none⟩ (.string ly)) (aa.rM (aa.rM HS.out 7 rfl i lx Dq.out) 8 rfl i ly Gt.out)
  have aG : ae (Below base w (World.setCell (World.setCell w3 ⟨jE, i, none⟩ (.string lx)) ⟨jF, i, none⟩ (.string ly))) := ⟨((HB.out).setCell (p := ⟨jE, i, none⟩) (vL HS.out 7 rfl qb.out) _).setCell (p := ⟨jF, i, none⟩) (vL HS.out 8 rfl o7.out) _⟩
  generalize World.setCell (World.setCell w3 ⟨jE, i, none⟩ (.string lx)) ⟨jF, i, none⟩ (.string ly) = w4 at az aG ⊢
  clear HS HB zs0 kJ Vm Vn; have HS := az; have HB := aG; clear az aG
  go_upto_region 16 with fail
  by_cases wV : fo.length = 0
  ·skip
   have hl0 : fo = [] := List.length_eq_zero_iff.1 wV
   have Zi := A_ hl0
   have CJ := A_ ((aa.ky HS.out [0, 1, 2, 12, 13] (by decide)).Xf)
   have hbl := A_ (show decide (((NT.mk rp (.slice FJ l5.length FL) (.slice Vu l6.length Vv) (.slice xM fo.length crc) l5 l6 fo).erase.kids.length : Int) = 0) = true from decide_eq_true (by show ((NT.aD fo).length : Int) = 0; rw [aN, List.length_map]; omega))
   go_wp2_with (first | (go_at_call 99; (with_reducible refine (dU.dQ true hbl.out _ ?aj).mono ?_); (case aj => repeat (first | exact CJ.out | (with_reducible refine Rd.drewN ?_ _) | (with_reducible refine Rd.drew ?_))); rintro e w' ⟨rfl, ⟨nd, rfl⟩⟩))
   generalize hW : World.drewN _ _ = w5
   have az : ae (aa w5 base [qW 101 rp FJ l5.length FL Vu l6.length Vv xM fo.length crc, lW FJ FL l5, lW Vu Vv l6, qW 101 lp zW l1.length c21 FO l2.length c23 xL lcs.length oM, lW zW c21 l1, lW FO c23 l2, qW 101 tp (mF jE) tks.length ja (mF jF) tvs.length jk (some kS) aZ.length jC, yM (mF jE) tks.length ja l3, yM (mF jF) tvs.length jk l4, rY 74 (some kS) jC aZ, rY 74 xL oM lcs, (NT.bI 101 74 lcs), rY 74 xM crc fo, (NT.bI 101 74 fo), GP, GQ]) := ⟨by rw [<- hW]; exact aa.drewN HS.out _⟩
   have aG : ae (Below base w w5) := ⟨by rw [<- hW]; exact ah HB.out _⟩
   clear HS HB CJ hbl hW; have HS := az; have HB := aG; clear az aG
   refine bodyPost_ret (results_none rfl _ _ _) rfl ?_
   have hS := FR (aa.ky HS.out [6, 7, 8, 9, 3, 4, 5, 10, 11, 0, 1, 2, 12, 13, 14, 15] (by decide))
   refine ⟨rfl, NT.mk tp (.slice (some ⟨jE, 0, none⟩) tks.length ja) (.slice (some ⟨jF, 0, none⟩) tvs.length jk) (.slice (some kS) aZ.length jC) l3 l4 (P ++ NT.mk lp (.slice zW l1.length c21) (.slice FO l2.length c23) (.slice xL lcs.length oM) l1 l2 lcs :: NT.mk rp (.slice FJ l5.length FL) (.slice Vu l6.length Vv) (.slice xM fo.length crc) l5 l6 fo :: Q), rfl, ?_, shut_pair rfl ?_, HB.out⟩
   ·have e0 := HRR.out
    rw [HT.out] at e0
    rw [e0]
    show PT.mk l3 l4 (NT.aD (P ++ _ :: _ :: Q)) = Ea (PT.mk tks tvs (NT.aD (P ++ _ :: _ :: Q))) i
    simp only [aN, List.map_append, List.map_cons]
    rw [zt (by rw [List.length_map]; exact HP.out)]
    have Ku := oF.out
    subst Ku
    have Kv := sS.out
    subst Kv
    have Kw := Dq.out
    subst Kw
    have Ky := Gt.out
    subst Ky
    have Kz := FV.out
    subst Kz
    have KA := FW.out
    subst KA
    have PO := qb.out.2
    subst PO
    have ety := o7.out.2
    subst ety
    have U6 := PL.out.2
    subst U6
    have U7 := PM.out.2
    subst U7
    have q1 : bz dO dO.length (bF tks i) = dO ++ [(bF tks i)] := Dj rfl
    have q2 : bz kG dO.length (bF tvs i) = kG ++ [(bF tvs i)] := Dj HV.out.1.symm
    rw [q1, q2]
    have ec := Zi.out
    subst ec
    simp [um, vK, NT.erase, NT.aD, PT.keys, PT.vals, PT.kids]
   ·unfold kL
    simp only [NT.keys, NT.vals, NT.kids, NT.p, NT.kv, NT.vv, NT.cv]
    have hq : ∀ a b : NT, a.p = lp -> b.p = rp -> ptrs (P ++ a :: b :: Q) = ptrs aZ := fun a b ha hb => by rw [HT.out]; simp only [ptrs, List.map_append, List.map_cons, ha, hb]; rfl
    rw [hq _ _ rfl rfl, <- PI.out, <- PK.out]
    exact hS
  ·skip
   have hrc : 0 < fo.length /\ fo.length <= 1001 := by have := Vo.out; omega
   have hlc : lcs.length <= 1001 := by have := Vo.out; omega
   obtain ⟨s, hs0⟩ : ∃ s, fo[0]? = some s := ⟨fo[0], List.getElem?_eq_getElem hrc.1⟩
   obtain ⟨sp, hsp⟩ : ∃ p, s.p = p := ⟨_, rfl⟩
   have jl : ae (fo[0]? = some s /\ s.p = sp) := ⟨hs0, hsp⟩
   clear hs0 hsp
   obtain ⟨QT, rfl⟩ := gq (aa.q HS.out 12 rfl) (by omega)
   obtain ⟨Vw, ZE⟩ := oI (lcs ++ [s])
   obtain ⟨l29, ZF⟩ := oI (fo.drop 1)
   have Zl : ae (lcs.map NT.p ++ [sp] = Vw.map NT.p) := ⟨by rw [ZE.out, List.map_append, <- jl.out.2]; rfl⟩
   have CJ := A_ ((aa.ky HS.out [0, 1, 2, 12, 13] (by decide)).Xf)
   have hbl := A_ (show decide (((NT.mk rp (.slice FJ l5.length FL) (.slice Vu l6.length Vv) (.slice (some QT) fo.length crc) l5 l6 fo).erase.kids.length : Int) = 0) = false from decide_eq_false (by show ((NT.aD fo).length : Int) ≠ 0; rw [aN, List.length_map]; omega))
   go_upto_region 17 with (first | (go_at_call 99; (with_reducible refine (dU.dQ false hbl.out _ ?aj).mono ?_); (case aj => repeat (first | exact CJ.out | (with_reducible refine Rd.drewN ?_ _) | (with_reducible refine Rd.drew ?_))); rintro e w' ⟨rfl, ⟨nd, rfl⟩⟩))
   generalize hW : World.drewN _ _ = w5
   have az : ae (aa w5 base [qW 101 rp FJ l5.length FL Vu l6.length Vv (some QT) fo.length crc, lW FJ FL l5, lW Vu Vv l6, qW 101 lp zW l1.length c21 FO l2.length c23 xL lcs.length oM, lW zW c21 l1, lW FO c23 l2, qW 101 tp (mF jE) tks.length ja (mF jF) tvs.length jk (some kS) aZ.length jC, yM (mF jE) tks.length ja l3, yM (mF jF) tvs.length jk l4, rY 74 (some kS) jC aZ, rY 74 xL oM lcs, (NT.bI 101 74 lcs), rY 74 (some QT) crc fo, (NT.bI 101 74 fo), GP, GQ]) := ⟨by rw [<- hW]; exact aa.drewN HS.out _⟩
   have aG : ae (Below base w w5) := ⟨by rw [<- hW]; exact ah HB.out _⟩
   clear HS HB CJ hbl hW; have HS := az; have HB := aG; clear az aG
   have b30 := dN ((0 : Int) < (fo.length : Int))
   have b31 := dN (0 < fo.length)
   have sd38 : ((lcs.map NT.p).length + 1) * 8 <= 140737488355328 := by rw [List.length_map]; omega
   refine dL (n := 16) (S := fun w' => w'.cell? ⟨lp, 2, none⟩ = some (.slice xL lcs.length oM) /\ w'.cell? ⟨rp, 2, none⟩ = some (.slice (some QT) fo.length crc) /\ w'.cell? QT = some (bO sp)) (ds := [15]) (bt 16 0) (by kernel_rfl) rfl rfl ⟨(aa.z2 (aa.drew HS.out) 3 rfl), (aa.z2 (aa.drew HS.out) 0 rfl), (wJ (aa.gX (aa.drew HS.out) 12 rfl) jl.out)⟩ (fun hHeld => ?_)
   refine aQ 0 181 1 ?_
   refine aQ 1 182 3 ?_
   refine aQ 2 183 7 ?_
   refine aQ 3 184 15 ?_
   refine aQ 5 186 47 ?_
   refine aQ 6 187 111 ?_
   refine aQ 7 188 239 ?_
   refine gF 4 185 255 hHeld ?_
   refine gF 8 189 511 hHeld ?_
   refine aQ 9 190 1023 ?_
   refine gF 10 191 2047 hHeld ?_
   refine jm 11 (some 192) 4095 (fun K hK => ?_)
   refine Kd.bB gL (w0 := w) base 74 (by rfl) (N := 192) rfl (xs := [sp]) (inner := [bO sp]) (ok := fun _ => True) (okp := fun _ => False) ?hr (Kd.bH (enc := bO) [sp]) (fun _ h => h.elim) trivial (aH HB.out) (eY eB HB) (by simp) ?_
   (case hr => first | (go_simp; done) | (go_simp; rfl))
   intro v32 w6 ho hb hg hn
   obtain ⟨A33, c34, rfl⟩ : ∃ A c, v32 = .slice A 1 c := Kd.au ho
   have az := oK (aa.rA (aa.drew HS.out) (Ji ho) hg hn)
   have aG : ae (Below base w w6) := ⟨hb⟩
   clear HS HB ho hb hg hn; have HS := az; have HB := aG; clear az aG
   refine hK.out _ _ ⟨(aa.z2 HS.out 3 rfl), (aa.z2 HS.out 0 rfl), (wJ (aa.gX HS.out 12 rfl) jl.out)⟩ (fun hHeld => ?_)
   clear hK K
   refine fw 192 ?_
   refine jm 12 (some 193) 8191 (fun K hK => ?_)
   refine lX (w0 := w) base (by rfl) (.tmp 185) (.tmp 192) 99 74 rfl yY nH (.slice xL lcs.length oM) (lcs.map NT.p) [sp] A33 1 c34 rfl rfl (aa.q HS.out 10 rfl) (aaq HS.out 16 rfl) HB.out (eY eB HB) sd38 ?_
   intro u35 w7 ho hb hg hat
   rw [Zl.out] at ho
   obtain ⟨ZG, c37, IJ⟩ := Kd.y8 ho
   rw [List.length_map] at IJ
   obtain ⟨rfl, _⟩ := IJ
   have az := oK (aa.Tm 10 HS.out rfl ho hg hat)
   have aG : ae (Below base w w7) := ⟨hb⟩
   clear HS HB ho hb hg hat; have HS := az; have HB := aG; clear az aG
   have zs0 := aa.z2 HS.out 3 rfl
   have kJ := aa.f HS.out 3 rfl 2
   refine hK.out _ _ ⟨(aa.z2 HS.out 3 rfl), (aa.z2 HS.out 0 rfl), (wJ (aa.gX HS.out 12 rfl) jl.out)⟩ (fun hHeld => ?_)
   clear hK K
   refine fw 193 ?_
   refine aQ 13 194 16383 ?_
   refine aQ 14 195 32767 ?_
   refine wZ 15 none 65535 (fun K hK => ?_)
   refine iN (w1 := ?_) (by rfl) rfl ?_ ?_
   rotate_left
   ·go_simp
    rfl
   refine hK.out _ _ ?_
   clear hK K
   refine fA (by kernel_rfl) ?_
   have az := jr (World.setCell w7 ⟨lp, 2, none⟩ (.slice ZG Vw.length c37)) (aa.zo HS.out 3 rfl (.slice ZG Vw.length c37))
   have aG : ae (Below base w (World.setCell w7 ⟨lp, 2, none⟩ (.slice ZG Vw.length c37))) := ⟨(HB.out).setCell (p := ⟨lp, 2, none⟩) (aa.ge HS.out 3 rfl) _⟩
   generalize World.setCell w7 ⟨lp, 2, none⟩ (.slice ZG Vw.length c37) = w8 at az aG ⊢
   clear HS HB zs0 kJ; have HS := az; have HB := aG; clear az aG
   go_upto_region 18 with fail
   obtain ⟨i0_, Be, _, Gu, _⟩ := info_parts nH
   have PS := TJ (P := Try.prog) 99 74 .i64 yY Be 1 Gu (some QT) fo.length crc 1 (by omega) (by omega)
   simp only [show ((1 : Int)).toNat = 1 from by omega] at PS
   obtain ⟨RN, ZH⟩ : ∃ A : Option Addr, A = (if crc = 1 then (some QT) else ((some QT) : Option Addr).map (·.add (1 * 1))) := ⟨_, rfl⟩
   obtain ⟨ZI, ZJ⟩ : ∃ c, c = crc - 1 := ⟨_, rfl⟩
   rw [<- ZH, <- ZJ] at PS
   have HA40 := A_ ZH
   have Hc41 := A_ ZJ
   clear ZH ZJ
   clear Be Gu
   have gy := (aa.z2 HS.out 0 rfl)
   have zs0 := aa.z2 HS.out 0 rfl
   have kJ := aa.f HS.out 0 rfl 2
   go_wp2_with fail
   have az := jr (World.setCell w8 ⟨rp, 2, none⟩ (.slice RN (fo.length - 1) ZI)) (aar (aa.zo HS.out 0 rfl (.slice RN (fo.length - 1) ZI)) 12 rfl ZF.out (by omega) HA40.out rfl Hc41.out)
   have aG : ae (Below base w (World.setCell w8 ⟨rp, 2, none⟩ (.slice RN (fo.length - 1) ZI))) := ⟨(HB.out).setCell (p := ⟨rp, 2, none⟩) (aa.ge HS.out 0 rfl) _⟩
   generalize World.setCell w8 ⟨rp, 2, none⟩ (.slice RN (fo.length - 1) ZI) = w9 at az aG ⊢
   clear HS HB gy zs0 kJ; have HS := az; have HB := aG; clear az aG
   clear PS
   have WK : ae (NT.bI 101 74 fo = s.fB 101 74 ++ NT.bI 101 74 l29) := ⟨by rw [ZF.out, ma 101 74 jl.out.1, List.take_zero, NT.bI, List.nil_append]⟩
   have az : ae (aa w9 base [qW 101 rp FJ l5.length FL Vu l6.length Vv RN (fo.length - 1) ZI, lW FJ FL l5, lW Vu Vv l6, qW 101 lp zW l1.length c21 FO l2.length c23 ZG Vw.length c37, lW zW c21 l1, lW FO c23 l2, qW 101 tp (mF jE) tks.length ja (mF jF) tvs.length jk (some kS) aZ.length jC, yM (mF jE) tks.length ja l3, yM (mF jF) tvs.length jk l4, rY 74 (some kS) jC aZ, rY 74 ZG c37 Vw, (NT.bI 101 74 lcs), qy_ 74 RN (fo.length - 1) ZI l29, (NT.bI 101 74 l29), GP, GQ, [.own 74 (.slice A33 1 c34) (encs bO [sp])], (s.fB 101 74)]) := ⟨aa.aao HS.out 13 (congrArg some WK.out)⟩
   have aG : ae (Below base w w9) := ⟨HB.out⟩
   clear HS HB; have HS := az; have HB := aG; clear az aG
   refine bodyPost_ret (results_none rfl _ _ _) rfl ?_
   have hS := FR (aa.ky HS.out [6, 7, 8, 9, 3, 4, 5, 10, 11, 17, 0, 1, 2, 12, 13, 14, 15] (by decide))
   refine ⟨rfl, NT.mk tp (.slice (some ⟨jE, 0, none⟩) tks.length ja) (.slice (some ⟨jF, 0, none⟩) tvs.length jk) (.slice (some kS) aZ.length jC) l3 l4 (P ++ NT.mk lp (.slice zW l1.length c21) (.slice FO l2.length c23) (.slice ZG Vw.length c37) l1 l2 Vw :: NT.mk rp (.slice FJ l5.length FL) (.slice Vu l6.length Vv) (.slice RN (fo.length - 1) ZI) l5 l6 l29 :: Q), rfl, ?_, shut_pair rfl ?_, HB.out⟩
   ·have e0 := HRR.out
    rw [HT.out] at e0
    rw [e0]
    show PT.mk l3 l4 (NT.aD (P ++ _ :: _ :: Q)) = Ea (PT.mk tks tvs (NT.aD (P ++ _ :: _ :: Q))) i
    simp only [aN, List.map_append, List.map_cons]
    rw [zt (by rw [List.length_map]; exact HP.out)]
    have Ku := oF.out
    subst Ku
    have Kv := sS.out
    subst Kv
    have Kw := Dq.out
    subst Kw
    have Ky := Gt.out
    subst Ky
    have Kz := FV.out
    subst Kz
    have KA := FW.out
    subst KA
    have el28 := ZE.out
    subst el28
    have el29 := ZF.out
    subst el29
    have PO := qb.out.2
    subst PO
    have ety := o7.out.2
    subst ety
    have U6 := PL.out.2
    subst U6
    have U7 := PM.out.2
    subst U7
    have q1 : bz dO dO.length (bF tks i) = dO ++ [(bF tks i)] := Dj rfl
    have q2 : bz kG dO.length (bF tvs i) = kG ++ [(bF tvs i)] := Dj HV.out.1.symm
    rw [q1, q2]
    have hn : ¬ fo = [] := fun h => wV (by rw [h]; rfl)
    have hs' : (fo.map NT.erase).head? = some s.erase := by rw [List.head?_eq_getElem?, List.getElem?_map, jl.out.1]; rfl
    simp [um, vK, NT.erase, aN, PT.keys, PT.vals, PT.kids, fJ, hn, List.map_drop, List.eraseIdx_zero]
    rw [jl.out.1]
    rfl
   ·unfold kL
    simp only [NT.keys, NT.vals, NT.kids, NT.p, NT.kv, NT.vv, NT.cv]
    have hq : ∀ a b : NT, a.p = lp -> b.p = rp -> ptrs (P ++ a :: b :: Q) = ptrs aZ := fun a b ha hb => by rw [HT.out]; simp only [ptrs, List.map_append, List.map_cons, ha, hb]; rfl
    have hc : NT.bI 101 74 Vw = NT.bI 101 74 lcs ++ s.fB 101 74 := by rw [ZE.out, jP, NT.bI, NT.bI, List.append_nil]
    rw [hq _ _ rfl rfl, <- PI.out, <- PK.out, hc]
    unfold aa at hS ⊢
    simp only [List.flatten_cons, List.append_assoc] at hS ⊢
    exact hS
set_option maxHeartbeats 8000000
set_option maxRecDepth 100000
theorem Ez.calls (t l r : NT) (P Q : List NT) (i j : Nat) (hkd : ∃ s : NT, t.kids[i]? = some s /\ s.keys.length < 2) (hno : i = 0 ∨ 0 < i /\ ∃ s : NT, t.kids[i - 1]? = some s /\ s.keys.length <= 2) (hnb : i + 1 = t.kids.length ∨ i + 1 < t.kids.length /\ ∃ s : NT, t.kids[i + 1]? = some s /\ s.keys.length <= 2) (hm : i = j ∨ (i = j + 1 /\ j + 2 = t.kids.length)) (ht : t.kids = P ++ l :: r :: Q) (hP : P.length = j) (hl : Jo l.keys l.vals l.kids.length) (hr : Jo r.keys r.vals r.kids.length) (hj : j < t.keys.length /\ t.keys.length <= 1000 /\ t.vals.length = t.keys.length /\ t.kids.length = t.keys.length + 1)
  (base : Nat) (L : List Ck) (w : World) (hs : Sat w base (t.fB 101 74 ++ L)) (hbs : base <= w.heap.size) :
  Calls Try.prog 133 #[bO t.p, .int .i64 (i : Int)] w (WR w base 101 74 t L (xQ t.erase j)) := by
 have Vq : ae (i = 0 ∨ 0 < i /\ ∃ (sp n : Nat) (A : Option Addr) (c : Nat), Lp t.kids (i - 1) sp /\ n <= 2 /\ w.cell? ⟨sp, 0, none⟩ = some (.slice A n c)) := ⟨by
  rcases hno with h | ⟨h, s, h1, h2⟩
  ·exact .inl h
  ·obtain ⟨A, c, h3⟩ := pR hs h1
   exact .inr ⟨h, s.p, s.keys.length, A, c, ⟨s, h1, rfl⟩, h2, h3⟩⟩
 clear hno
 have Nc : ae (∃ (sp n : Nat) (A : Option Addr) (c : Nat), Lp t.kids i sp /\ n < 2 /\ w.cell? ⟨sp, 0, none⟩ = some (.slice A n c)) := ⟨by
  obtain ⟨s, h1, h2⟩ := hkd
  obtain ⟨A, c, h3⟩ := pR hs h1
  exact ⟨s.p, s.keys.length, A, c, ⟨s, h1, rfl⟩, h2, h3⟩⟩
 clear hkd
 have HNB : ae (i + 1 = t.kids.length ∨ i + 1 < t.kids.length /\ ∃ (sp n : Nat) (A : Option Addr) (c : Nat), Lp t.kids (i + 1) sp /\ n <= 2 /\ w.cell? ⟨sp, 0, none⟩ = some (.slice A n c)) := ⟨by
  rcases hnb with h | ⟨h, s, h1, h2⟩
  ·exact .inl h
  ·obtain ⟨A, c, h3⟩ := pR hs h1
   exact .inr ⟨h, s.p, s.keys.length, A, c, ⟨s, h1, rfl⟩, h2, h3⟩⟩
 clear hnb
 cases t with | mk tp Gq Gr Gs tks tvs aZ =>
 cases l with | mk lp MZ M0 M3 dO kG lcs =>
 cases r with | mk rp M4 M5 rcv mP lS fo =>
 have h0 := open_pair ht hs
 unfold kL at h0
 simp only [NT.keys, NT.vals, NT.kids, NT.p, NT.kv, NT.vv, NT.cv] at ht hl hr hj h0 hm Nc Vq HNB ⊢
 clear hs
 unfold Jo at hl hr
 obtain ⟨hl1, hl2, hl3⟩ := hl
 obtain ⟨hr1, hr2, hr3⟩ := hr
 obtain ⟨hj1, hj2, M6, PH⟩ := hj
 have hil : (j + 1) < aZ.length := by rw [ht, List.length_append, hP]; simp only [List.length_cons]; omega
 have hij : (j + 1) = j + 1 := by omega
 have HP := A_ hP
 have HT := A_ ht
 have hkl : aZ[j]? = some (NT.mk lp MZ M0 M3 dO kG lcs) /\ (NT.mk lp MZ M0 M3 dO kG lcs).p = lp := ⟨by rw [ht]; exact Ri hP, rfl⟩
 have hkr : aZ[(j + 1)]? = some (NT.mk rp M4 M5 rcv mP lS fo) /\ (NT.mk rp M4 M5 rcv mP lS fo).p = rp := ⟨by rw [ht, hij]; exact Rj hP, rfl⟩
 have Bb := A_ hkl
 have Sr := A_ hkr
 clear hkl hkr ht hij
 obtain ⟨R, hR⟩ : ∃ R, R = xQ (NT.mk tp Gq Gr Gs tks tvs aZ).erase j := ⟨_, rfl⟩
 rw [<- hR]
 have HRR := A_ hR
 clear hR
 obtain ⟨tF, ja, rfl⟩ := Kd.au (h0.sr 1 rfl)
 obtain ⟨jE, rfl⟩ := dP (h0.sr 1 rfl) (by omega)
 obtain ⟨uF, jk, rfl⟩ := Kd.au (h0.sr 2 rfl)
 obtain ⟨jF, rfl⟩ := dP (h0.sr 2 rfl) (by omega)
 obtain ⟨Cc, jC, rfl, _, _⟩ := eO (h0.q 3 rfl)
 obtain ⟨kS, rfl⟩ := gq (h0.q 3 rfl) (by omega)
 obtain ⟨IG, wo, rfl⟩ := Kd.au (h0.sr 5 rfl)
 obtain ⟨Dn, uJ, rfl⟩ := Kd.au (h0.sr 6 rfl)
 obtain ⟨xL, oM, rfl, _, _⟩ := eO (h0.q 7 rfl)
 obtain ⟨Kt, II, rfl⟩ := Kd.au (h0.sr 10 rfl)
 obtain ⟨Dp, CY, rfl⟩ := Kd.au (h0.sr 11 rfl)
 obtain ⟨xM, crc, rfl, _, _⟩ := eO (h0.q 12 rfl)
 obtain ⟨GP, FH⟩ : ∃ G, G = NT.bI 101 74 P := ⟨_, rfl⟩
 obtain ⟨GQ, FI⟩ : ∃ G, G = NT.bI 101 74 Q ++ L := ⟨_, rfl⟩
 rw [<- FH, <- FI] at h0
 have HS := A_ h0
 have HB := A_ (Below.refl base w)
 have eB := A_ hbs
 have PI := A_ FH
 have PK := A_ FI
 clear h0 hbs FH FI hP
 have hrc : fo.length <= 1001 := by omega
 have hlc : lcs.length <= 1001 := by omega
 have hrv : lS.length <= 1000 := by omega
 have hlv : kG.length <= 1000 := by omega
 have Vl : j < tvs.length /\ tvs.length <= 1000 := by omega
 have htc : j + 1 < aZ.length /\ aZ.length <= 1001 /\ i < aZ.length := by omega
 clear hl2 hl3 hr2 hr3 M6 PH
 obtain ⟨tx, htx⟩ : ∃ x, bF tks j = x := ⟨_, rfl⟩
 have qb : ae (j < tks.length /\ bF tks j = tx) := ⟨by omega, htx⟩
 clear htx
 obtain ⟨ty, hty⟩ : ∃ x, bF tvs j = x := ⟨_, rfl⟩
 have o7 : ae (j < tvs.length /\ bF tvs j = ty) := ⟨by omega, hty⟩
 clear hty
 obtain ⟨l1, oF⟩ := oI (dO ++ [tx] ++ mP)
 obtain ⟨l2, sS⟩ := oI (kG ++ [ty] ++ lS)
 obtain ⟨l3, Dq⟩ := oI (tks.eraseIdx j)
 obtain ⟨l4, Gt⟩ := oI (tvs.eraseIdx j)
 obtain ⟨l5, FV⟩ := oI (lcs ++ fo)
 obtain ⟨l6, FW⟩ := oI (aZ.eraseIdx (j + 1))
 go_enter Try.func133, Try.ntmps133
 obtain ⟨kp, kn, Ak, ck, ⟨sk, hk1, hk4⟩, hk2, hk3⟩ := Nc.out
 have c0_ := mZ ((2 : Int) <= (kn : Int))
 have Vr := dN (0 <= (i : Int))
 have Xq := dN ((i : Int) < (aZ.length : Int))
 have Zm := dN (i < aZ.length)
 have uG := aa.z2 HS.out 0 rfl
 have Ce := il (aa.gX HS.out 3 rfl) (And.intro hk1 hk4)
 go_upto_if 26 with fail
 clear Ce hk3 hk1 hk4 c0_ hk2
 go_cut [5] from 27 to 41 (fun v_ wc => w = wc)
 case first =>
  skip
  rcases Vq.out with h0 | ⟨h0, s0p, ls, As, cs, ⟨s0, hs1, hs4⟩, hs2, hs3⟩
  ·have c_ : (0 < (i : Int)) = False := eq_false (by omega)
   have Zn := mZ ((0 : Int) < (i : Int))
   go_wp2_with fail
   go_meet
   case rel => rfl
  ·have c_ := pF ((0 : Int) < (i : Int))
   have Vr := dN (1 <= (i : Int))
   have Xq := dN (((i : Int) - 1) < (aZ.length : Int))
   have Zm := dN ((i - 1) < aZ.length)
   have Zn := mZ ((2 : Int) < (ls : Int))
   have uG := aa.z2 HS.out 0 rfl
   have Ce := il (aa.gX HS.out 3 rfl) (And.intro hs1 hs4)
   go_wp2_with fail
   go_meet
   case rel => rfl
 case rest =>
  as_aux_lemma =>
  have ew := hcut
  subst ew
  go_upto_if 125 with fail
  go_cut [7] from 125 to 140 (fun v_ wc => w = wc)
  case first =>
   skip
   rcases HNB.out with h0 | ⟨h0, s0p, ls, As, cs, ⟨s0, hs1, hs4⟩, hs2, hs3⟩
   ·have c_ := mZ (((i : Int) + 1) < (aZ.length : Int))
    go_wp2_with fail
    go_meet
    case rel => rfl
   ·have c_ := pF (((i : Int) + 1) < (aZ.length : Int))
    have Vr := dN (0 <= ((i : Int) + 1))
    have Xq := dN (((i : Int) + 1) < (aZ.length : Int))
    have Zm := dN ((i + 1) < aZ.length)
    have Zn := mZ ((2 : Int) < (ls : Int))
    have uG := aa.z2 HS.out 0 rfl
    have Ce := yl (aa.gX HS.out 3 rfl) (And.intro hs1 hs4) (by omega)
    go_wp2_with fail
    go_meet
    case rel => rfl
  case rest =>
   as_aux_lemma =>
   have ew := hcut
   subst ew
   have hmin : min (i : Int) ((aZ.length : Int) - 2) = (j : Int) := by omega
   go_upto_region 20 with fail
   clear hm hmin uG Vr Xq Zm
   have b7 := dN (0 <= (j : Int))
   have b8 := dN ((j : Int) < (aZ.length : Int))
   have b9 := dN (j < aZ.length)
   have b10 := dN (0 <= ((j : Int) + 1))
   have b11 := dN (((j : Int) + 1) < (aZ.length : Int))
   have b12 := dN ((j + 1) < aZ.length)
   have q13 : wrap64 ((j : Int) + 1) = ((j : Int) + 1) := jW (by omega)
   refine dL (n := 17) (S := fun w' => w'.cell? ⟨tp, 2, none⟩ = some (.slice (some kS) aZ.length jC) /\ w'.cell? (kS.add j) = some (bO lp) /\ w'.cell? ⟨kS.block, kS.off + (j + 1), none⟩ = some (bO rp)) (ds := []) (bt 17 0) (by kernel_rfl) rfl rfl ⟨(aa.z2 (aa.drew HS.out) 0 rfl), (il (aa.gX (aa.drew HS.out) 3 rfl) Bb.out), (yl (aa.gX (aa.drew HS.out) 3 rfl) Sr.out (Nat.succ_pos _))⟩ (fun hHeld => ?_)
   refine aQ 0 212 1 ?_
   refine aQ 1 213 3 ?_
   refine aQ 2 214 7 ?_
   refine aQ 4 216 23 ?_
   refine aQ 7 219 151 ?_
   refine aQ 8 220 407 ?_
   refine aQ 9 221 919 ?_
   refine aQ 11 223 2967 ?_
   refine aQ 12 224 7063 ?_
   refine gF 3 215 7071 hHeld ?_
   refine aQ 5 217 7103 ?_
   refine gF 6 218 7167 hHeld ?_
   refine aQ 15 8 39935 ?_
   refine gF 10 222 40959 hHeld ?_
   refine aQ 13 225 49151 ?_
   refine gF 14 226 65535 hHeld ?_
   refine aQ 16 9 131071 ?_
   refine fA (by kernel_rfl) ?_
   clear q13
   have az := jr (World.drew w) ((aa.drew HS.out))
   have aG : ae (Below base w (World.drew w)) := ⟨(aH HB.out)⟩
   generalize World.drew w = w2 at az aG ⊢
   clear HS HB; have HS := az; have HB := aG; clear az aG
   go_upto_region 21 with fail
   go_upto_region 22 with (first | (go_at_call 131; have FN := FR (aa.ky HS.out [0, 1, 2, 3, 4, 5, 6, 7, 8, 9, 10, 11, 12, 13, 14, 15] (by decide)); (with_reducible refine (zC (i := j) FN qb.out o7.out Dq.out Gt.out (by omega) (eY eB HB)).mono ?_); rintro e w3 ⟨rfl, A14, c15, A16, c17, hs_, rV⟩; have az := oK hs_; have aG : ae (Below base w w3) := ⟨(HB.out).trans rV⟩; clear HS HB hs_ rV FN; have HS := az; have HB := aG; clear az aG))
   refine dL (n := 32) (S := fun w' => w'.cell? ⟨lp, 0, none⟩ = some (.slice IG dO.length wo) /\ w'.cell? ⟨rp, 0, none⟩ = some (.slice Kt mP.length II) /\ w'.cell? ⟨lp, 1, none⟩ = some (.slice Dn kG.length uJ) /\ w'.cell? ⟨rp, 1, none⟩ = some (.slice Dp lS.length CY)) (ds := [28, 31]) (bt 32 0) (by kernel_rfl) rfl rfl ⟨(aa.z0 (aa.drew HS.out) 4 rfl), (aa.z0 (aa.drew HS.out) 9 rfl), (aa.z1 (aa.drew HS.out) 4 rfl), (aa.z1 (aa.drew HS.out) 9 rfl)⟩ (fun hHeld => ?_)
   refine aQ 0 233 1 ?_
   refine aQ 1 234 3 ?_
   refine aQ 2 235 7 ?_
   refine aQ 3 236 15 ?_
   refine aQ 4 237 31 ?_
   refine aQ 6 239 95 ?_
   refine aQ 8 241 351 ?_
   refine aQ 9 242 863 ?_
   refine aQ 10 243 1887 ?_
   refine aQ 14 247 18271 ?_
   refine aQ 15 248 51039 ?_
   refine aQ 16 249 116575 ?_
   refine aQ 18 251 378719 ?_
   refine aQ 20 253 1427295 ?_
   refine aQ 21 254 3524447 ?_
   refine aQ 22 255 7718751 ?_
   refine gF 5 238 7718783 hHeld ?_
   refine gF 11 244 7720831 hHeld ?_
   refine gF 17 250 7851903 hHeld ?_
   refine gF 23 256 16240511 hHeld ?_
   refine GN (σ := Value × Value × Value × Value × Value) 7 (bt 32 33554431) (fun z => [(240, z.1), (245, z.2.1), (246, z.2.2.1), (252, z.2.2.2.1), (257, z.2.2.2.2)]) (fun z w' => Below base w w' /\ aa w' base [qW 101 tp A14 l3.length c15 A16 l4.length c17 (some kS) aZ.length jC, lW A14 c15 l3, lW A16 c17 l4, rY 74 (some kS) jC aZ, qW 101 lp IG dO.length wo Dn kG.length uJ xL lcs.length oM, lW IG wo dO, lW Dn uJ kG, rY 74 xL oM lcs, (NT.bI 101 74 lcs), qW 101 rp Kt mP.length II Dp lS.length CY xM fo.length crc, lW Kt II mP, lW Dp CY lS, rY 74 xM crc fo, (NT.bI 101 74 fo), GP, GQ, [txt z.2.2.1 l1], [txt z.2.2.2.1 [ty]], [.own 38 z.2.2.2.2 [.slice Dn kG.length uJ, z.2.2.2.1, .slice Dp lS.length CY]]]) ?_ ?_
   rotate_left
   ·intro iW
    as_aux_lemma =>
    refine IX 7 19 (some 240) (some 252) 16240639 16764799 (fun K hK => ?_) (fun K hK => ?_)
    ·skip
     as_aux_lemma =>
     refine Kd.bB Kd.string (w0 := w) base 9 (by rfl) (N := 240) rfl (xs := [tx]) (inner := [.string tx]) (ok := fun _ => True) (okp := fun _ => False) ?hr (Kd.bH (enc := Value.string) [tx]) (fun _ h => h.elim) trivial (aH HB.out) (eY eB HB) (by simp) ?_
     (case hr => first | (go_simp; done) | (go_simp; rfl))
     intro vb1 Ub dW hbb hgb hnb
     have oJ := A_ hbb
     have oL := A_ (aa.lit (aa.drew HS.out) dW hgb hnb)
     obtain ⟨iw, iy, rfl⟩ : ∃ A c, vb1 = .slice A 1 c := Kd.au dW
     clear dW hbb hgb hnb
     refine hK.out _ _ ⟨(aa.z0 oL.out 4 rfl), (aa.z0 oL.out 9 rfl), (aa.z1 oL.out 4 rfl), (aa.z1 oL.out 9 rfl)⟩ (fun hHeld => ?_)
     clear hK K
     refine fw 240 ?_
     refine IX 12 19 (some 245) (some 252) 16244735 16764927 (fun K hK => ?_) (fun K hK => ?_)
     ·skip
      as_aux_lemma =>
      refine fK (w0 := w) base 38 3 (by rfl) (N := 245) rfl (xs := [.slice IG dO.length wo, .slice iw 1 iy, .slice Kt mP.length II]) rfl ?hr oJ.out (eY eB oJ) (by decide) ?_
      (case hr => first | (go_simp; done) | (go_simp; rfl))
      intro qp qw KF dW hbb hgb hnb
      have kE := A_ hbb
      have jg := A_ (aa.rA oL.out dW hgb hnb)
      clear dW hbb hgb hnb
      refine hK.out _ _ ⟨(aa.z0 jg.out 4 rfl), (aa.z0 jg.out 9 rfl), (aa.z1 jg.out 4 rfl), (aa.z1 jg.out 9 rfl)⟩ (fun hHeld => ?_)
      clear hK K
      refine fw 245 ?_
      refine IX 13 19 (some 246) (some 252) 16252927 16769023 (fun K hK => ?_) (fun K hK => ?_)
      ·skip
       as_aux_lemma =>
       refine wm Try.func140 #[.slice qp 3 qw] ?_
       with_reducible refine (Eu jg.out (ig := 17) (i0 := 5) (i1 := 16) (i2 := 10) rfl rfl rfl rfl oF.out (by show _ + 1 + _ <= _; omega)).mono ?_
       rintro e Gi ⟨kI, rfl, ho, hb⟩
       refine ⟨_, rfl, ?_⟩
       obtain ⟨CZ, C8, rfl⟩ := Kd.au ho
       have lu := A_ ((kE.out).trans (hb.mono (eY eB kE)))
       have iR := A_ (aa.gQ jg.out hb (eY eB kE) ho)
       clear ho hb
       refine hK.out _ _ ⟨(aa.z0 iR.out 4 rfl), (aa.z0 iR.out 9 rfl), (aa.z1 iR.out 4 rfl), (aa.z1 iR.out 9 rfl)⟩ (fun hHeld => ?_)
       clear hK K
       refine fw 246 ?_
       refine jm 19 (some 252) 16777215 (fun K hK => ?_)
       refine Kd.bB Kd.string (w0 := w) base 9 (by rfl) (N := 252) rfl (xs := [ty]) (inner := [.string ty]) (ok := fun _ => True) (okp := fun _ => False) ?hr (Kd.bH (enc := Value.string) [ty]) (fun _ h => h.elim) trivial lu.out (eY eB lu) (by simp) ?_
       (case hr => first | (go_simp; done) | (go_simp; rfl))
       intro uD WO dW hbb hgb hnb
       have wX := A_ hbb
       have mr := A_ (aa.lit iR.out dW hgb hnb)
       obtain ⟨gI, gJ, rfl⟩ : ∃ A c, uD = .slice A 1 c := Kd.au dW
       clear dW hbb hgb hnb
       refine hK.out _ _ ⟨(aa.z0 mr.out 4 rfl), (aa.z0 mr.out 9 rfl), (aa.z1 mr.out 4 rfl), (aa.z1 mr.out 9 rfl)⟩ (fun hHeld => ?_)
       clear hK K
       refine fw 252 ?_
       refine jm 24 (some 257) 33554431 (fun K hK => ?_)
       refine fK (w0 := w) base 38 3 (by rfl) (N := 257) rfl (xs := [.slice Dn kG.length uJ, .slice gI 1 gJ, .slice Dp lS.length CY]) rfl ?hr wX.out (eY eB wX) (by decide) ?_
       (case hr => first | (go_simp; done) | (go_simp; rfl))
       intro tH tJ WQ dW hbb hgb hnb
       have KC := A_ hbb
       have oG := A_ (aa.rA mr.out dW hgb hnb)
       clear dW hbb hgb hnb
       refine hK.out _ _ ⟨(aa.z0 oG.out 4 rfl), (aa.z0 oG.out 9 rfl), (aa.z1 oG.out 4 rfl), (aa.z1 oG.out 9 rfl)⟩ (fun hHeld => ?_)
       clear hK K
       refine fw 257 ?_
       exact CL (iW ⟨.slice iw 1 iy, .slice qp 3 qw, .slice CZ l1.length C8, .slice gI 1 gJ, .slice tH 3 tJ⟩ _ ⟨KC.out, aa.ky oG.out [0, 1, 2, 3, 4, 5, 6, 7, 8, 9, 10, 11, 12, 13, 14, 15, 18, 19, 20] (by decide)⟩)
      ·skip
       as_aux_lemma =>
       refine Kd.bB Kd.string (w0 := w) base 9 (by rfl) (N := 252) rfl (xs := [ty]) (inner := [.string ty]) (ok := fun _ => True) (okp := fun _ => False) ?hr (Kd.bH (enc := Value.string) [ty]) (fun _ h => h.elim) trivial kE.out (eY eB kE) (by simp) ?_
       (case hr => first | (go_simp; done) | (go_simp; rfl))
       intro uD Gi dW hbb hgb hnb
       have lu := A_ hbb
       have iR := A_ (aa.lit jg.out dW hgb hnb)
       obtain ⟨gI, gJ, rfl⟩ : ∃ A c, uD = .slice A 1 c := Kd.au dW
       clear dW hbb hgb hnb
       refine hK.out _ _ ⟨(aa.z0 iR.out 4 rfl), (aa.z0 iR.out 9 rfl), (aa.z1 iR.out 4 rfl), (aa.z1 iR.out 9 rfl)⟩ (fun hHeld => ?_)
       clear hK K
       refine fw 252 ?_
       refine IX 13 24 (some 246) (some 257) 16777215 33546239 (fun K hK => ?_) (fun K hK => ?_)
       ·skip
        as_aux_lemma =>
        refine wm Try.func140 #[.slice qp 3 qw] ?_
        with_reducible refine (Eu iR.out (ig := 17) (i0 := 5) (i1 := 16) (i2 := 10) rfl rfl rfl rfl oF.out (by show _ + 1 + _ <= _; omega)).mono ?_
        rintro e WO ⟨kI, rfl, ho, hb⟩
        refine ⟨_, rfl, ?_⟩
        obtain ⟨CZ, C8, rfl⟩ := Kd.au ho
        have wX := A_ ((lu.out).trans (hb.mono (eY eB lu)))
        have mr := A_ (aa.gQ iR.out hb (eY eB lu) ho)
        clear ho hb
        refine hK.out _ _ ⟨(aa.z0 mr.out 4 rfl), (aa.z0 mr.out 9 rfl), (aa.z1 mr.out 4 rfl), (aa.z1 mr.out 9 rfl)⟩ (fun hHeld => ?_)
        clear hK K
        refine fw 246 ?_
        refine jm 24 (some 257) 33554431 (fun K hK => ?_)
        refine fK (w0 := w) base 38 3 (by rfl) (N := 257) rfl (xs := [.slice Dn kG.length uJ, .slice gI 1 gJ, .slice Dp lS.length CY]) rfl ?hr wX.out (eY eB wX) (by decide) ?_
        (case hr => first | (go_simp; done) | (go_simp; rfl))
        intro tH tJ WQ dW hbb hgb hnb
        have KC := A_ hbb
        have oG := A_ (aa.rA mr.out dW hgb hnb)
        clear dW hbb hgb hnb
        refine hK.out _ _ ⟨(aa.z0 oG.out 4 rfl), (aa.z0 oG.out 9 rfl), (aa.z1 oG.out 4 rfl), (aa.z1 oG.out 9 rfl)⟩ (fun hHeld => ?_)
        clear hK K
        refine fw 257 ?_
        exact CL (iW ⟨.slice iw 1 iy, .slice qp 3 qw, .slice CZ l1.length C8, .slice gI 1 gJ, .slice tH 3 tJ⟩ _ ⟨KC.out, aa.ky oG.out [0, 1, 2, 3, 4, 5, 6, 7, 8, 9, 10, 11, 12, 13, 14, 15, 19, 18, 20] (by decide)⟩)
       ·skip
        as_aux_lemma =>
        refine fK (w0 := w) base 38 3 (by rfl) (N := 257) rfl (xs := [.slice Dn kG.length uJ, .slice gI 1 gJ, .slice Dp lS.length CY]) rfl ?hr lu.out (eY eB lu) (by decide) ?_
        (case hr => first | (go_simp; done) | (go_simp; rfl))
        intro tH tJ WO dW hbb hgb hnb
        have wX := A_ hbb
        have mr := A_ (aa.rA iR.out dW hgb hnb)
        clear dW hbb hgb hnb
        refine hK.out _ _ ⟨(aa.z0 mr.out 4 rfl), (aa.z0 mr.out 9 rfl), (aa.z1 mr.out 4 rfl), (aa.z1 mr.out 9 rfl)⟩ (fun hHeld => ?_)
        clear hK K
        refine fw 257 ?_
        refine jm 13 (some 246) 33554431 (fun K hK => ?_)
        refine wm Try.func140 #[.slice qp 3 qw] ?_
        with_reducible refine (Eu mr.out (ig := 17) (i0 := 5) (i1 := 16) (i2 := 10) rfl rfl rfl rfl oF.out (by show _ + 1 + _ <= _; omega)).mono ?_
        rintro e WQ ⟨kI, rfl, ho, hb⟩
        refine ⟨_, rfl, ?_⟩
        obtain ⟨CZ, C8, rfl⟩ := Kd.au ho
        have KC := A_ ((wX.out).trans (hb.mono (eY eB wX)))
        have oG := A_ (aa.gQ mr.out hb (eY eB wX) ho)
        clear ho hb
        refine hK.out _ _ ⟨(aa.z0 oG.out 4 rfl), (aa.z0 oG.out 9 rfl), (aa.z1 oG.out 4 rfl), (aa.z1 oG.out 9 rfl)⟩ (fun hHeld => ?_)
        clear hK K
        refine fw 246 ?_
        exact CL (iW ⟨.slice iw 1 iy, .slice qp 3 qw, .slice CZ l1.length C8, .slice gI 1 gJ, .slice tH 3 tJ⟩ _ ⟨KC.out, aa.ky oG.out [0, 1, 2, 3, 4, 5, 6, 7, 8, 9, 10, 11, 12, 13, 14, 15, 20, 18, 19] (by decide)⟩)
     ·skip
      as_aux_lemma =>
      refine Kd.bB Kd.string (w0 := w) base 9 (by rfl) (N := 252) rfl (xs := [ty]) (inner := [.string ty]) (ok := fun _ => True) (okp := fun _ => False) ?hr (Kd.bH (enc := Value.string) [ty]) (fun _ h => h.elim) trivial oJ.out (eY eB oJ) (by simp) ?_
      (case hr => first | (go_simp; done) | (go_simp; rfl))
      intro uD KF dW hbb hgb hnb
      have kE := A_ hbb
      have jg := A_ (aa.lit oL.out dW hgb hnb)
      obtain ⟨gI, gJ, rfl⟩ : ∃ A c, uD = .slice A 1 c := Kd.au dW
      clear dW hbb hgb hnb
      refine hK.out _ _ ⟨(aa.z0 jg.out 4 rfl), (aa.z0 jg.out 9 rfl), (aa.z1 jg.out 4 rfl), (aa.z1 jg.out 9 rfl)⟩ (fun hHeld => ?_)
      clear hK K
      refine fw 252 ?_
      refine IX 12 24 (some 245) (some 257) 16769023 33542143 (fun K hK => ?_) (fun K hK => ?_)
      ·skip
       as_aux_lemma =>
       refine fK (w0 := w) base 38 3 (by rfl) (N := 245) rfl (xs := [.slice IG dO.length wo, .slice iw 1 iy, .slice Kt mP.length II]) rfl ?hr kE.out (eY eB kE) (by decide) ?_
       (case hr => first | (go_simp; done) | (go_simp; rfl))
       intro qp qw Gi dW hbb hgb hnb
       have lu := A_ hbb
       have iR := A_ (aa.rA jg.out dW hgb hnb)
       clear dW hbb hgb hnb
       refine hK.out _ _ ⟨(aa.z0 iR.out 4 rfl), (aa.z0 iR.out 9 rfl), (aa.z1 iR.out 4 rfl), (aa.z1 iR.out 9 rfl)⟩ (fun hHeld => ?_)
       clear hK K
       refine fw 245 ?_
       refine IX 13 24 (some 246) (some 257) 16777215 33546239 (fun K hK => ?_) (fun K hK => ?_)
       ·skip
        as_aux_lemma =>
        refine wm Try.func140 #[.slice qp 3 qw] ?_
        with_reducible refine (Eu iR.out (ig := 18) (i0 := 5) (i1 := 16) (i2 := 10) rfl rfl rfl rfl oF.out (by show _ + 1 + _ <= _; omega)).mono ?_
        rintro e WO ⟨kI, rfl, ho, hb⟩
        refine ⟨_, rfl, ?_⟩
        obtain ⟨CZ, C8, rfl⟩ := Kd.au ho
        have wX := A_ ((lu.out).trans (hb.mono (eY eB lu)))
        have mr := A_ (aa.gQ iR.out hb (eY eB lu) ho)
        clear ho hb
        refine hK.out _ _ ⟨(aa.z0 mr.out 4 rfl), (aa.z0 mr.out 9 rfl), (aa.z1 mr.out 4 rfl), (aa.z1 mr.out 9 rfl)⟩ (fun hHeld => ?_)
        clear hK K
        refine fw 246 ?_
        refine jm 24 (some 257) 33554431 (fun K hK => ?_)
        refine fK (w0 := w) base 38 3 (by rfl) (N := 257) rfl (xs := [.slice Dn kG.length uJ, .slice gI 1 gJ, .slice Dp lS.length CY]) rfl ?hr wX.out (eY eB wX) (by decide) ?_
        (case hr => first | (go_simp; done) | (go_simp; rfl))
        intro tH tJ WQ dW hbb hgb hnb
        have KC := A_ hbb
        have oG := A_ (aa.rA mr.out dW hgb hnb)
        clear dW hbb hgb hnb
        refine hK.out _ _ ⟨(aa.z0 oG.out 4 rfl), (aa.z0 oG.out 9 rfl), (aa.z1 oG.out 4 rfl), (aa.z1 oG.out 9 rfl)⟩ (fun hHeld => ?_)
        clear hK K
        refine fw 257 ?_
        exact CL (iW ⟨.slice iw 1 iy, .slice qp 3 qw, .slice CZ l1.length C8, .slice gI 1 gJ, .slice tH 3 tJ⟩ _ ⟨KC.out, aa.ky oG.out [0, 1, 2, 3, 4, 5, 6, 7, 8, 9, 10, 11, 12, 13, 14, 15, 19, 17, 20] (by decide)⟩)
       ·skip
        as_aux_lemma =>
        refine fK (w0 := w) base 38 3 (by rfl) (N := 257) rfl (xs := [.slice Dn kG.length uJ, .slice gI 1 gJ, .slice Dp lS.length CY]) rfl ?hr lu.out (eY eB lu) (by decide) ?_
        (case hr => first | (go_simp; done) | (go_simp; rfl))
        intro tH tJ WO dW hbb hgb hnb
        have wX := A_ hbb
        have mr := A_ (aa.rA iR.out dW hgb hnb)
        clear dW hbb hgb hnb
        refine hK.out _ _ ⟨(aa.z0 mr.out 4 rfl), (aa.z0 mr.out 9 rfl), (aa.z1 mr.out 4 rfl), (aa.z1 mr.out 9 rfl)⟩ (fun hHeld => ?_)
        clear hK K
        refine fw 257 ?_
        refine jm 13 (some 246) 33554431 (fun K hK => ?_)
        refine wm Try.func140 #[.slice qp 3 qw] ?_
        with_reducible refine (Eu mr.out (ig := 18) (i0 := 5) (i1 := 16) (i2 := 10) rfl rfl rfl rfl oF.out (by show _ + 1 + _ <= _; omega)).mono ?_
        rintro e WQ ⟨kI, rfl, ho, hb⟩
        refine ⟨_, rfl, ?_⟩
        obtain ⟨CZ, C8, rfl⟩ := Kd.au ho
        have KC := A_ ((wX.out).trans (hb.mono (eY eB wX)))
        have oG := A_ (aa.gQ mr.out hb (eY eB wX) ho)
        clear ho hb
        refine hK.out _ _ ⟨(aa.z0 oG.out 4 rfl), (aa.z0 oG.out 9 rfl), (aa.z1 oG.out 4 rfl), (aa.z1 oG.out 9 rfl)⟩ (fun hHeld => ?_)
        clear hK K
        refine fw 246 ?_
        exact CL (iW ⟨.slice iw 1 iy, .slice qp 3 qw, .slice CZ l1.length C8, .slice gI 1 gJ, .slice tH 3 tJ⟩ _ ⟨KC.out, aa.ky oG.out [0, 1, 2, 3, 4, 5, 6, 7, 8, 9, 10, 11, 12, 13, 14, 15, 20, 17, 19] (by decide)⟩)
      ·skip
       as_aux_lemma =>
       refine fK (w0 := w) base 38 3 (by rfl) (N := 257) rfl (xs := [.slice Dn kG.length uJ, .slice gI 1 gJ, .slice Dp lS.length CY]) rfl ?hr kE.out (eY eB kE) (by decide) ?_
       (case hr => first | (go_simp; done) | (go_simp; rfl))
       intro tH tJ Gi dW hbb hgb hnb
       have lu := A_ hbb
       have iR := A_ (aa.rA jg.out dW hgb hnb)
       clear dW hbb hgb hnb
       refine hK.out _ _ ⟨(aa.z0 iR.out 4 rfl), (aa.z0 iR.out 9 rfl), (aa.z1 iR.out 4 rfl), (aa.z1 iR.out 9 rfl)⟩ (fun hHeld => ?_)
       clear hK K
       refine fw 257 ?_
       refine jm 12 (some 245) 33546239 (fun K hK => ?_)
       refine fK (w0 := w) base 38 3 (by rfl) (N := 245) rfl (xs := [.slice IG dO.length wo, .slice iw 1 iy, .slice Kt mP.length II]) rfl ?hr lu.out (eY eB lu) (by decide) ?_
       (case hr => first | (go_simp; done) | (go_simp; rfl))
       intro qp qw WO dW hbb hgb hnb
       have wX := A_ hbb
       have mr := A_ (aa.rA iR.out dW hgb hnb)
       clear dW hbb hgb hnb
       refine hK.out _ _ ⟨(aa.z0 mr.out 4 rfl), (aa.z0 mr.out 9 rfl), (aa.z1 mr.out 4 rfl), (aa.z1 mr.out 9 rfl)⟩ (fun hHeld => ?_)
       clear hK K
       refine fw 245 ?_
       refine jm 13 (some 246) 33554431 (fun K hK => ?_)
       refine wm Try.func140 #[.slice qp 3 qw] ?_
       with_reducible refine (Eu mr.out (ig := 19) (i0 := 5) (i1 := 16) (i2 := 10) rfl rfl rfl rfl oF.out (by show _ + 1 + _ <= _; omega)).mono ?_
       rintro e WQ ⟨kI, rfl, ho, hb⟩
       refine ⟨_, rfl, ?_⟩
       obtain ⟨CZ, C8, rfl⟩ := Kd.au ho
       have KC := A_ ((wX.out).trans (hb.mono (eY eB wX)))
       have oG := A_ (aa.gQ mr.out hb (eY eB wX) ho)
       clear ho hb
       refine hK.out _ _ ⟨(aa.z0 oG.out 4 rfl), (aa.z0 oG.out 9 rfl), (aa.z1 oG.out 4 rfl), (aa.z1 oG.out 9 rfl)⟩ (fun hHeld => ?_)
       clear hK K
       refine fw 246 ?_
       exact CL (iW ⟨.slice iw 1 iy, .slice qp 3 qw, .slice CZ l1.length C8, .slice gI 1 gJ, .slice tH 3 tJ⟩ _ ⟨KC.out, aa.ky oG.out [0, 1, 2, 3, 4, 5, 6, 7, 8, 9, 10, 11, 12, 13, 14, 15, 20, 17, 18] (by decide)⟩)
    ·skip
     as_aux_lemma =>
     refine Kd.bB Kd.string (w0 := w) base 9 (by rfl) (N := 252) rfl (xs := [ty]) (inner := [.string ty]) (ok := fun _ => True) (okp := fun _ => False) ?hr (Kd.bH (enc := Value.string) [ty]) (fun _ h => h.elim) trivial (aH HB.out) (eY eB HB) (by simp) ?_
     (case hr => first | (go_simp; done) | (go_simp; rfl))
     intro uD Ub dW hbb hgb hnb
     have oJ := A_ hbb
     have oL := A_ (aa.lit (aa.drew HS.out) dW hgb hnb)
     obtain ⟨gI, gJ, rfl⟩ : ∃ A c, uD = .slice A 1 c := Kd.au dW
     clear dW hbb hgb hnb
     refine hK.out _ _ ⟨(aa.z0 oL.out 4 rfl), (aa.z0 oL.out 9 rfl), (aa.z1 oL.out 4 rfl), (aa.z1 oL.out 9 rfl)⟩ (fun hHeld => ?_)
     clear hK K
     refine fw 252 ?_
     refine IX 7 24 (some 240) (some 257) 16764927 33542015 (fun K hK => ?_) (fun K hK => ?_)
     ·skip
      as_aux_lemma =>
      refine Kd.bB Kd.string (w0 := w) base 9 (by rfl) (N := 240) rfl (xs := [tx]) (inner := [.string tx]) (ok := fun _ => True) (okp := fun _ => False) ?hr (Kd.bH (enc := Value.string) [tx]) (fun _ h => h.elim) trivial oJ.out (eY eB oJ) (by simp) ?_
      (case hr => first | (go_simp; done) | (go_simp; rfl))
      intro vb1 KF dW hbb hgb hnb
      have kE := A_ hbb
      have jg := A_ (aa.lit oL.out dW hgb hnb)
      obtain ⟨iw, iy, rfl⟩ : ∃ A c, vb1 = .slice A 1 c := Kd.au dW
      clear dW hbb hgb hnb
      refine hK.out _ _ ⟨(aa.z0 jg.out 4 rfl), (aa.z0 jg.out 9 rfl), (aa.z1 jg.out 4 rfl), (aa.z1 jg.out 9 rfl)⟩ (fun hHeld => ?_)
      clear hK K
      refine fw 240 ?_
      refine IX 12 24 (some 245) (some 257) 16769023 33542143 (fun K hK => ?_) (fun K hK => ?_)
      ·skip
       as_aux_lemma =>
       refine fK (w0 := w) base 38 3 (by rfl) (N := 245) rfl (xs := [.slice IG dO.length wo, .slice iw 1 iy, .slice Kt mP.length II]) rfl ?hr kE.out (eY eB kE) (by decide) ?_
       (case hr => first | (go_simp; done) | (go_simp; rfl))
       intro qp qw Gi dW hbb hgb hnb
       have lu := A_ hbb
       have iR := A_ (aa.rA jg.out dW hgb hnb)
       clear dW hbb hgb hnb
       refine hK.out _ _ ⟨(aa.z0 iR.out 4 rfl), (aa.z0 iR.out 9 rfl), (aa.z1 iR.out 4 rfl), (aa.z1 iR.out 9 rfl)⟩ (fun hHeld => ?_)
       clear hK K
       refine fw 245 ?_
       refine IX 13 24 (some 246) (some 257) 16777215 33546239 (fun K hK => ?_) (fun K hK => ?_)
       ·skip
        as_aux_lemma =>
        refine wm Try.func140 #[.slice qp 3 qw] ?_
        with_reducible refine (Eu iR.out (ig := 18) (i0 := 5) (i1 := 17) (i2 := 10) rfl rfl rfl rfl oF.out (by show _ + 1 + _ <= _; omega)).mono ?_
        rintro e WO ⟨kI, rfl, ho, hb⟩
        refine ⟨_, rfl, ?_⟩
        obtain ⟨CZ, C8, rfl⟩ := Kd.au ho
        have wX := A_ ((lu.out).trans (hb.mono (eY eB lu)))
        have mr := A_ (aa.gQ iR.out hb (eY eB lu) ho)
        clear ho hb
        refine hK.out _ _ ⟨(aa.z0 mr.out 4 rfl), (aa.z0 mr.out 9 rfl), (aa.z1 mr.out 4 rfl), (aa.z1 mr.out 9 rfl)⟩ (fun hHeld => ?_)
        clear hK K
        refine fw 246 ?_
        refine jm 24 (some 257) 33554431 (fun K hK => ?_)
        refine fK (w0 := w) base 38 3 (by rfl) (N := 257) rfl (xs := [.slice Dn kG.length uJ, .slice gI 1 gJ, .slice Dp lS.length CY]) rfl ?hr wX.out (eY eB wX) (by decide) ?_
        (case hr => first | (go_simp; done) | (go_simp; rfl))
        intro tH tJ WQ dW hbb hgb hnb
        have KC := A_ hbb
        have oG := A_ (aa.rA mr.out dW hgb hnb)
        clear dW hbb hgb hnb
        refine hK.out _ _ ⟨(aa.z0 oG.out 4 rfl), (aa.z0 oG.out 9 rfl), (aa.z1 oG.out 4 rfl), (aa.z1 oG.out 9 rfl)⟩ (fun hHeld => ?_)
        clear hK K
        refine fw 257 ?_
        exact CL (iW ⟨.slice iw 1 iy, .slice qp 3 qw, .slice CZ l1.length C8, .slice gI 1 gJ, .slice tH 3 tJ⟩ _ ⟨KC.out, aa.ky oG.out [0, 1, 2, 3, 4, 5, 6, 7, 8, 9, 10, 11, 12, 13, 14, 15, 19, 16, 20] (by decide)⟩)
       ·skip
        as_aux_lemma =>
        refine fK (w0 := w) base 38 3 (by rfl) (N := 257) rfl (xs := [.slice Dn kG.length uJ, .slice gI 1 gJ, .slice Dp lS.length CY]) rfl ?hr lu.out (eY eB lu) (by decide) ?_
        (case hr => first | (go_simp; done) | (go_simp; rfl))
        intro tH tJ WO dW hbb hgb hnb
        have wX := A_ hbb
        have mr := A_ (aa.rA iR.out dW hgb hnb)
        clear dW hbb hgb hnb
        refine hK.out _ _ ⟨(aa.z0 mr.out 4 rfl), (aa.z0 mr.out 9 rfl), (aa.z1 mr.out 4 rfl), (aa.z1 mr.out 9 rfl)⟩ (fun hHeld => ?_)
        clear hK K
        refine fw 257 ?_
        refine jm 13 (some 246) 33554431 (fun K hK => ?_)
        refine wm Try.func140 #[.slice qp 3 qw] ?_
        with_reducible refine (Eu mr.out (ig := 18) (i0 := 5) (i1 := 17) (i2 := 10) rfl rfl rfl rfl oF.out (by show _ + 1 + _ <= _; omega)).mono ?_
        rintro e WQ ⟨kI, rfl, ho, hb⟩
        refine ⟨_, rfl, ?_⟩
        obtain ⟨CZ, C8, rfl⟩ := Kd.au ho
        have KC := A_ ((wX.out).trans (hb.mono (eY eB wX)))
        have oG := A_ (aa.gQ mr.out hb (eY eB wX) ho)
        clear ho hb
        refine hK.out _ _ ⟨(aa.z0 oG.out 4 rfl), (aa.z0 oG.out 9 rfl), (aa.z1 oG.out 4 rfl), (aa.z1 oG.out 9 rfl)⟩ (fun hHeld => ?_)
        clear hK K
        refine fw 246 ?_
        exact CL (iW ⟨.slice iw 1 iy, .slice qp 3 qw, .slice CZ l1.length C8, .slice gI 1 gJ, .slice tH 3 tJ⟩ _ ⟨KC.out, aa.ky oG.out [0, 1, 2, 3, 4, 5, 6, 7, 8, 9, 10, 11, 12, 13, 14, 15, 20, 16, 19] (by decide)⟩)
      ·skip
       as_aux_lemma =>
       refine fK (w0 := w) base 38 3 (by rfl) (N := 257) rfl (xs := [.slice Dn kG.length uJ, .slice gI 1 gJ, .slice Dp lS.length CY]) rfl ?hr kE.out (eY eB kE) (by decide) ?_
       (case hr => first | (go_simp; done) | (go_simp; rfl))
       intro tH tJ Gi dW hbb hgb hnb
       have lu := A_ hbb
       have iR := A_ (aa.rA jg.out dW hgb hnb)
       clear dW hbb hgb hnb
       refine hK.out _ _ ⟨(aa.z0 iR.out 4 rfl), (aa.z0 iR.out 9 rfl), (aa.z1 iR.out 4 rfl), (aa.z1 iR.out 9 rfl)⟩ (fun hHeld => ?_)
       clear hK K
       refine fw 257 ?_
       refine jm 12 (some 245) 33546239 (fun K hK => ?_)
       refine fK (w0 := w) base 38 3 (by rfl) (N := 245) rfl (xs := [.slice IG dO.length wo, .slice iw 1 iy, .slice Kt mP.length II]) rfl ?hr lu.out (eY eB lu) (by decide) ?_
       (case hr => first | (go_simp; done) | (go_simp; rfl))
       intro qp qw WO dW hbb hgb hnb
       have wX := A_ hbb
       have mr := A_ (aa.rA iR.out dW hgb hnb)
       clear dW hbb hgb hnb
       refine hK.out _ _ ⟨(aa.z0 mr.out 4 rfl), (aa.z0 mr.out 9 rfl), (aa.z1 mr.out 4 rfl), (aa.z1 mr.out 9 rfl)⟩ (fun hHeld => ?_)
       clear hK K
       refine fw 245 ?_
       refine jm 13 (some 246) 33554431 (fun K hK => ?_)
       refine wm Try.func140 #[.slice qp 3 qw] ?_
       with_reducible refine (Eu mr.out (ig := 19) (i0 := 5) (i1 := 17) (i2 := 10) rfl rfl rfl rfl oF.out (by show _ + 1 + _ <= _; omega)).mono ?_
       rintro e WQ ⟨kI, rfl, ho, hb⟩
       refine ⟨_, rfl, ?_⟩
       obtain ⟨CZ, C8, rfl⟩ := Kd.au ho
       have KC := A_ ((wX.out).trans (hb.mono (eY eB wX)))
       have oG := A_ (aa.gQ mr.out hb (eY eB wX) ho)
       clear ho hb
       refine hK.out _ _ ⟨(aa.z0 oG.out 4 rfl), (aa.z0 oG.out 9 rfl), (aa.z1 oG.out 4 rfl), (aa.z1 oG.out 9 rfl)⟩ (fun hHeld => ?_)
       clear hK K
       refine fw 246 ?_
       exact CL (iW ⟨.slice iw 1 iy, .slice qp 3 qw, .slice CZ l1.length C8, .slice gI 1 gJ, .slice tH 3 tJ⟩ _ ⟨KC.out, aa.ky oG.out [0, 1, 2, 3, 4, 5, 6, 7, 8, 9, 10, 11, 12, 13, 14, 15, 20, 16, 18] (by decide)⟩)
     ·skip
      as_aux_lemma =>
      refine fK (w0 := w) base 38 3 (by rfl) (N := 257) rfl (xs := [.slice Dn kG.length uJ, .slice gI 1 gJ, .slice Dp lS.length CY]) rfl ?hr oJ.out (eY eB oJ) (by decide) ?_
      (case hr => first | (go_simp; done) | (go_simp; rfl))
      intro tH tJ KF dW hbb hgb hnb
      have kE := A_ hbb
      have jg := A_ (aa.rA oL.out dW hgb hnb)
      clear dW hbb hgb hnb
      refine hK.out _ _ ⟨(aa.z0 jg.out 4 rfl), (aa.z0 jg.out 9 rfl), (aa.z1 jg.out 4 rfl), (aa.z1 jg.out 9 rfl)⟩ (fun hHeld => ?_)
      clear hK K
      refine fw 257 ?_
      refine jm 7 (some 240) 33542143 (fun K hK => ?_)
      refine Kd.bB Kd.string (w0 := w) base 9 (by rfl) (N := 240) rfl (xs := [tx]) (inner := [.string tx]) (ok := fun _ => True) (okp := fun _ => False) ?hr (Kd.bH (enc := Value.string) [tx]) (fun _ h => h.elim) trivial kE.out (eY eB kE) (by simp) ?_
      (case hr => first | (go_simp; done) | (go_simp; rfl))
      intro vb1 Gi dW hbb hgb hnb
      have lu := A_ hbb
      have iR := A_ (aa.lit jg.out dW hgb hnb)
      obtain ⟨iw, iy, rfl⟩ : ∃ A c, vb1 = .slice A 1 c := Kd.au dW
      clear dW hbb hgb hnb
      refine hK.out _ _ ⟨(aa.z0 iR.out 4 rfl), (aa.z0 iR.out 9 rfl), (aa.z1 iR.out 4 rfl), (aa.z1 iR.out 9 rfl)⟩ (fun hHeld => ?_)
      clear hK K
      refine fw 240 ?_
      refine jm 12 (some 245) 33546239 (fun K hK => ?_)
      refine fK (w0 := w) base 38 3 (by rfl) (N := 245) rfl (xs := [.slice IG dO.length wo, .slice iw 1 iy, .slice Kt mP.length II]) rfl ?hr lu.out (eY eB lu) (by decide) ?_
      (case hr => first | (go_simp; done) | (go_simp; rfl))
      intro qp qw WO dW hbb hgb hnb
      have wX := A_ hbb
      have mr := A_ (aa.rA iR.out dW hgb hnb)
      clear dW hbb hgb hnb
      refine hK.out _ _ ⟨(aa.z0 mr.out 4 rfl), (aa.z0 mr.out 9 rfl), (aa.z1 mr.out 4 rfl), (aa.z1 mr.out 9 rfl)⟩ (fun hHeld => ?_)
      clear hK K
      refine fw 245 ?_
      refine jm 13 (some 246) 33554431 (fun K hK => ?_)
      refine wm Try.func140 #[.slice qp 3 qw] ?_
      with_reducible refine (Eu mr.out (ig := 19) (i0 := 5) (i1 := 18) (i2 := 10) rfl rfl rfl rfl oF.out (by show _ + 1 + _ <= _; omega)).mono ?_
      rintro e WQ ⟨kI, rfl, ho, hb⟩
      refine ⟨_, rfl, ?_⟩
      obtain ⟨CZ, C8, rfl⟩ := Kd.au ho
      have KC := A_ ((wX.out).trans (hb.mono (eY eB wX)))
      have oG := A_ (aa.gQ mr.out hb (eY eB wX) ho)
      clear ho hb
      refine hK.out _ _ ⟨(aa.z0 oG.out 4 rfl), (aa.z0 oG.out 9 rfl), (aa.z1 oG.out 4 rfl), (aa.z1 oG.out 9 rfl)⟩ (fun hHeld => ?_)
      clear hK K
      refine fw 246 ?_
      exact CL (iW ⟨.slice iw 1 iy, .slice qp 3 qw, .slice CZ l1.length C8, .slice gI 1 gJ, .slice tH 3 tJ⟩ _ ⟨KC.out, aa.ky oG.out [0, 1, 2, 3, 4, 5, 6, 7, 8, 9, 10, 11, 12, 13, 14, 15, 20, 16, 17] (by decide)⟩)
   rintro ⟨vb1, vr1, u1, uD, vr2⟩ w8 ⟨hb, hs⟩
   obtain ⟨gI, gJ, rfl⟩ : ∃ A c, uD = .slice A 1 c := Kd.au (aa.sr hs 17 rfl)
   obtain ⟨CZ, C8, rfl⟩ := Kd.au (aa.sr hs 16 rfl)
   obtain ⟨tH, tJ, rfl⟩ : ∃ A c, vr2 = .slice A 3 c := Rp (n := 0) ((aa.at hs 18 rfl).ok _ List.mem_cons_self)
   have hHeld : (w8.cell? ⟨lp, 0, none⟩ = some (.slice IG dO.length wo)) /\ (w8.cell? ⟨rp, 0, none⟩ = some (.slice Kt mP.length II)) /\ (w8.cell? ⟨lp, 1, none⟩ = some (.slice Dn kG.length uJ)) /\ (w8.cell? ⟨rp, 1, none⟩ = some (.slice Dp lS.length CY)) := ⟨aa.z0 hs 4 rfl, aa.z0 hs 9 rfl, aa.z1 hs 4 rfl, aa.z1 hs 9 rfl⟩
   clear HS HB
   have HB := A_ hb
   have HS := A_ hs
   clear hb hs
   refine Cg (a' := ?_) ?_ ?_
   rotate_left
   ·simp only [sU, Act.put, List.setIfInBounds_toArray, List.set_cons_zero, List.set_cons_succ]
    rfl
   refine jm 25 (some 258) 67108863 (fun K hK => ?_)
   refine wm Try.func140 #[.slice tH 3 tJ] ?_
   with_reducible refine (Eu HS.out (ig := 18) (i0 := 6) (i1 := 17) (i2 := 11) rfl rfl rfl rfl sS.out (by show _ + 1 + _ <= _; omega)).mono ?_
   rintro e w9 ⟨kI, rfl, ho, hb⟩
   refine ⟨_, rfl, ?_⟩
   obtain ⟨u2A, u2c, rfl⟩ := Kd.au ho
   have az := oK (aa.gQ HS.out hb (eY eB HB) ho)
   have aG : ae (Below base w w9) := ⟨(HB.out).trans (hb.mono (eY eB HB))⟩
   clear HS HB ho hb; have HS := az; have HB := aG; clear az aG
   have zs0 := aa.z0 HS.out 4 rfl
   have kJ := aa.f HS.out 4 rfl 0
   have Vm := aa.z1 HS.out 4 rfl
   have Vn := aa.f HS.out 4 rfl 1
   refine hK.out _ _ ⟨(aa.z0 HS.out 4 rfl), (aa.z0 HS.out 9 rfl), (aa.z1 HS.out 4 rfl), (aa.z1 HS.out 9 rfl)⟩ (fun hHeld => ?_)
   clear hK K
   refine fw 258 ?_
   refine aQ 26 259 134217727 ?_
   refine aQ 27 260 268435455 ?_
   refine wZ 28 none 536870911 (fun K hK => ?_)
   refine iN (w1 := ?_) (by rfl) rfl ?_ ?_
   rotate_left
   ·go_simp
    rfl
   refine hK.out _ _ ?_
   clear hK K
   refine aQ 29 261 1073741823 ?_
   refine aQ 30 262 2147483647 ?_
   refine wZ 31 none 4294967295 (fun K hK => ?_)
   refine iN (w1 := ?_) (by rfl) rfl ?_ ?_
   rotate_left
   ·go_simp
    rfl
   refine hK.out _ _ ?_
   clear hK K
   refine fA (by kernel_rfl) ?_
   have az := jr (World.setCell (World.setCell w9 ⟨lp, 0, none⟩ (.slice CZ l1.length C8)) ⟨lp, 1, none⟩ (.slice u2A l2.length u2c)) (aa.ky (aa.Ec (aa.Eb HS.out 4 rfl (.slice CZ l1.length C8)) 4 rfl (.slice u2A l2.length u2c)) [0, 1, 2, 3, 4, 16, 19, 7, 8, 9, 10, 11, 12, 13, 14, 15] (by decide))
   have aG : ae (Below base w (World.setCell (World.setCell w9 ⟨lp, 0, none⟩ (.slice CZ l1.length C8)) ⟨lp, 1, none⟩ (.slice u2A l2.length u2c))) := ⟨(HB.out.setCell (p := ⟨lp, 0, none⟩) (aa.ge HS.out 4 rfl) _).setCell (p := ⟨lp, 1, none⟩) (aa.ge HS.out 4 rfl) _⟩
   generalize World.setCell (World.setCell w9 ⟨lp, 0, none⟩ (.slice CZ l1.length C8)) ⟨lp, 1, none⟩ (.slice u2A l2.length u2c) = w21 at az aG ⊢
   clear HS HB zs0 kJ Vm Vn; have HS := az; have HB := aG; clear az aG
   go_upto_region 23 with fail
   have sd21 : lcs.length + fo.length <= 1000000 := by omega
   refine dL (n := 14) (S := fun w' => w'.cell? ⟨lp, 2, none⟩ = some (.slice xL lcs.length oM) /\ w'.cell? ⟨rp, 2, none⟩ = some (.slice xM fo.length crc)) (ds := [13]) (bt 14 0) (by kernel_rfl) rfl rfl ⟨(aa.z2 (aa.drew HS.out) 4 rfl), (aa.z2 (aa.drew HS.out) 9 rfl)⟩ (fun hHeld => ?_)
   refine aQ 0 263 1 ?_
   refine aQ 1 264 3 ?_
   refine aQ 2 265 7 ?_
   refine aQ 3 266 15 ?_
   refine aQ 5 268 47 ?_
   refine aQ 6 269 111 ?_
   refine aQ 7 270 239 ?_
   refine gF 4 267 255 hHeld ?_
   refine gF 8 271 511 hHeld ?_
   refine jm 9 (some 272) 1023 (fun K hK => ?_)
   refine fK (w0 := w) base 99 2 (by rfl) (N := 272) rfl (xs := [.slice xL lcs.length oM, .slice xM fo.length crc]) rfl ?hr (aH HB.out) (eY eB HB) (by decide) ?_
   (case hr => first | (go_simp; done) | (go_simp; rfl))
   intro A19 c20 w22 ho hb hg hn
   have az := oK (aa.rA (aa.drew HS.out) ho hg hn)
   have aG : ae (Below base w w22) := ⟨hb⟩
   clear HS HB ho hb hg hn; have HS := az; have HB := aG; clear az aG
   refine hK.out _ _ ⟨(aa.z2 HS.out 4 rfl), (aa.z2 HS.out 9 rfl)⟩ (fun hHeld => ?_)
   clear hK K
   refine fw 272 ?_
   refine jm 10 (some 273) 2047 (fun K hK => ?_)
   refine wm Try.func141 #[.slice A19 2 c20] ?_
   with_reducible refine (ab2 HS.out (ig := 16) (i0 := 7) (i1 := 12) rfl rfl rfl FV.out sd21).mono ?_
   rintro e w23 ⟨kI, rfl, ho, hb⟩
   refine ⟨_, rfl, ?_⟩
   obtain ⟨FO, c23, IJ⟩ := Kd.au ho
   rw [List.length_map] at IJ
   subst IJ
   have az := oK (aa.Jh HS.out hb (eY eB HB) ho)
   have aG : ae (Below base w w23) := ⟨(HB.out).trans (hb.mono (eY eB HB))⟩
   clear HS HB ho hb; have HS := az; have HB := aG; clear az aG
   have zs0 := aa.z2 HS.out 4 rfl
   have kJ := aa.f HS.out 4 rfl 2
   refine hK.out _ _ ⟨(aa.z2 HS.out 4 rfl), (aa.z2 HS.out 9 rfl)⟩ (fun hHeld => ?_)
   clear hK K
   refine fw 273 ?_
   refine aQ 11 274 4095 ?_
   refine aQ 12 275 8191 ?_
   refine wZ 13 none 16383 (fun K hK => ?_)
   refine iN (w1 := ?_) (by rfl) rfl ?_ ?_
   rotate_left
   ·go_simp
    rfl
   refine hK.out _ _ ?_
   clear hK K
   refine fA (by kernel_rfl) ?_
   have az := jr (World.setCell w23 ⟨lp, 2, none⟩ (.slice FO l5.length c23)) (aa.ky (aa.zo HS.out 4 rfl (.slice FO l5.length c23)) [0, 1, 2, 3, 4, 5, 6, 17, 8, 9, 10, 11, 12, 13, 14, 15, 16] (by decide))
   have aG : ae (Below base w (World.setCell w23 ⟨lp, 2, none⟩ (.slice FO l5.length c23))) := ⟨(HB.out).setCell (p := ⟨lp, 2, none⟩) (aa.ge HS.out 4 rfl) _⟩
   generalize World.setCell w23 ⟨lp, 2, none⟩ (.slice FO l5.length c23) = w24 at az aG ⊢
   clear HS HB zs0 kJ; have HS := az; have HB := aG; clear az aG
   go_upto_region 24 with fail
   have gy := (aa.z2 HS.out 0 rfl)
   go_wp2_with (first | (go_at_call 142; (with_reducible refine (aax (ia := 3) (i := (j + 1)) HS.out rfl FW.out (by omega) (eY eB HB) HB.out).mono ?_); rintro e UL ⟨rfl, hs_, rV⟩; have az := oK hs_; have aG : ae (Below base w UL) := ⟨rV⟩; clear HS HB hs_ rV; have HS := az; have HB := aG; clear az aG; clear gy; have gy := (aa.z2 HS.out 0 rfl); have zs0 := aa.z2 HS.out 0 rfl; have kJ := aa.f HS.out 0 rfl 2))
   have az := jr (World.setCell UL ⟨tp, 2, none⟩ (.slice (some kS) l6.length jC)) (aa.zo HS.out 0 rfl (.slice (some kS) l6.length jC))
   have aG : ae (Below base w (World.setCell UL ⟨tp, 2, none⟩ (.slice (some kS) l6.length jC))) := ⟨(HB.out).setCell (p := ⟨tp, 2, none⟩) (aa.ge HS.out 0 rfl) _⟩
   generalize World.setCell UL ⟨tp, 2, none⟩ (.slice (some kS) l6.length jC) = w26 at az aG ⊢
   clear HS HB gy zs0 kJ; have HS := az; have HB := aG; clear az aG
   go_end0
   have hS := FR (aa.ky HS.out [0, 1, 2, 3, 4, 5, 6, 7, 8, 13, 14, 15] (by decide))
   obtain ⟨m, hm⟩ : ∃ m, m = NT.mk lp (.slice CZ l1.length C8) (.slice u2A l2.length u2c) (.slice FO l5.length c23) l1 l2 l5 := ⟨_, rfl⟩
   refine ⟨rfl, NT.mk tp (.slice A14 l3.length c15) (.slice A16 l4.length c17) (.slice (some kS) l6.length jC) l3 l4 (P ++ m :: Q), rfl, ?_, Lm rfl ?_, HB.out⟩
   ·have e0 := HRR.out
    rw [HT.out] at e0
    rw [e0]
    show PT.mk l3 l4 (NT.aD (P ++ m :: Q)) = xQ (PT.mk tks tvs (NT.aD (P ++ _ :: _ :: Q))) j
    simp only [aN, List.map_append, List.map_cons]
    rw [zu (by rw [List.length_map]; exact HP.out), hm]
    have Ku := oF.out
    subst Ku
    have Kv := sS.out
    subst Kv
    have Kw := Dq.out
    subst Kw
    have Ky := Gt.out
    subst Ky
    have Kz := FV.out
    subst Kz
    have KA := FW.out
    subst KA
    have PO := qb.out.2
    subst PO
    have ety := o7.out.2
    subst ety
    simp [Cr, NT.erase, aN, PT.keys, PT.vals, PT.kids]
   ·unfold Ll
    simp only [NT.keys, NT.vals, NT.kids, NT.p, NT.kv, NT.vv, NT.cv]
    have hq : ptrs (P ++ m :: Q) = ptrs l6 := by
     have e1 := FW.out
     have e2 := HT.out
     have e3 := HP.out
     rw [e1, e2]
     subst e3
     exact (Hq (by rw [hm]; rfl)).symm
    have hc : NT.bI 101 74 l5 = NT.bI 101 74 lcs ++ NT.bI 101 74 fo := by rw [FV.out, jP]
    rw [hq, <- PI.out, <- PK.out, hm]
    simp only [NT.keys, NT.vals, NT.kids, NT.p, NT.kv, NT.vv, NT.cv]
    rw [hc]
    unfold aa at hS ⊢
    simp only [List.flatten_cons, List.append_assoc] at hS ⊢
    exact hS
set_option maxHeartbeats 8000000
set_option maxRecDepth 100000
theorem LH.calls (t : NT) (i : Nat) (s : NT) (hk : t.kids[i]? = some s) (h2 : 2 <= s.keys.length) (hm : t.kids.length <= 1001) (base : Nat) (L : List Ck) (w : World) (hs : Sat w base (t.fB 101 74 ++ L)) :
  Calls Try.prog 133 #[bO t.p, .int .i64 (i : Int)] w fun e w' => e = .returned (.tuple #[]) /\ w' = w := by
 have hil : i < t.kids.length := (List.getElem?_eq_some_iff.1 hk).1
 obtain ⟨Ak, Av, ad, ck, cv, cc, z0, z1, z2, hq⟩ := yA hs (by omega)
 obtain ⟨A, c, h3⟩ := pR hs hk
 have zi := il hq (And.intro hk rfl)
 obtain ⟨sp, hsp⟩ : ∃ p, s.p = p := ⟨_, rfl⟩
 obtain ⟨ns, hns⟩ : ∃ n, s.keys.length = n := ⟨_, rfl⟩
 obtain ⟨nc, hnc⟩ : ∃ n, t.kids.length = n := ⟨_, rfl⟩
 obtain ⟨tp, htp⟩ : ∃ p, t.p = p := ⟨_, rfl⟩
 rw [hsp] at zi h3
 rw [hns] at h3 h2
 rw [hnc] at z2 hm hil
 rw [htp] at z2 ⊢
 clear hs hq z0 z1 hk hsp hns hnc htp
 have b0 := dN (0 <= (i : Int))
 have b1 := dN ((i : Int) < (nc : Int))
 have b2 := dN (i < nc)
 have c1 := pF ((2 : Int) <= (ns : Int))
 go_enter Try.func133, Try.ntmps133
 go_wp2
 refine bodyPost_ret (results_none rfl _ _ _) rfl ?_
 exact ⟨rfl, rfl⟩
theorem BL.calls (t : NT) (i : Nat) (ht : X0 t) (hk : t.kids.length = t.keys.length + 1) (h0 : 0 < t.keys.length) (hi : i < t.kids.length) (hks : ∀ s ∈ t.kids, X0 s) (base : Nat) (L : List Ck) (w : World) (hs : Sat w base (t.fB 101 74 ++ L)) (hbs : base <= w.heap.size) :
  Calls Try.prog 133 #[bO t.p, .int .i64 (i : Int)] w (WR w base 101 74 t L (uV t.erase i)) := by
 obtain ⟨ht1, ht2, _⟩ := ht
 have key : t.erase.keys.length = t.keys.length := by rw [bN]
 have get : ∀ j, j < t.kids.length -> ∃ s : NT, t.kids[j]? = some s /\ X0 s /\ fJ t.erase j = s.erase := fun j hj => by
  have e : t.kids[j]? = some t.kids[j] := List.getElem?_eq_getElem hj
  exact ⟨_, e, hks _ (List.getElem_mem hj), rQ e⟩
 obtain ⟨s, hse, os, es⟩ := get i hi
 unfold uV
 rw [es, bN]
 by_cases h2 : s.keys.length < 2
 ·rw [if_pos h2]
  unfold Lh
  by_cases hA : 0 < i /\ 2 < (fJ t.erase (i - 1)).keys.length
  ·rw [if_pos hA]
   obtain ⟨l, hl, ol, el⟩ := get (i - 1) (by omega)
   rw [el, bN] at hA
   exact N7.calls t l s (t.kids.take (i - 1)) (t.kids.drop (i - 1 + 2)) i hA.1 (xA hl (by rw [show i - 1 + 1 = i by omega]; exact hse)) (by rw [List.length_take]; omega) hA.2 h2 ol os ⟨by omega, ht1, ht2, hk⟩ base L w hs hbs
  ·rw [if_neg hA]
   have hno : i = 0 ∨ 0 < i /\ ∃ s : NT, t.kids[i - 1]? = some s /\ s.keys.length <= 2 := by
    rcases Nat.eq_zero_or_pos i with h | h
    ·exact .inl h
    ·obtain ⟨l, hl, ol, el⟩ := get (i - 1) (by omega)
     rw [el, bN] at hA
     exact .inr ⟨h, l, hl, by omega⟩
   rw [key]
   by_cases hB : i < t.keys.length
   ·obtain ⟨r, hr, Vh, er⟩ := get (i + 1) (by omega)
    have hp := xA hse hr
    have hl' : (t.kids.take i).length = i := by rw [List.length_take]; omega
    by_cases hC : 2 < r.keys.length
    ·rw [if_pos ⟨hB, by rw [er, bN]; exact hC⟩]
     exact N8.calls t s r _ _ i hno hp hl' hC h2 os Vh ⟨hB, ht1, ht2, hk⟩ base L w hs hbs
    ·rw [if_neg (by rw [er, bN]; omega), if_pos hB]
     exact Ez.calls t s r _ _ i i ⟨s, hse, h2⟩ hno (.inr ⟨by omega, r, hr, by omega⟩) (.inl rfl) hp hl' os Vh ⟨hB, ht1, ht2, hk⟩ base L w hs hbs
   ·rw [if_neg (fun h => hB h.1), if_neg hB]
    obtain ⟨l, hl, ol, el⟩ := get (i - 1) (by omega)
    exact Ez.calls t l s _ _ i (i - 1) ⟨s, hse, h2⟩ hno (.inl (by omega)) (.inr ⟨by omega, by omega⟩) (xA hl (by rw [show i - 1 + 1 = i by omega]; exact hse)) (by rw [List.length_take]; omega) ol os ⟨by omega, ht1, ht2, hk⟩ base L w hs hbs
 ·rw [if_neg h2]
  refine (LH.calls t i s hse (by omega) (by omega) base L w hs).mono ?_
  rintro e w' ⟨rfl, rfl⟩
  exact ⟨rfl, t, rfl, rfl, hs, Below.refl base _⟩
set_option maxHeartbeats 8000000
set_option maxRecDepth 100000
open Go.Proofs.Ytoddejmlcnbdmaa.Pure (mO bD rZ Has nN sw mg pU rO uX uu)
theorem Ip {w : World} {base T E i : Nat} {t s : NT} {L : List Ck} (hk : t.kids[i]? = some s) (hs : Sat w base (t.fB T E ++ L)) :
  aa w base [[.box T t.p #[t.kv, t.vv, t.cv]], [txt t.kv t.keys], [txt t.vv t.vals], [.kT E t.cv (ptrs t.kids)], NT.bI T E (t.kids.take i), s.fB T E, NT.bI T E (t.kids.drop (i + 1)), L] := by
 have h := jb hs
 unfold rH at h
 rw [ma T E hk] at h
 unfold aa at h ⊢
 simp only [List.flatten_cons, List.flatten_nil, List.append_assoc] at h ⊢
 exact h
theorem Ry {l : List NT} {i : Nat} {s s' : NT} (h : l[i]? = some s) (hp : s'.p = s.p) : ptrs (l.set i s') = ptrs l := by
 rw [fu, fu, List.map_set, hp, Rh h]
theorem Rz {w : World} {base T E i p : Nat} {kv vv cv : Value} {ks vs : List ByteArray} {cs : List NT} {s s' : NT} {L : List Ck} (hk : cs[i]? = some s) (hp : s'.p = s.p)
  (hs : aa w base [[.box T p #[kv, vv, cv]], [txt kv ks], [txt vv vs], [.kT E cv (ptrs cs)], NT.bI T E (cs.take i), s'.fB T E, NT.bI T E (cs.drop (i + 1)), L]) :
  Sat w base ((NT.mk p kv vv cv ks vs (cs.set i s')).fB T E ++ L) := by
 refine lK ?_
 unfold rH
 simp only [NT.keys, NT.vals, NT.kids, NT.p, NT.kv, NT.vv, NT.cv]
 obtain ⟨h1, h2, h3⟩ := Dc (s' := s') hk
 rw [ma T E h1, h2, h3, Ry hk hp]
 unfold aa at hs ⊢
 simp only [List.flatten_cons, List.flatten_nil, List.append_assoc] at hs ⊢
 exact hs
def LR (w : World) (base : Nat) (t : NT) (L : List Ck) (n : Nat) (e : Ending) (w' : World) : Prop :=
 e = .returned (.tuple #[.string (kR n t.erase), .string (qg n t.erase)]) /\ ∃ t' : NT, t'.p = t.p /\ t'.erase = wG n t.erase /\ Sat w' base (t'.fB 101 74 ++ L) /\ Below base w w'
theorem LJ {n h : Nat} {t : PT} (hb : t.big <= n) (hk : rZ h t) (h0 : 0 < t.keys.length) (hs : mO (bD t)) : rZ h (wG n t) /\ t.keys.length <= (wG n t).keys.length + 1 := by
 obtain ⟨X, eX⟩ := pU n t h hb hk h0
 obtain ⟨r, e1, h1, h2, _⟩ := nN n t (kR n t) h hb hk (fun _ => h0) hs ⟨(kR n t, qg n t), by rw [eX]; exact List.mem_append_right _ (List.mem_singleton_self _), by simp⟩
 rw [uX n t h hb hk h0 hs] at e1
 obtain rfl := Option.some.inj e1
 exact ⟨h1, h2⟩
theorem F9.calls : ∀ (n : Nat) (t : NT) (h : Nat), t.erase.big <= n -> rZ h t.erase -> 0 < t.keys.length -> mO (bD t.erase) -> ∀ (base : Nat) (L : List Ck) (w : World), Sat w base (t.fB 101 74 ++ L) -> base <= w.heap.size ->
  Calls Try.prog 132 #[bO t.p] w (LR w base t L n) := by
 intro n
 induction n with
 | zero =>
  intro t h hb
  exact absurd t.erase.fZ (by omega)
 | succ n ih =>
  intro t h hbig hkd hroot hsrt base L w hs hbs
  cases h with
  | zero => exact hkd.l.elim
  | succ h =>
  have hrd := pK hs.left
  obtain ⟨⟨ho1, ho2, ho3⟩, yN⟩ := cz.1 hkd.b
  have h0 := jb hs
  have Xr := A_ (Go.Proofs.Ytoddejmlcnbdmaa.Pure.jV hkd.b hkd.l)
  have R9 := A_ hsrt
  have O1 := A_ hkd.b
  cases t with | mk tp Gq Gr Gs tks tvs aZ =>
  have e0 : (NT.mk tp Gq Gr Gs tks tvs aZ).erase = .mk tks tvs (NT.aD aZ) := rfl
  unfold rH at h0
  simp only [NT.keys, NT.vals, NT.kids, NT.p, NT.kv, NT.vv, NT.cv] at h0 hroot ⊢
  rw [e0] at hrd hbig ho1 ho2 ho3 yN Xr R9 O1
  replace hrd : Rd 101 w tp (PT.mk tks tvs (NT.aD aZ)) := hrd
  simp only [PT.keys, PT.vals, PT.kids] at ho1 ho2 ho3 yN
  have FM := A_ hrd
  have eB := A_ hbs
  have R5 := A_ ho1
  have Vl : tvs.length <= 4 := by omega
  obtain ⟨tF, ja, rfl⟩ := Kd.au (h0.sr 1 rfl)
  obtain ⟨uF, jk, rfl⟩ := Kd.au (h0.sr 2 rfl)
  obtain ⟨Cc, jC, rfl, _, _⟩ := eO (h0.q 3 rfl)
  have HS := A_ h0
  have HB := A_ (Below.refl base w)
  have HSW := A_ hs
  have R6 := A_ yN
  have HO3 := A_ ho3
  clear h0 hrd hs hbs ho1 ho3 yN hsrt hkd
  by_cases hlf : aZ.length = 0
  ·skip
   have hk0 : NT.aD aZ = [] := by rw [List.length_eq_zero_iff.1 hlf]; rfl
   have Zx : tks.length - 1 < tvs.length := by have := R5.out; omega
   have hbl := A_ (show decide ((((PT.mk tks tvs (NT.aD aZ)).kids.length : Nat) : Int) = 0) = true from decide_eq_true (by show ((NT.aD aZ).length : Int) = 0; rw [hk0]; rfl))
   have WH := A_ hk0
   clear hk0
   obtain ⟨tx, htx⟩ : ∃ x, bF tks (tks.length - 1) = x := ⟨_, rfl⟩
   have qb : ae ((tks.length - 1) < tks.length /\ bF tks (tks.length - 1) = tx) := ⟨by omega, htx⟩
   clear htx
   obtain ⟨ty, hty⟩ : ∃ x, bF tvs (tks.length - 1) = x := ⟨_, rfl⟩
   have o7 : ae ((tks.length - 1) < tvs.length /\ bF tvs (tks.length - 1) = ty) := ⟨by omega, hty⟩
   clear hty
   obtain ⟨l1, oF⟩ := oI (tks.eraseIdx (tks.length - 1))
   obtain ⟨l2, sS⟩ := oI (tvs.eraseIdx (tks.length - 1))
   go_enter Try.func132, Try.ntmps132
   go_upto_region 2 with (first | (go_at_call 99; (with_reducible refine (dU.dQ true hbl.out _ ?aj).mono ?_); (case aj => repeat (first | exact FM.out | (with_reducible refine Rd.drewN ?_ _) | (with_reducible refine Rd.drew ?_))); rintro e w' ⟨rfl, ⟨nd, rfl⟩⟩))
   generalize hW : World.drewN _ _ = w2
   have az : ae (aa w2 base [qW 101 tp tF tks.length ja uF tvs.length jk Cc aZ.length jC, lW tF ja tks, lW uF jk tvs, rY 74 Cc jC aZ, (NT.bI 101 74 aZ), L]) := ⟨by rw [<- hW]; exact aa.drewN HS.out _⟩
   have aG : ae (Below base w w2) := ⟨by rw [<- hW]; exact ah HB.out _⟩
   clear HS HB FM hbl hW; have HS := az; have HB := aG; clear az aG
   have gy := (aa.z0 HS.out 0 rfl)
   go_wp2_with (first | (go_at_call 131; have FN := FR (aa.ky HS.out [0, 1, 2, 3, 4, 5] (by decide)); (with_reducible refine (zC (i := (tks.length - 1)) FN qb.out o7.out oF.out sS.out (by omega) (eY eB HB)).mono ?_); rintro e w3 ⟨rfl, A3, c4, A5, c6, hs_, rV⟩; have az := oK hs_; have aG : ae (Below base w w3) := ⟨(HB.out).trans rV⟩; clear HS HB hs_ rV FN; have HS := az; have HB := aG; clear az aG; clear gy; have gy := (aa.z0 HS.out 0 rfl)))
   clear gy
   have hl0 : (PT.mk tks tvs (NT.aD aZ)).kids.length = 0 := by show (NT.aD aZ).length = 0; rw [WH.out]; rfl
   have hl1 : jA (n + 1) (PT.mk tks tvs (NT.aD aZ)) = PT.mk tks tvs (NT.aD aZ) := by rw [jA, if_pos hl0]
   have hS := FR (aa.ky HS.out [0, 1, 2, 3, 4, 5] (by decide))
   go_ret2
   refine ⟨?_, NT.mk tp (.slice A3 l1.length c4) (.slice A5 l2.length c6) (.slice Cc aZ.length jC) l1 l2 aZ, rfl, ?_, lK hS, HB.out⟩
   ·rw [<- qb.out.2, <- o7.out.2]
    show Ending.returned (.tuple #[.string (bF tks (tks.length - 1)), .string (bF tvs (tks.length - 1))]) = Ending.returned (.tuple #[.string (kR (n + 1) (PT.mk tks tvs (NT.aD aZ))), .string (qg (n + 1) (PT.mk tks tvs (NT.aD aZ)))])
    unfold kR qg
    rw [hl1]
    rfl
   ·show PT.mk l1 l2 (NT.aD aZ) = wG (n + 1) (PT.mk tks tvs (NT.aD aZ))
    rw [wG, if_pos hl0, oF.out, sS.out]
    rfl
  ·skip
   have hnl : (NT.aD aZ).length = aZ.length := by rw [aN, List.length_map]
   have hkl : aZ.length = tks.length + 1 := by
    have := HO3.out
    omega
   obtain ⟨s, hsx⟩ : ∃ s, aZ[aZ.length - 1]? = some s := ⟨aZ[aZ.length - 1]'(by omega), List.getElem?_eq_getElem (by omega)⟩
   have hse : (PT.mk tks tvs (NT.aD aZ)).kids[aZ.length - 1]? = some s.erase := by show (NT.aD aZ)[aZ.length - 1]? = _; rw [aN, List.getElem?_map, hsx]; rfl
   have hsm : s.erase ∈ NT.aD aZ := List.mem_of_getElem? hse
   have hor := Xr.out.resolve_left (fun c => hlf (by have := congrArg List.length c.2; rw [<- hnl]; exact this))
   have jl := A_ (show rZ h s.erase /\ 2 <= s.keys.length from ⟨⟨R6.out _ hsm, (hor.2.2 _ hsm).1⟩, by have := (hor.2.2 _ hsm).2; rw [bN] at this; exact this⟩)
   have QU := A_ (show s.erase.big <= n by have := PT.gK hse; omega)
   have Va := A_ (mg O1.out R9.out hse (show aZ.length - 1 <= tks.length by omega))
   have Nc := A_ (show fJ (PT.mk tks tvs (NT.aD aZ)) (aZ.length - 1) = s.erase from Go.Proofs.Ytoddejmlcnbdmaa.Pure.kz hse)
   have FU := A_ hsx
   have HSE := A_ hse
   have hil : aZ.length - 1 < aZ.length := by omega
   have htc : aZ.length <= 5 := by omega
   have Bb := A_ hkl
   have hbl := A_ (show decide ((((PT.mk tks tvs (NT.aD aZ)).kids.length : Nat) : Int) = 0) = false from decide_eq_false (by show ((NT.aD aZ).length : Int) ≠ 0; omega))
   obtain ⟨kS, rfl⟩ := gq (aa.q HS.out 3 rfl) (by omega)
   have Zy := A_ hlf
   clear hnl hkl hsx hse hsm hor hlf
   go_enter Try.func132, Try.ntmps132
   go_upto_region 3 with (first | (go_at_call 99; (with_reducible refine (dU.dQ false hbl.out _ ?aj).mono ?_); (case aj => repeat (first | exact FM.out | (with_reducible refine Rd.drewN ?_ _) | (with_reducible refine Rd.drew ?_))); rintro e w' ⟨rfl, ⟨nd, rfl⟩⟩))
   generalize hW : World.drewN _ _ = w2
   have az : ae (aa w2 base [qW 101 tp tF tks.length ja uF tvs.length jk (some kS) aZ.length jC, lW tF ja tks, lW uF jk tvs, rY 74 (some kS) jC aZ, (NT.bI 101 74 aZ), L]) := ⟨by rw [<- hW]; exact aa.drewN HS.out _⟩
   have aG : ae (Below base w w2) := ⟨by rw [<- hW]; exact ah HB.out _⟩
   clear HS HB FM hbl hW; have HS := az; have HB := aG; clear az aG
   obtain ⟨sp, xN⟩ : ∃ p, s.p = p := ⟨_, rfl⟩
   have wW := A_ xN
   obtain ⟨t0, ht0⟩ : ∃ t0, t0 = NT.mk tp (.slice tF tks.length ja) (.slice uF tvs.length jk) (.slice (some kS) aZ.length jC) tks tvs aZ := ⟨_, rfl⟩
   have HT0 := A_ ht0
   have vQ := A_ (show Sat w2 base (t0.fB 101 74 ++ L) by rw [ht0]; exact lK HS.out)
   have Xt : ae (t0.kids[aZ.length - 1]? = some s) := ⟨by rw [ht0]; exact FU.out⟩
   clear ht0
   have Ce := aa.z2 HS.out 0 rfl
   have ZA := il (aa.gX HS.out 3 rfl) (And.intro FU.out xN)
   clear xN
   have ci0 := dN (1 <= (aZ.length : Int))
   have ci1 := dN (((aZ.length : Int) - 1) < (aZ.length : Int))
   have ci2 : (aZ.length - 1 < aZ.length) = True := eq_true hil
   have hC := fun (w : World) (hs : Sat w base (t0.fB 101 74 ++ L)) (hb : base <= w.heap.size) => ih s h QU.out jl.out.1 (by have := jl.out.2; omega) Va.out base (t0.hole 101 74 (aZ.length - 1) L) w (hs.perm (zf L Xt.out)) hb
   rw [wW.out] at hC
   have HC := A_ hC
   clear hC
   go_upto_region 5 with (first | (go_at_call 132; (with_reducible refine (HC.out _ vQ.out (eY eB HB)).mono ?_); rintro e w8 ⟨rfl, s', hsp, yK, hs', hb'⟩))
   obtain ⟨kx, hkx⟩ : ∃ x, kR n s.erase = x := ⟨_, rfl⟩
   obtain ⟨kv, hkv⟩ : ∃ x, qg n s.erase = x := ⟨_, rfl⟩
   rw [hkx, hkv]
   have HKX := A_ (And.intro hkx hkv)
   clear hkx hkv
   have Sa : ae (mG s'.erase) := ⟨by rw [yK]; exact (LJ QU.out jl.out.1 (by rw [bN]; have := jl.out.2; omega) Va.out).1.b⟩
   rw [wW.out] at hsp
   have M7 : s'.p = s.p := by rw [hsp, wW.out]
   have hT1 : Sat w8 base ((t0.jq (aZ.length - 1) s').fB 101 74 ++ L) := hs'.perm (NA L Xt.out M7)
   have hE1 : (t0.jq (aZ.length - 1) s').erase = .mk tks tvs ((NT.aD aZ).set (aZ.length - 1) s'.erase) := by rw [uQ, HT0.out]; rfl
   have HB2 := A_ (HB.out.trans hb')
   have Sb := BL.calls (t0.jq (aZ.length - 1) s') (aZ.length - 1) (by rw [HT0.out]; exact ⟨by show tks.length <= 1000; omega, by have := R5.out; show tvs.length = tks.length; omega, .inr (by have := Bb.out; show (aZ.set _ s').length = tks.length + 1; rw [List.length_set]; omega)⟩) (by rw [HT0.out]; have := Bb.out; show (aZ.set _ s').length = tks.length + 1; rw [List.length_set]; omega) (by rw [HT0.out]; show 0 < tks.length; omega) (by rw [HT0.out]; show aZ.length - 1 < (aZ.set _ s').length; rw [List.length_set]; exact hil) (fun c hc => by
    rw [HT0.out] at hc
    have hc : c ∈ aZ.set (aZ.length - 1) s' := hc
    refine JB ?_
    rcases List.mem_or_eq_of_mem_set hc with hc | rfl
    ·exact R6.out _ (by rw [aN]; exact List.mem_map_of_mem hc)
    ·exact Sa.out) base L w8 hT1 (eY eB HB2)
   rw [show (t0.jq (aZ.length - 1) s').p = tp by rw [HT0.out]; rfl] at Sb
   rw [hE1] at Sb
   have Z7 := A_ Sb
   have HP0 : ae ((t0.jq (aZ.length - 1) s').p = tp) := ⟨by rw [HT0.out]; rfl⟩
   have ZK := A_ yK
   clear Sb hE1 hT1 M7 hs' hb' yK Ce ZA
   have HCI : ae (((aZ.length - 1 : Nat) : Int) = (aZ.length : Int) - 1) := ⟨by omega⟩
   rw [HCI.out] at Z7
   go_wp2_with (first | (go_at_call 133; (with_reducible refine Z7.out.mono ?_); rintro e w9 ⟨rfl, t2, ht1, ht2, ht3, Vt⟩))
   have hl0 : ¬ (PT.mk tks tvs (NT.aD aZ)).kids.length = 0 := fun c => Zy.out (by have c' : (NT.aD aZ).length = 0 := c; rw [aN, List.length_map] at c'; exact c')
   have hln : (PT.mk tks tvs (NT.aD aZ)).kids.length - 1 = aZ.length - 1 := by show (NT.aD aZ).length - 1 = _; rw [aN, List.length_map]
   have hl1 : jA (n + 1) (PT.mk tks tvs (NT.aD aZ)) = jA n s.erase := by rw [jA, if_neg hl0, hln, Nc.out]
   go_ret2
   refine ⟨?_, t2, by rw [ht1, HP0.out]; rfl, ?_, ht3, HB2.out.trans Vt⟩
   ·show Ending.returned (.tuple #[.string kx, .string kv]) = Ending.returned (.tuple #[.string (kR (n + 1) (PT.mk tks tvs (NT.aD aZ))), .string (qg (n + 1) (PT.mk tks tvs (NT.aD aZ)))])
    have e1 := HKX.out.1
    have e2 := HKX.out.2
    unfold kR at e1 ⊢
    unfold qg at e2 ⊢
    rw [hl1, e1, e2]
   ·rw [ht2, ZK.out]
    show _ = wG (n + 1) (PT.mk tks tvs (NT.aD aZ))
    rw [wG, if_neg hl0, hln, Nc.out]
    rfl
set_option maxHeartbeats 8000000
set_option maxRecDepth 100000
open Go.Proofs.Ytoddejmlcnbdmaa.Pure (mO bD rZ Has nN sw mg pU rO uX uu)
theorem aay {w : World} {base sp : Nat} {x y : ByteArray} {S : List Ck} {R : List (List Ck)} {P : NT -> Prop} (h : ∀ (L : List Ck) (w : World), Sat w base (S ++ L) -> base <= w.heap.size -> Calls Try.prog 132 #[bO sp] w fun e w' => e = .returned (.tuple #[.string x, .string y]) /\ ∃ s' : NT, s'.p = sp /\ P s' /\ Sat w' base (s'.fB 101 74 ++ L) /\ Below base w w')
  (hs : aa w base (S :: R)) (hb : base <= w.heap.size) : Calls Try.prog 132 #[bO sp] w fun e w' => e = .returned (.tuple #[.string x, .string y]) /\ ∃ s' : NT, s'.p = sp /\ P s' /\ aa w' base (s'.fB 101 74 :: R) /\ Below base w w' := by
 refine (h R.flatten w hs hb).mono ?_
 rintro e w' ⟨h1, s', h2, h3, h4, h5⟩
 exact ⟨h1, s', h2, h3, h4, h5⟩
theorem RA.calls : ∀ (n : Nat) (t : NT) (key : ByteArray) (h : Nat), t.erase.big <= n -> rZ h t.erase -> (t.kids.length ≠ 0 -> 0 < t.keys.length) -> mO (bD t.erase) -> Has key (bD t.erase) -> ∀ (base : Nat) (L : List Ck) (w : World), Sat w base (t.fB 101 74 ++ L) -> base <= w.heap.size ->
  Calls Try.prog 114 #[bO t.p, .string key] w (DR w base 101 74 t L (xR n t.erase key)) := by
 intro n
 induction n with
 | zero =>
  intro t key h hb
  exact absurd t.erase.fZ (by omega)
 | succ n ih =>
  intro t key h hbig hkd hroot hsrt hhas base L w hs hbs
  cases h with
  | zero => exact hkd.l.elim
  | succ h =>
  have hrd := pK hs.left
  obtain ⟨⟨ho1, ho2, ho3⟩, yN⟩ := cz.1 hkd.b
  have h0 := jb hs
  have Xr := A_ (Go.Proofs.Ytoddejmlcnbdmaa.Pure.jV hkd.b hkd.l)
  have R9 := A_ hsrt
  have O1 := A_ hkd.b
  cases t with | mk tp Gq Gr Gs tks tvs aZ =>
  have e0 : (NT.mk tp Gq Gr Gs tks tvs aZ).erase = .mk tks tvs (NT.aD aZ) := rfl
  unfold rH at h0
  simp only [NT.keys, NT.vals, NT.kids, NT.p, NT.kv, NT.vv, NT.cv] at h0 hroot ⊢
  rw [e0] at hrd hbig ho1 ho2 ho3 yN Xr R9 O1
  replace hrd : Rd 101 w tp (PT.mk tks tvs (NT.aD aZ)) := hrd
  simp only [PT.keys, PT.vals, PT.kids] at ho1 ho2 ho3 yN
  have FM := A_ hrd
  have eB := A_ hbs
  have R5 := A_ ho1
  have Vl : tvs.length <= 4 := by omega
  obtain ⟨tF, ja, rfl⟩ := Kd.au (h0.sr 1 rfl)
  obtain ⟨uF, jk, rfl⟩ := Kd.au (h0.sr 2 rfl)
  obtain ⟨Cc, jC, rfl, _, _⟩ := eO (h0.q 3 rfl)
  have HS := A_ h0
  have HB := A_ (Below.refl base w)
  have HSW := A_ hs
  have R6 := A_ yN
  have HO3 := A_ ho3
  clear h0 hrd hs hbs ho1 ho3 yN hsrt hkd
  rw [e0] at hhas
  show Calls Try.prog 114 _ w (DR w base 101 74 _ L (xR (n + 1) (PT.mk tks tvs (NT.aD aZ)) key))
  obtain ⟨R, hR⟩ : ∃ R, R = xR (n + 1) (.mk tks tvs (NT.aD aZ)) key := ⟨_, rfl⟩
  rw [<- hR]
  obtain ⟨i, hi⟩ : ∃ i, dV key tks = i := ⟨_, rfl⟩
  obtain ⟨b, hb⟩ : ∃ b, jI tks i key = b := ⟨_, rfl⟩
  have hle : i <= tks.length := by rw [<- hi]; exact nJ key tks
  have hsk : Go.Proofs.Ytoddejmlcnbdmaa.Pure.Jj tks := Go.Proofs.Ytoddejmlcnbdmaa.Pure.rE ((Go.Proofs.Ytoddejmlcnbdmaa.Pure.nM (Go.Proofs.Ytoddejmlcnbdmaa.Pure.bZ O1.out)).2 R9.out)
  obtain ⟨kf, hkf⟩ := V9 tks key (by omega) hsk
  rw [hi] at hkf
  have Gl := A_ hkf
  have Uk := A_ (show gZ.f tks (i : Int) key = some b from by rw [Go.Proofs.Ytoddejmlcnbdmaa.Pure.Jl, hb])
  have HRW := A_ (aa.row HS.out 1 rfl)
  have U9 := A_ (And.intro hi hb)
  rw [xR] at hR
  rw [show dV key (PT.mk tks tvs (NT.aD aZ)).keys = i from hi] at hR
  rw [show jI (PT.mk tks tvs (NT.aD aZ)).keys i key = b from hb] at hR
  have HR := A_ hR
  have Xu := A_ hhas
  have HRT := A_ hroot
  have hz0_ := aa.z0 HS.out 0 rfl
  clear hR hi hb hsk hkf hhas hroot
  by_cases hlf : aZ.length = 0
  ·skip
   have hk0 : NT.aD aZ = [] := by rw [List.length_eq_zero_iff.1 hlf]; rfl
   have hS := rO O1.out hk0 R9.out Xu.out
   have hbt : b = true := by rw [<- U9.out.2, <- U9.out.1]; exact hS
   subst hbt
   have Zw : i < tks.length := lJ U9.out.2
   have Zx : i < tvs.length := by have := R5.out; omega
   have hbl := A_ (show decide ((((PT.mk tks tvs (NT.aD aZ)).kids.length : Nat) : Int) = 0) = true from decide_eq_true (by show ((NT.aD aZ).length : Int) = 0; rw [hk0]; rfl))
   have WH := A_ hk0
   clear hS hk0
   obtain ⟨tx, htx⟩ : ∃ x, bF tks i = x := ⟨_, rfl⟩
   have qb : ae (i < tks.length /\ bF tks i = tx) := ⟨by omega, htx⟩
   clear htx
   obtain ⟨ty, hty⟩ : ∃ x, bF tvs i = x := ⟨_, rfl⟩
   have o7 : ae (i < tvs.length /\ bF tvs i = ty) := ⟨by omega, hty⟩
   clear hty
   obtain ⟨l1, oF⟩ := oI (tks.eraseIdx i)
   obtain ⟨l2, sS⟩ := oI (tvs.eraseIdx i)
   go_enter Try.func114, Try.ntmps114
   go_upto_region 3 with (first | (go_at_call 73; (with_reducible refine (fH.calls kf _ _ tks key (i : Int) _ ?aj ?aU Gl.out).mono ?_); (case aj => repeat (first | exact HRW.out.2.2 | (with_reducible refine Kd.dx ?_ _) | (with_reducible refine Kd.eD ?_))); (case aU => exact HRW.out.2.1); rintro e w1 ⟨rfl, ⟨nd, rfl⟩⟩) | (go_at_call 101; (with_reducible refine (gZ.calls _ _ tks (i : Int) key true _ ?aj ?aU Uk.out).mono ?_); (case aj => repeat (first | exact HRW.out.2.2 | (with_reducible refine Kd.dx ?_ _) | (with_reducible refine Kd.eD ?_))); (case aU => exact HRW.out.2.1); rintro e w1 ⟨rfl, ⟨nd, rfl⟩⟩) | (go_at_call 99; (with_reducible refine (dU.dQ true hbl.out _ ?aj).mono ?_); (case aj => repeat (first | exact FM.out | (with_reducible refine Rd.drewN ?_ _) | (with_reducible refine Rd.drew ?_))); rintro e w' ⟨rfl, ⟨nd, rfl⟩⟩))
   generalize hW : World.drewN _ _ = w2
   have az : ae (aa w2 base [qW 101 tp tF tks.length ja uF tvs.length jk Cc aZ.length jC, lW tF ja tks, lW uF jk tvs, rY 74 Cc jC aZ, (NT.bI 101 74 aZ), L]) := ⟨by rw [<- hW]; exact aa.drewN HS.out _⟩
   have aG : ae (Below base w w2) := ⟨by rw [<- hW]; exact ah HB.out _⟩
   clear HS HB FM hbl hW; have HS := az; have HB := aG; clear az aG
   go_wp2_with (first | (go_at_call 131; have FN := FR (aa.ky HS.out [0, 1, 2, 3, 4, 5] (by decide)); (with_reducible refine (zC (i := i) FN qb.out o7.out oF.out sS.out (by omega) (eY eB HB)).mono ?_); rintro e w3 ⟨rfl, A3, c4, A5, c6, hs_, rV⟩; have az := oK hs_; have aG : ae (Below base w w3) := ⟨(HB.out).trans rV⟩; clear HS HB hs_ rV FN; have HS := az; have HB := aG; clear az aG))
   refine bodyPost_ret (results_none rfl _ _ _) rfl ?_
   have hS := FR (aa.ky HS.out [0, 1, 2, 3, 4, 5] (by decide))
   refine ⟨.mk (tks.eraseIdx i) (tvs.eraseIdx i) (NT.aD aZ), ?_, rfl, NT.mk tp (.slice A3 l1.length c4) (.slice A5 l2.length c6) (.slice Cc aZ.length jC) l1 l2 aZ, rfl, ?_, lK hS, HB.out⟩
   ·rw [HR.out]
    (first | rw [if_pos rfl] | rw [if_pos trivial])
    rw [if_pos (show (PT.mk tks tvs (NT.aD aZ)).kids.length = 0 by show (NT.aD aZ).length = 0; rw [WH.out]; rfl)]
    rfl
   ·rw [oF.out, sS.out]
    rfl
  ·skip
   have hnl : (NT.aD aZ).length = aZ.length := by rw [aN, List.length_map]
   have hkl : aZ.length = tks.length + 1 := by
    have := HO3.out
    omega
   obtain ⟨s, hsx⟩ : ∃ s, aZ[i]? = some s := ⟨aZ[i]'(by omega), List.getElem?_eq_getElem (by omega)⟩
   have hse : (PT.mk tks tvs (NT.aD aZ)).kids[i]? = some s.erase := by show (NT.aD aZ)[i]? = _; rw [aN, List.getElem?_map, hsx]; rfl
   have hsm : s.erase ∈ NT.aD aZ := List.mem_of_getElem? hse
   have hor := Xr.out.resolve_left (fun c => hlf (by have := congrArg List.length c.2; rw [<- hnl]; exact this))
   have jl := A_ (show rZ h s.erase /\ 2 <= s.keys.length from ⟨⟨R6.out _ hsm, (hor.2.2 _ hsm).1⟩, by have := (hor.2.2 _ hsm).2; rw [bN] at this; exact this⟩)
   have QU := A_ (show s.erase.big <= n by have := PT.gK hse; omega)
   have Va := A_ (mg O1.out R9.out hse (show i <= tks.length by omega))
   have Nc := A_ (show fJ (PT.mk tks tvs (NT.aD aZ)) (i) = s.erase from Go.Proofs.Ytoddejmlcnbdmaa.Pure.kz hse)
   have FU := A_ hsx
   have HSE := A_ hse
   have hil : i < aZ.length := by omega
   have htc : aZ.length <= 5 := by omega
   have Bb := A_ hkl
   have hbl := A_ (show decide ((((PT.mk tks tvs (NT.aD aZ)).kids.length : Nat) : Int) = 0) = false from decide_eq_false (by show ((NT.aD aZ).length : Int) ≠ 0; omega))
   obtain ⟨kS, rfl⟩ := gq (aa.q HS.out 3 rfl) (by omega)
   have Zy := A_ hlf
   clear hnl hkl hsx hse hsm hor hlf
   have h0k : 0 < tks.length := HRT.out Zy.out
   have hl0 := A_ (show ¬ (PT.mk tks tvs (NT.aD aZ)).kids.length = 0 from fun c => Zy.out (by have c' : (NT.aD aZ).length = 0 := c; rw [aN, List.length_map] at c'; exact c'))
   cases b with
   | true =>
    go_enter Try.func114, Try.ntmps114
    go_upto_region 5 with (first | (go_at_call 73; (with_reducible refine (fH.calls kf _ _ tks key (i : Int) _ ?aj ?aU Gl.out).mono ?_); (case aj => repeat (first | exact HRW.out.2.2 | (with_reducible refine Kd.dx ?_ _) | (with_reducible refine Kd.eD ?_))); (case aU => exact HRW.out.2.1); rintro e w1 ⟨rfl, ⟨nd, rfl⟩⟩) | (go_at_call 101; (with_reducible refine (gZ.calls _ _ tks (i : Int) key true _ ?aj ?aU Uk.out).mono ?_); (case aj => repeat (first | exact HRW.out.2.2 | (with_reducible refine Kd.dx ?_ _) | (with_reducible refine Kd.eD ?_))); (case aU => exact HRW.out.2.1); rintro e w1 ⟨rfl, ⟨nd, rfl⟩⟩) | (go_at_call 99; (with_reducible refine (dU.dQ false hbl.out _ ?aj).mono ?_); (case aj => repeat (first | exact FM.out | (with_reducible refine Rd.drewN ?_ _) | (with_reducible refine Rd.drew ?_))); rintro e w' ⟨rfl, ⟨nd, rfl⟩⟩))
    generalize hW : World.drewN _ _ = w2
    have az : ae (aa w2 base [qW 101 tp tF tks.length ja uF tvs.length jk (some kS) aZ.length jC, lW tF ja tks, lW uF jk tvs, rY 74 (some kS) jC aZ, (NT.bI 101 74 aZ), L]) := ⟨by rw [<- hW]; exact aa.drewN HS.out _⟩
    have aG : ae (Below base w w2) := ⟨by rw [<- hW]; exact ah HB.out _⟩
    clear HS HB FM hbl hW; have HS := az; have HB := aG; clear az aG
    have Zw : i < tks.length := lJ U9.out.2
    have Zx : i < tvs.length := by have := R5.out; omega
    obtain ⟨jE, rfl⟩ := dP (aa.sr HS.out 1 rfl) (by omega)
    obtain ⟨jF, rfl⟩ := dP (aa.sr HS.out 2 rfl) (by omega)
    obtain ⟨sp, xN⟩ : ∃ p, s.p = p := ⟨_, rfl⟩
    obtain ⟨yx, hyx⟩ : ∃ x, kR n s.erase = x := ⟨_, rfl⟩
    obtain ⟨yz, Z6⟩ : ∃ x, qg n s.erase = x := ⟨_, rfl⟩
    have hLC := fun (L : List Ck) (w : World) (hs : Sat w base (s.fB 101 74 ++ L)) (hb : base <= w.heap.size) => F9.calls n s h QU.out jl.out.1 (by have := jl.out.2; omega) Va.out base L w hs hb
    unfold LR at hLC
    simp only [hyx, Z6, xN] at hLC
    have WK := A_ hLC
    have HSP := A_ xN
    have nz := A_ (And.intro FU.out xN)
    have HY := A_ (And.intro hyx Z6)
    have Bg := Ip (t := NT.mk tp (.slice (some ⟨jE, 0, none⟩) tks.length ja) (.slice (some ⟨jF, 0, none⟩) tvs.length jk) (.slice (some kS) aZ.length jC) tks tvs aZ) FU.out (lK HS.out)
    simp only [NT.keys, NT.vals, NT.kids, NT.p, NT.kv, NT.vv, NT.cv] at Bg
    obtain ⟨GA, hGA⟩ : ∃ G, G = NT.bI 101 74 (aZ.take i) := ⟨_, rfl⟩
    obtain ⟨GD, hGD⟩ : ∃ G, G = NT.bI 101 74 (aZ.drop (i + 1)) := ⟨_, rfl⟩
    rw [<- hGA, <- hGD] at Bg
    have HGA := A_ hGA
    have HGD := A_ hGD
    clear HS hLC xN hyx Z6 hGA hGD
    have HS := A_ Bg
    clear Bg
    obtain ⟨tx, htx⟩ : ∃ x, bF tks i = x := ⟨_, rfl⟩
    have qb : ae (i < tks.length /\ bF tks i = tx) := ⟨by omega, htx⟩
    clear htx
    obtain ⟨ty, hty⟩ : ∃ x, bF tvs i = x := ⟨_, rfl⟩
    have o7 : ae (i < tvs.length /\ bF tvs i = ty) := ⟨by omega, hty⟩
    clear hty
    obtain ⟨l1, oF⟩ := oI (tks.set i yx)
    obtain ⟨l2, sS⟩ := oI (tvs.set i yz)
    have b3 := dN (0 <= (i : Int))
    have b4 := dN ((i : Int) < (aZ.length : Int))
    have b5 := dN (i < aZ.length)
    have b6 := dN ((i : Int) < (tks.length : Int))
    have b7 := dN (i < tks.length)
    have b8 := dN ((i : Int) < (tvs.length : Int))
    have b9 := dN (i < tvs.length)
    refine dL (n := 25) (S := fun w' => w'.cell? ⟨tp, 0, none⟩ = some (.slice (some ⟨jE, 0, none⟩) tks.length ja) /\ w'.cell? ⟨tp, 1, none⟩ = some (.slice (some ⟨jF, 0, none⟩) tvs.length jk) /\ w'.cell? ⟨tp, 2, none⟩ = some (.slice (some kS) aZ.length jC) /\ w'.cell? (kS.add i) = some (bO sp)) (ds := [22, 24]) (bt 25 0) (by kernel_rfl) rfl rfl ⟨(aa.z0 (aa.drew HS.out) 0 rfl), (aa.z1 (aa.drew HS.out) 0 rfl), (aa.z2 (aa.drew HS.out) 0 rfl), (il (aa.gX (aa.drew HS.out) 3 rfl) nz.out)⟩ (fun hHeld => ?_)
    refine aQ 0 44 1 ?_
    refine aQ 1 45 3 ?_
    refine aQ 2 46 7 ?_
    refine aQ 4 48 23 ?_
    refine aQ 5 49 55 ?_
    refine aQ 6 50 119 ?_
    refine aQ 7 51 247 ?_
    refine aQ 9 53 759 ?_
    refine aQ 10 54 1783 ?_
    refine aQ 11 55 3831 ?_
    refine aQ 12 56 7927 ?_
    refine aQ 14 58 24311 ?_
    refine gF 3 47 24319 hHeld ?_
    refine gF 8 52 24575 hHeld ?_
    refine gF 13 57 32767 hHeld ?_
    refine aQ 15 59 65535 ?_
    refine gF 16 60 131071 hHeld ?_
    refine jm 17 (some 61) 262143 (fun K hK => ?_)
    have FN := FR (aa.ky (aa.drew HS.out) [5, 0, 1, 2, 3, 4, 6, 7] (by decide))
    refine wm Try.func132 #[bO sp] ?_
    with_reducible refine (aay WK.out FN (eY eB HB)).mono ?_
    rintro e w3 ⟨rfl, s', WL, yK, hs_, rV⟩
    refine ⟨_, rfl, ?_⟩
    have ZL := A_ (And.intro WL yK)
    have az := oK hs_
    have aG : ae (Below base w w3) := ⟨((aH HB.out)).trans rV⟩
    clear HS HB hs_ rV FN WL yK; have HS := az; have HB := aG; clear az aG
    have zs0 := iY (aa.sr HS.out 2 rfl) qb.out
    have kJ := ik (aa.sr HS.out 2 rfl) (Nat.lt_of_le_of_lt (Nat.zero_le _) qb.out.1) i
    have Vm := iY (aa.sr HS.out 3 rfl) o7.out
    have Vn := ik (aa.sr HS.out 3 rfl) (Nat.lt_of_le_of_lt (Nat.zero_le _) o7.out.1) i
    refine hK.out _ _ ⟨(aa.z0 HS.out 1 rfl), (aa.z1 HS.out 1 rfl), (aa.z2 HS.out 1 rfl), (il (aa.gX HS.out 4 rfl) nz.out)⟩ (fun hHeld => ?_)
    clear hK K
    refine fw 61 ?_
    refine aQ 18 43 524287 ?_
    refine aQ 19 62 1048575 ?_
    refine aQ 20 63 2097151 ?_
    refine aQ 21 64 4194303 ?_
    refine wZ 22 none 8388607 (fun K hK => ?_)
    refine iN (w1 := ?_) (by rfl) rfl ?_ ?_
    rotate_left
    ·go_simp
     rfl
    refine hK.out _ _ ?_
    clear hK K
    refine aQ 23 65 16777215 ?_
    refine wZ 24 none 33554431 (fun K hK => ?_)
    have Vb := iY (aa.sr (aa.rM HS.out 2 rfl i yx oF.out) 3 rfl) o7.out
    refine iN (w1 := ?_) (by rfl) rfl ?_ ?_
    rotate_left
    ·go_simp
     rfl
    clear Vb
    refine hK.out _ _ ?_
    clear hK K
    refine fA (by kernel_rfl) ?_
    have az := jr (World.setCell (World.setCell w3 ⟨jE, i, none⟩ (.string yx)) ⟨jF, i, none⟩ (.string yz)) (aa.rM (aa.rM HS.out 2 rfl i yx oF.out) 3 rfl i yz sS.out)
    have aG : ae (Below base w (World.setCell (World.setCell w3 ⟨jE, i, none⟩ (.string yx)) ⟨jF, i, none⟩ (.string yz))) := ⟨((HB.out).setCell (p := ⟨jE, i, none⟩) (vL HS.out 2 rfl qb.out) _).setCell (p := ⟨jF, i, none⟩) (vL HS.out 3 rfl o7.out) _⟩
    generalize World.setCell (World.setCell w3 ⟨jE, i, none⟩ (.string yx)) ⟨jF, i, none⟩ (.string yz) = w4 at az aG ⊢
    clear HS HB zs0 kJ Vm Vn; have HS := az; have HB := aG; clear az aG
    go_upto_region 6 with fail
    have hS := FR (aa.ky HS.out [1, 2, 3, 4, 5, 0, 6, 7] (by decide))
    rw [HGA.out, HGD.out] at hS
    have hT := Rz FU.out (by rw [ZL.out.1, HSP.out]) hS
    obtain ⟨t1, ht1⟩ : ∃ t1, t1 = NT.mk tp (.slice (some ⟨jE, 0, none⟩) tks.length ja) (.slice (some ⟨jF, 0, none⟩) tvs.length jk) (.slice (some kS) aZ.length jC) l1 l2 (aZ.set i s') := ⟨_, rfl⟩
    rw [<- ht1] at hT
    have HT1 := A_ ht1
    have hA1 : l1.length = tks.length := by rw [oF.out, List.length_set]
    have hB1 : l2.length = tvs.length := by rw [sS.out, List.length_set]
    have Sa : mG s'.erase := by rw [ZL.out.2]; exact (LJ QU.out jl.out.1 (by rw [bN]; have := jl.out.2; omega) Va.out).1.b
    have Sb := BL.calls t1 i (by rw [ht1]; exact ⟨by show l1.length <= 1000; omega, by have := R5.out; show l2.length = l1.length; omega, .inr (by have := Bb.out; show (aZ.set _ s').length = l1.length + 1; rw [List.length_set]; omega)⟩) (by rw [ht1]; have := Bb.out; show (aZ.set _ s').length = l1.length + 1; rw [List.length_set]; omega) (by rw [ht1]; show 0 < l1.length; omega) (by rw [ht1]; show i < (aZ.set _ s').length; rw [List.length_set]; exact hil) (fun c hc => by
     rw [ht1] at hc
     have hc : c ∈ aZ.set i s' := hc
     refine JB ?_
     rcases List.mem_or_eq_of_mem_set hc with hc | rfl
     ·exact R6.out _ (by rw [aN]; exact List.mem_map_of_mem hc)
     ·exact Sa) base L w4 hT (eY eB HB)
    rw [show t1.p = tp by rw [ht1]; rfl] at Sb
    have Z7 := A_ Sb
    have qa : ae (t1.erase = .mk l1 l2 ((NT.aD aZ).set i s'.erase)) := ⟨by rw [ht1]; show PT.mk _ _ (NT.aD (aZ.set i s')) = _; rw [aN, aN, List.map_set]⟩
    clear ht1 hS hT Sb hA1 hB1 Sa HS
    go_wp2_with (first | (go_at_call 133; (with_reducible refine Z7.out.mono ?_); rintro e w9 ⟨rfl, t2, ht1, ht2, ht3, Vt⟩))
    go_end0
    refine ⟨uV (.mk l1 l2 ((NT.aD aZ).set i s'.erase)) i, ?_, rfl, t2, by rw [ht1, HT1.out]; rfl, by rw [ht2, qa.out], ht3, HB.out.trans Vt⟩
    rw [HR.out]
    (first | rw [if_pos rfl] | rw [if_pos trivial])
    rw [if_neg hl0.out, Nc.out, ZL.out.2, oF.out, sS.out, HY.out.1, HY.out.2]
    rfl
   | false =>
    go_enter Try.func114, Try.ntmps114
    go_upto_region 1 with (first | (go_at_call 73; (with_reducible refine (fH.calls kf _ _ tks key (i : Int) _ ?aj ?aU Gl.out).mono ?_); (case aj => repeat (first | exact HRW.out.2.2 | (with_reducible refine Kd.dx ?_ _) | (with_reducible refine Kd.eD ?_))); (case aU => exact HRW.out.2.1); rintro e w1 ⟨rfl, ⟨nd, rfl⟩⟩) | (go_at_call 101; (with_reducible refine (gZ.calls _ _ tks (i : Int) key false _ ?aj ?aU Uk.out).mono ?_); (case aj => repeat (first | exact HRW.out.2.2 | (with_reducible refine Kd.dx ?_ _) | (with_reducible refine Kd.eD ?_))); (case aU => exact HRW.out.2.1); rintro e w1 ⟨rfl, ⟨nd, rfl⟩⟩))
    generalize hW : World.drewN _ _ = w5
    have az : ae (aa w5 base [qW 101 tp tF tks.length ja uF tvs.length jk (some kS) aZ.length jC, lW tF ja tks, lW uF jk tvs, rY 74 (some kS) jC aZ, (NT.bI 101 74 aZ), L]) := ⟨by rw [<- hW]; exact aa.drewN HS.out _⟩
    have aG : ae (Below base w w5) := ⟨by rw [<- hW]; exact ah HB.out _⟩
    clear HS HB FM hbl hW; have HS := az; have HB := aG; clear az aG
    have hH2 : Has key (bD s.erase) := (sw (t := PT.mk tks tvs (NT.aD aZ)) O1.out R9.out (by rw [show dV key (PT.mk tks tvs (NT.aD aZ)).keys = i from U9.out.1]; exact U9.out.2) (by rw [show dV key (PT.mk tks tvs (NT.aD aZ)).keys = i from U9.out.1]; exact HSE.out)).2.2 Xu.out
    have ZZ := A_ hH2
    clear hH2
    obtain ⟨sp, xN⟩ : ∃ p, s.p = p := ⟨_, rfl⟩
    have wW := A_ xN
    obtain ⟨t0, ht0⟩ : ∃ t0, t0 = NT.mk tp (.slice tF tks.length ja) (.slice uF tvs.length jk) (.slice (some kS) aZ.length jC) tks tvs aZ := ⟨_, rfl⟩
    have HT0 := A_ ht0
    have vQ := A_ (show Sat w5 base (t0.fB 101 74 ++ L) by rw [ht0]; exact lK HS.out)
    have Xt : ae (t0.kids[i]? = some s) := ⟨by rw [ht0]; exact FU.out⟩
    clear ht0
    have Ce := aa.z2 HS.out 0 rfl
    have ZA := il (aa.gX HS.out 3 rfl) (And.intro FU.out xN)
    clear xN
    have ci0 := dN (0 <= (i : Int))
    have ci1 := dN ((i : Int) < (aZ.length : Int))
    have ci2 : (i < aZ.length) = True := eq_true hil
    have hC := fun (w : World) (hs : Sat w base (t0.fB 101 74 ++ L)) (hb : base <= w.heap.size) => ih s key h QU.out jl.out.1 (fun _ => by have := jl.out.2; omega) Va.out ZZ.out base (t0.hole 101 74 (i) L) w (hs.perm (zf L Xt.out)) hb
    rw [wW.out] at hC
    have HC := A_ hC
    clear hC
    go_upto_region 6 with (first | (go_at_call 114; (with_reducible refine (HC.out _ vQ.out (eY eB HB)).mono ?_); rintro e w8 ⟨rs, hrs, rfl, s', hsp, yK, hs', hb'⟩))
    have uB := A_ hrs
    have ZM := hrs
    rw [uu n s.erase key h QU.out jl.out.1 Va.out ZZ.out] at ZM
    obtain ⟨rs', PR, hkr, hlr, _⟩ := nN n s.erase key h QU.out jl.out.1 (fun _ => by have := jl.out.2; rw [bN]; omega) Va.out ZZ.out
    obtain rfl : rs = rs' := by rw [ZM] at PR; exact Option.some.inj PR
    have Sa : ae (mG s'.erase) := ⟨by rw [yK]; exact hkr.b⟩
    clear hrs ZM PR hkr hlr
    rw [wW.out] at hsp
    have M7 : s'.p = s.p := by rw [hsp, wW.out]
    have hT1 : Sat w8 base ((t0.jq (i) s').fB 101 74 ++ L) := hs'.perm (NA L Xt.out M7)
    have hE1 : (t0.jq (i) s').erase = .mk tks tvs ((NT.aD aZ).set (i) s'.erase) := by rw [uQ, HT0.out]; rfl
    have HB2 := A_ (HB.out.trans hb')
    have Sb := BL.calls (t0.jq (i) s') (i) (by rw [HT0.out]; exact ⟨by show tks.length <= 1000; omega, by have := R5.out; show tvs.length = tks.length; omega, .inr (by have := Bb.out; show (aZ.set _ s').length = tks.length + 1; rw [List.length_set]; omega)⟩) (by rw [HT0.out]; have := Bb.out; show (aZ.set _ s').length = tks.length + 1; rw [List.length_set]; omega) (by rw [HT0.out]; show 0 < tks.length; omega) (by rw [HT0.out]; show i < (aZ.set _ s').length; rw [List.length_set]; exact hil) (fun c hc => by
     rw [HT0.out] at hc
     have hc : c ∈ aZ.set (i) s' := hc
     refine JB ?_
     rcases List.mem_or_eq_of_mem_set hc with hc | rfl
     ·exact R6.out _ (by rw [aN]; exact List.mem_map_of_mem hc)
     ·exact Sa.out) base L w8 hT1 (eY eB HB2)
    rw [show (t0.jq (i) s').p = tp by rw [HT0.out]; rfl] at Sb
    rw [hE1] at Sb
    have Z7 := A_ Sb
    have HP0 : ae ((t0.jq (i) s').p = tp) := ⟨by rw [HT0.out]; rfl⟩
    have ZK := A_ yK
    clear Sb hE1 hT1 M7 hs' hb' yK Ce ZA
    go_wp2_with (first | (go_at_call 133; (with_reducible refine Z7.out.mono ?_); rintro e w9 ⟨rfl, t2, ht1, ht2, ht3, Vt⟩))
    go_end0
    refine ⟨uV (.mk tks tvs ((NT.aD aZ).set i s'.erase)) i, ?_, rfl, t2, by rw [ht1, HP0.out]; rfl, ht2, ht3, HB2.out.trans Vt⟩
    rw [HR.out]
    (first | rw [if_neg (by decide)] | rw [if_neg not_false])
    rw [if_neg hl0.out, Nc.out, uB.out, ZK.out]
    rfl
set_option maxHeartbeats 8000000
set_option maxRecDepth 100000
open Go.Proofs.Ytoddejmlcnbdmaa.Pure (mO bD rZ Has)
def DWR (w : World) (base T E : Nat) (L : List Ck) (r : Option PT) (e : Ending) (w' : World) : Prop := ∃ r', r = some r' /\ WP w base T E L (lT r') e w'
theorem Iq {w : World} {base T E i : Nat} {t s : NT} {L : List Ck} (hk : t.kids[i]? = some s) (hs : Sat w base (t.fB T E ++ L)) : Sat w base (s.fB T E ++ L) := by
 have h := aa.ky (Ip hk hs) [5, 7] (by decide)
 unfold aa at h
 simp only [ky, List.map_cons, List.map_nil, List.getD_cons_succ, List.getD_cons_zero, List.flatten_cons, List.flatten_nil, List.append_nil] at h
 exact h
theorem JC.calls (t : NT) (key : ByteArray) (h : Nat) (hkd : rZ h t.erase) (hroot : t.kids.length ≠ 0 -> 0 < t.keys.length) (hsrt : mO (bD t.erase)) (hhas : Has key (bD t.erase)) (base : Nat) (L : List Ck) (w : World) (hs : Sat w base (t.fB 101 74 ++ L)) (hbs : base <= w.heap.size) :
  Calls Try.prog 85 #[bO t.p, .string key] w (DWR w base 101 74 L (xR t.erase.big t.erase key)) := by
 have hC := RA.calls t.erase.big t key h (Nat.le_refl _) hkd hroot hsrt hhas base L w hs hbs
 have hok := Go.Proofs.Ytoddejmlcnbdmaa.Pure.nN t.erase.big t.erase key h (Nat.le_refl _) hkd (fun c => by rw [bN]; exact hroot (fun e => c (by rw [rJ, List.length_eq_zero_iff.1 e]; rfl))) hsrt hhas
 rw [<- Go.Proofs.Ytoddejmlcnbdmaa.Pure.uu t.erase.big t.erase key h (Nat.le_refl _) hkd hsrt hhas] at hok
 generalize xR t.erase.big t.erase key = R at hC hok ⊢
 obtain ⟨rk, hrk, hrb, _⟩ := hok
 have CJ := A_ (And.intro hrk hrb.b)
 obtain ⟨tp, htp⟩ : ∃ p, t.p = p := ⟨_, rfl⟩
 rw [htp] at hC ⊢
 have HTP := A_ htp
 have HC := A_ hC
 clear hkd hroot hsrt hhas hs hbs htp hrk hrb hC
 go_enter Try.func85, Try.ntmps85
 go_upto_region 2 with (first | (go_at_call 114; (with_reducible refine HC.out.mono ?_); rintro e w1 ⟨r1, hr1, rfl, t1, ht1, ht2, ht3, Vt⟩))
 have hb1 : mG t1.erase := by
  obtain rfl : r1 = rk := by rw [CJ.out.1] at hr1; exact (Option.some.inj hr1).symm
  rw [ht2]
  exact CJ.out.2
 rw [HTP.out] at ht1
 have hrd := pK ht3.left
 cases t1 with | mk p1 kv1 vv1 xW CK vs1 cs1 =>
 have ht1 : p1 = tp := ht1
 subst ht1
 have h0 := jb ht3
 unfold rH at h0
 simp only [NT.keys, NT.vals, NT.kids, NT.p, NT.kv, NT.vv, NT.cv] at h0
 obtain ⟨KH, ck1, rfl⟩ := Kd.au (h0.sr 1 rfl)
 obtain ⟨YN, Xo, rfl, _, _⟩ := eO (h0.q 3 rfl)
 have gy := aa.z0 h0 0 rfl
 have Ce := aa.z2 h0 0 rfl
 obtain ⟨t1, Vd⟩ : ∃ t1, t1 = NT.mk p1 (.slice KH CK.length ck1) vv1 (.slice YN cs1.length Xo) CK vs1 cs1 := ⟨_, rfl⟩
 rw [<- Vd] at ht2 ht3 hrd hb1
 have HT1 := A_ Vd
 have HR1 := A_ (And.intro hr1 ht2)
 have HS := A_ ht3
 have HB := A_ Vt
 have FM : ae (Rd 101 w1 p1 t1.erase) := ⟨by have := hrd; rw [Vd] at this ⊢; exact this⟩
 have hks : CK.length <= 4 /\ cs1.length <= 5 := by
  obtain ⟨⟨_, q2, q3⟩, _⟩ := cz.1 hb1
  rw [bN, Vd] at q2 q3
  rw [cZ] at q3
  have q2 : CK.length <= 4 := q2
  have q3 : cs1.length = 0 ∨ cs1.length = CK.length + 1 := q3
  omega
 have HQ := A_ h0
 clear hr1 ht2 ht3 Vt hrd h0 Vd hb1
 obtain ⟨nk, hnk⟩ : ∃ n, CK.length = n := ⟨_, rfl⟩
 have HNK := A_ hnk
 rw [hnk] at gy hks
 by_cases hk0 : nk = 0
 ·have ck := pF ((nk : Int) = (0 : Int))
  have ck2 : ((nk : Int) == (0 : Int)) = true := by rw [hk0]; rfl
  by_cases hc0 : cs1.length = 0
  ·have hbl := A_ (show decide ((t1.erase.kids.length : Int) = 0) = true from decide_eq_true (by rw [cZ, HT1.out]; show (cs1.length : Int) = 0; omega))
   have nQ := A_ hc0
   clear hnk hc0
   go_wp2_with (first | (go_at_call 99; (with_reducible refine (dU.dQ true hbl.out _ ?aj).mono ?_); (case aj => repeat (first | exact FM.out | (with_reducible refine Rd.drewN ?_ _) | (with_reducible refine Rd.drew ?_))); rintro e w' ⟨rfl, ⟨nd, rfl⟩⟩))
   go_ret
   refine ⟨r1, HR1.out.1, t1, by rw [HT1.out]; rfl, ?_, Sat.drewN HS.out _, ah HB.out _⟩
   unfold lT
   rw [if_neg (by rintro ⟨_, c⟩; exact c (by rw [<- HR1.out.2, cZ, HT1.out]; exact nQ.out)), HR1.out.2]
  ·have hbl := A_ (show decide ((t1.erase.kids.length : Int) = 0) = false from decide_eq_false (by rw [cZ, HT1.out]; show ¬ (cs1.length : Int) = 0; omega))
   obtain ⟨s, hsx⟩ : ∃ s, cs1[0]? = some s := ⟨cs1[0]'(by omega), List.getElem?_eq_getElem (by omega)⟩
   obtain ⟨sp, hsp⟩ : ∃ p, s.p = p := ⟨_, rfl⟩
   obtain ⟨ad1, rfl⟩ := gq (aa.q HQ.out 3 rfl) (by omega)
   have ZA := wJ (aa.gX HQ.out 3 rfl) (And.intro hsx hsp)
   have Sn := A_ (And.intro hsx hsp)
   have b0_ := dN ((0 : Int) < (cs1.length : Int))
   have Vr := dN (0 < cs1.length)
   have nQ := A_ hc0
   clear hnk hsx hsp hc0
   go_wp2_with (first | (go_at_call 99; (with_reducible refine (dU.dQ false hbl.out _ ?aj).mono ?_); (case aj => repeat (first | exact FM.out | (with_reducible refine Rd.drewN ?_ _) | (with_reducible refine Rd.drew ?_))); rintro e w' ⟨rfl, ⟨nd, rfl⟩⟩))
   rw [<- Sn.out.2]
   go_ret
   have hk1 : t1.kids[0]? = some s := by rw [HT1.out]; exact Sn.out.1
   refine ⟨r1, HR1.out.1, s, rfl, ?_, Sat.drewN (Iq hk1 HS.out) _, ah HB.out _⟩
   unfold lT
   rw [if_pos ⟨by rw [<- HR1.out.2, bN, HT1.out]; show CK.length = 0; rw [HNK.out]; exact hk0, fun c => nQ.out (by rw [<- HR1.out.2, cZ, HT1.out] at c; exact c)⟩, <- HR1.out.2, rQ hk1]
 ·have ck := mZ ((nk : Int) = (0 : Int))
  have ck2 : ((nk : Int) == (0 : Int)) = false := beq_eq_false_iff_ne.2 (by omega)
  clear hnk
  go_wp2_with fail
  go_ret
  refine ⟨r1, HR1.out.1, t1, by rw [HT1.out]; rfl, ?_, HS.out, HB.out⟩
  unfold lT
  rw [if_neg (by rintro ⟨c, _⟩; rw [<- HR1.out.2, bN, HT1.out] at c; exact hk0 (HNK.out.symm.trans c)), HR1.out.2]
end Go.Proofs.Ytoddejmlcnbdmaa.Tree
namespace Go.Proofs.Ytoddejmlcnbdmaa.Fn
open Go.Proofs.Ytoddejmlcnbdmaa.Tree
theorem sD {p0 p1 q : Prop} (h0 : p0) (h1 : p1) (h : p0 -> p1 -> q := by intro Dl q1_; repeat (first | (with_reducible first | exact Dl | apply ah | apply aT | refine bL ?_ q1_) | exact Dl)) : q := h h0 h1
open Go.Proofs.Ytoddejmlcnbdmaa.Pure (Qq Qr xx bD rD oO jK BI zk bZ su Has kM zF zG Il zw Ia)
set_option maxHeartbeats 8000000
set_option maxRecDepth 100000
def zH (o : Option PT) (key : ByteArray) : List bE × Bool := match o with
 | none => ([], false)
 | some t => if (kM key (bD t)).2 = true then (match mV t.big t key with
  | none => ([], false)
  | some r => (mh (lT r) 0, true)) else ([], false)
theorem BM {key : ByteArray} {l : List Go.Proofs.Ytoddejmlcnbdmaa.Pure.KV} : (su key l).length <= l.length := List.length_filter_le _ _
def jZ.f (aX : List bE) (a1 : ByteArray) : Option (List bE × Bool) := if tu aX = true then some (zH (FQ aX) a1) else none
theorem jZ.JD (bR : Option Addr) (bQ : Nat) (aX : List (bE)) (a1 : ByteArray) (r1 : List bE) (r2 : Bool) (w : World) (jB : Kd.C oP w bR aX.length aX) (jQ : aX.length <= bQ) (h : jZ.f aX a1 = some (r1, r2)) :
  Calls Try.prog 39 #[.agg #[.slice bR aX.length bQ], .string a1] w fun e w' => ∃ kI : Value, e = .returned (.tuple #[.agg #[kI], .bool r2]) /\ Kd.S iV 110 w' w.heap.size (fun _ => True) kI r1 /\ Below w.heap.size w w' := by
 unfold jZ.f at h
 have HP := A_ jB
 clear jB jQ
 by_cases hok : tu aX = true
 ·rw [if_pos hok] at h
  obtain ⟨hok1, hP⟩ := zD hok
  have Mr := A_ (xm hok1).1
  have HM := A_ (xm hok1).2
  obtain ⟨o, hrs⟩ : ∃ o, FQ aX = o := ⟨_, rfl⟩
  rw [hrs] at h
  have hof := hrs
  have h := Option.some.inj h
  have uB := A_ hrs
  clear hok hok1 hrs
  cases o with
  | none =>
   have h : (([] : List bE), false) = (r1, r2) := h
   injection h with e1 e2
   subst e1
   subst e2
   clear hof hP
   go_enter Try.func39, Try.ntmps39
   go_wp2_with (first | (refine lY 2 #[.slice bR aX.length bQ] 29 ?_; intro b3 hg w1 aM hb; have HB := A_ hb; have hz3 : w1.cell? ⟨b3, 0, none⟩ = some (.slice bR aX.length bQ) := (af aM 0).trans rfl; clear hg aM hb) | (refine lY 4 #[.slice none 0 0] 29 ?_; intro g6 hg w2 aM hb; have wY := (hb.cell (World.block_lt_of_cell? w1 _ hz3)).trans hz3; clear hz3; have hz3 := wY; clear wY; have M8 := A_ (show w.heap.size <= g6 from by rw [hg]; exact Below.size HB.out); have az := A_ (bA HB.out hb); clear HB; have HB := az; have ng := A_ aM; clear az hg aM hb) | (go_at_call 57; (with_reducible refine (Bo.calls aX Mr.out bR bQ _ (Kd.aA HP.out HB.out) HM.out).mono ?_); rintro e w3 ⟨hb, hr⟩; rw [uB.out] at hr; obtain ⟨-, rfl⟩ := hr.resolve_right (by rintro ⟨_, h, _⟩; cases h); have az := A_ (bA HB.out hb); have aG := A_ (av ng.out hb); clear HB ng; have HB := az; have ng := aG; clear az aG hb hr hz3; have Ve := (af ng.out 0).trans rfl; have Vf := ax ng.out 0))
   refine bodyPost_ret (lq rfl _ _ g6 29 #[.slice none 0 0] (0, 0) _ rfl (by (with_reducible repeat (first | refine cB ?_ _ | refine dF ?_ )); refine gY (cs := #[.slice none 0 0]) ?_ 0 _ rfl; (with_reducible repeat (first | refine cB ?_ _ | refine dF ?_)); exact ng.out) Try.underlying29 rfl (by kernel_rfl)) rfl ?_
   exact ⟨_, rfl, Kd.Qy _ _ _ _ _, (sD HB.out M8.out)⟩
  | some t =>
   have KD := A_ (xx hP hof)
   clear hof hP
   have hg := zG t.big t a1 (Nat.le_refl _) KD.out.1.bnd KD.out.1.NM
   have h : (if (kM a1 (bD t)).2 = true then (match mV t.big t a1 with | none => ([], false) | some r => (mh (lT r) 0, true)) else (([] : List bE), false)) = (r1, r2) := h
   have QV : (CO t.big t a1).2 = true -> Has a1 (bD t) := fun e => zF.1 (by rw [<- hg]; exact e)
   rw [<- hg] at h
   obtain ⟨⟨gv, gb⟩, hgg⟩ : ∃ g, CO t.big t a1 = g := ⟨_, rfl⟩
   rw [hgg] at h QV
   have HX := A_ hgg
   clear hg hgg
   have HSH := A_ (bZ KD.out.1.bnd)
   cases gb with
   | false =>
    have h : (([] : List bE), false) = (r1, r2) := h
    injection h with e1 e2
    subst e1
    subst e2
    clear QV
    go_enter Try.func39, Try.ntmps39
    go_wp2_with (first | (refine lY 2 #[.slice bR aX.length bQ] 29 ?_; intro b3 hg w1 aM hb; have HB := A_ hb; have hz3 : w1.cell? ⟨b3, 0, none⟩ = some (.slice bR aX.length bQ) := (af aM 0).trans rfl; clear hg aM hb) | (refine lY 4 #[.slice none 0 0] 29 ?_; intro g6 hg w2 aM hb; have wY := (hb.cell (World.block_lt_of_cell? w1 _ hz3)).trans hz3; clear hz3; have hz3 := wY; clear wY; have M8 := A_ (show w.heap.size <= g6 from by rw [hg]; exact Below.size HB.out); have az := A_ (bA HB.out hb); clear HB; have HB := az; have ng := A_ aM; clear az hg aM hb) | (go_at_call 57; (with_reducible refine (Bo.calls aX Mr.out bR bQ _ (Kd.aA HP.out HB.out) HM.out).mono ?_); rintro e w3 ⟨hb, hr⟩; rw [uB.out] at hr; obtain ⟨nt, h9, rfl, hs⟩ := hr.resolve_left (by rintro ⟨h, _⟩; cases h); injection h9 with h9; subst h9; have az := A_ (bA HB.out hb); have aG := A_ (av ng.out hb); have HS := A_ (((Sat.one (c := .box 29 g6 #[.slice none 0 0]) ⟨M8.out, ng.out⟩).behind hb (Below.size HB.out) hs).perm List.perm_append_comm); clear HB ng; have HB := az; have ng := aG; clear az aG hb hr hs hz3; have Ve := (af ng.out 0).trans rfl; have Vf := ax ng.out 0) | (go_at_call 63; (with_reducible refine (KW.calls _ nt.erase (Nat.le_refl _) HSH.out a1 gv _ HX.out _ ?aj).mono ?_); (case aj => repeat (first | exact pK HS.out.left | (with_reducible refine Rd.drewN ?_ _) | (with_reducible refine Rd.drew ?_))); rintro e w' ⟨rfl, ⟨nd, rfl⟩⟩))
    refine bodyPost_ret (lq rfl _ _ g6 29 #[.slice none 0 0] (0, 0) _ rfl (by (with_reducible repeat (first | refine cB ?_ _ | refine dF ?_ )); refine gY (cs := #[.slice none 0 0]) ?_ 0 _ rfl; (with_reducible repeat (first | refine cB ?_ _ | refine dF ?_)); exact ng.out) Try.underlying29 rfl (by kernel_rfl)) rfl ?_
    exact ⟨_, rfl, Kd.Qy _ _ _ _ _, (sD HB.out M8.out)⟩
   | true =>
    have QV := QV rfl
    obtain ⟨r, hr, hro, hra⟩ := zw KD.out.1 QV
    obtain ⟨hgd, hkd⟩ := KD.out.1.kid
    have h : (match mV t.big t a1 with | none => ([], false) | some r => (mh (lT r) 0, true)) = (r1, r2) := h
    rw [hr] at h
    have h : (mh (lT r) 0, true) = (r1, r2) := h
    injection h with e1 e2
    subst e1
    subst e2
    have Xu := A_ QV
    have HRR := A_ hr
    have HRO := A_ hro
    have Nc := A_ hkd
    have hsm : (lT r).big <= 100000 := by
     have h1 := hro.small
     rw [hra] at h1
     have h2 := BM (key := a1) (l := bD t)
     have h3 := KD.out.2
     omega
    have OJ := A_ hsm
    clear QV hr hro hra hkd hsm
    go_enter Try.func39, Try.ntmps39
    go_upto_region 7 with (first | (refine lY 2 #[.slice bR aX.length bQ] 29 ?_; intro b3 hg w1 aM hb; have HB := A_ hb; have hz3 : w1.cell? ⟨b3, 0, none⟩ = some (.slice bR aX.length bQ) := (af aM 0).trans rfl; clear hg aM hb) | (refine lY 4 #[.slice none 0 0] 29 ?_; intro g6 hg w2 aM hb; have wY := (hb.cell (World.block_lt_of_cell? w1 _ hz3)).trans hz3; clear hz3; have hz3 := wY; clear wY; have M8 := A_ (show w.heap.size <= g6 from by rw [hg]; exact Below.size HB.out); have az := A_ (bA HB.out hb); clear HB; have HB := az; have ng := A_ aM; clear az hg aM hb) | (go_at_call 57; (with_reducible refine (Bo.calls aX Mr.out bR bQ _ (Kd.aA HP.out HB.out) HM.out).mono ?_); rintro e w3 ⟨hb, hr⟩; rw [uB.out] at hr; obtain ⟨nt, h9, rfl, hs⟩ := hr.resolve_left (by rintro ⟨h, _⟩; cases h); injection h9 with h9; subst h9; have az := A_ (bA HB.out hb); have aG := A_ (av ng.out hb); have HS := A_ (((Sat.one (c := .box 29 g6 #[.slice none 0 0]) ⟨M8.out, ng.out⟩).behind hb (Below.size HB.out) hs).perm List.perm_append_comm); clear HB ng; have HB := az; have ng := aG; clear az aG hb hr hs hz3; have Ve := (af ng.out 0).trans rfl; have Vf := ax ng.out 0) | (go_at_call 63; (with_reducible refine (KW.calls _ nt.erase (Nat.le_refl _) HSH.out a1 gv _ HX.out _ ?aj).mono ?_); (case aj => repeat (first | exact pK HS.out.left | (with_reducible refine Rd.drewN ?_ _) | (with_reducible refine Rd.drew ?_))); rintro e w' ⟨rfl, ⟨nd, rfl⟩⟩))
    generalize hW : World.drewN w3 _ = w4
    have az := A_ (show Below w.heap.size w w4 by rw [<- hW]; exact ah HB.out _)
    have aG := A_ (show Sat w4 w.heap.size (nt.fB 96 70 ++ [.box 29 g6 #[.slice none 0 0]]) by rw [<- hW]; exact Sat.drewN HS.out _)
    clear HB HS ng Ve Vf hW
    have HB := az
    have HS := aG
    clear az aG
    have J6 := A_ (Rx.calls nt.erase.big nt a1 _ (Nat.le_refl _) Nc.out (fun e => by have := KD.out.1.root (fun c => e (by rw [<- cZ, c]; rfl)); rw [bN] at this; exact this) KD.out.1.NM Xu.out w.heap.size _ w4 HS.out (Below.size HB.out))
    go_upto_region 8 with (first | (go_at_call 83; (with_reducible refine (J6.out).mono ?_); rintro e w5 ⟨r', hr', rfl, t1, ht0, ht1, ht2, ht3⟩))
    obtain rfl : r = r' := by rw [HRR.out] at hr'; exact Option.some.inj hr'
    have az := A_ (HB.out.trans ht3)
    clear HB HS J6 hr' ht3
    have HB := az
    clear az
    have hrb : mG t1.erase := by
     obtain ⟨r', h1, h2, _⟩ := Go.Proofs.Ytoddejmlcnbdmaa.Pure.nN nt.erase.big nt.erase a1 _ (Nat.le_refl _) Nc.out KD.out.1.root KD.out.1.NM Xu.out
     obtain rfl : r = r' := by rw [HRR.out] at h1; exact Option.some.inj h1
     rw [ht1]
     exact h2.b
    have hrd := pK ht2.left
    have h0 := jb ht2
    obtain ⟨p0, hp1⟩ : ∃ p, nt.p = p := ⟨_, rfl⟩
    rw [hp1] at ht0 ⊢
    cases t1 with | mk p1 kv1 vv1 xW CK vs1 cs1 =>
    have ht0 : p1 = p0 := ht0
    subst ht0
    unfold rH at h0
    simp only [NT.keys, NT.vals, NT.kids, NT.p, NT.kv, NT.vv, NT.cv] at h0
    obtain ⟨KH, ck1, rfl⟩ := Kd.au (h0.sr 1 rfl)
    obtain ⟨YN, Xo, rfl, _, _⟩ := eO (h0.q 3 rfl)
    have gy := aa.z0 h0 0 rfl
    have Ce := aa.z2 h0 0 rfl
    obtain ⟨t1, Vd⟩ : ∃ t1, t1 = NT.mk p1 (.slice KH CK.length ck1) vv1 (.slice YN cs1.length Xo) CK vs1 cs1 := ⟨_, rfl⟩
    rw [<- Vd] at ht1 ht2 hrd hrb
    have HT1 := A_ Vd
    have WS : ae (t1.p = p1) := ⟨by rw [Vd]; rfl⟩
    have qa := A_ ht1
    have HS := A_ ht2
    have FM : ae (Rd 96 w5 p1 t1.erase) := ⟨by have h9 := hrd; rw [WS.out] at h9; exact h9⟩
    have hks : CK.length <= 4 /\ cs1.length <= 5 := by
     obtain ⟨⟨_, q2, q3⟩, _⟩ := cz.1 hrb
     rw [bN, Vd] at q2 q3
     rw [cZ] at q3
     have q2 : CK.length <= 4 := q2
     have q3 : cs1.length = 0 ∨ cs1.length = CK.length + 1 := q3
     omega
    have HQ := A_ h0
    clear ht1 ht2 hrd h0 Vd hrb hp1
    obtain ⟨nk, hnk⟩ : ∃ n, CK.length = n := ⟨_, rfl⟩
    have HNK := A_ hnk
    rw [hnk] at gy hks
    by_cases hk0 : nk = 0
    ·have ck := pF ((nk : Int) = (0 : Int))
     have ck2 : ((nk : Int) == (0 : Int)) = true := by rw [hk0]; rfl
     by_cases hc0 : cs1.length = 0
     ·have hbl := A_ (show decide ((t1.erase.kids.length : Int) = 0) = true from decide_eq_true (by rw [cZ, HT1.out]; show (cs1.length : Int) = 0; omega))
      have nQ := A_ hc0
      clear hnk hc0
      go_upto_region 10 with (first | (go_at_call 84; (with_reducible refine (dZ.dQ true hbl.out _ ?aj).mono ?_); (case aj => repeat (first | exact FM.out | (with_reducible refine Rd.drewN ?_ _) | (with_reducible refine Rd.drew ?_))); rintro e w' ⟨rfl, ⟨nd, rfl⟩⟩))
      generalize hW : World.drewN w5 _ = w6
      have az := A_ (show Below w.heap.size w w6 by rw [<- hW]; exact ah HB.out _)
      have aG := A_ (show Sat w6 w.heap.size (t1.fB 96 70 ++ [.box 29 g6 #[.slice none 0 0]]) by rw [<- hW]; exact Sat.drewN HS.out _)
      clear HB HS hW
      have HB := az
      have HS := aG
      clear az aG
      have Vg : ae (t1.erase = lT r) := ⟨by unfold lT; rw [if_neg (by rintro ⟨_, c⟩; exact c (by rw [<- qa.out, cZ, HT1.out]; exact nQ.out)), qa.out]⟩
      have CV := A_ (wL.calls t1 (by rw [Vg.out]; exact HRO.out.bnd) (by rw [Vg.out]; exact OJ.out) w.heap.size _ w6 HS.out (Below.size HB.out))
      replace CV : ae (Calls Try.prog 77 #[bO p1] w6 _) := ⟨by have h9 := CV.out; rw [WS.out] at h9; exact h9⟩
      go_wp2_with (first | (go_at_call 77; (with_reducible refine (CV.out).mono ?_); rintro e w7 ⟨vo, fP, rfl, he, hs3, hb3⟩; obtain ⟨Ao, co, rfl⟩ := jc (hs3.ok (sW vo fP) (List.mem_append_right _ List.mem_cons_self)); have ng := A_ (hs3.cell (T := 29) (p := g6) (cs := #[.slice none 0 0]) (List.mem_append_right _ (List.mem_append_right _ List.mem_cons_self))); have J9 := A_ hs3; have HE := A_ he; have az := A_ (HB.out.trans hb3); clear HB; have HB := az; clear az hs3 hb3 he; have Ve := (af ng.out 0).trans rfl; have Vf := ax ng.out 0))
      refine bodyPost_ret (lq rfl _ _ g6 29 #[.slice Ao fP.length co] (0, 0) _ rfl (gY (cs := #[.slice none 0 0]) ng.out 0 _ rfl) Try.underlying29 rfl (by kernel_rfl)) rfl ?_
      refine ⟨_, rfl, ?_, (sD HB.out M8.out)⟩
      have hS := xz J9.out
      rw [HE.out, Vg.out] at hS
      exact hS
     ·have hbl := A_ (show decide ((t1.erase.kids.length : Int) = 0) = false from decide_eq_false (by rw [cZ, HT1.out]; show ¬ (cs1.length : Int) = 0; omega))
      obtain ⟨s, hsx⟩ : ∃ s, cs1[0]? = some s := ⟨cs1[0]'(by omega), List.getElem?_eq_getElem (by omega)⟩
      obtain ⟨sp, hsp⟩ : ∃ p, s.p = p := ⟨_, rfl⟩
      obtain ⟨ad1, rfl⟩ := gq (aa.q HQ.out 3 rfl) (by omega)
      have ZA := wJ (aa.gX HQ.out 3 rfl) (And.intro hsx hsp)
      have Sn := A_ (And.intro hsx hsp)
      have b0_ := dN ((0 : Int) < (cs1.length : Int))
      have Vr := dN (0 < cs1.length)
      have nQ := A_ hc0
      have hk1 : t1.kids[0]? = some s := by rw [HT1.out]; exact hsx
      have ni := A_ hk1
      clear hnk hsx hsp hc0 hk1
      go_upto_region 10 with (first | (go_at_call 84; (with_reducible refine (dZ.dQ false hbl.out _ ?aj).mono ?_); (case aj => repeat (first | exact FM.out | (with_reducible refine Rd.drewN ?_ _) | (with_reducible refine Rd.drew ?_))); rintro e w' ⟨rfl, ⟨nd, rfl⟩⟩))
      generalize hW : World.drewN w5 _ = w6
      have az := A_ (show Below w.heap.size w w6 by rw [<- hW]; exact ah HB.out _)
      have aG := A_ (show Sat w6 w.heap.size (s.fB 96 70 ++ [.box 29 g6 #[.slice none 0 0]]) by rw [<- hW]; exact Sat.drewN (Iq ni.out HS.out) _)
      clear HB HS hW
      have HB := az
      have HS := aG
      clear az aG
      have Vg : ae (s.erase = lT r) := ⟨by unfold lT; rw [if_pos ⟨by rw [<- qa.out, bN, HT1.out]; show CK.length = 0; rw [HNK.out]; exact hk0, fun c => nQ.out (by rw [<- qa.out, cZ, HT1.out] at c; exact c)⟩, <- qa.out, rQ ni.out]⟩
      have CV := A_ (wL.calls s (by rw [Vg.out]; exact HRO.out.bnd) (by rw [Vg.out]; exact OJ.out) w.heap.size _ w6 HS.out (Below.size HB.out))
      replace CV : ae (Calls Try.prog 77 #[bO sp] w6 _) := ⟨by have h9 := CV.out; rw [Sn.out.2] at h9; exact h9⟩
      go_wp2_with (first | (go_at_call 77; (with_reducible refine (CV.out).mono ?_); rintro e w7 ⟨vo, fP, rfl, he, hs3, hb3⟩; obtain ⟨Ao, co, rfl⟩ := jc (hs3.ok (sW vo fP) (List.mem_append_right _ List.mem_cons_self)); have ng := A_ (hs3.cell (T := 29) (p := g6) (cs := #[.slice none 0 0]) (List.mem_append_right _ (List.mem_append_right _ List.mem_cons_self))); have J9 := A_ hs3; have HE := A_ he; have az := A_ (HB.out.trans hb3); clear HB; have HB := az; clear az hs3 hb3 he; have Ve := (af ng.out 0).trans rfl; have Vf := ax ng.out 0))
      refine bodyPost_ret (lq rfl _ _ g6 29 #[.slice Ao fP.length co] (0, 0) _ rfl (gY (cs := #[.slice none 0 0]) ng.out 0 _ rfl) Try.underlying29 rfl (by kernel_rfl)) rfl ?_
      refine ⟨_, rfl, ?_, (sD HB.out M8.out)⟩
      have hS := xz J9.out
      rw [HE.out, Vg.out] at hS
      exact hS
    ·have ck := mZ ((nk : Int) = (0 : Int))
     have ck2 : ((nk : Int) == (0 : Int)) = false := beq_eq_false_iff_ne.2 (by omega)
     clear hnk
     go_upto_region 10 with fail
     have Vg : ae (t1.erase = lT r) := ⟨by unfold lT; rw [if_neg (by rintro ⟨c, _⟩; rw [<- qa.out, bN, HT1.out] at c; exact hk0 (HNK.out.symm.trans c)), qa.out]⟩
     have CV := A_ (wL.calls t1 (by rw [Vg.out]; exact HRO.out.bnd) (by rw [Vg.out]; exact OJ.out) w.heap.size _ w5 HS.out (Below.size HB.out))
     replace CV : ae (Calls Try.prog 77 #[bO p1] w5 _) := ⟨by have h9 := CV.out; rw [WS.out] at h9; exact h9⟩
     go_wp2_with (first | (go_at_call 77; (with_reducible refine (CV.out).mono ?_); rintro e w7 ⟨vo, fP, rfl, he, hs3, hb3⟩; obtain ⟨Ao, co, rfl⟩ := jc (hs3.ok (sW vo fP) (List.mem_append_right _ List.mem_cons_self)); have ng := A_ (hs3.cell (T := 29) (p := g6) (cs := #[.slice none 0 0]) (List.mem_append_right _ (List.mem_append_right _ List.mem_cons_self))); have J9 := A_ hs3; have HE := A_ he; have az := A_ (HB.out.trans hb3); clear HB; have HB := az; clear az hs3 hb3 he; have Ve := (af ng.out 0).trans rfl; have Vf := ax ng.out 0))
     refine bodyPost_ret (lq rfl _ _ g6 29 #[.slice Ao fP.length co] (0, 0) _ rfl (gY (cs := #[.slice none 0 0]) ng.out 0 _ rfl) Try.underlying29 rfl (by kernel_rfl)) rfl ?_
     refine ⟨_, rfl, ?_, (sD HB.out M8.out)⟩
     have hS := xz J9.out
     rw [HE.out, Vg.out] at hS
     exact hS
 ·rw [if_neg hok] at h
  cases h
def je.f (k : Nat) (aX : List bE) (a1 : ByteArray) : Option (List bE × Bool) := if tu aX = true then (vG k aX).bind fun o => (match o with | none => some ([], false) | some t => (yf k k t a1).bind fun _ => some (zH (some t) a1)) else none
theorem je.JD (k : Nat) (bR : Option Addr) (bQ : Nat) (aX : List (bE)) (a1 : ByteArray) (r1 : List bE) (r2 : Bool) (w : World) (jB : Kd.C oP w bR aX.length aX) (jQ : aX.length <= bQ) (h : je.f k aX a1 = some (r1, r2)) :
  Calls Try.prog 40 #[.agg #[.slice bR aX.length bQ], .string a1] w fun e w' => ∃ kI : Value, e = .returned (.tuple #[.agg #[kI], .bool r2]) /\ Kd.S iV 110 w' w.heap.size (fun _ => True) kI r1 /\ Below w.heap.size w w' := by
 unfold je.f at h
 have HP := A_ jB
 clear jB jQ
 by_cases hok : tu aX = true
 ·rw [if_pos hok] at h
  obtain ⟨hok1, hP⟩ := zD hok
  have Mr := A_ (xm hok1).1
  have HM := A_ (xm hok1).2
  obtain ⟨o, hrs, h⟩ := Option.bind_eq_some_iff.mp h
  have hof : FQ aX = o := TH hP hrs
  have uB := A_ hrs
  clear hok hok1 hrs
  cases o with
  | none =>
   have h := Option.some.inj h
   have h : (([] : List bE), false) = (r1, r2) := h
   injection h with e1 e2
   subst e1
   subst e2
   clear hof hP
   go_enter Try.func40, Try.ntmps40
   go_wp2_with (first | (refine lY 2 #[.slice bR aX.length bQ] 29 ?_; intro b3 hg w1 aM hb; have HB := A_ hb; have hz3 : w1.cell? ⟨b3, 0, none⟩ = some (.slice bR aX.length bQ) := (af aM 0).trans rfl; clear hg aM hb) | (refine lY 4 #[.slice none 0 0] 29 ?_; intro g6 hg w2 aM hb; have wY := (hb.cell (World.block_lt_of_cell? w1 _ hz3)).trans hz3; clear hz3; have hz3 := wY; clear wY; have M8 := A_ (show w.heap.size <= g6 from by rw [hg]; exact Below.size HB.out); have az := A_ (bA HB.out hb); clear HB; have HB := az; have ng := A_ aM; clear az hg aM hb) | (go_at_call 59; (with_reducible refine (Bp.calls k aX Mr.out bR bQ _ (Kd.aA HP.out HB.out) HM.out _ uB.out).mono ?_); rintro e w3 ⟨hb, hr⟩; obtain ⟨-, rfl⟩ := hr.resolve_right (by rintro ⟨_, h, _⟩; cases h); have az := A_ (bA HB.out hb); have aG := A_ (av ng.out hb); clear HB ng; have HB := az; have ng := aG; clear az aG hb hr hz3; have Ve := (af ng.out 0).trans rfl; have Vf := ax ng.out 0))
   refine bodyPost_ret (lq rfl _ _ g6 29 #[.slice none 0 0] (0, 0) _ rfl (by (with_reducible repeat (first | refine cB ?_ _ | refine dF ?_ )); refine gY (cs := #[.slice none 0 0]) ?_ 0 _ rfl; (with_reducible repeat (first | refine cB ?_ _ | refine dF ?_)); exact ng.out) Try.underlying29 rfl (by kernel_rfl)) rfl ?_
   exact ⟨_, rfl, Kd.Qy _ _ _ _ _, (sD HB.out M8.out)⟩
  | some t =>
   have KD := A_ (xx hP hof)
   clear hof hP
   obtain ⟨g, hg0, h⟩ := Option.bind_eq_some_iff.mp h
   have h := Option.some.inj h
   have hg := Il KD.out.1 hg0
   have h : (if (kM a1 (bD t)).2 = true then (match mV t.big t a1 with | none => ([], false) | some r => (mh (lT r) 0, true)) else (([] : List bE), false)) = (r1, r2) := h
   rw [<- hg] at h
   have QV : g.2 = true -> Has a1 (bD t) := fun e => zF.1 (by rw [<- hg]; exact e)
   obtain ⟨gv, gb⟩ := g
   have HX := A_ hg0
   clear hg hg0
   have HSH := A_ (bZ KD.out.1.bnd)
   cases gb with
   | false =>
    have h : (([] : List bE), false) = (r1, r2) := h
    injection h with e1 e2
    subst e1
    subst e2
    clear QV
    go_enter Try.func40, Try.ntmps40
    go_wp2_with (first | (refine lY 2 #[.slice bR aX.length bQ] 29 ?_; intro b3 hg w1 aM hb; have HB := A_ hb; have hz3 : w1.cell? ⟨b3, 0, none⟩ = some (.slice bR aX.length bQ) := (af aM 0).trans rfl; clear hg aM hb) | (refine lY 4 #[.slice none 0 0] 29 ?_; intro g6 hg w2 aM hb; have wY := (hb.cell (World.block_lt_of_cell? w1 _ hz3)).trans hz3; clear hz3; have hz3 := wY; clear wY; have M8 := A_ (show w.heap.size <= g6 from by rw [hg]; exact Below.size HB.out); have az := A_ (bA HB.out hb); clear HB; have HB := az; have ng := A_ aM; clear az hg aM hb) | (go_at_call 59; (with_reducible refine (Bp.calls k aX Mr.out bR bQ _ (Kd.aA HP.out HB.out) HM.out _ uB.out).mono ?_); rintro e w3 ⟨hb, hr⟩; obtain ⟨nt, h9, rfl, hs⟩ := hr.resolve_left (by rintro ⟨h, _⟩; cases h); injection h9 with h9; subst h9; have az := A_ (bA HB.out hb); have aG := A_ (av ng.out hb); have HS := A_ (((Sat.one (c := .box 29 g6 #[.slice none 0 0]) ⟨M8.out, ng.out⟩).behind hb (Below.size HB.out) hs).perm List.perm_append_comm); clear HB ng; have HB := az; have ng := aG; clear az aG hb hr hs hz3; have Ve := (af ng.out 0).trans rfl; have Vf := ax ng.out 0) | (go_at_call 64; (with_reducible refine (KX.calls k k nt.erase a1 gv _ HX.out _ ?aj).mono ?_); (case aj => repeat (first | exact pK HS.out.left | (with_reducible refine Rd.drewN ?_ _) | (with_reducible refine Rd.drew ?_))); rintro e w' ⟨rfl, ⟨nd, rfl⟩⟩))
    refine bodyPost_ret (lq rfl _ _ g6 29 #[.slice none 0 0] (0, 0) _ rfl (by (with_reducible repeat (first | refine cB ?_ _ | refine dF ?_ )); refine gY (cs := #[.slice none 0 0]) ?_ 0 _ rfl; (with_reducible repeat (first | refine cB ?_ _ | refine dF ?_)); exact ng.out) Try.underlying29 rfl (by kernel_rfl)) rfl ?_
    exact ⟨_, rfl, Kd.Qy _ _ _ _ _, (sD HB.out M8.out)⟩
   | true =>
    have QV := QV rfl
    obtain ⟨r, hr, hro, hra⟩ := zw KD.out.1 QV
    obtain ⟨hgd, hkd⟩ := KD.out.1.kid
    have h : (match mV t.big t a1 with | none => ([], false) | some r => (mh (lT r) 0, true)) = (r1, r2) := h
    rw [hr] at h
    have h : (mh (lT r) 0, true) = (r1, r2) := h
    injection h with e1 e2
    subst e1
    subst e2
    have Xu := A_ QV
    have HRR := A_ hr
    have HRO := A_ hro
    have Nc := A_ hkd
    have hsm : (lT r).big <= 100000 := by
     have h1 := hro.small
     rw [hra] at h1
     have h2 := BM (key := a1) (l := bD t)
     have h3 := KD.out.2
     omega
    have OJ := A_ hsm
    clear QV hr hro hra hkd hsm
    go_enter Try.func40, Try.ntmps40
    go_upto_region 7 with (first | (refine lY 2 #[.slice bR aX.length bQ] 29 ?_; intro b3 hg w1 aM hb; have HB := A_ hb; have hz3 : w1.cell? ⟨b3, 0, none⟩ = some (.slice bR aX.length bQ) := (af aM 0).trans rfl; clear hg aM hb) | (refine lY 4 #[.slice none 0 0] 29 ?_; intro g6 hg w2 aM hb; have wY := (hb.cell (World.block_lt_of_cell? w1 _ hz3)).trans hz3; clear hz3; have hz3 := wY; clear wY; have M8 := A_ (show w.heap.size <= g6 from by rw [hg]; exact Below.size HB.out); have az := A_ (bA HB.out hb); clear HB; have HB := az; have ng := A_ aM; clear az hg aM hb) | (go_at_call 59; (with_reducible refine (Bp.calls k aX Mr.out bR bQ _ (Kd.aA HP.out HB.out) HM.out _ uB.out).mono ?_); rintro e w3 ⟨hb, hr⟩; obtain ⟨nt, h9, rfl, hs⟩ := hr.resolve_left (by rintro ⟨h, _⟩; cases h); injection h9 with h9; subst h9; have az := A_ (bA HB.out hb); have aG := A_ (av ng.out hb); have HS := A_ (((Sat.one (c := .box 29 g6 #[.slice none 0 0]) ⟨M8.out, ng.out⟩).behind hb (Below.size HB.out) hs).perm List.perm_append_comm); clear HB ng; have HB := az; have ng := aG; clear az aG hb hr hs hz3; have Ve := (af ng.out 0).trans rfl; have Vf := ax ng.out 0) | (go_at_call 64; (with_reducible refine (KX.calls k k nt.erase a1 gv _ HX.out _ ?aj).mono ?_); (case aj => repeat (first | exact pK HS.out.left | (with_reducible refine Rd.drewN ?_ _) | (with_reducible refine Rd.drew ?_))); rintro e w' ⟨rfl, ⟨nd, rfl⟩⟩))
    generalize hW : World.drewN w3 _ = w4
    have az := A_ (show Below w.heap.size w w4 by rw [<- hW]; exact ah HB.out _)
    have aG := A_ (show Sat w4 w.heap.size (nt.fB 101 74 ++ [.box 29 g6 #[.slice none 0 0]]) by rw [<- hW]; exact Sat.drewN HS.out _)
    clear HB HS ng Ve Vf hW
    have HB := az
    have HS := aG
    clear az aG
    have J6 := A_ (JC.calls nt a1 _ Nc.out (fun e => by have := KD.out.1.root (fun c => e (by rw [<- cZ, c]; rfl)); rw [bN] at this; exact this) KD.out.1.NM Xu.out w.heap.size _ w4 HS.out (Below.size HB.out))
    go_wp2_with (first | (go_at_call 85; (with_reducible refine (J6.out).mono ?_); rintro e w5 ⟨r', hr', t1, rfl, ht1, ht2, ht3⟩; obtain rfl : r = r' := (by rw [Ia KD.out.1 Xu.out, HRR.out] at hr'; exact Option.some.inj hr'); have CV := A_ (Rq.calls t1 (by rw [ht1]; exact HRO.out.bnd) (by rw [ht1]; exact OJ.out) w.heap.size _ w5 ht2 (Below.size (HB.out.trans ht3))); have HT1 := A_ ht1; have az := A_ (HB.out.trans ht3); clear HB; have HB := az; clear az hr' ht1 ht2 ht3) | (go_at_call 81; (with_reducible refine (CV.out).mono ?_); rintro e w7 ⟨vo, fP, rfl, he, hs3, hb3⟩; obtain ⟨Ao, co, rfl⟩ := jc (hs3.ok (sW vo fP) (List.mem_append_right _ List.mem_cons_self)); have ng := A_ (hs3.cell (T := 29) (p := g6) (cs := #[.slice none 0 0]) (List.mem_append_right _ (List.mem_append_right _ List.mem_cons_self))); have J9 := A_ hs3; have HE := A_ he; have az := A_ (HB.out.trans hb3); clear HB; have HB := az; clear az hs3 hb3 he; have Ve := (af ng.out 0).trans rfl; have Vf := ax ng.out 0))
    refine bodyPost_ret (lq rfl _ _ g6 29 #[.slice Ao fP.length co] (0, 0) _ rfl (gY (cs := #[.slice none 0 0]) ng.out 0 _ rfl) Try.underlying29 rfl (by kernel_rfl)) rfl ?_
    refine ⟨_, rfl, ?_, (sD HB.out M8.out)⟩
    have hS := xz J9.out
    rw [HE.out, HT1.out] at hS
    exact hS
 ·rw [if_neg hok] at h
  cases h
def iq.X5 (k : Nat) (l : List mJ) (a1 : ByteArray) : Prop := (1048576 < (a1.size : Int)) ∨ ((a1.size : Int) <= 1048576 /\ (∃ left : Int, lh.f k l 1048576 = some left /\ (left < 0 ∨ (0 <= left /\ ∃ (p r : List bE) (b : Bool) (m0 : Int) (z0 : List bE) (m1 : Int) (z1 : List bE),
 iF.f k l = some p /\ jZ.f p a1 = some (r, b) /\ je.f k p a1 = some (r, b) /\ gB.f k r r = some true /\ gB.f k p p = some true /\ bJ.f k p 1 = some (m0, z0) /\ bJ.f k r 1 = some (m1, z1) /\ iG.f k z1 1 = some m1 /\ 0 <= m0 /\ 0 <= m1))))
theorem iq.calls (k : Nat) (A0 : Option Addr) (c0 : Nat) (l : List mJ) (a1 : ByteArray) (r0 : Bool) (w : World) (hr0 : Kd.C KN w A0 l.length l) (hc0 : l.length <= c0) (h : iq.X5 k l a1) (ht : r0 = true) :
  Calls Try.prog 11 #[.agg #[.slice A0 l.length c0], .string a1] w fun e w' => e = .returned (.bool r0) /\ Below w.heap.size w w' := by
 have hu24 := Try.underlying24
 have Wu := Try.underlying29
 subst ht
 have jf := A_ hr0
 have nQ := A_ hc0
 have HB := A_ (Below.refl w.heap.size w)
 clear hr0 hc0
 unfold iq.X5 at h
 rcases h with h | ⟨hg1, h⟩
 ·have cg1 : decide (1048576 < (a1.size : Int)) = true := decide_eq_true h
  clear h
  go_enter Try.func11, Try.ntmps11
  go_wp2_with (first | (refine lY 2 #[.slice A0 l.length c0] 24 ?_; intro ga hg w1_ aM hb; have oH := A_ (show w.heap.size <= ga from by rw [hg]; exact iU HB.out); have LW_ga := A_ (show w.heap.size <= ga from by rw [hg]; exact iU HB.out); replace HB := A_ (jO HB.out hb); have HS := A_ (show ga + 1 <= _ from dh aM); have BA := A_ aM; have qc : World.cell? _ ⟨ga, 0, none⟩ = some (.slice A0 l.length c0) := (af BA.out 0).trans rfl; clear hg aM hb))
  go_ret
  exact ⟨by first | rfl | (simp; done), (ko HB.out)⟩
 have cg1 := mZ (1048576 < (a1.size : Int))
 clear hg1
 obtain ⟨left, h0, h⟩ := h
 have E0 := A_ h0
 clear h0
 rcases h with h | ⟨hl0, h⟩
 ·have cl : decide (left < 0) = true := decide_eq_true h
  clear h
  go_enter Try.func11, Try.ntmps11
  go_wp2_with (first | (refine lY 2 #[.slice A0 l.length c0] 24 ?_; intro ga hg w1_ aM hb; have oH := A_ (show w.heap.size <= ga from by rw [hg]; exact iU HB.out); have LW_ga := A_ (show w.heap.size <= ga from by rw [hg]; exact iU HB.out); replace HB := A_ (jO HB.out hb); have HS := A_ (show ga + 1 <= _ from dh aM); have BA := A_ aM; have qc : World.cell? _ ⟨ga, 0, none⟩ = some (.slice A0 l.length c0) := (af BA.out 0).trans rfl; clear hg aM hb) | (go_at_call 15; (with_reducible refine (lh.calls k _ _ l 1048576 left _ ?aj nQ.out E0.out).mono ?_); (case aj => exact Kd.aA jf.out (ko HB.out)); rintro e w2_ ⟨rfl, hb⟩; replace BA := A_ (av (g := ga) (o := .cells #[.slice A0 l.length c0] 24 (0, 0)) (gW BA.out) hb); replace HB := A_ (jO HB.out hb); replace HS := A_ (show ga + 1 <= _ from Nat.le_trans (by exact HS.out) (Below.size hb)); (try clear qc); have qc : World.cell? _ ⟨ga, 0, none⟩ = some (.slice A0 l.length c0) := (af BA.out 0).trans rfl; clear hb))
  go_ret
  exact ⟨by first | rfl | (simp; done), (ko HB.out)⟩
 have cl := mZ (left < 0)
 clear hl0
 obtain ⟨p, r, b, m0, z0, m1, z1, h1, h2, h3, h4, h5, h6, h7, h8, h9, h10⟩ := h
 have E1 := A_ h1
 have E2 := A_ h2
 have E3 := A_ h3
 have E4 := A_ h4
 have E5 := A_ h5
 have E6 := A_ h6
 have E7 := A_ h7
 have E8 := A_ h8
 have cm0 := mZ (m0 < 0)
 have cm1 := mZ (m1 < 0)
 have cmm : (m1 != m1) = false := by simp
 have cbb : (b != b) = false := by simp
 clear h1 h2 h3 h4 h5 h6 h7 h8 h9 h10
 go_enter Try.func11, Try.ntmps11
 go_upto_region 8 with (first | (refine lY 2 #[.slice A0 l.length c0] 24 ?_; intro ga hg w1_ aM hb; have oH := A_ (show w.heap.size <= ga from by rw [hg]; exact iU HB.out); have LW_ga := A_ (show w.heap.size <= ga from by rw [hg]; exact iU HB.out); replace HB := A_ (jO HB.out hb); have HS := A_ (show ga + 1 <= _ from dh aM); have BA := A_ aM; have qc : World.cell? _ ⟨ga, 0, none⟩ = some (.slice A0 l.length c0) := (af BA.out 0).trans rfl; clear hg aM hb) | (go_at_call 15; (with_reducible refine (lh.calls k _ _ l 1048576 left _ ?aj nQ.out E0.out).mono ?_); (case aj => exact Kd.aA jf.out (ko HB.out)); rintro e w2_ ⟨rfl, hb⟩; replace BA := A_ (av (g := ga) (o := .cells #[.slice A0 l.length c0] 24 (0, 0)) (gW BA.out) hb); replace HB := A_ (jO HB.out hb); replace HS := A_ (show ga + 1 <= _ from Nat.le_trans (by exact HS.out) (Below.size hb)); (try clear qc); have qc : World.cell? _ ⟨ga, 0, none⟩ = some (.slice A0 l.length c0) := (af BA.out 0).trans rfl; clear hb) | (go_at_call 17; (with_reducible refine (iF.Bj k _ _ l p _ ?aj nQ.out E1.out).mono ?_); (case aj => exact Kd.aA jf.out (ko HB.out)); rintro e w3_ ⟨vHP1, rfl, ho, hb⟩; obtain ⟨AHP1, cHP1, Sc⟩ := Kd.pq ho; subst Sc; obtain ⟨nHP1, ZN, IM, IP, IQ, IU⟩ := Kd.Nt (last := ga + 1) ho hb (ko HB.out) (show ga + 1 <= _ from HS.out); have jN := A_ (And.intro IM IP); replace BA := A_ (av (g := ga) (o := .cells #[.slice A0 l.length c0] 24 (0, 0)) (gW BA.out) hb); replace HB := A_ (jO HB.out hb); replace HS := A_ (show ga + 1 <= _ from Nat.le_trans (by exact HS.out) (Below.size hb)); (try clear qc); have qc : World.cell? _ ⟨ga, 0, none⟩ = some (.slice A0 l.length c0) := (af BA.out 0).trans rfl; clear HS; have HS := A_ IQ; have WS := A_ IU; clear hb ho IU IM IP IQ) | (go_at_call 39; (with_reducible refine (jZ.JD _ _ p a1 r b _ ?aj ?aU E2.out).mono ?_); (case aj => refine lH ?_; exact lI (Kd.dI WS.out).2.2); (case aU => exact (Kd.dI WS.out).2.1); rintro e w4_ ⟨vHW, rfl, ho, hb⟩; obtain ⟨tO, tQ, Sc⟩ := Kd.pq ho; subst Sc; obtain ⟨Z8, Xv, IM, IP, IQ, IU⟩ := Kd.Nt (last := ZN) ho hb (ko HB.out) (show ZN <= _ from HS.out); have o8 := A_ (And.intro IM IP); replace BA := A_ (av (g := ga) (o := .cells #[.slice A0 l.length c0] 24 (0, 0)) (gW BA.out) hb); replace WS := A_ (Kd.df (rW WS.out) hb); replace HB := A_ (jO HB.out hb); replace HS := A_ (show ZN <= _ from Nat.le_trans (by exact HS.out) (Below.size hb)); (try clear qc); have qc : World.cell? _ ⟨ga, 0, none⟩ = some (.slice A0 l.length c0) := (af BA.out 0).trans rfl; clear HS; have HS := A_ IQ; have HW := A_ IU; clear hb ho IU IM IP IQ) | (refine lY 6 #[.slice none 0 0] 29 ?_; clear WS; intro gw hg w5_ aM hb; have o9 := A_ (show Xv <= gw from by rw [hg]; exact (show _ <= _ from HS.out)); have LW_gw := A_ (show w.heap.size <= gw from by rw [hg]; exact iU HB.out); replace BA := A_ (av (g := ga) (o := .cells #[.slice A0 l.length c0] 24 (0, 0)) (gW BA.out) hb); replace HW := A_ (Kd.df (rW HW.out) hb); replace HB := A_ (jO HB.out hb); replace HS := A_ (show Xv <= _ from Nat.le_trans (by exact HS.out) (Below.size hb)); (try clear qc); have qc : World.cell? _ ⟨ga, 0, none⟩ = some (.slice A0 l.length c0) := (af BA.out 0).trans rfl; clear HS; have HS := A_ (show gw + 1 <= _ from dh aM); have BX := A_ aM; have L9 := (af aM 0).trans rfl; have Ma := ax aM 0; clear hg aM hb))
 have vX := A_ (bL (j := 0) (v := .slice tO r.length tQ) HB.out LW_gw.out)
 have vY := A_ (nC BA.out (p := ⟨gw, 0, none⟩) (show ga ≠ gw from by have := oH.out; have := jN.out; have := o8.out; have := o9.out; omega) (.slice tO r.length tQ))
 have vZ := A_ (Kd.wz (p := ⟨gw, 0, none⟩) HW.out (fun k_ h_ => show k_ ≠ gw from by have := oH.out; have := jN.out; have := o8.out; have := o9.out; have uI : Z8 <= k_ /\ k_ < Xv := h_; omega) (.slice tO r.length tQ))
 have BW := A_ (yT (v := .slice tO r.length tQ) BX.out)
 have wh := A_ (show gw + 1 <= _ from dh BW.out)
 generalize ZO : World.setCell _ ⟨gw, 0, none⟩ (.slice tO r.length tQ) = wSw at vX vY vZ BW wh ⊢
 clear ZO HB BA HW BX HS qc L9 Ma
 have HB := vX
 have BA := vY
 have HW := vZ
 have HS := wh
 clear vX wh vY vZ
 have qc : World.cell? _ ⟨ga, 0, none⟩ = some (.slice A0 l.length c0) := (af BA.out 0).trans rfl
 have vR : World.cell? _ ⟨gw, 0, none⟩ = some (.slice tO r.length tQ) := (af BW.out 0).trans rfl
 go_upto_region 9 with (first | (go_at_call 17; (with_reducible refine (iF.Bj k _ _ l p _ ?aj nQ.out E1.out).mono ?_); (case aj => exact Kd.aA jf.out (ko HB.out)); rintro e w6_ ⟨vHP, rfl, ho, hb⟩; obtain ⟨FX, FY, Sc⟩ := Kd.pq ho; subst Sc; obtain ⟨Xw, Vx, IM, IP, IQ, IU⟩ := Kd.Nt (last := gw + 1) ho hb (ko HB.out) (show gw + 1 <= _ from HS.out); have qx := A_ (And.intro IM IP); replace BA := A_ (av (g := ga) (o := .cells #[.slice A0 l.length c0] 24 (0, 0)) (gW BA.out) hb); replace HW := A_ (Kd.df (rW HW.out) hb); replace BW := A_ (av (g := gw) (o := .cells #[.slice tO r.length tQ] 29 (0, 0)) (gW BW.out) hb); replace HB := A_ (jO HB.out hb); replace HS := A_ (show gw + 1 <= _ from Nat.le_trans (by exact HS.out) (Below.size hb)); (try clear qc); have qc : World.cell? _ ⟨ga, 0, none⟩ = some (.slice A0 l.length c0) := (af BA.out 0).trans rfl; (try clear vR); have vR : World.cell? _ ⟨gw, 0, none⟩ = some (.slice tO r.length tQ) := (af BW.out 0).trans rfl; clear HS; have HS := A_ IQ; have HP := A_ IU; clear hb ho IU IM IP IQ) | (refine lY 8 #[.slice none 0 0] 29 ?_; intro gx hg w7_ aM hb; have qy := A_ (show Vx <= gx from by rw [hg]; exact (show _ <= _ from HS.out)); have LW_gx := A_ (show w.heap.size <= gx from by rw [hg]; exact iU HB.out); replace BA := A_ (av (g := ga) (o := .cells #[.slice A0 l.length c0] 24 (0, 0)) (gW BA.out) hb); replace HW := A_ (Kd.df (rW HW.out) hb); replace BW := A_ (av (g := gw) (o := .cells #[.slice tO r.length tQ] 29 (0, 0)) (gW BW.out) hb); replace HP := A_ (Kd.df (rW HP.out) hb); replace HB := A_ (jO HB.out hb); replace HS := A_ (show Vx <= _ from Nat.le_trans (by exact HS.out) (Below.size hb)); (try clear qc); have qc : World.cell? _ ⟨ga, 0, none⟩ = some (.slice A0 l.length c0) := (af BA.out 0).trans rfl; (try clear vR); have vR : World.cell? _ ⟨gw, 0, none⟩ = some (.slice tO r.length tQ) := (af BW.out 0).trans rfl; clear HS; have HS := A_ (show gx + 1 <= _ from dh aM); have BX := A_ aM; have L9 := (af aM 0).trans rfl; have Ma := ax aM 0; clear hg aM hb))
 have vX := A_ (bL (j := 0) (v := .slice FX p.length FY) HB.out LW_gx.out)
 have vY := A_ (nC BA.out (p := ⟨gx, 0, none⟩) (show ga ≠ gx from by have := oH.out; have := jN.out; have := o8.out; have := o9.out; have := qx.out; have := qy.out; omega) (.slice FX p.length FY))
 have vZ := A_ (Kd.wz (p := ⟨gx, 0, none⟩) HW.out (fun k_ h_ => show k_ ≠ gx from by have := oH.out; have := jN.out; have := o8.out; have := o9.out; have := qx.out; have := qy.out; have uI : Z8 <= k_ /\ k_ < Xv := h_; omega) (.slice FX p.length FY))
 have Bf := A_ (nC BW.out (p := ⟨gx, 0, none⟩) (show gw ≠ gx from by have := oH.out; have := jN.out; have := o8.out; have := o9.out; have := qx.out; have := qy.out; omega) (.slice FX p.length FY))
 have Gv := A_ (Kd.wz (p := ⟨gx, 0, none⟩) HP.out (fun k_ h_ => show k_ ≠ gx from by have := oH.out; have := jN.out; have := o8.out; have := o9.out; have := qx.out; have := qy.out; have uI : Xw <= k_ /\ k_ < Vx := h_; omega) (.slice FX p.length FY))
 have BC_ := A_ (yT (v := .slice FX p.length FY) BX.out)
 have wh := A_ (show gx + 1 <= _ from dh BC_.out)
 generalize ZO : World.setCell _ ⟨gx, 0, none⟩ (.slice FX p.length FY) = wSx at vX vY vZ Bf Gv BC_ wh ⊢
 clear ZO HB BA HW BW HP BX HS qc vR L9 Ma
 have HB := vX
 have BA := vY
 have HW := vZ
 have BW := Bf
 have HP := Gv
 have HS := wh
 clear vX wh vY vZ Bf Gv
 have qc : World.cell? _ ⟨ga, 0, none⟩ = some (.slice A0 l.length c0) := (af BA.out 0).trans rfl
 have vR : World.cell? _ ⟨gw, 0, none⟩ = some (.slice tO r.length tQ) := (af BW.out 0).trans rfl
 have hzx : World.cell? _ ⟨gx, 0, none⟩ = some (.slice FX p.length FY) := (af BC_.out 0).trans rfl
 have BC := BC_
 clear BC_
 go_upto_region 10 with (first | (go_at_call 40; (with_reducible refine (je.JD k _ _ p a1 r b _ ?aj ?aU E3.out).mono ?_); (case aj => refine lH ?_; exact lI (Kd.dI HP.out).2.2); (case aU => exact (Kd.dI HP.out).2.1); rintro e w8_ ⟨vHG, rfl, ho, hb⟩; obtain ⟨vS, vT, Sc⟩ := Kd.pq ho; subst Sc; obtain ⟨Xx, Vy, IM, IP, IQ, IU⟩ := Kd.Nt (last := gx + 1) ho hb (ko HB.out) (show gx + 1 <= _ from HS.out); have tK := A_ (And.intro IM IP); replace BA := A_ (av (g := ga) (o := .cells #[.slice A0 l.length c0] 24 (0, 0)) (gW BA.out) hb); replace HW := A_ (Kd.df (rW HW.out) hb); replace BW := A_ (av (g := gw) (o := .cells #[.slice tO r.length tQ] 29 (0, 0)) (gW BW.out) hb); replace HP := A_ (Kd.df (rW HP.out) hb); replace BC := A_ (av (g := gx) (o := .cells #[.slice FX p.length FY] 29 (0, 0)) (gW BC.out) hb); replace HB := A_ (jO HB.out hb); replace HS := A_ (show gx + 1 <= _ from Nat.le_trans (by exact HS.out) (Below.size hb)); (try clear qc); have qc : World.cell? _ ⟨ga, 0, none⟩ = some (.slice A0 l.length c0) := (af BA.out 0).trans rfl; (try clear vR); have vR : World.cell? _ ⟨gw, 0, none⟩ = some (.slice tO r.length tQ) := (af BW.out 0).trans rfl; (try clear hzx); have hzx : World.cell? _ ⟨gx, 0, none⟩ = some (.slice FX p.length FY) := (af BC.out 0).trans rfl; clear HS; have HS := A_ IQ; have HG := A_ IU; clear hb ho IU IM IP IQ) | (refine lY 9 #[.slice none 0 0] 29 ?_; intro gg hg w9_ aM hb; have tL := A_ (show Vy <= gg from by rw [hg]; exact (show _ <= _ from HS.out)); have LW_gg := A_ (show w.heap.size <= gg from by rw [hg]; exact iU HB.out); replace BA := A_ (av (g := ga) (o := .cells #[.slice A0 l.length c0] 24 (0, 0)) (gW BA.out) hb); replace HW := A_ (Kd.df (rW HW.out) hb); replace BW := A_ (av (g := gw) (o := .cells #[.slice tO r.length tQ] 29 (0, 0)) (gW BW.out) hb); replace HP := A_ (Kd.df (rW HP.out) hb); replace BC := A_ (av (g := gx) (o := .cells #[.slice FX p.length FY] 29 (0, 0)) (gW BC.out) hb); replace HG := A_ (Kd.df (rW HG.out) hb); replace HB := A_ (jO HB.out hb); replace HS := A_ (show Vy <= _ from Nat.le_trans (by exact HS.out) (Below.size hb)); (try clear qc); have qc : World.cell? _ ⟨ga, 0, none⟩ = some (.slice A0 l.length c0) := (af BA.out 0).trans rfl; (try clear vR); have vR : World.cell? _ ⟨gw, 0, none⟩ = some (.slice tO r.length tQ) := (af BW.out 0).trans rfl; (try clear hzx); have hzx : World.cell? _ ⟨gx, 0, none⟩ = some (.slice FX p.length FY) := (af BC.out 0).trans rfl; clear HS; have HS := A_ (show gg + 1 <= _ from dh aM); have BX := A_ aM; have L9 := (af aM 0).trans rfl; have Ma := ax aM 0; clear hg aM hb))
 have vX := A_ (bL (j := 0) (v := .slice vS r.length vT) HB.out LW_gg.out)
 have vY := A_ (nC BA.out (p := ⟨gg, 0, none⟩) (show ga ≠ gg from by have := oH.out; have := jN.out; have := o8.out; have := o9.out; have := qx.out; have := qy.out; have := tK.out; have := tL.out; omega) (.slice vS r.length vT))
 have vZ := A_ (Kd.wz (p := ⟨gg, 0, none⟩) HW.out (fun k_ h_ => show k_ ≠ gg from by have := oH.out; have := jN.out; have := o8.out; have := o9.out; have := qx.out; have := qy.out; have := tK.out; have := tL.out; have uI : Z8 <= k_ /\ k_ < Xv := h_; omega) (.slice vS r.length vT))
 have Bf := A_ (nC BW.out (p := ⟨gg, 0, none⟩) (show gw ≠ gg from by have := oH.out; have := jN.out; have := o8.out; have := o9.out; have := qx.out; have := qy.out; have := tK.out; have := tL.out; omega) (.slice vS r.length vT))
 have Gv := A_ (Kd.wz (p := ⟨gg, 0, none⟩) HP.out (fun k_ h_ => show k_ ≠ gg from by have := oH.out; have := jN.out; have := o8.out; have := o9.out; have := qx.out; have := qy.out; have := tK.out; have := tL.out; have uI : Xw <= k_ /\ k_ < Vx := h_; omega) (.slice vS r.length vT))
 have Sd := A_ (nC BC.out (p := ⟨gg, 0, none⟩) (show gx ≠ gg from by have := oH.out; have := jN.out; have := o8.out; have := o9.out; have := qx.out; have := qy.out; have := tK.out; have := tL.out; omega) (.slice vS r.length vT))
 have Gw := A_ (Kd.wz (p := ⟨gg, 0, none⟩) HG.out (fun k_ h_ => show k_ ≠ gg from by have := oH.out; have := jN.out; have := o8.out; have := o9.out; have := qx.out; have := qy.out; have := tK.out; have := tL.out; have uI : Xx <= k_ /\ k_ < Vy := h_; omega) (.slice vS r.length vT))
 have BG := A_ (yT (v := .slice vS r.length vT) BX.out)
 have wh := A_ (show gg + 1 <= _ from dh BG.out)
 generalize ZO : World.setCell _ ⟨gg, 0, none⟩ (.slice vS r.length vT) = wSg at vX vY vZ Bf Gv Sd Gw BG wh ⊢
 clear ZO HB BA HW BW HP BC HG BX HS qc vR hzx L9 Ma
 have HB := vX
 have BA := vY
 have HW := vZ
 have BW := Bf
 have HP := Gv
 have BC := Sd
 have HG := Gw
 have HS := wh
 clear vX wh vY vZ Bf Gv Sd Gw
 have qc : World.cell? _ ⟨ga, 0, none⟩ = some (.slice A0 l.length c0) := (af BA.out 0).trans rfl
 have vR : World.cell? _ ⟨gw, 0, none⟩ = some (.slice tO r.length tQ) := (af BW.out 0).trans rfl
 have hzx : World.cell? _ ⟨gx, 0, none⟩ = some (.slice FX p.length FY) := (af BC.out 0).trans rfl
 have hzg : World.cell? _ ⟨gg, 0, none⟩ = some (.slice vS r.length vT) := (af BG.out 0).trans rfl
 go_upto_region 12 with (first | (go_at_call 19; (with_reducible refine (gB.calls k vS vT r tO tQ r true _ ?aj ?aU ?fM ?fO E4.out).mono ?_); (case aj => refine lH ?_; exact lI (Kd.dI HG.out).2.2); (case aU => exact (Kd.dI HG.out).2.1); (case fM => refine lH ?_; exact lI (Kd.dI HW.out).2.2); (case fO => exact (Kd.dI HW.out).2.1); rintro e w10_ ⟨rfl, hb⟩; replace BA := A_ (av (g := ga) (o := .cells #[.slice A0 l.length c0] 24 (0, 0)) (gW BA.out) hb); replace HW := A_ (Kd.df (rW HW.out) hb); replace BW := A_ (av (g := gw) (o := .cells #[.slice tO r.length tQ] 29 (0, 0)) (gW BW.out) hb); replace HP := A_ (Kd.df (rW HP.out) hb); replace BC := A_ (av (g := gx) (o := .cells #[.slice FX p.length FY] 29 (0, 0)) (gW BC.out) hb); replace HG := A_ (Kd.df (rW HG.out) hb); replace BG := A_ (av (g := gg) (o := .cells #[.slice vS r.length vT] 29 (0, 0)) (gW BG.out) hb); replace HB := A_ (jO HB.out hb); replace HS := A_ (show gg + 1 <= _ from Nat.le_trans (by exact HS.out) (Below.size hb)); (try clear qc); have qc : World.cell? _ ⟨ga, 0, none⟩ = some (.slice A0 l.length c0) := (af BA.out 0).trans rfl; (try clear vR); have vR : World.cell? _ ⟨gw, 0, none⟩ = some (.slice tO r.length tQ) := (af BW.out 0).trans rfl; (try clear hzx); have hzx : World.cell? _ ⟨gx, 0, none⟩ = some (.slice FX p.length FY) := (af BC.out 0).trans rfl; (try clear hzg); have hzg : World.cell? _ ⟨gg, 0, none⟩ = some (.slice vS r.length vT) := (af BG.out 0).trans rfl; clear hb))
 refine dL (n := 5) (S := fun w' => w'.cell? ⟨gx, 0, none⟩ = some (.slice FX p.length FY) /\ w'.cell? ⟨ga, 0, none⟩ = some (.slice A0 l.length c0)) (ds := []) (bt 5 0) (by kernel_rfl) rfl rfl ⟨(af BC.out 0).trans rfl, (af BA.out 0).trans rfl⟩ (fun hHeld => ?_)
 refine gF 0 48 1 hHeld ?_
 refine gF 1 49 3 hHeld ?_
 refine jm 2 (some 50) 7 (fun K hK => ?_)
 refine wm Try.func17 #[.agg #[.slice A0 l.length c0]] ?_
 with_reducible refine (iF.Bj k _ _ l p _ (Kd.aA jf.out (ko HB.out)) nQ.out E1.out).mono ?_
 rintro e w11_ ⟨vHQ, rfl, ho, hb⟩
 refine ⟨_, rfl, ?_⟩
 obtain ⟨AHQ, cHQ, Sc⟩ := Kd.pq ho; subst Sc; obtain ⟨nHQ, Xy, IM, IP, IQ, IU⟩ := Kd.Nt (last := gg + 1) ho hb (ko HB.out) (show gg + 1 <= _ from HS.out); have yL := A_ (And.intro IM IP); replace BA := A_ (av (g := ga) (o := .cells #[.slice A0 l.length c0] 24 (0, 0)) (gW BA.out) hb); replace HW := A_ (Kd.df (rW HW.out) hb); replace BW := A_ (av (g := gw) (o := .cells #[.slice tO r.length tQ] 29 (0, 0)) (gW BW.out) hb); replace HP := A_ (Kd.df (rW HP.out) hb); replace BC := A_ (av (g := gx) (o := .cells #[.slice FX p.length FY] 29 (0, 0)) (gW BC.out) hb); replace HG := A_ (Kd.df (rW HG.out) hb); replace BG := A_ (av (g := gg) (o := .cells #[.slice vS r.length vT] 29 (0, 0)) (gW BG.out) hb); replace HB := A_ (jO HB.out hb); replace HS := A_ (show gg + 1 <= _ from Nat.le_trans (by exact HS.out) (Below.size hb)); (try clear qc); have qc : World.cell? _ ⟨ga, 0, none⟩ = some (.slice A0 l.length c0) := (af BA.out 0).trans rfl; (try clear vR); have vR : World.cell? _ ⟨gw, 0, none⟩ = some (.slice tO r.length tQ) := (af BW.out 0).trans rfl; (try clear hzx); have hzx : World.cell? _ ⟨gx, 0, none⟩ = some (.slice FX p.length FY) := (af BC.out 0).trans rfl; (try clear hzg); have hzg : World.cell? _ ⟨gg, 0, none⟩ = some (.slice vS r.length vT) := (af BG.out 0).trans rfl; clear HS; have HS := A_ IQ; have HQ := A_ IU; clear hb ho IU IM IP IQ
 refine hK.out _ _ ⟨(af BC.out 0).trans rfl, (af BA.out 0).trans rfl⟩ (fun hHeld => ?_)
 clear hK K
 refine fw 50 ?_
 refine jm 3 (some 51) 15 (fun K hK => ?_)
 refine wm Try.func19 #[.agg #[.slice FX p.length FY], .agg #[.slice AHQ p.length cHQ]] ?_
 with_reducible refine (gB.calls k _ _ p _ _ p true _ (lI (Kd.dI HP.out).2.2) (Kd.dI HP.out).2.1 (lI (Kd.dI HQ.out).2.2) (Kd.dI HQ.out).2.1 E5.out).mono ?_
 rintro e w12_ ⟨rfl, hb⟩
 refine ⟨_, rfl, ?_⟩
 clear HQ
 have vY := A_ (av (g := ga) (o := .cells #[.slice A0 l.length c0] 24 (0, 0)) (gW BA.out) hb); have vZ := A_ (Kd.df (rW HW.out) hb); have Bf := A_ (av (g := gw) (o := .cells #[.slice tO r.length tQ] 29 (0, 0)) (gW BW.out) hb); have Gv := A_ (Kd.df (rW HP.out) hb); have Sd := A_ (av (g := gx) (o := .cells #[.slice FX p.length FY] 29 (0, 0)) (gW BC.out) hb); have Gw := A_ (Kd.df (rW HG.out) hb); have Sg := A_ (av (g := gg) (o := .cells #[.slice vS r.length vT] 29 (0, 0)) (gW BG.out) hb); have vX := A_ (jO HB.out hb); have wh := A_ (show Xy <= _ from Nat.le_trans (by exact HS.out) (Below.size hb)); clear BA HW BW HP BC HG BG HB HS; have BA := vY; have HW := vZ; have BW := Bf; have HP := Gv; have BC := Sd; have HG := Gw; have BG := Sg; have HB := vX; have HS := wh; clear vY vZ Bf Gv Sd Gw Sg vX wh; (try clear qc); have qc : World.cell? _ ⟨ga, 0, none⟩ = some (.slice A0 l.length c0) := (af BA.out 0).trans rfl; (try clear vR); have vR : World.cell? _ ⟨gw, 0, none⟩ = some (.slice tO r.length tQ) := (af BW.out 0).trans rfl; (try clear hzx); have hzx : World.cell? _ ⟨gx, 0, none⟩ = some (.slice FX p.length FY) := (af BC.out 0).trans rfl; (try clear hzg); have hzg : World.cell? _ ⟨gg, 0, none⟩ = some (.slice vS r.length vT) := (af BG.out 0).trans rfl
 clear hb
 refine hK.out _ _ ⟨(af BC.out 0).trans rfl, (af BA.out 0).trans rfl⟩ (fun hHeld => ?_)
 clear hK K
 refine fw 51 ?_
 refine aQ 4 52 31 ?_
 refine fA (by kernel_rfl) ?_
 go_upto_region 26 with (first | (go_at_call 27; (with_reducible refine (xP.calls k (fun k_ => Xw <= k_ /\ k_ < Vx) (.slice FX p.length FY) p 1 m0 z0 w _ ?aj ?aU E6.out).mono ?_); (case aj => exact (ko HB.out)); (case aU => exact (rW HP.out)); rintro e w13_ ⟨rfl, hs, hb, hk⟩; replace BA := A_ (l9 (gW BA.out) hk (fun h_ => by have := oH.out; have := jN.out; have := o8.out; have := o9.out; have := qx.out; have := qy.out; have := tK.out; have := tL.out; have := yL.out; have uI : Xw <= ga /\ ga < Vx := h_; omega)); replace HW := A_ (Kd.N9 (rW HW.out) hk (fun k_ Bg uI => by have := oH.out; have := jN.out; have := o8.out; have := o9.out; have := qx.out; have := qy.out; have := tK.out; have := tL.out; have := yL.out; have Vz : Z8 <= k_ /\ k_ < Xv := Bg; have Xz : Xw <= k_ /\ k_ < Vx := uI; first | omega | exact Xz.2 Vz.2 | exact Vz.2 Xz.2)); replace BW := A_ (l9 (gW BW.out) hk (fun h_ => by have := oH.out; have := jN.out; have := o8.out; have := o9.out; have := qx.out; have := qy.out; have := tK.out; have := tL.out; have := yL.out; have uI : Xw <= gw /\ gw < Vx := h_; omega)); replace HG := A_ (Kd.N9 (rW HG.out) hk (fun k_ Bg uI => by have := oH.out; have := jN.out; have := o8.out; have := o9.out; have := qx.out; have := qy.out; have := tK.out; have := tL.out; have := yL.out; have Vz : Xx <= k_ /\ k_ < Vy := Bg; have Xz : Xw <= k_ /\ k_ < Vx := uI; first | omega | exact Xz.2 Vz.2 | exact Vz.2 Xz.2)); replace BG := A_ (l9 (gW BG.out) hk (fun h_ => by have := oH.out; have := jN.out; have := o8.out; have := o9.out; have := qx.out; have := qy.out; have := tK.out; have := tL.out; have := yL.out; have uI : Xw <= gg /\ gg < Vx := h_; omega)); replace HS := A_ (show Xy <= _ from Nat.le_trans (by exact HS.out) hk.1); replace HB := A_ hb; clear HP BC hzx; (try clear qc); have qc : World.cell? _ ⟨ga, 0, none⟩ = some (.slice A0 l.length c0) := (af BA.out 0).trans rfl; (try clear vR); have vR : World.cell? _ ⟨gw, 0, none⟩ = some (.slice tO r.length tQ) := (af BW.out 0).trans rfl; (try clear hzg); have hzg : World.cell? _ ⟨gg, 0, none⟩ = some (.slice vS r.length vT) := (af BG.out 0).trans rfl; clear hs hb hk) | (go_at_call 19; (with_reducible refine (gB.calls k vS vT r tO tQ r true _ ?aj ?aU ?fM ?fO E4.out).mono ?_); (case aj => refine lH ?_; exact lI (Kd.dI HG.out).2.2); (case aU => exact (Kd.dI HG.out).2.1); (case fM => refine lH ?_; exact lI (Kd.dI HW.out).2.2); (case fO => exact (Kd.dI HW.out).2.1); rintro e w14_ ⟨rfl, hb⟩; replace BA := A_ (av (g := ga) (o := .cells #[.slice A0 l.length c0] 24 (0, 0)) (gW BA.out) hb); replace HW := A_ (Kd.df (rW HW.out) hb); replace BW := A_ (av (g := gw) (o := .cells #[.slice tO r.length tQ] 29 (0, 0)) (gW BW.out) hb); replace HG := A_ (Kd.df (rW HG.out) hb); replace BG := A_ (av (g := gg) (o := .cells #[.slice vS r.length vT] 29 (0, 0)) (gW BG.out) hb); replace HB := A_ (jO HB.out hb); replace HS := A_ (show Xy <= _ from Nat.le_trans (by exact HS.out) (Below.size hb)); (try clear qc); have qc : World.cell? _ ⟨ga, 0, none⟩ = some (.slice A0 l.length c0) := (af BA.out 0).trans rfl; (try clear vR); have vR : World.cell? _ ⟨gw, 0, none⟩ = some (.slice tO r.length tQ) := (af BW.out 0).trans rfl; (try clear hzg); have hzg : World.cell? _ ⟨gg, 0, none⟩ = some (.slice vS r.length vT) := (af BG.out 0).trans rfl; clear hb) | (go_at_call 27; (with_reducible refine (xP.calls k (fun k_ => Xx <= k_ /\ k_ < Vy) (.slice vS r.length vT) r 1 m1 z1 w _ ?aj ?aU E7.out).mono ?_); (case aj => exact (ko HB.out)); (case aU => exact (rW HG.out)); rintro e w15_ ⟨rfl, hs, hb, hk⟩; replace BA := A_ (l9 (gW BA.out) hk (fun h_ => by have := oH.out; have := jN.out; have := o8.out; have := o9.out; have := qx.out; have := qy.out; have := tK.out; have := tL.out; have := yL.out; have uI : Xx <= ga /\ ga < Vy := h_; omega)); replace HW := A_ (Kd.N9 (rW HW.out) hk (fun k_ Bg uI => by have := oH.out; have := jN.out; have := o8.out; have := o9.out; have := qx.out; have := qy.out; have := tK.out; have := tL.out; have := yL.out; have Vz : Z8 <= k_ /\ k_ < Xv := Bg; have Xz : Xx <= k_ /\ k_ < Vy := uI; first | omega | exact Xz.2 Vz.2 | exact Vz.2 Xz.2)); replace BW := A_ (l9 (gW BW.out) hk (fun h_ => by have := oH.out; have := jN.out; have := o8.out; have := o9.out; have := qx.out; have := qy.out; have := tK.out; have := tL.out; have := yL.out; have uI : Xx <= gw /\ gw < Vy := h_; omega)); replace BG := A_ (l9 (gW BG.out) hk (fun h_ => by have := oH.out; have := jN.out; have := o8.out; have := o9.out; have := qx.out; have := qy.out; have := tK.out; have := tL.out; have := yL.out; have uI : Xx <= gg /\ gg < Vy := h_; omega)); replace HS := A_ (show Xy <= _ from Nat.le_trans (by exact HS.out) hk.1); replace HG := A_ hs; replace HB := A_ hb; (try clear qc); have qc : World.cell? _ ⟨ga, 0, none⟩ = some (.slice A0 l.length c0) := (af BA.out 0).trans rfl; (try clear vR); have vR : World.cell? _ ⟨gw, 0, none⟩ = some (.slice tO r.length tQ) := (af BW.out 0).trans rfl; (try clear hzg); have hzg : World.cell? _ ⟨gg, 0, none⟩ = some (.slice vS r.length vT) := (af BG.out 0).trans rfl; clear hs hb hk) | (go_at_call 38; (with_reducible refine (Dv k vS vT r.length z1 1 m1 _ (Kd.dI HG.out).1 ?aj ?aU E8.out).mono ?_); (case aj => refine lH ?_; exact lI (Kd.dI HG.out).2.2); (case aU => have h_ := Kd.dI HG.out; have uI := h_.1; have Vz := h_.2.1; omega); rintro e w16_ ⟨rfl, hb⟩; replace BA := A_ (av (g := ga) (o := .cells #[.slice A0 l.length c0] 24 (0, 0)) (gW BA.out) hb); replace HW := A_ (Kd.df (rW HW.out) hb); replace BW := A_ (av (g := gw) (o := .cells #[.slice tO r.length tQ] 29 (0, 0)) (gW BW.out) hb); replace HG := A_ (Kd.df (rW HG.out) hb); replace BG := A_ (av (g := gg) (o := .cells #[.slice vS r.length vT] 29 (0, 0)) (gW BG.out) hb); replace HB := A_ (jO HB.out hb); replace HS := A_ (show Xy <= _ from Nat.le_trans (by exact HS.out) (Below.size hb)); (try clear qc); have qc : World.cell? _ ⟨ga, 0, none⟩ = some (.slice A0 l.length c0) := (af BA.out 0).trans rfl; (try clear vR); have vR : World.cell? _ ⟨gw, 0, none⟩ = some (.slice tO r.length tQ) := (af BW.out 0).trans rfl; (try clear hzg); have hzg : World.cell? _ ⟨gg, 0, none⟩ = some (.slice vS r.length vT) := (af BG.out 0).trans rfl; clear hb))
 go_upto_region 27 with (first | (go_at_call 17; (with_reducible refine (iF.Bj k _ _ l p _ ?aj nQ.out E1.out).mono ?_); (case aj => exact Kd.aA jf.out (ko HB.out)); rintro e w17_ ⟨vHT, rfl, ho, hb⟩; obtain ⟨AHT, cHT, Sc⟩ := Kd.pq ho; subst Sc; obtain ⟨nHT, mHT, IM, IP, IQ, IU⟩ := Kd.Nt (last := Xy) ho hb (ko HB.out) (show Xy <= _ from HS.out); have Si := A_ (And.intro IM IP); replace BA := A_ (av (g := ga) (o := .cells #[.slice A0 l.length c0] 24 (0, 0)) (gW BA.out) hb); replace HW := A_ (Kd.df (rW HW.out) hb); replace BW := A_ (av (g := gw) (o := .cells #[.slice tO r.length tQ] 29 (0, 0)) (gW BW.out) hb); replace HG := A_ (Kd.df (rW HG.out) hb); replace BG := A_ (av (g := gg) (o := .cells #[.slice vS r.length vT] 29 (0, 0)) (gW BG.out) hb); replace HB := A_ (jO HB.out hb); replace HS := A_ (show Xy <= _ from Nat.le_trans (by exact HS.out) (Below.size hb)); (try clear qc); have qc : World.cell? _ ⟨ga, 0, none⟩ = some (.slice A0 l.length c0) := (af BA.out 0).trans rfl; (try clear vR); have vR : World.cell? _ ⟨gw, 0, none⟩ = some (.slice tO r.length tQ) := (af BW.out 0).trans rfl; (try clear hzg); have hzg : World.cell? _ ⟨gg, 0, none⟩ = some (.slice vS r.length vT) := (af BG.out 0).trans rfl; clear HS; have HS := A_ IQ; have HT := A_ IU; clear hb ho IU IM IP IQ) | (go_at_call 40; (with_reducible refine (je.JD k _ _ p a1 r b _ ?aj ?aU E3.out).mono ?_); (case aj => refine lH ?_; exact lI (Kd.dI HT.out).2.2); (case aU => exact (Kd.dI HT.out).2.1); rintro e w18_ ⟨vHH, rfl, ho, hb⟩; obtain ⟨PU, PV, Sc⟩ := Kd.pq ho; subst Sc; obtain ⟨nHH, mHH, IM, IP, IQ, IU⟩ := Kd.Nt (last := mHT) ho hb (ko HB.out) (show mHT <= _ from HS.out); have Sj := A_ (And.intro IM IP); replace BA := A_ (av (g := ga) (o := .cells #[.slice A0 l.length c0] 24 (0, 0)) (gW BA.out) hb); replace HW := A_ (Kd.df (rW HW.out) hb); replace BW := A_ (av (g := gw) (o := .cells #[.slice tO r.length tQ] 29 (0, 0)) (gW BW.out) hb); replace HG := A_ (Kd.df (rW HG.out) hb); replace BG := A_ (av (g := gg) (o := .cells #[.slice vS r.length vT] 29 (0, 0)) (gW BG.out) hb); replace HT := A_ (Kd.df (rW HT.out) hb); replace HB := A_ (jO HB.out hb); replace HS := A_ (show mHT <= _ from Nat.le_trans (by exact HS.out) (Below.size hb)); (try clear qc); have qc : World.cell? _ ⟨ga, 0, none⟩ = some (.slice A0 l.length c0) := (af BA.out 0).trans rfl; (try clear vR); have vR : World.cell? _ ⟨gw, 0, none⟩ = some (.slice tO r.length tQ) := (af BW.out 0).trans rfl; (try clear hzg); have hzg : World.cell? _ ⟨gg, 0, none⟩ = some (.slice vS r.length vT) := (af BG.out 0).trans rfl; clear HS; have HS := A_ IQ; have HH := A_ IU; clear hb ho IU IM IP IQ) | (refine lY 14 #[.slice none 0 0] 29 ?_; clear HT; intro gh hg w19_ aM hb; have Sk := A_ (show mHH <= gh from by rw [hg]; exact (show _ <= _ from HS.out)); have LW_gh := A_ (show w.heap.size <= gh from by rw [hg]; exact iU HB.out); replace BA := A_ (av (g := ga) (o := .cells #[.slice A0 l.length c0] 24 (0, 0)) (gW BA.out) hb); replace HW := A_ (Kd.df (rW HW.out) hb); replace BW := A_ (av (g := gw) (o := .cells #[.slice tO r.length tQ] 29 (0, 0)) (gW BW.out) hb); replace HG := A_ (Kd.df (rW HG.out) hb); replace BG := A_ (av (g := gg) (o := .cells #[.slice vS r.length vT] 29 (0, 0)) (gW BG.out) hb); replace HH := A_ (Kd.df (rW HH.out) hb); replace HB := A_ (jO HB.out hb); replace HS := A_ (show mHH <= _ from Nat.le_trans (by exact HS.out) (Below.size hb)); (try clear qc); have qc : World.cell? _ ⟨ga, 0, none⟩ = some (.slice A0 l.length c0) := (af BA.out 0).trans rfl; (try clear vR); have vR : World.cell? _ ⟨gw, 0, none⟩ = some (.slice tO r.length tQ) := (af BW.out 0).trans rfl; (try clear hzg); have hzg : World.cell? _ ⟨gg, 0, none⟩ = some (.slice vS r.length vT) := (af BG.out 0).trans rfl; clear HS; have HS := A_ (show gh + 1 <= _ from dh aM); have BX := A_ aM; have L9 := (af aM 0).trans rfl; have Ma := ax aM 0; clear hg aM hb))
 have vX := A_ (bL (j := 0) (v := .slice PU r.length PV) HB.out LW_gh.out)
 have vY := A_ (nC BA.out (p := ⟨gh, 0, none⟩) (show ga ≠ gh from by have := oH.out; have := jN.out; have := o8.out; have := o9.out; have := qx.out; have := qy.out; have := tK.out; have := tL.out; have := yL.out; have := Si.out; have := Sj.out; have := Sk.out; omega) (.slice PU r.length PV))
 have vZ := A_ (Kd.wz (p := ⟨gh, 0, none⟩) HW.out (fun k_ h_ => show k_ ≠ gh from by have := oH.out; have := jN.out; have := o8.out; have := o9.out; have := qx.out; have := qy.out; have := tK.out; have := tL.out; have := yL.out; have := Si.out; have := Sj.out; have := Sk.out; have uI : Z8 <= k_ /\ k_ < Xv := h_; omega) (.slice PU r.length PV))
 have Bf := A_ (nC BW.out (p := ⟨gh, 0, none⟩) (show gw ≠ gh from by have := oH.out; have := jN.out; have := o8.out; have := o9.out; have := qx.out; have := qy.out; have := tK.out; have := tL.out; have := yL.out; have := Si.out; have := Sj.out; have := Sk.out; omega) (.slice PU r.length PV))
 have Gw := A_ (Kd.wz (p := ⟨gh, 0, none⟩) HG.out (fun k_ h_ => show k_ ≠ gh from by have := oH.out; have := jN.out; have := o8.out; have := o9.out; have := qx.out; have := qy.out; have := tK.out; have := tL.out; have := yL.out; have := Si.out; have := Sj.out; have := Sk.out; have uI : Xx <= k_ /\ k_ < Vy := h_; omega) (.slice PU r.length PV))
 have Sg := A_ (nC BG.out (p := ⟨gh, 0, none⟩) (show gg ≠ gh from by have := oH.out; have := jN.out; have := o8.out; have := o9.out; have := qx.out; have := qy.out; have := tK.out; have := tL.out; have := yL.out; have := Si.out; have := Sj.out; have := Sk.out; omega) (.slice PU r.length PV))
 have ZP := A_ (Kd.wz (p := ⟨gh, 0, none⟩) HH.out (fun k_ h_ => show k_ ≠ gh from by have := oH.out; have := jN.out; have := o8.out; have := o9.out; have := qx.out; have := qy.out; have := tK.out; have := tL.out; have := yL.out; have := Si.out; have := Sj.out; have := Sk.out; have uI : nHH <= k_ /\ k_ < mHH := h_; omega) (.slice PU r.length PV))
 have BH := A_ (yT (v := .slice PU r.length PV) BX.out)
 have wh := A_ (show gh + 1 <= _ from dh BH.out)
 generalize ZO : World.setCell _ ⟨gh, 0, none⟩ (.slice PU r.length PV) = wSh at vX vY vZ Bf Gw Sg ZP BH wh ⊢
 clear ZO HB BA HW BW HG BG HH BX HS qc vR hzg L9 Ma
 have HB := vX
 have BA := vY
 have HW := vZ
 have BW := Bf
 have HG := Gw
 have BG := Sg
 have HH := ZP
 have HS := wh
 clear vX wh vY vZ Bf Gw Sg ZP
 have qc : World.cell? _ ⟨ga, 0, none⟩ = some (.slice A0 l.length c0) := (af BA.out 0).trans rfl
 have vR : World.cell? _ ⟨gw, 0, none⟩ = some (.slice tO r.length tQ) := (af BW.out 0).trans rfl
 have hzg : World.cell? _ ⟨gg, 0, none⟩ = some (.slice vS r.length vT) := (af BG.out 0).trans rfl
 have hzh : World.cell? _ ⟨gh, 0, none⟩ = some (.slice PU r.length PV) := (af BH.out 0).trans rfl
 go_wp2_with (first | (go_at_call 19; (with_reducible refine (gB.calls k PU PV r tO tQ r true _ ?aj ?aU ?fM ?fO E4.out).mono ?_); (case aj => refine lH ?_; exact lI (Kd.dI HH.out).2.2); (case aU => exact (Kd.dI HH.out).2.1); (case fM => refine lH ?_; exact lI (Kd.dI HW.out).2.2); (case fO => exact (Kd.dI HW.out).2.1); rintro e w20_ ⟨rfl, hb⟩; replace BA := A_ (av (g := ga) (o := .cells #[.slice A0 l.length c0] 24 (0, 0)) (gW BA.out) hb); replace HW := A_ (Kd.df (rW HW.out) hb); replace BW := A_ (av (g := gw) (o := .cells #[.slice tO r.length tQ] 29 (0, 0)) (gW BW.out) hb); replace HG := A_ (Kd.df (rW HG.out) hb); replace BG := A_ (av (g := gg) (o := .cells #[.slice vS r.length vT] 29 (0, 0)) (gW BG.out) hb); replace HH := A_ (Kd.df (rW HH.out) hb); replace BH := A_ (av (g := gh) (o := .cells #[.slice PU r.length PV] 29 (0, 0)) (gW BH.out) hb); replace HB := A_ (jO HB.out hb); replace HS := A_ (show gh + 1 <= _ from Nat.le_trans (by exact HS.out) (Below.size hb)); (try clear qc); have qc : World.cell? _ ⟨ga, 0, none⟩ = some (.slice A0 l.length c0) := (af BA.out 0).trans rfl; (try clear vR); have vR : World.cell? _ ⟨gw, 0, none⟩ = some (.slice tO r.length tQ) := (af BW.out 0).trans rfl; (try clear hzg); have hzg : World.cell? _ ⟨gg, 0, none⟩ = some (.slice vS r.length vT) := (af BG.out 0).trans rfl; (try clear hzh); have hzh : World.cell? _ ⟨gh, 0, none⟩ = some (.slice PU r.length PV) := (af BH.out 0).trans rfl; clear hb) | (go_at_call 38; (with_reducible refine (Dv k vS vT r.length z1 1 m1 _ (Kd.dI HG.out).1 ?aj ?aU E8.out).mono ?_); (case aj => refine lH ?_; exact lI (Kd.dI HG.out).2.2); (case aU => have h_ := Kd.dI HG.out; have uI := h_.1; have Vz := h_.2.1; omega); rintro e w21_ ⟨rfl, hb⟩; replace BA := A_ (av (g := ga) (o := .cells #[.slice A0 l.length c0] 24 (0, 0)) (gW BA.out) hb); replace HW := A_ (Kd.df (rW HW.out) hb); replace BW := A_ (av (g := gw) (o := .cells #[.slice tO r.length tQ] 29 (0, 0)) (gW BW.out) hb); replace HG := A_ (Kd.df (rW HG.out) hb); replace BG := A_ (av (g := gg) (o := .cells #[.slice vS r.length vT] 29 (0, 0)) (gW BG.out) hb); replace HH := A_ (Kd.df (rW HH.out) hb); replace BH := A_ (av (g := gh) (o := .cells #[.slice PU r.length PV] 29 (0, 0)) (gW BH.out) hb); replace HB := A_ (jO HB.out hb); replace HS := A_ (show gh + 1 <= _ from Nat.le_trans (by exact HS.out) (Below.size hb)); (try clear qc); have qc : World.cell? _ ⟨ga, 0, none⟩ = some (.slice A0 l.length c0) := (af BA.out 0).trans rfl; (try clear vR); have vR : World.cell? _ ⟨gw, 0, none⟩ = some (.slice tO r.length tQ) := (af BW.out 0).trans rfl; (try clear hzg); have hzg : World.cell? _ ⟨gg, 0, none⟩ = some (.slice vS r.length vT) := (af BG.out 0).trans rfl; (try clear hzh); have hzh : World.cell? _ ⟨gh, 0, none⟩ = some (.slice PU r.length PV) := (af BH.out 0).trans rfl; clear hb))
 go_ret
 exact ⟨by first | rfl | (simp; done), (ko HB.out)⟩
open Go.Proofs.Ytoddejmlcnbdmaa.Tree
set_option maxHeartbeats 8000000
set_option maxRecDepth 100000
theorem ru {l : List ByteArray} (h : l.length < 8796093022208) : bn.f l = some l := by
 unfold bn.f
 simp only [Option.bind_some, List.length_nil, Nat.zero_add]
 rw [if_pos h]
 rfl
end Go.Proofs.Ytoddejmlcnbdmaa.Fn
namespace Go.Proofs.Ytoddejmlcnbdmaa.Pure
open Go.Proofs.Ytoddejmlcnbdmaa.Fn Go.Proofs.Ytoddejmlcnbdmaa.Tree
open Go.Proofs.Ytoddejmlcnbdmaa.Fn
theorem CP (a b : ByteArray) : (a ++ b).size = a.size + b.size := by
 rw [<- xq, <- xq, <- xq, Q5, List.length_append]
theorem TK (c : Int) : (strOfNums [c]).size = 1 := rfl
theorem Ga (n : Int) (hn : n <= 1073741824) : ∃ t, Ev (fun k => bP.f k n) t := by
 have key : ∀ (d : Nat) (x : Int) (s : ByteArray), x <= d -> x <= 1073741824 -> (s.size : Int) + d <= 4611686018427387904 -> ∃ t, Ev (fun k => bP.l0 k x s) t := by
  intro d
  induction d with
  | zero =>
   intro x s h1 h2 h3
   refine ⟨(⟨#[109]⟩ : ByteArray) ++ s, ?_⟩
   (refine Ev.up ?_; simp only [bP.l0, qd])
   (repeat (first | with_reducible refine Ev.dw ?_ | (with_reducible refine Ev.kU ?_ ?_; (· exact bS)) | (with_reducible refine Ev.lF ?_ ?_; (· exact bS))))
   exact Ev.val rfl
  | succ d ih =>
   intro x s h1 h2 h3
   by_cases hx : x > 0
   ·have e1 : wrap64 (Int.tdiv x 10) = x / 10 := by
     rw [Int.tdiv_eq_ediv_of_nonneg (by omega)]
     exact jD (by omega) (by omega)
    have hz : ∀ c : Int, (strOfNums [c]).size = 1 := TK
    obtain ⟨t, ht⟩ := ih (x / 10) (strOfNums [(wrap64 (48 + (Int.tmod x 10))) % 256] ++ s) (by omega) (by omega) (by rw [CP, hz]; omega)
    refine ⟨t, ?_⟩
    (refine Ev.up ?_; simp only [bP.l0, qd])
    rw [e1]
    (repeat (first | with_reducible refine Ev.dw ?_ | (with_reducible refine Ev.kU ?_ ?_; (· exact bS)) | (with_reducible refine Ev.lF ?_ ?_; (· exact bS))))
    rw [hz]
    (repeat (first | with_reducible refine Ev.dw ?_ | (with_reducible refine Ev.kU ?_ ?_; (· exact bS)) | (with_reducible refine Ev.lF ?_ ?_; (· exact bS))))
    exact ht
   ·refine ⟨(⟨#[109]⟩ : ByteArray) ++ s, ?_⟩
    (refine Ev.up ?_; simp only [bP.l0, qd])
    (repeat (first | with_reducible refine Ev.dw ?_ | (with_reducible refine Ev.kU ?_ ?_; (· exact bS)) | (with_reducible refine Ev.lF ?_ ?_; (· exact bS))))
    exact Ev.val rfl
 by_cases h : n <= 0
 ·refine ⟨(⟨#[109, 48]⟩ : ByteArray), ?_⟩
  simp only [bP.f]
  (repeat (first | with_reducible refine Ev.dw ?_ | (with_reducible refine Ev.kU ?_ ?_; (· exact bS)) | (with_reducible refine Ev.lF ?_ ?_; (· exact bS))))
  exact Ev.val rfl
 ·obtain ⟨t, ht⟩ := key n.toNat n (⟨#[]⟩ : ByteArray) (by omega) hn (by show ((0 : Nat) : Int) + _ <= _; omega)
  refine ⟨t, ?_⟩
  simp only [bP.f]
  (repeat (first | with_reducible refine Ev.dw ?_ | (with_reducible refine Ev.kU ?_ ?_; (· exact bS)) | (with_reducible refine Ev.lF ?_ ?_; (· exact bS))))
  exact ht
theorem JE : ∃ f : Int -> ByteArray, ∀ n, n <= 1073741824 -> Ev (fun k => bP.f k n) (f n) := by
 have h : ∀ n : Int, ∃ t, n <= 1073741824 -> Ev (fun k => bP.f k n) t := by
  intro n
  by_cases hn : n <= 1073741824
  ·obtain ⟨t, ht⟩ := Ga n hn
   exact ⟨t, fun _ => ht⟩
  ·exact ⟨(⟨#[]⟩ : ByteArray), fun h => absurd h hn⟩
 exact ⟨fun n => Classical.choose (h n), fun n => Classical.choose_spec (h n)⟩
theorem sF (l : List ByteArray) (hl : l.length <= 1048576) (c : Int) (h0 : 0 <= c) (h1 : c <= 1000000000) :
  ∃ l' : List ByteArray, l'.length = l.length /\ Ev (fun k => aY.f k l c) (c + l.length, l') /\ Ev (fun k => bf.f k l' c) (c + l.length) := by
 obtain ⟨f, hf⟩ := JE
 refine ⟨l.mapIdx fun i _ => f (c + i), by simp, ?_, ?_⟩
 ·have h := zg (fun k x a i => aY.l0 k x a i) (fun i => c + (i : Int)) (fun i _ => f (c + i)) l ?_ ?_
  ·simp only [aY.f]
   rw [show c + ((0 : Nat) : Int) = c by omega] at h
   exact h
  ·intro k x hx
   simp only [aY.l0]
   rw [if_neg (by omega)]
  ·intro i y hy
   have hlt := (List.getElem?_eq_some_iff.1 hy).1
   obtain ⟨K, hK⟩ := hf (c + i) (by omega)
   refine ⟨K, fun k x hk hx _ => ?_⟩
   have e1 : wrap64 (c + (i : Int) + 1) = c + ((i + 1 : Nat) : Int) := by rw [jD (by omega) (by omega)]; omega
   have hk := hK k hk
   dsimp only at hk
   simp only [aY.l0]
   rw [if_pos (by omega), hk, Option.bind_some, if_pos (by omega), eT (by omega), e1, Int.toNat_natCast]
 ·have key : ∀ (t : List ByteArray) (i : Nat), (l.mapIdx fun i _ => f (c + i)).drop i = t -> i <= l.length -> Ev (fun k => bf.l0 k (l.mapIdx fun i _ => f (c + i)) (c + i) i) (c + l.length) := by
   intro t
   induction t with
   | nil =>
    intro i h hi
    have h2 := drop_nil h
    simp only [List.length_mapIdx] at h2
    have e : i = l.length := by omega
    (refine Ev.up ?_; simp only [bf.l0, qd])
    rw [List.length_mapIdx]
    (repeat (first | with_reducible refine Ev.dw ?_ | (with_reducible refine Ev.kU ?_ ?_; (· exact bS)) | (with_reducible refine Ev.lF ?_ ?_; (· exact bS))))
    exact Ev.val (by rw [e])
   | cons x t ih =>
    intro i h hi
    obtain ⟨p1, p2, p3⟩ := drop_cons h
    rw [List.length_mapIdx] at p1
    have ih := ih (i + 1) p3 (by omega)
    have hx : x = f (c + i) := by
     rw [List.getElem?_mapIdx] at p2
     obtain ⟨y, _, hy⟩ := Option.map_eq_some_iff.1 p2
     exact hy.symm
    have e1 : wrap64 (c + (i : Int) + 1) = c + ((i + 1 : Nat) : Int) := by rw [jD (by omega) (by omega)]; omega
    (refine Ev.up ?_; simp only [bf.l0, qd])
    rw [List.length_mapIdx, iB p2, e1, eT (by omega)]
    (repeat (first | with_reducible refine Ev.dw ?_ | (with_reducible refine Ev.kU ?_ ?_; (· exact bS)) | (with_reducible refine Ev.lF ?_ ?_; (· exact bS))))
    refine Ev.bind (hf (c + i) (by omega)) ?_
    rw [hx]
    (repeat (first | with_reducible refine Ev.dw ?_ | (with_reducible refine Ev.kU ?_ ?_; (· exact bS)) | (with_reducible refine Ev.lF ?_ ?_; (· exact bS))))
    exact ih
  have h := key _ 0 rfl (by omega)
  simp only [bf.f]
  rw [show c + ((0 : Nat) : Int) = c by omega] at h
  exact h
open Go.Proofs.Ytoddejmlcnbdmaa.Fn Go.Proofs.Ytoddejmlcnbdmaa.Tree
theorem EA (l : List ByteArray) (hl : l.length <= maxLen) (hs : ∀ y ∈ l, y.size <= maxLen) (a : Int) (h0 : 0 <= a) (h1 : a <= 1048576) :
  ∃ r : Int, Ev (fun k => bq.f k l a) r /\ r <= a /\ (0 <= r -> r + (l.length : Int) <= a /\ ∀ y ∈ l, (y.size : Int) <= a) := by
 simp only [maxLen] at hl hs
 have key : ∀ (t : List ByteArray) (i : Nat) (m : Int), l.drop i = t -> i <= l.length -> 0 <= m -> m <= a ->
   ∃ r : Int, Ev (fun k => bq.l0 k l m i) r /\ r <= m /\ (0 <= r -> ∀ y ∈ t, (y.size : Int) <= a) := by
  intro t
  induction t with
  | nil =>
   intro i m h _ _ hm
   have := drop_nil h
   exact ⟨m, by (refine Ev.up ?_; simp only [bq.l0, qd]); (repeat (first | with_reducible refine Ev.dw ?_ | (with_reducible refine Ev.kU ?_ ?_; (· exact bS)) | (with_reducible refine Ev.lF ?_ ?_; (· exact bS)))); exact Ev.val rfl, Int.le_refl _, by simp⟩
  | cons x t ih =>
   intro i m h hi hm0 hm
   obtain ⟨p1, p2, p3⟩ := drop_cons h
   have hx := hs x (List.mem_of_getElem? p2)
   have e : wrap64 (m - (x.size : Int)) = m - (x.size : Int) := jD (by omega) (by omega)
   by_cases hlt : m - (x.size : Int) < 0
   ·refine ⟨-1, ?_, by omega, by omega⟩
    (refine Ev.up ?_; simp only [bq.l0, qd])
    rw [iB p2, e]
    (repeat (first | with_reducible refine Ev.dw ?_ | (with_reducible refine Ev.kU ?_ ?_; (· exact bS)) | (with_reducible refine Ev.lF ?_ ?_; (· exact bS))))
    exact Ev.val rfl
   ·obtain ⟨r, q1, q2, q3⟩ := ih (i + 1) (m - x.size) p3 (by omega) (by omega) (by omega)
    refine ⟨r, ?_, by omega, fun hr y hy => ?_⟩
    ·(refine Ev.up ?_; simp only [bq.l0, qd])
     rw [iB p2, e, eT (by omega)]
     (repeat (first | with_reducible refine Ev.dw ?_ | (with_reducible refine Ev.kU ?_ ?_; (· exact bS)) | (with_reducible refine Ev.lF ?_ ?_; (· exact bS))))
     exact q1
    ·rcases List.mem_cons.1 hy with rfl | hy
     ·omega
     ·exact q3 hr y hy
 have e : wrap64 (a - (l.length : Int)) = a - (l.length : Int) := jD (by omega) (by omega)
 by_cases hlt : a - (l.length : Int) < 0
 ·refine ⟨-1, ?_, by omega, by omega⟩
  simp only [bq.f, e]
  (repeat (first | with_reducible refine Ev.dw ?_ | (with_reducible refine Ev.kU ?_ ?_; (· exact bS)) | (with_reducible refine Ev.lF ?_ ?_; (· exact bS))))
  exact Ev.val rfl
 ·obtain ⟨r, q1, q2, q3⟩ := key l 0 (a - l.length) rfl (by omega) (by omega) (by omega)
  refine ⟨r, ?_, by omega, fun hr => ⟨by omega, q3 hr⟩⟩
  simp only [bq.f, e]
  (repeat (first | with_reducible refine Ev.dw ?_ | (with_reducible refine Ev.kU ?_ ?_; (· exact bS)) | (with_reducible refine Ev.lF ?_ ?_; (· exact bS))))
  exact q1
def EB (p : bE) : Nat := p.f0.length + p.f1.length + p.f2.length
def tot (P : List bE) : Nat := (P.map EB).sum
theorem mi {P : List bE} {i : Nat} {y : bE} (h : P[i]? = some y) : tot (P.take (i + 1)) = tot (P.take i) + EB y := by
 obtain ⟨h1, h2⟩ := List.getElem?_eq_some_iff.1 h
 unfold tot
 rw [List.take_add_one, h, Option.toList_some, List.map_append, List.sum_append]
 simp
theorem wM : ∀ (P : List bE) (i : Nat), tot (P.take i) <= tot P
 | [], i => by simp
 | p :: P, 0 => by simp [tot]
 | p :: P, i + 1 => by
  have := wM P i
  unfold tot at *
  simp only [List.take_succ_cons, List.map_cons, List.sum_cons]
  omega
theorem Oa (p : mJ) (h : wfP p) (a : Int) (h0 : 0 <= a) (h1 : a <= 1048576) :
  ∃ r : Int, Ev (fun k => lg.f k p.f0 p.f1 p.f2 a) r /\ r <= a /\ (0 <= r -> r + (EB (F6 p) : Int) <= a /\ Bz a p) := by
 obtain ⟨r1, e1, l1, s1⟩ := EA p.f0 h.1.1 h.1.2 a h0 h1
 simp only [lg.f]
 by_cases c1 : r1 < 0
 ·exact ⟨-1, Ev.bind e1 (by (repeat (first | with_reducible refine Ev.dw ?_ | (with_reducible refine Ev.kU ?_ ?_; (· exact bS)) | (with_reducible refine Ev.lF ?_ ?_; (· exact bS)))); exact Ev.val rfl), by omega, by omega⟩
 obtain ⟨r2, e2, l2, s2⟩ := EA p.f1 h.2.1.1 h.2.1.2 r1 (by omega) (by omega)
 by_cases c2 : r2 < 0
 ·exact ⟨-1, Ev.bind e1 (by (repeat (first | with_reducible refine Ev.dw ?_ | (with_reducible refine Ev.kU ?_ ?_; (· exact bS)) | (with_reducible refine Ev.lF ?_ ?_; (· exact bS)))); exact Ev.bind e2 (by (repeat (first | with_reducible refine Ev.dw ?_ | (with_reducible refine Ev.kU ?_ ?_; (· exact bS)) | (with_reducible refine Ev.lF ?_ ?_; (· exact bS)))); exact Ev.val rfl)), by omega, by omega⟩
 have hw : wrap64 (r2 - (p.f2.length : Int)) = r2 - (p.f2.length : Int) := jD (by have := h.2.2; simp only [maxLen] at this; omega) (by omega)
 have s1' := s1 (by omega)
 have s2' := s2 (by omega)
 by_cases c3 : r2 - (p.f2.length : Int) < 0
 ·refine ⟨-1, Ev.bind e1 (by (repeat (first | with_reducible refine Ev.dw ?_ | (with_reducible refine Ev.kU ?_ ?_; (· exact bS)) | (with_reducible refine Ev.lF ?_ ?_; (· exact bS)))); exact Ev.bind e2 (by (repeat (first | with_reducible refine Ev.dw ?_ | (with_reducible refine Ev.kU ?_ ?_; (· exact bS)) | (with_reducible refine Ev.lF ?_ ?_; (· exact bS)))); simp only [iI.f, hw, if_pos c3, Option.bind_some]; exact Ev.val (by simp))), by omega, by omega⟩
 ·refine ⟨r2 - (p.f2.length : Int), Ev.bind e1 (by (repeat (first | with_reducible refine Ev.dw ?_ | (with_reducible refine Ev.kU ?_ ?_; (· exact bS)) | (with_reducible refine Ev.lF ?_ ?_; (· exact bS)))); exact Ev.bind e2 (by (repeat (first | with_reducible refine Ev.dw ?_ | (with_reducible refine Ev.kU ?_ ?_; (· exact bS)) | (with_reducible refine Ev.lF ?_ ?_; (· exact bS)))); simp only [iI.f, hw, if_neg c3, Option.bind_some]; exact Ev.val rfl)), by omega, fun _ => ⟨?_, ⟨by omega, by omega, by omega, s1'.2, fun y hy => by have := s2'.2 y hy; omega⟩⟩⟩
  have := s1'.1
  have := s2'.1
  show r2 - (p.f2.length : Int) + ((p.f0.length + p.f1.length + p.f2.length : Nat) : Int) <= a
  omega
theorem LK {a b : Int} {p : mJ} (h : Bz a p) (hab : a <= b) : Bz b p :=
 ⟨by have := h.1; omega, by have := h.2.1; omega, by have := h.2.2.1; omega, fun y hy => by have := h.2.2.2.1 y hy; omega, fun y hy => by have := h.2.2.2.2 y hy; omega⟩
theorem Ob (P : List mJ) (hl : P.length <= maxLen) (hw : ∀ p ∈ P, wfP p) :
  ∃ r : Int, Ev (fun k => lh.f k P 1048576) r /\ (0 <= r -> P.length <= 1048576 /\ tot (P.map F6) <= 1048576 /\ ∀ p ∈ P, Bz 1048576 p) := by
 have key : ∀ (t : List mJ) (i : Nat) (m : Int), P.drop i = t -> i <= P.length -> 0 <= m -> m <= 1048576 ->
   ∃ r : Int, Ev (fun k => dA.l0 k P m i) r /\ (0 <= r -> r + (tot (t.map F6) : Int) <= m /\ ∀ p ∈ t, Bz 1048576 p) := by
  intro t
  induction t with
  | nil =>
   intro i m h _ _ hm
   have := drop_nil h
   exact ⟨m, by (refine Ev.up ?_; simp only [dA.l0, qd]); (repeat (first | with_reducible refine Ev.dw ?_ | (with_reducible refine Ev.kU ?_ ?_; (· exact bS)) | (with_reducible refine Ev.lF ?_ ?_; (· exact bS)))); exact Ev.val rfl, fun _ => ⟨by simp [tot], by simp⟩⟩
  | cons x t ih =>
   intro i m h hi hm0 hm
   obtain ⟨p1, p2, p3⟩ := drop_cons h
   obtain ⟨r1, e1, l1, s1⟩ := Oa x (hw x (List.mem_of_getElem? p2)) m hm0 hm
   have hrd : dE P (i : Int) = x := iB (z := VB) p2
   simp only [maxLen] at hl
   by_cases c : r1 < 0
   ·refine ⟨-1, ?_, by omega⟩
    (refine Ev.up ?_; simp only [dA.l0, qd])
    rw [hrd]
    (repeat (first | with_reducible refine Ev.dw ?_ | (with_reducible refine Ev.kU ?_ ?_; (· exact bS)) | (with_reducible refine Ev.lF ?_ ?_; (· exact bS))))
    exact Ev.bind e1 (by (repeat (first | with_reducible refine Ev.dw ?_ | (with_reducible refine Ev.kU ?_ ?_; (· exact bS)) | (with_reducible refine Ev.lF ?_ ?_; (· exact bS)))); exact Ev.val rfl)
   ·obtain ⟨r, q1, q2⟩ := ih (i + 1) r1 p3 (by omega) (by omega) (by omega)
    have s1' := s1 (by omega)
    refine ⟨r, ?_, fun hr => ⟨?_, fun p hp => ?_⟩⟩
    ·(refine Ev.up ?_; simp only [dA.l0, qd])
     rw [hrd, eT (by omega)]
     (repeat (first | with_reducible refine Ev.dw ?_ | (with_reducible refine Ev.kU ?_ ?_; (· exact bS)) | (with_reducible refine Ev.lF ?_ ?_; (· exact bS))))
     exact Ev.bind e1 (by (repeat (first | with_reducible refine Ev.dw ?_ | (with_reducible refine Ev.kU ?_ ?_; (· exact bS)) | (with_reducible refine Ev.lF ?_ ?_; (· exact bS)))); exact q1)
    ·have := (q2 hr).1
     have e : tot ((x :: t).map F6) = EB (F6 x) + tot (t.map F6) := by simp [tot]
     omega
    ·rcases List.mem_cons.1 hp with rfl | hp
     ·exact LK s1'.2 hm
     ·exact (q2 hr).2 p hp
 have hl' := hl
 simp only [maxLen] at hl'
 have e : wrap64 (1048576 - (P.length : Int)) = 1048576 - (P.length : Int) := jD (by omega) (by omega)
 simp only [lh.f, dA.f]
 by_cases hlt : 1048576 - (P.length : Int) < 0
 ·refine ⟨-1, ?_, by omega⟩
  rw [e]
  refine Ev.bind (a := -1) ?_ ?_
  ·(repeat (first | with_reducible refine Ev.dw ?_ | (with_reducible refine Ev.kU ?_ ?_; (· exact bS)) | (with_reducible refine Ev.lF ?_ ?_; (· exact bS))))
   exact Ev.val rfl
  ·(repeat (first | with_reducible refine Ev.dw ?_ | (with_reducible refine Ev.kU ?_ ?_; (· exact bS)) | (with_reducible refine Ev.lF ?_ ?_; (· exact bS))))
   exact Ev.val rfl
 ·obtain ⟨r, q1, q2⟩ := key P 0 (1048576 - P.length) rfl (by omega) (by omega) (by omega)
  by_cases c : r < 0
  ·refine ⟨-1, ?_, by omega⟩
   rw [e]
   refine Ev.bind (a := r) ?_ ?_
   ·(repeat (first | with_reducible refine Ev.dw ?_ | (with_reducible refine Ev.kU ?_ ?_; (· exact bS)) | (with_reducible refine Ev.lF ?_ ?_; (· exact bS))))
    exact q1
   ·(repeat (first | with_reducible refine Ev.dw ?_ | (with_reducible refine Ev.kU ?_ ?_; (· exact bS)) | (with_reducible refine Ev.lF ?_ ?_; (· exact bS))))
    exact Ev.val rfl
  ·refine ⟨r, ?_, fun hr => ⟨by omega, by have := (q2 hr).1; omega, (q2 hr).2⟩⟩
   rw [e]
   refine Ev.bind (a := r) ?_ ?_
   ·(repeat (first | with_reducible refine Ev.dw ?_ | (with_reducible refine Ev.kU ?_ ?_; (· exact bS)) | (with_reducible refine Ev.lF ?_ ?_; (· exact bS))))
    exact q1
   ·(repeat (first | with_reducible refine Ev.dw ?_ | (with_reducible refine Ev.kU ?_ ?_; (· exact bS)) | (with_reducible refine Ev.lF ?_ ?_; (· exact bS))))
    exact Ev.val rfl
theorem LM (l : List Int) (hl : l.length <= 1048576) (c : Int) (h0 : 0 <= c) (h1 : c <= 1000000000) :
  ∃ l' : List Int, Ev (fun k => bK.f k l c) (c + l.length, l') := by
 refine ⟨l.mapIdx fun i _ => c + i, ?_⟩
 have h := zg (fun k x a i => bK.l0 k x a i) (fun i => c + (i : Int)) (fun i _ => c + i) l ?_ ?_
 ·simp only [bK.f]
  rw [show c + ((0 : Nat) : Int) = c by omega] at h
  exact h
 ·intro k x hx
  simp only [bK.l0]
  rw [if_neg (by omega)]
 ·intro i y hy
  have hlt := (List.getElem?_eq_some_iff.1 hy).1
  refine ⟨0, fun k x hk hx _ => ?_⟩
  have e1 : wrap64 (c + (i : Int) + 1) = c + ((i + 1 : Nat) : Int) := by rw [jD (by omega) (by omega)]; omega
  simp only [bK.l0]
  rw [if_pos (by omega), if_pos (by omega), eT (by omega), e1, Int.toNat_natCast]
theorem LP (p : bE) (hp : EB p <= 1048576) (c : Int) (h0 : 0 <= c) (h1 : c <= 900000000) :
  ∃ q : bE, ∃ K, ∀ k, K <= k -> aY.f k p.f0 c = some (c + p.f0.length, q.f0) /\ aY.f k p.f1 (c + p.f0.length) = some (c + p.f0.length + p.f1.length, q.f1) /\ bK.f k p.f2 (c + p.f0.length + p.f1.length) = some (c + ((EB p : Nat) : Int), q.f2) := by
 have hw : EB p = p.f0.length + p.f1.length + p.f2.length := rfl
 obtain ⟨l0, _, ⟨K0, m0⟩, _⟩ := sF p.f0 (by omega) c h0 (by omega)
 obtain ⟨l1, _, ⟨K1, m1⟩, _⟩ := sF p.f1 (by omega) (c + p.f0.length) (by omega) (by omega)
 obtain ⟨l2, ⟨K2, m2⟩⟩ := LM p.f2 (by omega) (c + p.f0.length + p.f1.length) (by omega) (by omega)
 refine ⟨⟨l0, l1, l2⟩, max K0 (max K1 K2), fun k hk => ⟨m0 k (by omega), m1 k (by omega), ?_⟩⟩
 have := m2 k (by omega)
 dsimp only at this
 rw [this, hw]
 congr 2
 omega
theorem JF (P : List bE) (hl : P.length <= 1048576) (ht : tot P <= 1048576) :
  ∃ u : List bE, Ev (fun k => bJ.f k P 1) (1 + ((tot P : Nat) : Int), u) := by
 have hw : ∀ {i : Nat} {y : bE}, P[i]? = some y -> tot (P.take i) + EB y <= 1048576 := fun {i y} h => by
  have := mi h
  have := wM P (i + 1)
  omega
 have ex : ∀ (i : Nat) (y : bE), ∃ q : bE, P[i]? = some y -> ∃ K, ∀ k, K <= k -> aY.f k y.f0 (1 + ((tot (P.take i) : Nat) : Int)) = some (1 + ((tot (P.take i) : Nat) : Int) + y.f0.length, q.f0) /\ aY.f k y.f1 (1 + ((tot (P.take i) : Nat) : Int) + y.f0.length) = some (1 + ((tot (P.take i) : Nat) : Int) + y.f0.length + y.f1.length, q.f1) /\ bK.f k y.f2 (1 + ((tot (P.take i) : Nat) : Int) + y.f0.length + y.f1.length) = some (1 + ((tot (P.take i) : Nat) : Int) + ((EB y : Nat) : Int), q.f2) := by
  intro i y
  by_cases h : P[i]? = some y
  ·have := hw h
   obtain ⟨q, hq⟩ := LP y (by omega) (1 + ((tot (P.take i) : Nat) : Int)) (by omega) (by omega)
   exact ⟨q, fun _ => hq⟩
  ·exact ⟨y, fun h2 => absurd h2 h⟩
 obtain ⟨g, hg⟩ : ∃ g : Nat -> bE -> bE, ∀ (i : Nat) (y : bE), P[i]? = some y -> ∃ K, ∀ k, K <= k -> aY.f k y.f0 (1 + ((tot (P.take i) : Nat) : Int)) = some (1 + ((tot (P.take i) : Nat) : Int) + y.f0.length, (g i y).f0) /\ aY.f k y.f1 (1 + ((tot (P.take i) : Nat) : Int) + y.f0.length) = some (1 + ((tot (P.take i) : Nat) : Int) + y.f0.length + y.f1.length, (g i y).f1) /\ bK.f k y.f2 (1 + ((tot (P.take i) : Nat) : Int) + y.f0.length + y.f1.length) = some (1 + ((tot (P.take i) : Nat) : Int) + ((EB y : Nat) : Int), (g i y).f2) := ⟨fun i y => Classical.choose (ex i y), fun i y => Classical.choose_spec (ex i y)⟩
 refine ⟨P.mapIdx g, ?_⟩
 have h := zg (fun k x a i => bJ.l0 k x a i) (fun i => 1 + (((tot (P.take i) : Nat) : Int) : Int)) g P ?_ ?_
 ·simp only [bJ.f]
  rw [show (1 : Int) + ((tot (P.take 0) : Nat) : Int) = 1 by simp [tot], List.take_length] at h
  exact h
 ·intro k x hx
  simp only [bJ.l0]
  rw [if_neg (by omega)]
 ·intro i y hy
  have hlt := (List.getElem?_eq_some_iff.1 hy).1
  obtain ⟨K, hK⟩ := hg i y hy
  refine ⟨K, fun k x hk hx hxy => ?_⟩
  obtain ⟨a, b, c⟩ := hK k hk
  have hrd : aJ x (i : Int) = y := iB (z := jG) hxy
  have hs := mi hy
  simp only [bJ.l0]
  rw [if_pos (by omega), if_pos (by omega), hrd, a, Option.bind_some]
  dsimp only
  rw [b, Option.bind_some]
  dsimp only
  rw [c, Option.bind_some, eT (by omega), Int.toNat_natCast, hs]
  dsimp only
  rw [show (1 : Int) + ((tot (P.take i) : Nat) : Int) + ((EB y : Nat) : Int) = 1 + ((tot (P.take i) + EB y : Nat) : Int) by omega]
end Go.Proofs.Ytoddejmlcnbdmaa.Pure

