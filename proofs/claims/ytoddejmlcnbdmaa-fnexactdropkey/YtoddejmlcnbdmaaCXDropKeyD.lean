/- The law FnExactDropKey holds of the given program: at every input it answers true and leaves its arguments as they were; no condition. This text: part 4 of what its proof reaches. -/
import Derived.Deep.QuietTactic
import Derived.BigQuiet
import Derived.Laws.IdiomCopy
import Derived.Lib.AppendZerosOnto
import Derived.Lib.Overlaps
import Derived.Laws.Externs
import Derived.Shelf.Spec.SlicesInsert
import Derived.Lib.SliceRun
import Derived.Lib.AppendZeros
import Derived.Test.YtoddejmlcnbdmaaCXDropKeyA
import Derived.Test.YtoddejmlcnbdmaaCXDropKeyB
import Derived.Test.YtoddejmlcnbdmaaCXDropKeyC
set_option maxHeartbeats 8000000
set_option maxRecDepth 100000
set_option linter.unusedVariables false
set_option linter.unusedSimpArgs false
open Go.Proofs.Ytoddejmlcnbdmaa.Fn
open Go.Lib Go.Proofs.Ytoddejmlcnbdmaa.Fn
open Go.RowKit Go.Proofs.YtoddejmlcnbdmaaW.PrintWords Go.Proofs.YtoddejmlcnbdmaaW.PrintLast Go.Proofs.YtoddejmlcnbdmaaW.PrintMore Go.Proofs.Ytoddejmlcnbdmaa.Gen
namespace Go.Proofs.Ytoddejmlcnbdmaa.Tree
set_option maxHeartbeats 8000000
set_option maxRecDepth 100000
def PGR (w : World) (base T E : Nat) (t : NT) (L : List Ck) (fP : List Pg) (e : Ending) (w' : World) : Prop :=
 ∃ (vo : Value) (pgs' : List Pg), e = .returned vo /\ pgs'.map Pg.erase = fP.map Pg.erase ++ mh t.erase fP.length /\ Sat w' base (t.fB T E ++ (iP vo pgs' ++ L)) /\ Below base w w'
theorem Em {w : World} {base T E : Nat} {t : NT} {v : Value} {fP : List Pg} {L : List Ck} (h : Sat w base (t.fB T E ++ (iP v fP ++ L))) :
  aa w base [[.box T t.p #[t.kv, t.vv, t.cv]], [txt t.kv t.keys], [txt t.vv t.vals], [.kT E t.cv (ptrs t.kids)], NT.bI T E t.kids, [sW v fP], jX fP, L] := by
 rw [NT.kK] at h
 unfold aa NT.head iP at *
 simp only [List.flatten_cons, List.flatten_nil, List.append_assoc, List.cons_append, List.nil_append, List.append_nil] at h ⊢
 exact h
theorem aa.Ie {w : World} {base : Nat} {gs : List (List Ck)} (h : aa w base gs) (e : Nat) : aa w base (gs ++ [[.own e (.slice none 0 0) []]]) := by
 have hq : Ck.ok w base (.own e (.slice none 0 0) []) := ⟨by simp, .inl ⟨rfl, rfl⟩⟩
 unfold aa
 rw [List.flatten_append, List.flatten_singleton]
 refine (Sat.add (A := [.own e (.slice none 0 0) []]) h (Kept.refl _ _) (Sat.one hq) ?_).perm List.perm_append_comm
 rintro k ⟨c, hc, hb⟩
 rw [List.mem_singleton.1 hc] at hb
 cases hb
theorem Ct {l : List Pg} {X Z : List bE} {y : bE} (h : l.map Pg.erase = X ++ y :: Z) : ∃ A p B, l = A ++ p :: B /\ A.map Pg.erase = X /\ p.erase = y /\ B.map Pg.erase = Z := by
 obtain ⟨A, C, rfl, hA, hC⟩ := List.map_eq_append_iff.1 h
 obtain ⟨p, B, rfl, hp, hB⟩ := List.map_eq_cons_iff.1 hC
 exact ⟨A, p, B, rfl, hA, hp, hB⟩
theorem Xj (T S D O R : List Ck) : (T ++ (S ++ (D ++ (O ++ R)))).Perm (S ++ (O ++ (R ++ (T ++ D)))) := by
 refine List.perm_append_comm.trans ?_
 rw [List.append_assoc]
 refine .append_left S ?_
 rw [List.append_assoc]
 refine List.perm_append_comm.trans ?_
 simp only [List.append_assoc]
 exact .refl _
def BK (T E : Nat) (t : NT) (v : Value) (A B : List Pg) (p : Pg) (L : List Ck) : List (List Ck) :=
 [[.box T t.p #[t.kv, t.vv, t.cv]], [txt t.kv t.keys], [txt t.vv t.vals], [.kT E t.cv (ptrs t.kids)], NT.bI T E t.kids, [sW v (A ++ p :: B)], [txt p.kv p.ks], [txt p.vv p.vs], [ints p.cv p.cs], jX A, jX B, L]
theorem En {w : World} {base T E : Nat} {t : NT} {v : Value} {A B : List Pg} {p : Pg} {L : List Ck} (h : aa w base (BK T E t v A B p L)) : Sat w base (t.fB T E ++ (iP v (A ++ p :: B) ++ L)) := by
 have h2 : aa w base [[.box T t.p #[t.kv, t.vv, t.cv]], [txt t.kv t.keys], [txt t.vv t.vals], [.kT E t.cv (ptrs t.kids)], NT.bI T E t.kids, [sW v (A ++ p :: B)], jX A, [txt p.kv p.ks], [txt p.vv p.vs], [ints p.cv p.cs], jX B, L] := aa.ky h [0, 1, 2, 3, 4, 5, 9, 6, 7, 8, 10, 11] (by decide)
 rw [NT.kK]
 unfold aa at h2
 unfold NT.head iP
 rw [yt, Ej]
 unfold Pg.fB
 simp only [List.flatten_cons, List.flatten_nil, List.append_assoc, List.cons_append, List.nil_append, List.append_nil] at h2 ⊢
 exact h2
theorem Eo {w : World} {base T E i : Nat} {t s : NT} {v : Value} {A B : List Pg} {p : Pg} {L : List Ck} (hs : t.kids[i]? = some s) (h : aa w base (BK T E t v A B p L)) :
  Sat w base (s.fB T E ++ (iP v (A ++ p :: B) ++ ((t.head T E ++ L) ++ (NT.bI T E (t.kids.take i) ++ NT.bI T E (t.kids.drop (i + 1)))))) := by
 have h2 : aa w base [NT.bI T E t.kids, [sW v (A ++ p :: B)], jX A, [txt p.kv p.ks], [txt p.vv p.vs], [ints p.cv p.cs], jX B, [.box T t.p #[t.kv, t.vv, t.cv]], [txt t.kv t.keys], [txt t.vv t.vals], [.kT E t.cv (ptrs t.kids)], L] := aa.ky h [4, 5, 9, 6, 7, 8, 10, 0, 1, 2, 3, 11] (by decide)
 have h3 : Sat w base (NT.bI T E (t.kids.take i) ++ (s.fB T E ++ (NT.bI T E (t.kids.drop (i + 1)) ++ (iP v (A ++ p :: B) ++ (t.head T E ++ L))))) := by
  unfold aa at h2
  rw [ma T E hs] at h2
  unfold NT.head iP
  rw [yt, Ej]
  unfold Pg.fB
  simp only [List.flatten_cons, List.flatten_nil, List.append_assoc, List.cons_append, List.nil_append, List.append_nil] at h2 ⊢
  exact h2
 exact h3.perm (Xj _ _ _ _ _)
theorem Ep {w : World} {base T E i : Nat} {t s : NT} {v : Value} {A B : List Pg} {p : Pg} {L : List Ck} (hs : t.kids[i]? = some s) (h : Sat w base (s.fB T E ++ (iP v (A ++ p :: B) ++ ((t.head T E ++ L) ++ (NT.bI T E (t.kids.take i) ++ NT.bI T E (t.kids.drop (i + 1))))))) :
  aa w base (BK T E t v A B p L) := by
 have h3 := h.perm (Xj (NT.bI T E (t.kids.take i)) (s.fB T E) (NT.bI T E (t.kids.drop (i + 1))) (iP v (A ++ p :: B)) (t.head T E ++ L)).symm
 have h2 : aa w base [NT.bI T E t.kids, [sW v (A ++ p :: B)], jX A, [txt p.kv p.ks], [txt p.vv p.vs], [ints p.cv p.cs], jX B, [.box T t.p #[t.kv, t.vv, t.cv]], [txt t.kv t.keys], [txt t.vv t.vals], [.kT E t.cv (ptrs t.kids)], L] := by
  unfold aa
  rw [ma T E hs]
  unfold NT.head iP at h3
  rw [yt, Ej] at h3
  unfold Pg.fB at h3
  simp only [List.flatten_cons, List.flatten_nil, List.append_assoc, List.cons_append, List.nil_append, List.append_nil] at h3 ⊢
  exact h3
 exact aa.ky h2 [7, 8, 9, 10, 0, 1, 3, 4, 5, 2, 6, 11] (by decide)
theorem NQ.calls : ∀ (n : Nat) (t : NT), t.erase.big <= n -> mG t.erase -> ∀ (base : Nat) (vo : Value) (fP : List Pg) (L : List Ck) (w : World), Sat w base (t.fB 96 70 ++ (iP vo fP ++ L)) -> base <= w.heap.size -> fP.length + t.erase.big <= 100000 ->
  Calls Try.prog 107 #[bO t.p, vo] w (PGR w base 96 70 t L fP) := by
 intro n
 induction n with
 | zero =>
  intro t hb
  exact absurd t.erase.fZ (by omega)
 | succ n ih =>
  intro t hbig hbd base vo fP L w hs hbs hpl
  have h0 := Em hs
  obtain ⟨⟨ho1, ho2, ho3⟩, yN⟩ := cz.1 hbd
  cases t with | mk tp Gq Gr Gs tks tvs aZ =>
  have e0 : (NT.mk tp Gq Gr Gs tks tvs aZ).erase = .mk tks tvs (NT.aD aZ) := rfl
  rw [e0] at hbig ho1 ho2 ho3 yN hpl
  simp only [NT.keys, NT.vals, NT.kids, NT.p, NT.kv, NT.vv, NT.cv] at h0 ⊢
  simp only [PT.keys, PT.vals, PT.kids] at ho1 ho2 ho3 yN
  obtain ⟨tF, ja, rfl⟩ := Kd.au (h0.sr 1 rfl)
  obtain ⟨uF, jk, rfl⟩ := Kd.au (h0.sr 2 rfl)
  obtain ⟨Cc, jC, rfl, _, _⟩ := eO (h0.q 3 rfl)
  obtain ⟨Ao, co, rfl⟩ := jc (h0.rowOk 5 rfl)
  have HS := A_ h0
  have HB := A_ (Below.refl base w)
  have eB := A_ hbs
  have Sm := A_ hbig
  have HPL := A_ hpl
  have R6 := A_ yN
  have hnl : (NT.aD aZ).length = aZ.length := by rw [aN, List.length_map]
  have Vl : tvs.length <= 4 /\ aZ.length <= 5 := by omega
  have hpn : fP.length + 1 <= 100000 := by have := (PT.mk tks tvs (NT.aD aZ)).fZ; omega
  clear h0 hs hbs hbig hpl ho1 ho3 yN hbd hnl e0
  go_enter Try.func107, Try.ntmps107
  go_upto_region 2 with fail
  refine dL (n := 17) (S := fun w' => w'.cell? ⟨tp, 0, none⟩ = some (.slice tF tks.length ja) /\ w'.cell? ⟨tp, 1, none⟩ = some (.slice uF tvs.length jk)) (ds := []) (bt 17 0) (by kernel_rfl) rfl rfl ⟨(aa.z0 (aa.drew HS.out) 0 rfl), (aa.z1 (aa.drew HS.out) 0 rfl)⟩ (fun hHeld => ?_)
  refine aQ 0 11 1 ?_
  refine aQ 2 13 5 ?_
  refine aQ 3 14 13 ?_
  refine aQ 4 15 29 ?_
  refine aQ 8 19 285 ?_
  refine aQ 9 20 797 ?_
  refine aQ 10 21 1821 ?_
  refine gF 5 16 1853 hHeld ?_
  refine gF 11 22 3901 hHeld ?_
  refine GN (σ := Value × Value × Value) 5 (bt 17 4095) (fun z => [(12, z.1), (17, z.2.1), (18, z.2.2)]) (fun z w' => Below base w w' /\ aa w' base [qW 96 tp tF tks.length ja uF tvs.length jk Cc aZ.length jC, lW tF ja tks, lW uF jk tvs, rY 70 Cc jC aZ, (NT.bI 96 70 aZ), [sW (.slice Ao fP.length co) fP], (jX fP), L, [txt z.2.1 ([] ++ tks)], [txt z.2.2 []]]) ?_ ?_
  rotate_left
  ·intro iW
   refine IX 1 7 (some 12) (some 18) 3903 4029 (fun K hK => ?_) (fun K hK => ?_)
   ·skip
    refine Kd.bB Kd.string (w0 := w) base 9 (by rfl) (N := 12) rfl (xs := ([] : List ByteArray)) (inner := []) (ok := fun _ => True) (okp := fun _ => False) ?hr (gP.none _ _) (fun _ h => h.elim) trivial (aH HB.out) (eY eB HB) (by simp) ?_
    (case hr => first | (go_simp; done) | (go_simp; rfl))
    intro vb1 Ub dW hbb hgb hnb
    have oJ := A_ hbb
    have oL := A_ (aa.lit (aa.drew HS.out) dW hgb hnb)
    obtain ⟨iw, iy, rfl⟩ : ∃ A c, vb1 = .slice A 0 c := Kd.au dW
    clear dW hbb hgb hnb
    refine hK.out _ _ ⟨(aa.z0 oL.out 0 rfl), (aa.z1 oL.out 0 rfl)⟩ (fun hHeld => ?_)
    clear hK K
    refine fw 12 ?_
    refine IX 6 7 (some 17) (some 18) 3967 4031 (fun K hK => ?_) (fun K hK => ?_)
    ·skip
     refine Kd.aV Kd.string (w0 := w) base (by rfl) (.tmp 12) (.tmp 16) 38 9 (.string ⟨#[]⟩) 16 rfl Try.underlying38 eU rfl (by decide) (by omega) (.slice iw 0 iy) [] tks tF tks.length ja (fun _ => True) (fun _ => False) rfl rfl (aa.sr oL.out 8 rfl) (F5 oL.out 1 rfl) (fun _ _ h => h) (fun _ h => h.elim) (fun _ _ => trivial) oJ.out (eY eB oJ) (by simp only [List.length_nil]; omega) ?_
     intro u1 KF ho hb hg hat
     have kE := A_ hb
     have jg := A_ (aa.app 8 oL.out rfl ho hg hat)
     clear ho hb hg hat
     refine hK.out _ _ ⟨(aa.z0 jg.out 0 rfl), (aa.z1 jg.out 0 rfl)⟩ (fun hHeld => ?_)
     clear hK K
     refine fw 17 ?_
     refine jm 7 (some 18) 4095 (fun K hK => ?_)
     refine Kd.bB Kd.string (w0 := w) base 9 (by rfl) (N := 18) rfl (xs := ([] : List ByteArray)) (inner := []) (ok := fun _ => True) (okp := fun _ => False) ?hr (gP.none _ _) (fun _ h => h.elim) trivial kE.out (eY eB kE) (by simp) ?_
     (case hr => first | (go_simp; done) | (go_simp; rfl))
     intro uD Gi dW hbb hgb hnb
     have lu := A_ hbb
     have iR := A_ (aa.lit jg.out dW hgb hnb)
     obtain ⟨gI, gJ, rfl⟩ : ∃ A c, uD = .slice A 0 c := Kd.au dW
     clear dW hbb hgb hnb
     refine hK.out _ _ ⟨(aa.z0 iR.out 0 rfl), (aa.z1 iR.out 0 rfl)⟩ (fun hHeld => ?_)
     clear hK K
     refine fw 18 ?_
     exact CL (iW ⟨.slice iw 0 iy, u1, .slice gI 0 gJ⟩ _ ⟨lu.out, aa.ky iR.out [0, 1, 2, 3, 4, 5, 6, 7, 8, 9] (by decide)⟩)
    ·skip
     refine Kd.bB Kd.string (w0 := w) base 9 (by rfl) (N := 18) rfl (xs := ([] : List ByteArray)) (inner := []) (ok := fun _ => True) (okp := fun _ => False) ?hr (gP.none _ _) (fun _ h => h.elim) trivial oJ.out (eY eB oJ) (by simp) ?_
     (case hr => first | (go_simp; done) | (go_simp; rfl))
     intro uD KF dW hbb hgb hnb
     have kE := A_ hbb
     have jg := A_ (aa.lit oL.out dW hgb hnb)
     obtain ⟨gI, gJ, rfl⟩ : ∃ A c, uD = .slice A 0 c := Kd.au dW
     clear dW hbb hgb hnb
     refine hK.out _ _ ⟨(aa.z0 jg.out 0 rfl), (aa.z1 jg.out 0 rfl)⟩ (fun hHeld => ?_)
     clear hK K
     refine fw 18 ?_
     refine jm 6 (some 17) 4095 (fun K hK => ?_)
     refine Kd.aV Kd.string (w0 := w) base (by rfl) (.tmp 12) (.tmp 16) 38 9 (.string ⟨#[]⟩) 16 rfl Try.underlying38 eU rfl (by decide) (by omega) (.slice iw 0 iy) [] tks tF tks.length ja (fun _ => True) (fun _ => False) rfl rfl (aa.sr jg.out 8 rfl) (F5 jg.out 1 rfl) (fun _ _ h => h) (fun _ h => h.elim) (fun _ _ => trivial) kE.out (eY eB kE) (by simp only [List.length_nil]; omega) ?_
     intro u1 Gi ho hb hg hat
     have lu := A_ hb
     have iR := A_ (aa.app 8 jg.out rfl ho hg hat)
     clear ho hb hg hat
     refine hK.out _ _ ⟨(aa.z0 iR.out 0 rfl), (aa.z1 iR.out 0 rfl)⟩ (fun hHeld => ?_)
     clear hK K
     refine fw 17 ?_
     exact CL (iW ⟨.slice iw 0 iy, u1, .slice gI 0 gJ⟩ _ ⟨lu.out, aa.ky iR.out [0, 1, 2, 3, 4, 5, 6, 7, 8, 9] (by decide)⟩)
   ·skip
    refine Kd.bB Kd.string (w0 := w) base 9 (by rfl) (N := 18) rfl (xs := ([] : List ByteArray)) (inner := []) (ok := fun _ => True) (okp := fun _ => False) ?hr (gP.none _ _) (fun _ h => h.elim) trivial (aH HB.out) (eY eB HB) (by simp) ?_
    (case hr => first | (go_simp; done) | (go_simp; rfl))
    intro uD Ub dW hbb hgb hnb
    have oJ := A_ hbb
    have oL := A_ (aa.lit (aa.drew HS.out) dW hgb hnb)
    obtain ⟨gI, gJ, rfl⟩ : ∃ A c, uD = .slice A 0 c := Kd.au dW
    clear dW hbb hgb hnb
    refine hK.out _ _ ⟨(aa.z0 oL.out 0 rfl), (aa.z1 oL.out 0 rfl)⟩ (fun hHeld => ?_)
    clear hK K
    refine fw 18 ?_
    refine jm 1 (some 12) 4031 (fun K hK => ?_)
    refine Kd.bB Kd.string (w0 := w) base 9 (by rfl) (N := 12) rfl (xs := ([] : List ByteArray)) (inner := []) (ok := fun _ => True) (okp := fun _ => False) ?hr (gP.none _ _) (fun _ h => h.elim) trivial oJ.out (eY eB oJ) (by simp) ?_
    (case hr => first | (go_simp; done) | (go_simp; rfl))
    intro vb1 KF dW hbb hgb hnb
    have kE := A_ hbb
    have jg := A_ (aa.lit oL.out dW hgb hnb)
    obtain ⟨iw, iy, rfl⟩ : ∃ A c, vb1 = .slice A 0 c := Kd.au dW
    clear dW hbb hgb hnb
    refine hK.out _ _ ⟨(aa.z0 jg.out 0 rfl), (aa.z1 jg.out 0 rfl)⟩ (fun hHeld => ?_)
    clear hK K
    refine fw 12 ?_
    refine jm 6 (some 17) 4095 (fun K hK => ?_)
    refine Kd.aV Kd.string (w0 := w) base (by rfl) (.tmp 12) (.tmp 16) 38 9 (.string ⟨#[]⟩) 16 rfl Try.underlying38 eU rfl (by decide) (by omega) (.slice iw 0 iy) [] tks tF tks.length ja (fun _ => True) (fun _ => False) rfl rfl (aa.sr jg.out 9 rfl) (F5 jg.out 1 rfl) (fun _ _ h => h) (fun _ h => h.elim) (fun _ _ => trivial) kE.out (eY eB kE) (by simp only [List.length_nil]; omega) ?_
    intro u1 Gi ho hb hg hat
    have lu := A_ hb
    have iR := A_ (aa.app 9 jg.out rfl ho hg hat)
    clear ho hb hg hat
    refine hK.out _ _ ⟨(aa.z0 iR.out 0 rfl), (aa.z1 iR.out 0 rfl)⟩ (fun hHeld => ?_)
    clear hK K
    refine fw 17 ?_
    exact CL (iW ⟨.slice iw 0 iy, u1, .slice gI 0 gJ⟩ _ ⟨lu.out, aa.ky iR.out [0, 1, 2, 3, 4, 5, 6, 7, 9, 8] (by decide)⟩)
  rintro ⟨vb1, u1, uD⟩ w8 ⟨hb, hs⟩
  obtain ⟨gI, gJ, rfl⟩ : ∃ A c, uD = .slice A 0 c := Kd.au (aa.sr hs 9 rfl)
  have hHeld : (w8.cell? ⟨tp, 0, none⟩ = some (.slice tF tks.length ja)) /\ (w8.cell? ⟨tp, 1, none⟩ = some (.slice uF tvs.length jk)) := ⟨aa.z0 hs 0 rfl, aa.z1 hs 0 rfl⟩
  clear HS HB
  have HB := A_ hb
  have HS := A_ hs
  clear hb hs
  refine Cg (a' := ?_) ?_ ?_
  rotate_left
  ·simp only [sU, Act.put, List.setIfInBounds_toArray, List.set_cons_zero, List.set_cons_succ]
   rfl
  refine jm 12 (some 23) 8191 (fun K hK => ?_)
  refine Kd.aV Kd.string (w0 := w) base (by rfl) (.tmp 18) (.tmp 22) 38 9 (.string ⟨#[]⟩) 16 rfl Try.underlying38 eU rfl (by decide) (by omega) (.slice gI 0 gJ) [] tvs uF tvs.length jk (fun _ => True) (fun _ => False) rfl rfl (aa.sr HS.out 9 rfl) (F5 HS.out 2 rfl) (fun _ _ h => h) (fun _ h => h.elim) (fun _ _ => trivial) HB.out (eY eB HB) (by simp only [List.length_nil]; omega) ?_
  intro u2 w9 ho hb hg hat
  have HB9 := A_ hb
  have HS9 := A_ (aa.app 9 HS.out rfl ho hg hat)
  clear ho hb hg hat
  clear HS HB
  have HS := HS9
  have HB := HB9
  clear HS9 HB9
  obtain ⟨Y7, Y8, er1⟩ := Kd.au (aa.sr HS.out 8 rfl)
  obtain ⟨Y9, Za, er2⟩ := Kd.au (aa.sr HS.out 9 rfl)
  rw [List.nil_append] at er1 er2
  subst er1
  subst er2
  have az := oK (HS.out)
  clear HS
  have HS := az
  clear az
  refine hK.out _ _ ⟨(aa.z0 HS.out 0 rfl), (aa.z1 HS.out 0 rfl)⟩ (fun hHeld => ?_)
  clear hK K
  refine fw 23 ?_
  refine aQ 13 24 16383 ?_
  refine jm 14 (some 25) 32767 (fun K hK => ?_)
  refine zx 110 3 [.slice Y7 tks.length Y8, .slice Y9 tvs.length Za, .slice none 0 0] rfl (by rfl) (N := 25) rfl ?hr ?_
  (case hr => first | (go_simp; done) | (go_simp; rfl))
  intro gp vN hg ho hb
  have az := oK (aa.newRow HS.out hb (eY eB HB) (by rw [<- hg] at *; exact ho))
  have aG : ae (Below base w vN) := ⟨HB.out.trans (hb.mono (eY eB HB))⟩
  clear HS HB hg ho hb; have HS := az; have HB := aG; clear az aG
  refine hK.out _ _ ⟨(aa.z0 HS.out 0 rfl), (aa.z1 HS.out 0 rfl)⟩ (fun hHeld => ?_)
  clear hK K
  refine fw 25 ?_
  refine jm 15 (some 26) 65535 (fun K hK => ?_)
  refine vM (w0 := w) (base := base) (by rfl) (.tmp 11) (.tmp 25) 27 110 3 72 _ rfl Try.underlying27 IZ rfl (by decide) (by decide) (.slice Ao fP.length co) fP.length 1 1 gp (fP.flatMap Pg.cells) [.slice Y7 tks.length Y8, .slice Y9 tvs.length Za, .slice none 0 0] rfl rfl (aa.rowOk HS.out 5 rfl) (aa.rowOk HS.out 10 rfl) (by intro u hu; simp only [List.mem_cons, List.not_mem_nil, or_false] at hu; rcases hu with rfl | rfl | rfl <;> rfl) HB.out (eY eB HB) (by omega) ?_
  intro vo1 sP ho hb hg hat
  obtain ⟨A1, c1, rfl⟩ := jc ho
  have az := oK (aa.Ty 5 HS.out rfl ho hg hat)
  have aG : ae (Below base w sP) := ⟨hb⟩
  clear HS HB ho hb hg hat; have HS := az; have HB := aG; clear az aG
  refine hK.out _ _ ⟨(aa.z0 HS.out 0 rfl), (aa.z1 HS.out 0 rfl)⟩ (fun hHeld => ?_)
  clear hK K
  refine fw 26 ?_
  refine aQ 16 1 131071 ?_
  refine fA (by kernel_rfl) ?_
  obtain ⟨K, hK⟩ : ∃ K, K = NT.aD aZ := ⟨_, rfl⟩
  have HK := A_ hK
  have Bb := A_ (show K.length = aZ.length by rw [hK, aN, List.length_map])
  obtain ⟨go1, rfl⟩ := zy (aa.rowOk HS.out 5 rfl) (by omega)
  have az : ae (aa sP base (BK 96 70 (NT.mk tp (.slice tF tks.length ja) (.slice uF tvs.length jk) (.slice Cc aZ.length jC) tks tvs aZ) (.slice (some ⟨go1, 0, none⟩) (fP.length + 1) c1) fP [] ⟨.slice Y7 tks.length Y8, .slice Y9 tvs.length Za, .slice none 0 0, tks, tvs, []⟩ L)) := ⟨by
   have h1 := (aa.Xe (aa.Ie HS.out 3)).ky [0, 1, 2, 3, 4, 5, 8, 9, 11, 6, 12, 7] (by decide)
   unfold BK
   show aa _ _ [_, _, _, _, _, [.row 110 3 (.slice (some ⟨go1, 0, none⟩) (fP.length + 1) c1) (fP ++ [_]).length ((fP ++ [_]).flatMap Pg.cells)], _, _, _, _, _, _]
   rw [List.length_append, List.flatMap_append, List.flatMap_cons, List.flatMap_nil, List.append_nil]
   exact h1⟩
  clear HS hK
  have HS := az
  clear az
  obtain ⟨t0, ht0⟩ : ∃ t0, t0 = NT.mk tp (.slice tF tks.length ja) (.slice uF tvs.length jk) (.slice Cc aZ.length jC) tks tvs aZ := ⟨_, rfl⟩
  have HT0 := A_ ht0
  rw [<- ht0] at HS
  clear ht0
  go_upto_region 3 with fail
  have Ce : sP.cell? ⟨tp, 2, none⟩ = some (.slice Cc aZ.length jC) := by
   have h1 := HS.out
   rw [HT0.out] at h1
   exact aa.z2 h1 0 rfl
  go_wp2_with fail
  clear Ce
  go_loopg [1, 32] aZ.length (fun kq u1 u32 w' => ∃ (i m go co : Nat) (A B : List Pg) (kv vv cv : Value) (cs : List Int), u1 = .slice (some ⟨go, 0, none⟩) m co /\ u32 = .int .i64 (i : Int) /\ ae (kq + i = aZ.length) /\ ae (cs = starts (K.take i) (fP.length + 1)) /\ ae (A.map Pg.erase = fP.map Pg.erase) /\ ae (B.map Pg.erase = rP (K.take i) (fP.length + 1)) /\ ae (m = fP.length + 1 + PT.jH (K.take i)) /\ ae (aa w' base (BK 96 70 t0 (.slice (some ⟨go, 0, none⟩) m co) A B ⟨kv, vv, cv, tks, tvs, cs⟩ L)) /\ ae (Below base w w'))
  case atStart => exact ⟨0, fP.length + 1, go1, c1, fP, [], _, _, _, [], by first | rfl | (simp; done), by first | rfl | (simp; done), ⟨Nat.add_zero _⟩, ⟨rfl⟩, ⟨rfl⟩, ⟨rfl⟩, ⟨rfl⟩, HS, HB⟩
  case round =>
   clear HS HB
   obtain ⟨i, m, go, co1, A, B, kv, vv, cv, cs, rfl, rfl, Zb, Zc, HA, Gp, HM, HS, HB⟩ := hrel
   have ET := A_ (show A.length = fP.length by have := congrArg List.length HA.out; rw [List.length_map, List.length_map] at this; exact this)
   have hbt : PT.jH (K.take i) + 1 <= (PT.mk tks tvs (NT.aD aZ)).big := by rw [PT.big, <- HK.out]; have := nP K i; omega
   have hm : fP.length + 1 <= m /\ m <= 100000 := by have := HM.out; have := HPL.out; omega
   have ci := dN (0 <= (i : Int))
   have hcl0 : cs.length <= 5 := by rw [Zc.out, uY, List.length_take, Bb.out]; omega
   by_cases hi : i < aZ.length
   ·have ce := pF ((i : Int) < (aZ.length : Int))
    have BU : (i < aZ.length) = True := eq_true hi
    obtain ⟨s, hsx⟩ : ∃ s, aZ[i]? = some s := ⟨aZ[i], List.getElem?_eq_getElem hi⟩
    have Sn := A_ hsx
    have jl : ae (K[i]? = some s.erase) := ⟨by rw [HK.out, aN, List.getElem?_map, hsx]; rfl⟩
    have az := HS.out
    rw [HT0.out] at az
    unfold BK at az
    simp only [NT.keys, NT.vals, NT.kids, NT.p, NT.kv, NT.vv, NT.cv] at az
    obtain ⟨Ac, cc, rfl⟩ := Kd.au (aa.ir az 8 rfl)
    obtain ⟨KH, ck1, rfl⟩ := Kd.au (aa.sr az 6 rfl)
    obtain ⟨Bh, xW, rfl⟩ := Kd.au (aa.sr az 7 rfl)
    clear HS
    have HS := A_ az
    clear az hsx
    obtain ⟨kS, rfl⟩ := gq (aa.q HS.out 3 rfl) (by omega)
    have uG := il (aa.gX HS.out 3 rfl) (And.intro Sn.out rfl)
    go_upto_region 6 with fail
    clear uG
    obtain ⟨l1, hl1⟩ : ∃ r : List Int, r = ([] : List Int) ++ cs := ⟨_, rfl⟩
    have oF := A_ hl1
    clear hl1
    have hl1_ : l1.length <= 5 := by rw [oF.out, List.nil_append]; exact hcl0
    obtain ⟨l2, hl2⟩ : ∃ r : List Int, r = l1 ++ [(m : Int)] := ⟨_, rfl⟩
    have sS := A_ hl2
    clear hl2
    have b3 := dN (0 <= (fP.length : Int))
    have b4 := dN ((fP.length : Int) < (m : Int))
    have b5 := dN (fP.length < m)
    have gy := (NN HS.out 5 rfl ET.out)
    have uG := (NP HS.out 5 rfl ET.out)
    have Ce := (yu HS.out 5 rfl ET.out)
    go_upto_region 7 with (first | (refine lY 8 #[.slice none 0 0, .slice none 0 0, .slice none 0 0] 110 ?_; intro g6 hg Gh aM hb; have az := oK (aa.oQ HS.out hg aM hb (eY eB HB)); have aG : ae (Below base w Gh) := ⟨(HB.out).trans (hb.mono (eY eB HB))⟩; clear HS HB hg aM hb; have HS := az; have HB := aG; clear az aG; clear gy uG Ce; have gy := (NN HS.out 5 rfl ET.out); have uG := (NP HS.out 5 rfl ET.out); have Ce := (yu HS.out 5 rfl ET.out); have UT := aa.z0 HS.out 12 rfl; have UU := aa.f HS.out 12 rfl 0; have UW := aa.z1 HS.out 12 rfl; have UX := aa.f HS.out 12 rfl 1; have MW := aa.z2 HS.out 12 rfl; have MX := aa.f HS.out 12 rfl 2))
    have az := jr (World.setCell (World.setCell (World.setCell Gh ⟨g6, 0, none⟩ (.slice KH tks.length ck1)) ⟨g6, 1, none⟩ (.slice Bh tvs.length xW)) ⟨g6, 2, none⟩ (.slice Ac cs.length cc)) (aa.zo (aa.Ec (aa.Eb HS.out 12 rfl (.slice KH tks.length ck1)) 12 rfl (.slice Bh tvs.length xW)) 12 rfl (.slice Ac cs.length cc))
    have aG : ae (Below base w (World.setCell (World.setCell (World.setCell Gh ⟨g6, 0, none⟩ (.slice KH tks.length ck1)) ⟨g6, 1, none⟩ (.slice Bh tvs.length xW)) ⟨g6, 2, none⟩ (.slice Ac cs.length cc))) := ⟨(((HB.out).setCell (p := ⟨g6, 0, none⟩) (aa.ge HS.out 12 rfl) _).setCell (p := ⟨g6, 1, none⟩) (aa.ge HS.out 12 rfl) _).setCell (p := ⟨g6, 2, none⟩) (aa.ge HS.out 12 rfl) _⟩
    generalize World.setCell (World.setCell (World.setCell Gh ⟨g6, 0, none⟩ (.slice KH tks.length ck1)) ⟨g6, 1, none⟩ (.slice Bh tvs.length xW)) ⟨g6, 2, none⟩ (.slice Ac cs.length cc) = IC at az aG ⊢
    clear HS HB gy uG Ce UT UU UW UX MW MX; have HS := az; have HB := aG; clear az aG
    have sd13 : (([] : List Int).length + cs.length) * 8 <= 140737488355328 := by simp only [List.length_cons, List.length_nil]; omega
    have sd20 : (l1.length + 1) * 8 <= 140737488355328 := by omega
    have gy := (aa.z2 HS.out 12 rfl)
    go_upto_region 8 with (first | ((with_reducible refine kV (N := 40) rfl ?_); refine Kd.Ch (Kd.int .i64) (w0 := w) base 3 ?hg (N := 40) ?hd (xs := ([] : List Int)) (inner := []) (ok := fun _ => True) (okp := fun _ => False) ?hr (gP.none _ _) (fun _ h => h.elim) trivial HB.out (eY eB HB) (by simp) ?_; (case hd => rfl); (case hg => rfl); (case hr => first | (go_simp; done) | (go_simp; rfl)); intro v7 EN ho hb hg hn; obtain ⟨A8, c9, rfl⟩ : ∃ A c, v7 = .slice A 0 c := Kd.au ho; have az := oK (aa.rA HS.out (Qt ho) hg hn); have aG : ae (Below base w EN) := ⟨hb⟩; clear HS HB ho hb hg hn; have HS := az; have HB := aG; clear az aG; clear gy; have gy := (aa.z2 HS.out 12 rfl)) | ((with_reducible refine di (b := .append) (xs := #[.tmp 40, .tmp 42]) rfl ?_); at_builtin; refine Kd.fU (Kd.int .i64) (w0 := w) base rfl (.tmp 40) (.tmp 42) 108 3 (.int .i64 0) 8 rfl Try.underlying108 info3 rfl (by decide) (by omega) (.slice A8 0 c9) ([] : List Int) cs Ac cs.length cc (fun _ => True) (fun _ => False) rfl rfl (aa.ir HS.out 13 rfl) (XU HS.out 8 rfl) (fun _ _ h => h) (fun _ h => h.elim) (fun _ _ => trivial) HB.out (eY eB HB) sd13 ?_; intro Z5 w16 ho hb hg hat; rw [<- oF.out] at ho; obtain ⟨A11, c12, rfl⟩ := Kd.au ho; have az := oK (aa.XV 13 HS.out rfl ho hg hat); have aG : ae (Below base w w16) := ⟨hb⟩; clear HS HB ho hb hg hat; have HS := az; have HB := aG; clear az aG; clear gy; have gy := (aa.z2 HS.out 12 rfl)) | ((with_reducible refine kV (N := 46) rfl ?_); refine Kd.Ch (Kd.int .i64) (w0 := w) base 3 ?hg (N := 46) ?hd (xs := [(m : Int)]) (inner := [.int .i64 (m : Int)]) (ok := fun _ => True) (okp := fun _ => False) ?hr (Kd.bH (enc := (Value.int .i64)) [(m : Int)]) (fun _ h => h.elim) trivial HB.out (eY eB HB) (by simp) ?_; (case hd => rfl); (case hg => rfl); (case hr => first | (go_simp; done) | (go_simp; rfl)); intro v14 ZY ho hb hg hn; obtain ⟨A15, c16, rfl⟩ : ∃ A c, v14 = .slice A 1 c := Kd.au ho; have az := oK (aa.rA HS.out (Qt ho) hg hn); have aG : ae (Below base w ZY) := ⟨hb⟩; clear HS HB ho hb hg hn; have HS := az; have HB := aG; clear az aG; clear gy; have gy := (aa.z2 HS.out 12 rfl)) | ((with_reducible refine di (b := .append) (xs := #[.tmp 43, .tmp 46]) rfl ?_); at_builtin; refine Kd.fU (Kd.int .i64) (w0 := w) base rfl (.tmp 43) (.tmp 46) 108 3 (.int .i64 0) 8 rfl Try.underlying108 info3 rfl (by decide) (by omega) (.slice A11 l1.length c12) l1 [(m : Int)] A15 1 c16 (fun _ => True) (fun _ => False) rfl rfl (aa.ir HS.out 13 rfl) (XU HS.out 14 rfl) (fun _ _ h => h) (fun _ h => h.elim) (fun _ _ => trivial) HB.out (eY eB HB) sd20 ?_; intro u17 WJ ho hb hg hat; rw [<- sS.out] at ho; obtain ⟨Bc, c19, rfl⟩ := Kd.au ho; have az := oK (aa.XV 13 HS.out rfl ho hg hat); have aG : ae (Below base w WJ) := ⟨hb⟩; clear HS HB ho hb hg hat; have HS := az; have HB := aG; clear az aG; clear gy; have gy := (aa.z2 HS.out 12 rfl); have zs0 := aa.z2 HS.out 12 rfl; have kJ := aa.f HS.out 12 rfl 2))
    have az := jr (World.setCell WJ ⟨g6, 2, none⟩ (.slice Bc l2.length c19)) (aa.ky (aa.zo HS.out 12 rfl (.slice Bc l2.length c19)) [0, 1, 2, 3, 4, 5, 6, 7, 13, 9, 10, 11, 12, 14] (by decide))
    have aG : ae (Below base w (World.setCell WJ ⟨g6, 2, none⟩ (.slice Bc l2.length c19))) := ⟨(HB.out).setCell (p := ⟨g6, 2, none⟩) (aa.ge HS.out 12 rfl) _⟩
    generalize World.setCell WJ ⟨g6, 2, none⟩ (.slice Bc l2.length c19) = Y4 at az aG ⊢
    clear HS HB gy zs0 kJ; have HS := az; have HB := aG; clear az aG
    have gy := (aa.z0 HS.out 12 rfl)
    have uG := (aa.z1 HS.out 12 rfl)
    have Ce := (aa.z2 HS.out 12 rfl)
    have UT := NN HS.out 5 rfl ET.out
    have UU := aa.VT HS.out 5 rfl (fP.length * 3)
    have UW := NP HS.out 5 rfl ET.out
    have UX := aa.VT HS.out 5 rfl (fP.length * 3 + 1)
    have MW := yu HS.out 5 rfl ET.out
    have MX := aa.VT HS.out 5 rfl (fP.length * 3 + 2)
    go_upto_region 9 with fail
    have az := jr (World.setCell (World.setCell (World.setCell Y4 ⟨go, fP.length * 3, none⟩ (.slice KH tks.length ck1)) ⟨go, fP.length * 3 + 1, none⟩ (.slice Bh tvs.length xW)) ⟨go, fP.length * 3 + 2, none⟩ (.slice Bc l2.length c19)) (aa.VX HS.out 5 rfl ET.out ⟨.slice KH tks.length ck1, .slice Bh tvs.length xW, .slice Bc l2.length c19, tks, tvs, l2⟩)
    have aG : ae (Below base w (World.setCell (World.setCell (World.setCell Y4 ⟨go, fP.length * 3, none⟩ (.slice KH tks.length ck1)) ⟨go, fP.length * 3 + 1, none⟩ (.slice Bh tvs.length xW)) ⟨go, fP.length * 3 + 2, none⟩ (.slice Bc l2.length c19))) := ⟨(((HB.out).setCell (p := ⟨go, fP.length * 3, none⟩) (aa.Qu HS.out 5 rfl) _).setCell (p := ⟨go, fP.length * 3 + 1, none⟩) (aa.Qu HS.out 5 rfl) _).setCell (p := ⟨go, fP.length * 3 + 2, none⟩) (aa.Qu HS.out 5 rfl) _⟩
    generalize World.setCell (World.setCell (World.setCell Y4 ⟨go, fP.length * 3, none⟩ (.slice KH tks.length ck1)) ⟨go, fP.length * 3 + 1, none⟩ (.slice Bh tvs.length xW)) ⟨go, fP.length * 3 + 2, none⟩ (.slice Bc l2.length c19) = M9 at az aG ⊢
    clear HS HB gy uG Ce UT UU UW UX MW MX; have HS := az; have HB := aG; clear az aG
    obtain ⟨p', hp'⟩ : ∃ p' : Pg, p' = ⟨.slice KH tks.length ck1, .slice Bh tvs.length xW, .slice Bc l2.length c19, tks, tvs, l2⟩ := ⟨_, rfl⟩
    have HP' := A_ hp'
    have az : aa M9 base (BK 96 70 (NT.mk tp (.slice tF tks.length ja) (.slice uF tvs.length jk) (.slice (some kS) aZ.length jC) tks tvs aZ) (.slice (some ⟨go, 0, none⟩) m co1) A B p' L) := by
     rw [hp']
     exact aa.ky HS.out [0, 1, 2, 3, 4, 5, 6, 7, 8, 9, 10, 11] (by decide)
    have hpl : (A ++ p' :: B).length = m := by
     have h1 := congrArg List.length Gp.out
     rw [List.length_map, qZ] at h1
     rw [List.length_append, List.length_cons, h1, ET.out, HM.out]
     omega
    have HPN := A_ hpl
    have hbs : s.erase.big <= n /\ m + s.erase.big <= 100000 := by
     have h1 := Ic jl.out
     have h2 := nP K (i + 1)
     have h3 := Sm.out
     have h4 := HPL.out
     rw [PT.big, <- HK.out] at h3 h4
     have := HM.out
     omega
    have hC := ih s hbs.1 (R6.out _ (by rw [<- HK.out]; exact List.mem_of_getElem? jl.out)) base _ _ _ M9 (Eo Sn.out az) (eY eB HB) (by rw [hpl]; exact hbs.2)
    have HC := A_ hC
    clear hC az hp' hpl hbs
    go_upto_region 10 with (first | (go_at_call 107; (with_reducible refine HC.out.mono ?_); rintro e w30 ⟨vo2, pgs2, rfl, he, hs2, hb2⟩))
    clear HC HS
    rw [List.map_append, List.map_cons, List.append_assoc, List.cons_append, HPN.out] at he
    obtain ⟨A2, p2, B2, rfl, hA2, hp2, hB2⟩ := Ct he
    have h5 := Ep Sn.out hs2
    obtain ⟨Ao2, co2, rfl⟩ := jc (aa.rowOk h5 5 rfl)
    obtain ⟨go2, rfl⟩ := zy (aa.rowOk h5 5 rfl) (by rw [List.length_append, List.length_cons]; omega)
    cases p2 with | mk kv2 vv2 cv2 Zd vs2 cs2 =>
    have e6 : (⟨Zd, vs2, cs2⟩ : bE) = ⟨tks, tvs, l2⟩ := by rw [show (⟨Zd, vs2, cs2⟩ : bE) = p'.erase from hp2, HP'.out]; rfl
    injection e6 with e7 e8 e9
    subst e7
    subst e8
    subst e9
    have HS := A_ h5
    have HB3 := A_ (HB.out.trans hb2)
    have HA2 := A_ (hA2.trans HA.out)
    have HB2 := A_ (show B2.map Pg.erase = rP (K.take (i + 1)) (fP.length + 1) by rw [hB2, Gp.out, uw jl.out, yo, HM.out])
    have WC := A_ (show (A2 ++ ⟨kv2, vv2, cv2, Zd, vs2, cs2⟩ :: B2).length = fP.length + 1 + PT.jH (K.take (i + 1)) by
     have h1 := congrArg List.length HB2.out
     have h2 := congrArg List.length HA2.out
     rw [List.length_map, qZ] at h1
     rw [List.length_map, List.length_map] at h2
     rw [List.length_append, List.length_cons, h1, h2]
     omega)
    have CV := A_ (show cs2 = starts (K.take (i + 1)) (fP.length + 1) by rw [sS.out, oF.out, List.nil_append, uw jl.out, wK, <- Zc.out, HM.out])
    clear he hs2 hb2 hA2 hp2 hB2 h5 HB
    go_wp2_with fail
    go_roundg (aZ.length - (i + 1))
    case measure => have := Zb.out; omega
    case rel => exact ⟨i + 1, _, go2, co2, A2, B2, kv2, vv2, cv2, cs2, by first | rfl | (simp; done), by first | rfl | go_num | (simp; done), ⟨by have := Zb.out; omega⟩, CV, HA2, HB2, WC, ⟨by rw [HT0.out]; exact HS.out⟩, HB3⟩
   ·have ce := mZ ((i : Int) < (aZ.length : Int))
    have BU : (i < aZ.length) = False := eq_false hi
    have hKi : K.take i = K := List.take_of_length_le (by rw [Bb.out]; omega)
    have FU := A_ hKi
    clear hKi hi
    go_wp2_with fail
    go_ret
    refine ⟨_, A ++ ⟨kv, vv, cv, tks, tvs, cs⟩ :: B, rfl, ?_, by rw [<- HT0.out]; exact En HS.out, HB.out⟩
    rw [List.map_append, List.map_cons, HA.out, Gp.out, FU.out]
    show _ = fP.map Pg.erase ++ mh (.mk tks tvs (NT.aD aZ)) fP.length
    rw [mh, <- HK.out]
    show _ ++ (⟨tks, tvs, cs⟩ : bE) :: _ = _
    rw [Zc.out, FU.out]
def TRR (w : World) (base T E : Nat) (t : NT) (L : List Ck) (e : Ending) (w' : World) : Prop :=
 ∃ (vo : Value) (fP : List Pg), e = .returned (.agg #[vo]) /\ fP.map Pg.erase = mh t.erase 0 /\ Sat w' base (t.fB T E ++ (iP vo fP ++ L)) /\ Below base w w'
theorem Qv {w : World} {base : Nat} {A L : List Ck} (h : Sat w base (A ++ L)) : Sat w base (A ++ (iP (.slice none 0 0) [] ++ L)) := by
 have hq : Ck.ok w base (.row 110 3 (.slice none 0 0) 0 []) := ⟨by simp, .inl ⟨rfl, rfl⟩⟩
 refine (Sat.add (A := [.row 110 3 (.slice none 0 0) 0 []]) h (Kept.refl _ _) (Sat.one hq) ?_).perm ?_
 ·rintro k ⟨c, hc, hb⟩
  rw [List.mem_singleton.1 hc] at hb
  cases hb
 ·exact List.perm_append_comm_assoc [Ck.row 110 3 (.slice none 0 0) 0 []] A L
theorem wL.calls (t : NT) (hbd : mG t.erase) (hbig : t.erase.big <= 100000) (base : Nat) (L : List Ck) (w : World) (hs : Sat w base (t.fB 96 70 ++ L)) (hbs : base <= w.heap.size) :
  Calls Try.prog 77 #[bO t.p] w (TRR w base 96 70 t L) := by
 have Ze : ae (Sat w base (L ++ t.fB 96 70)) := ⟨hs.perm List.perm_append_comm⟩
 have HB := A_ (Below.refl base w)
 have eB := A_ hbs
 have HBD := A_ hbd
 clear hs hbs hbd
 obtain ⟨tp, htp⟩ : ∃ p, t.p = p := ⟨_, rfl⟩
 have HTP := A_ htp
 rw [htp]
 clear htp
 go_enter Try.func77, Try.ntmps77
 go_upto_region 1 with (first | (refine lY 2 #[.slice none 0 0] 29 ?_; intro g hg w2 aM hb; have az : ae (Sat w2 base (t.fB 96 70 ++ (iP (.slice none 0 0) [] ++ (.box 29 g #[.slice none 0 0] :: L)))) := ⟨Qv ((Sat.oQ Ze.out hg aM hb eB.out).perm ((List.perm_append_comm (l₁ := L)).cons _ |>.trans List.perm_middle.symm))⟩; have aG := A_ (HB.out.trans (hb.mono eB.out)); clear Ze HB hg aM hb; have HS := az; have HB := aG; clear az aG))
 have hC := NQ.calls t.erase.big t (Nat.le_refl _) HBD.out base _ [] _ w2 HS.out (eY eB HB) (by rw [List.length_nil]; omega)
 rw [HTP.out] at hC
 have HC := A_ hC
 clear hC HS
 go_wp2_with (first | (go_at_call 107; (with_reducible refine HC.out.mono ?_); rintro e w3 ⟨vo, fP, rfl, he, hs3, hb3⟩; obtain ⟨Ao, co, rfl⟩ := jc (hs3.ok (sW vo fP) (List.mem_append_right _ List.mem_cons_self)); have HZ := A_ (hs3.cell (T := 29) (p := g) (cs := #[.slice none 0 0]) (List.mem_append_right _ (List.mem_append_right _ List.mem_cons_self))); have hz := hs3.cell (T := 29) (p := g) (cs := #[.slice none 0 0]) (List.mem_append_right _ (List.mem_append_right _ List.mem_cons_self)); have hz1 : w3.cell? ⟨g, 0, none⟩ = some (.slice none 0 0) := (af hz 0).trans rfl; have hf1 := ax hz 0; have HE := A_ he; have J9 := A_ hs3; have HB3 := A_ hb3; clear hz he hs3 hb3))
 refine bodyPost_ret (results_cell_row rfl _ _ g 29 #[.slice Ao fP.length co] (0, 0) _ rfl (gY (cs := #[.slice none 0 0]) HZ.out 0 _ rfl) Try.underlying29 rfl (by kernel_rfl)) rfl ?_
 have hX : Sat (w3.setCell ⟨g, 0, none⟩ (.slice Ao fP.length co)) base (.box 29 g #[.slice Ao fP.length co] :: (t.fB 96 70 ++ (iP (.slice Ao fP.length co) fP ++ L))) := Sat.put (cs := #[.slice none 0 0]) (J9.out.perm (by
  rw [<- List.append_assoc]
  refine List.perm_middle.trans ?_
  rw [List.append_assoc])) 0 _ rfl
 exact ⟨_, fP, rfl, by rw [HE.out]; rfl, hX.tail, (HB.out.trans HB3.out).setCell (p := ⟨g, 0, none⟩) (J9.out.ok (.box 29 g #[.slice none 0 0]) (List.mem_append_right _ (List.mem_append_right _ List.mem_cons_self))).1 _⟩
set_option maxHeartbeats 8000000
set_option maxRecDepth 100000
def WP (w : World) (base T E : Nat) (L : List Ck) (r : PT) (e : Ending) (w' : World) : Prop := ∃ t' : NT, e = .returned (bO t'.p) /\ t'.erase = r /\ Sat w' base (t'.fB T E ++ L) /\ Below base w w'
theorem TB {α : Type} {A cs Z : List α} {z x : α} {i : Nat} (hi : i < cs.length) :
  ((((A ++ (cs ++ z :: Z)).take (A.length + (i + 1)) ++ cs.drop i ++ (A ++ (cs ++ z :: Z)).drop (A.length + (i + 1) + (cs.drop i).length)).take (A.length + i) ++ [x] ++
   ((A ++ (cs ++ z :: Z)).take (A.length + (i + 1)) ++ cs.drop i ++ (A ++ (cs ++ z :: Z)).drop (A.length + (i + 1) + (cs.drop i).length)).drop (A.length + i + [x].length)).drop A.length).take (cs.length + 1) = bz cs i x := by
 have e1 : (A ++ (cs ++ z :: Z)).take (A.length + (i + 1)) = A ++ cs.take (i + 1) := by
  rw [List.take_append, Nat.add_sub_cancel_left, List.take_of_length_le (by omega), List.take_append_of_le_length (by omega)]
 have e2 : (A ++ (cs ++ z :: Z)).drop (A.length + (i + 1) + (cs.drop i).length) = Z := by
  rw [List.length_drop, show A.length + (i + 1) + (cs.length - i) = A.length + (cs.length + 1) by omega, List.drop_append, List.drop_eq_nil_of_le (by omega), Nat.add_sub_cancel_left, List.nil_append, List.drop_append, List.drop_eq_nil_of_le (by omega), Nat.add_sub_cancel_left]
  rfl
 rw [e1, e2]
 have hl : (A ++ cs.take i).length = A.length + i := by rw [List.length_append, List.length_take]; omega
 have hk : cs[i]? = some (cs[i]) := List.getElem?_eq_getElem hi
 have e3 : (A ++ cs.take (i + 1) ++ cs.drop i ++ Z).take (A.length + i) = A ++ cs.take i := by
  rw [List.take_add_one, hk]
  show (A ++ (cs.take i ++ [cs[i]]) ++ cs.drop i ++ Z).take (A.length + i) = _
  rw [<- hl, show A ++ (cs.take i ++ [cs[i]]) ++ cs.drop i ++ Z = (A ++ cs.take i) ++ ([cs[i]] ++ (cs.drop i ++ Z)) by simp only [List.append_assoc]]
  exact List.take_left
 have e4 : (A ++ cs.take (i + 1) ++ cs.drop i ++ Z).drop (A.length + i + [x].length) = cs.drop i ++ Z := by
  have h2 : (A ++ cs.take (i + 1)).length = A.length + i + [x].length := by rw [List.length_append, List.length_take]; simp only [List.length_cons, List.length_nil]; omega
  rw [<- h2, show A ++ cs.take (i + 1) ++ cs.drop i ++ Z = (A ++ cs.take (i + 1)) ++ (cs.drop i ++ Z) by simp only [List.append_assoc]]
  exact List.drop_left
 rw [e3, e4, show A ++ cs.take i ++ [x] ++ (cs.drop i ++ Z) = A ++ (bz cs i x ++ Z) by unfold bz; simp only [List.append_assoc, List.cons_append, List.nil_append], List.drop_left]
 rw [<- fI x (Nat.le_of_lt hi)]
 exact List.take_left
theorem Rn {α : Type} {l cs : List α} {off n : Nat} (ht : (l.drop off).take n = cs) (hn : off + n + 1 <= l.length) : ∃ A z Z, l = A ++ (cs ++ z :: Z) /\ A.length = off /\ cs.length = n := by
 have h1 : (l.take off).length = off := by rw [List.length_take]; omega
 have h2 : cs.length = n := by rw [<- ht, List.length_take, List.length_drop]; omega
 have h3 : l.drop off = cs ++ (l.drop off).drop n := by rw [<- ht, List.take_append_drop]
 cases h4 : (l.drop off).drop n with
 | nil =>
  have := congrArg List.length h4
  rw [List.length_drop, List.length_drop, List.length_nil] at this
  omega
 | cons z Z =>
  refine ⟨l.take off, z, Z, ?_, h1, h2⟩
  rw [<- h4, <- h3, List.take_append_drop]
theorem Ig {w : World} {b E off n c i : Nat} {cur : Array Value} {cs : List Value} {x : Value} (hb : w.heap[b]? = some (.cells cur E (0, 0))) (hs : cur.size = off + c) (ht : (cur.toList.drop off).take n = cs) (hroom : n + 1 <= c) (hi : i < n) :
  ∃ cur', ((w.setCells b (off + (i + 1)) (cs.drop i)).setCells b (off + i) [x]).heap[b]? = some (.cells cur' E (0, 0)) /\ cur'.size = off + c /\ (cur'.toList.drop off).take (n + 1) = bz cs i x := by
 have hl : cur.toList.length = off + c := by rw [Array.length_toList]; exact hs
 obtain ⟨A, z, Z, e, hA, hcl⟩ := Rn ht (by omega)
 have hd : (cs.drop i).length = n - i := by rw [List.length_drop]; omega
 obtain ⟨c1, h1, h2, h3⟩ := eF (cs.drop i) (off + (i + 1)) w cur hb (by rw [hd]; omega)
 obtain ⟨c2, h4, h5, h6⟩ := eF [x] (off + i) _ c1 h1 (by simp only [List.length_cons, List.length_nil]; omega)
 refine ⟨c2, h4, by omega, ?_⟩
 rw [h6, h3, e]
 subst hA
 rw [<- hcl]
 exact TB (by omega)
theorem Er {w : World} {base b E off n c : Nat} {cur : Array Value} {xs : List Value} (hb : w.heap[b]? = some (.cells cur E (0, 0))) (hs : cur.size = off + c) (ht : (cur.toList.drop off).take n = xs) (hn : n <= c) (hm : off + c <= maxLen) (hbase : base <= b) : kW w base E 1 (.slice (some ⟨b, off, none⟩) n c) n xs := by
 refine ⟨?_, .inr ⟨b, off, c, cur, by rw [Nat.mul_one], hbase, hb, hn, hm, by rw [Nat.mul_one]; exact hs, by rw [Nat.mul_one, Nat.mul_one]; exact ht⟩⟩
 rw [<- ht, List.length_take, List.length_drop, Array.length_toList]
 omega
theorem qH {e : TypeId} {z : Option Value} {by_ : Nat} (h : (Try.prog.info? e).map (fun i => (i.zero, i.size, i.bytes)) = some (z, 1, by_)) : (Try.prog.info? e).map (·.size) = some 1 := by
 obtain ⟨i0, hi, hz⟩ := Option.map_eq_some_iff.1 h
 simp only [Prod.mk.injEq] at hz
 rw [hi]
 simp [hz.2.1]
theorem run_sizeOf {e : TypeId} {z : Option Value} {by_ : Nat} (h : (Try.prog.info? e).map (fun i => (i.zero, i.size, i.bytes)) = some (z, 1, by_)) (w : World) : (Go.sizeOf e).run Try.prog w = .ok 1 w := by
 obtain ⟨i0, hi, hz⟩ := Option.map_eq_some_iff.1 h
 simp only [Prod.mk.injEq] at hz
 simp [Go.sizeOf, typeInfo, hi, hz.2.1]
theorem xy {w : World} {b E : Nat} {cs : Array Value} (h : w.heap[b]? = some (.cells cs E (0, 0))) : w.shape? b = some (E, cs.size) := by
 simp [World.shape?, h]
theorem dB {w : World} {b E : Nat} {cs : Array Value} (h : w.heap[b]? = some (.cells cs E (0, 0))) (j : Nat) : w.cell? ⟨b, j, none⟩ = cs[j]? := by
 simp [World.cell?, h]
theorem dX {w : World} {b E : Nat} {cs : Array Value} (h : w.heap[b]? = some (.cells cs E (0, 0))) (j : Nat) : w.frozen? ⟨b, j, none⟩ = false := by
 simp [World.frozen?, h]
theorem jY {α : Type} {l xs : List α} {o n j : Nat} {v : α} (h : (l.drop o).take n = xs) (hj : xs[j]? = some v) : l[o + j]? = some v := by
 subst h
 rw [List.getElem?_take] at hj
 split at hj
 ·rwa [List.getElem?_drop] at hj
 ·cases hj
set_option maxHeartbeats 4000000 in
theorem Lv (A : Option Addr) (n c : Nat) (vb vo vc : Nat) (w : World) {v1 : Value} {w1 : World} (hrun : ∀ ty, (Builtin.append_ #[38, 38] ty #[.slice A n c, .slice (some ⟨vb, vo, none⟩) 1 vc]).run Try.prog w = .ok v1 w1) :
  Calls Try.prog 136 #[.slice A n c, .int .i64 (n : Int), .slice (some ⟨vb, vo, none⟩) 1 vc] w fun e w' => e = .returned v1 /\ w' = w1 := by
 go_enter Try.func136, Try.ntmps136
 cases A with
 | none =>
  go_wp2_with (at_builtin; refine Lib.wpList_append_run _ rfl _ _ _ _ rfl _ _ rfl rfl _ _ (hrun _) ?_)
  all_goals (go_ret; exact ⟨rfl, rfl⟩)
 | some a =>
  obtain ⟨ab, ao, asp⟩ := a
  go_wp2_with (at_builtin; refine Lib.wpList_append_run _ rfl _ _ _ _ rfl _ _ rfl rfl _ _ (hrun _) ?_)
  all_goals (go_ret; exact ⟨rfl, rfl⟩)
set_option maxHeartbeats 4000000 in
theorem F7 (b off n c i vb vo vc : Nat) (cs : List Value) (x : Value) (w : World) (rU cur : Array Value) (hi : i < n) (hroom : n + 1 <= c) (hc63 : off + c <= maxLen) (hvb : vb ≠ b)
  (Bd : w.heap[vb]? = some (.cells rU 9 (0, 0))) (hx : rU[vo]? = some x) (hb : w.heap[b]? = some (.cells cur 9 (0, 0))) (hsz : cur.size = off + c) (hcs : (cur.toList.drop off).take n = cs) (hcl : cs.length = n)
  (h1c : ∀ v ∈ cs, v.oneCell' = true) (h1v : x.oneCell' = true) :
  Calls Try.prog 136 #[.slice (some ⟨b, off, none⟩) n c, .int .i64 (i : Int), .slice (some ⟨vb, vo, none⟩) 1 vc] w fun e w' =>
   e = .returned (.slice (some ⟨b, off, none⟩) (n + 1) c) /\ w' = (w.drew.setCells b (off + (i + 1)) (cs.drop i)).setCells b (off + i) [x] := by
 have hc' : c <= 9223372036854775807 := by unfold maxLen at hc63; omega
 have hn63 : n <= 9223372036854775806 := by omega
 have hsz1 := qH eU
 have hcc : ∀ j v, cs[j]? = some v -> w.cell? ⟨b, off + j, none⟩ = some v := fun j v hj => by
  rw [dB hb, <- Array.getElem?_toList]
  exact jY hcs hj
 have hsp : ∀ j, j < n + 1 -> (w.cell? ⟨b, off + j, none⟩).isSome = true := fun j hj => by
  rw [dB hb, Array.getElem?_eq_getElem (by omega)]
  rfl
 have hfz : ∀ j, w.frozen? ⟨b, j, none⟩ = false := dX hb
 have hov : ∀ lb cb, (callFunc 143 #[.slice (some ⟨vb, vo, none⟩) 1 vc, .slice (some ⟨b, off + (i + 1), none⟩) lb cb]).run Try.prog w = .ok (.value (.bool false)) w := fun lb cb => by
  rw [run_callFunc_extern Try.func143 (by kernel_rfl) (by kernel_rfl) (by kernel_rfl) (e := Extern.SlicesOverlaps.overlaps #[38, 38] #[4]) (by kernel_rfl),
   Lib.run_overlaps_apart w 38 4 9 Try.underlying38 1 (run_sizeOf eU) ⟨vb, vo, none⟩ ⟨b, off + (i + 1), none⟩ 1 vc lb cb hvb _ _ _ _ (xy Bd) (xy hb) (by omega) (dX Bd vo) (dX Bd _)]
  rfl
 have hdl : (cs.drop i).length = n - i := by rw [List.length_drop, hcl]
 have hz2 : ¬ ((i : Int) = (n : Int)) := by omega
 have hw1 : IntKind.i64.wrap ((i : Int) + 1) = (i : Int) + 1 := by rw [IntKind.wrap_i64]; omega
 have hw2 : IntKind.i64.wrap ((n : Int) + 1) = (n : Int) + 1 := by rw [IntKind.wrap_i64]; omega
 have hb1 : (0 : Int) <= (i : Int) + 1 := by omega
 have hin : i <= n := by omega
 have htn : ((i : Int) + 1).toNat = i + 1 := by omega
 have htn2 : ((n : Int) + 1).toNat = n + 1 := by omega
 have hb2 : ¬ (c = i + 1) := by omega
 have hb3 : (i : Int) <= (n : Int) + 1 := by omega
 have hb4 : ¬ (c = i) := by omega
 have hb5 : ¬ ((c : Int) < (n : Int) + 1) := by omega
 have hcp1 : ∀ ty dc sc, (Builtin.copy_ #[38, 38] ty #[.slice (some ⟨b, off + (i + 1), none⟩) (n - i) dc, .slice (some ⟨b, off + i, none⟩) (n + 1 - i) sc]).run Try.prog w.drew = .ok (goInt (cs.drop i).length) (w.drew.setCells b (off + (i + 1)) (cs.drop i)) := fun ty dc sc =>
  run_copy_cells w.drew _ _ ty 9 b (off + (i + 1)) (n - i) dc ⟨b, off + i, none⟩ (n + 1 - i) sc (cs.drop i) Try.underlying38 hsz1 (by rw [hdl]; simp only [Nat.min_def]; split <;> omega)
   (fun j v hj => by rw [Addr.add_lit, Nat.add_assoc]; exact hcc (i + j) v (by rwa [List.getElem?_drop] at hj))
   (fun j hj => by rw [Nat.add_assoc]; exact hsp _ (by omega)) (fun j hj => hfz _) (fun v hv => h1c v (List.mem_of_mem_drop hv))
 obtain ⟨W1, hW1⟩ : ∃ W1, W1 = w.drew.setCells b (off + (i + 1)) (cs.drop i) := ⟨_, rfl⟩
 obtain ⟨UY, k1, k2, k3⟩ := eF (cs.drop i) (off + (i + 1)) w.drew cur hb (by rw [hdl]; omega)
 rw [<- hW1] at k1
 have hcp2 : ∀ (W : World), (∀ x, W.cell? x = W1.cell? x) -> (∀ x, W.frozen? x = W1.frozen? x) -> ∀ ty dc, (Builtin.copy_ #[38, 38] ty #[.slice (some ⟨b, off + i, none⟩) (n + 1 - i) dc, .slice (some ⟨vb, vo, none⟩) 1 vc]).run Try.prog W = .ok (goInt 1) (W.setCells b (off + i) [x]) := fun W hWc hWf ty dc =>
  run_copy_cells W _ _ ty 9 b (off + i) (n + 1 - i) dc ⟨vb, vo, none⟩ 1 vc [x] Try.underlying38 hsz1 (by simp only [Nat.min_def, List.length_cons, List.length_nil]; split <;> omega)
   (fun j v hj => by
    cases j with
    | zero =>
     injection hj with hj
     subst hj
     rw [Addr.add_lit, hWc, hW1, World.cell?_setCells_out b _ _ _ _ (fun h _ => absurd h hvb)]
     exact (dB Bd _).trans hx
    | succ j => cases hj)
   (fun j hj => by
    rw [hWc, dB k1, Array.getElem?_eq_getElem (by simp only [List.length_cons, List.length_nil] at hj; omega)]
    rfl) (fun j hj => by rw [hWf]; exact dX k1 _) (fun v hv => by rw [List.mem_singleton.1 hv]; exact h1v)
 rw [<- hW1] at hcp1
 clear hcc hsp hfz k1 k2 k3 h1c h1v Bd hb hsz hcs hx
 go_enter Try.func136, Try.ntmps136
 go_wp2_with (simp only [hov])
 go_region_law (refine step_copy_runI rfl _ _ 38 38 rfl _ _ (by simp [Act.eval, Act.put]) (by simp [Act.eval, Act.put]) (hcp1 _ _ _) ?_)
 go_wp2_with (at_builtin; refine wpList_copy_runI _ rfl _ _ 38 38 rfl _ _ rfl rfl (hcp2 _ (fun _ => rfl) (fun _ => rfl) _ _) ?_)
 go_ret
 first | exact ⟨rfl, rfl⟩ | exact ⟨rfl, by rw [hW1]⟩
set_option maxHeartbeats 4000000 in
theorem Js (b off n c i vb vo vc : Nat) (cs : List Value) (x : Value) (w : World) (rU cur : Array Value) (hi : i < n) (hnc : n <= c) (hroom : c < n + 1) (hbig : (n + 1) * 16 <= 140737488355328)
  (Bd : w.heap[vb]? = some (.cells rU 9 (0, 0))) (hx : rU[vo]? = some x) (hb : w.heap[b]? = some (.cells cur 9 (0, 0))) (hcs : (cur.toList.drop off).take n = cs) (hcl : cs.length = n)
  (h1c : ∀ v ∈ cs, v.oneCell' = true) (h1v : x.oneCell' = true) :
  Calls Try.prog 136 #[.slice (some ⟨b, off, none⟩) n c, .int .i64 (i : Int), .slice (some ⟨vb, vo, none⟩) 1 vc] w fun e w' =>
   ∃ (G : Nat) (ROW : Array Value), n + 1 <= G /\ G <= maxLen /\ ROW.size = G /\ ROW.toList.take i = cs.take i /\ e = .returned (.slice (some ⟨w.heap.size, 0, none⟩) (n + 1) G) /\
   w' = (((w.alloc (.cells ROW 9)).drew.setCells w.heap.size i [x]).drew).setCells w.heap.size (i + 1) (cs.drop i) := by
 have hn63 : n <= 9223372036854775806 := by omega
 have hsz1 := qH eU
 obtain ⟨i0, hi0, hzz⟩ := Option.map_eq_some_iff.1 eU
 simp only [Prod.mk.injEq] at hzz
 obtain ⟨hz0, hzs, hzb⟩ := hzz
 have hbw : b < w.heap.size := dh hb
 have hvw : vb < w.heap.size := dh Bd
 have hcc : ∀ j v, cs[j]? = some v -> w.cell? ⟨b, off + j, none⟩ = some v := fun j v hj => by
  rw [dB hb, <- Array.getElem?_toList]
  exact jY hcs hj
 have hkk : (n : Int) + 1 - (i : Int) = ((n + 1 - i : Nat) : Int) := by omega
 have hik : i + (n + 1 - i) = n + 1 := by omega
 have hold : (Builtin.firstCells i0.size i (.slice (some ⟨b, off, none⟩) i c)).run Try.prog w.drew = .ok (cs.take i).toArray w.drew := by
  rw [hzs]
  exact run_firstCells_some w.drew 1 i ⟨b, off, none⟩ i c (cs.take i) (by rw [List.length_take]; omega) (fun j v hj => by
   rw [Addr.add_lit]
   rw [List.getElem?_take] at hj
   split at hj
   ·exact hcc j v hj
   ·cases hj)
 obtain ⟨G, hG⟩ : ∃ G, G = grownCap w (n + 1) c 9 := ⟨_, rfl⟩
 have hGn : n + 1 <= G := by rw [hG]; exact grownCap_ge w _ _ _
 have hG63 : G <= maxLen := by rw [hG]; exact grownCap_le_maxLen w (n + 1) c 9 (by unfold maxLen; omega)
 obtain ⟨ROW, hROW⟩ : ∃ ROW : Array Value, ROW = (cs.take i).toArray ++ Builtin.zeroCells (Value.cells (.string ⟨#[]⟩)) (n + 1 - i) ++ Builtin.zeroCells (Value.cells (.string ⟨#[]⟩)) (G - (n + 1)) := ⟨_, rfl⟩
 have hRs : ROW.size = G := by
  rw [hROW]
  simp [Builtin.zeroCells, Value.cells]
  omega
 have hRt : ROW.toList.take i = cs.take i := by
  have hlt : (cs.take i).length = i := by rw [List.length_take]; omega
  rw [hROW]
  simp only [Array.toList_append, List.append_assoc]
  rw [List.take_append_of_le_length (by rw [hlt]; exact Nat.le_refl _), List.take_of_length_le (by rw [hlt]; exact Nat.le_refl _)]
 have hrz : ∀ ty, (Builtin.append_ #[38, 3] ty #[.slice (some ⟨b, off, none⟩) i c, .int .i64 ((n : Int) + 1 - (i : Int))]).run Try.prog w = .ok (.slice (some ⟨w.heap.size, 0, none⟩) (n + 1) G) (w.drew.alloc (.cells ROW 9)) := fun ty => by
  have h := Lib.run_append_grow_zeros w 38 3 ty 9 i0 _ .i64 .i64 Try.underlying38 Try.underlying3 hi0 hz0 (some ⟨b, off, none⟩) i c (cs.take i) hold (n + 1 - i) (by omega) (by omega) (by omega) (by omega) (by rw [hzb]; omega) (by rw [hzb, hik]; exact growslice_fits hroom hbig)
  rw [hik, <- hG, <- hROW] at h
  rw [hkk]
  exact h
 clear hold hROW hG
 obtain ⟨W1, hW1⟩ : ∃ W1, W1 = w.drew.alloc (.cells ROW 9) := ⟨_, rfl⟩
 rw [<- hW1] at hrz
 have hnew : W1.heap[w.heap.size]? = some (.cells ROW 9 (0, 0)) := by rw [hW1]; exact heap_alloc_new w.drew _
 have hbN : b ≠ w.heap.size := by omega
 have hdl : (cs.drop i).length = n - i := by rw [List.length_drop, hcl]
 have UZ : ∀ j, W1.cell? ⟨b, j, none⟩ = w.cell? ⟨b, j, none⟩ := fun j => by rw [hW1, World.cell?_alloc_past (w := w.drew) _ b j hbw]; rfl
 have U0 : ∀ j, W1.cell? ⟨vb, j, none⟩ = w.cell? ⟨vb, j, none⟩ := fun j => by rw [hW1, World.cell?_alloc_past (w := w.drew) _ vb j hvw]; rfl
 have hcpA : ∀ (W : World), (∀ x, W.cell? x = W1.cell? x) -> (∀ x, W.frozen? x = W1.frozen? x) -> ∀ ty dc, (Builtin.copy_ #[38, 38] ty #[.slice (some ⟨w.heap.size, i, none⟩) (n + 1 - i) dc, .slice (some ⟨vb, vo, none⟩) 1 vc]).run Try.prog W = .ok (goInt 1) (W.setCells w.heap.size i [x]) := fun W hWc hWf ty dc =>
  run_copy_cells W _ _ ty 9 w.heap.size i (n + 1 - i) dc ⟨vb, vo, none⟩ 1 vc [x] Try.underlying38 hsz1 (by simp only [Nat.min_def, List.length_cons, List.length_nil]; split <;> omega)
   (fun j v hj => by
    cases j with
    | zero =>
     injection hj with hj
     subst hj
     rw [Addr.add_lit, hWc, U0]
     exact (dB Bd _).trans hx
    | succ j => cases hj)
   (fun j hj => by
    rw [hWc, dB hnew, Array.getElem?_eq_getElem (by simp only [List.length_cons, List.length_nil] at hj; omega)]
    rfl) (fun j hj => by rw [hWf]; exact dX hnew _) (fun v hv => by rw [List.mem_singleton.1 hv]; exact h1v)
 obtain ⟨UY, k1, k2, k3⟩ := eF [x] i W1 ROW hnew (by simp only [List.length_cons, List.length_nil]; omega)
 have hcpB : ∀ (W : World), (∀ x_, W.cell? x_ = (W1.setCells w.heap.size i [x]).cell? x_) -> (∀ x_, W.frozen? x_ = (W1.setCells w.heap.size i [x]).frozen? x_) -> ∀ ty dc sc, (Builtin.copy_ #[38, 38] ty #[.slice (some ⟨w.heap.size, i + 1, none⟩) (n - i) dc, .slice (some ⟨b, off + i, none⟩) (n - i) sc]).run Try.prog W = .ok (goInt (cs.drop i).length) (W.setCells w.heap.size (i + 1) (cs.drop i)) := fun W hWc hWf ty dc sc =>
  run_copy_cells W _ _ ty 9 w.heap.size (i + 1) (n - i) dc ⟨b, off + i, none⟩ (n - i) sc (cs.drop i) Try.underlying38 hsz1 (by rw [hdl]; simp only [Nat.min_def]; split <;> omega)
   (fun j v hj => by
    rw [Addr.add_lit, hWc, World.cell?_setCells_out _ _ _ _ _ (fun h _ => absurd h hbN), UZ, Nat.add_assoc]
    exact hcc (i + j) v (by rwa [List.getElem?_drop] at hj))
   (fun j hj => by
    rw [hWc, dB k1, Array.getElem?_eq_getElem (by omega)]
    rfl)
   (fun j hj => by rw [hWf]; exact dX k1 _) (fun v hv => h1c v (List.mem_of_mem_drop hv))
 subst hW1
 have hE1 : ∀ x, ((w.alloc (.cells ROW 9)).drew).cell? x = (w.drew.alloc (.cells ROW 9)).cell? x := fun x => rfl
 have hE2 : ∀ x, ((w.alloc (.cells ROW 9)).drew).frozen? x = (w.drew.alloc (.cells ROW 9)).frozen? x := fun x => rfl
 have hF1 : ∀ x_, (((w.alloc (.cells ROW 9)).drew.setCells w.heap.size i [x]).drew).cell? x_ = ((w.drew.alloc (.cells ROW 9)).setCells w.heap.size i [x]).cell? x_ := fun x => rfl
 have hF2 : ∀ x_, (((w.alloc (.cells ROW 9)).drew.setCells w.heap.size i [x]).drew).frozen? x_ = ((w.drew.alloc (.cells ROW 9)).setCells w.heap.size i [x]).frozen? x_ := fun x => rfl
 have hz2 : ¬ ((i : Int) = (n : Int)) := by omega
 have hz3 : (c : Int) < (n : Int) + 1 := by omega
 have hw1 : IntKind.i64.wrap ((i : Int) + 1) = (i : Int) + 1 := by rw [IntKind.wrap_i64]; omega
 have hw2 : IntKind.i64.wrap ((n : Int) + 1) = (n : Int) + 1 := by rw [IntKind.wrap_i64]; omega
 have hw3 : IntKind.i64.wrap ((n : Int) + 1 - (i : Int)) = (n : Int) + 1 - (i : Int) := by rw [IntKind.wrap_i64]; omega
 have hb1 : (0 : Int) <= (i : Int) + 1 := by omega
 have hin : i <= n := by omega
 have htn : ((i : Int) + 1).toNat = i + 1 := by omega
 have hb3 : (i : Int) <= (n : Int) := by omega
 have hGi : ¬ (G = i) := by omega
 have hGim : ¬ (G = i + 1) := by omega
 have hci : ¬ (c = i) := by omega
 have hG9 : G <= 9223372036854775807 := by unfold maxLen at hG63; omega
 have HX := A_ (show n + 1 <= G /\ G <= maxLen /\ ROW.size = G /\ ROW.toList.take i = cs.take i from ⟨hGn, hG63, hRs, hRt⟩)
 clear hkk hik hcc hRs hRt hnew UZ U0 k1 k2 k3 Bd hx hb hcs h1c h1v hG63
 go_enter Try.func136, Try.ntmps136
 go_wp2_with (first
  | (at_builtin; refine Lib.wpList_append_run _ rfl _ _ _ _ rfl _ _ rfl rfl _ _ (hrz _) ?_)
  | (at_builtin; refine wpList_copy_runI _ rfl _ _ 38 38 rfl _ _ rfl rfl (hcpA _ hE1 hE2 _ _) ?_)
  | (at_builtin; refine wpList_copy_runI _ rfl _ _ 38 38 rfl _ _ rfl rfl (hcpB _ (fun _ => rfl) (fun _ => rfl) _ _ _) ?_))
 go_region_law (refine step_copy_runI rfl _ _ 38 38 rfl (.slice (some ⟨w.heap.size, i + 1, none⟩) (n - i) (G - (i + 1))) (.slice (some ⟨b, off + i, none⟩) (n - i) (c - i)) (by simp [Act.eval, Act.put]) (by simp [Act.eval, Act.put]) (hcpB _ hF1 hF2 3 (G - (i + 1)) (c - i)) ?_)
 go_wp2
 go_ret
 exact ⟨G, ROW, HX.out.1, HX.out.2.1, HX.out.2.2.1, HX.out.2.2.2, rfl, rfl⟩
set_option maxHeartbeats 4000000 in
theorem Lx (A : Option Addr) (n c : Nat) (vb vo vc : Nat) (w : World) {v1 : Value} {w1 : World} (hrun : ∀ ty, (Builtin.append_ #[99, 99] ty #[.slice A n c, .slice (some ⟨vb, vo, none⟩) 1 vc]).run Try.prog w = .ok v1 w1) :
  Calls Try.prog 128 #[.slice A n c, .int .i64 (n : Int), .slice (some ⟨vb, vo, none⟩) 1 vc] w fun e w' => e = .returned v1 /\ w' = w1 := by
 go_enter Try.func128, Try.ntmps128
 cases A with
 | none =>
  go_wp2_with (at_builtin; refine Lib.wpList_append_run _ rfl _ _ _ _ rfl _ _ rfl rfl _ _ (hrun _) ?_)
  all_goals (go_ret; exact ⟨rfl, rfl⟩)
 | some a =>
  obtain ⟨ab, ao, asp⟩ := a
  go_wp2_with (at_builtin; refine Lib.wpList_append_run _ rfl _ _ _ _ rfl _ _ rfl rfl _ _ (hrun _) ?_)
  all_goals (go_ret; exact ⟨rfl, rfl⟩)
set_option maxHeartbeats 4000000 in
theorem F8 (b off n c i vb vo vc : Nat) (cs : List Value) (x : Value) (w : World) (rU cur : Array Value) (hi : i < n) (hroom : n + 1 <= c) (hc63 : off + c <= maxLen) (hvb : vb ≠ b)
  (Bd : w.heap[vb]? = some (.cells rU 74 (0, 0))) (hx : rU[vo]? = some x) (hb : w.heap[b]? = some (.cells cur 74 (0, 0))) (hsz : cur.size = off + c) (hcs : (cur.toList.drop off).take n = cs) (hcl : cs.length = n)
  (h1c : ∀ v ∈ cs, v.oneCell' = true) (h1v : x.oneCell' = true) :
  Calls Try.prog 128 #[.slice (some ⟨b, off, none⟩) n c, .int .i64 (i : Int), .slice (some ⟨vb, vo, none⟩) 1 vc] w fun e w' =>
   e = .returned (.slice (some ⟨b, off, none⟩) (n + 1) c) /\ w' = (w.drew.setCells b (off + (i + 1)) (cs.drop i)).setCells b (off + i) [x] := by
 have hc' : c <= 9223372036854775807 := by unfold maxLen at hc63; omega
 have hn63 : n <= 9223372036854775806 := by omega
 have hsz1 := qH nH
 have hcc : ∀ j v, cs[j]? = some v -> w.cell? ⟨b, off + j, none⟩ = some v := fun j v hj => by
  rw [dB hb, <- Array.getElem?_toList]
  exact jY hcs hj
 have hsp : ∀ j, j < n + 1 -> (w.cell? ⟨b, off + j, none⟩).isSome = true := fun j hj => by
  rw [dB hb, Array.getElem?_eq_getElem (by omega)]
  rfl
 have hfz : ∀ j, w.frozen? ⟨b, j, none⟩ = false := dX hb
 have hov : ∀ lb cb, (callFunc 137 #[.slice (some ⟨vb, vo, none⟩) 1 vc, .slice (some ⟨b, off + (i + 1), none⟩) lb cb]).run Try.prog w = .ok (.value (.bool false)) w := fun lb cb => by
  rw [run_callFunc_extern Try.func137 (by kernel_rfl) (by kernel_rfl) (by kernel_rfl) (e := Extern.SlicesOverlaps.overlaps #[99, 99] #[4]) (by kernel_rfl),
   Lib.run_overlaps_apart w 99 4 74 Try.underlying99 1 (run_sizeOf nH) ⟨vb, vo, none⟩ ⟨b, off + (i + 1), none⟩ 1 vc lb cb hvb _ _ _ _ (xy Bd) (xy hb) (by omega) (dX Bd vo) (dX Bd _)]
  rfl
 have hdl : (cs.drop i).length = n - i := by rw [List.length_drop, hcl]
 have hz2 : ¬ ((i : Int) = (n : Int)) := by omega
 have hw1 : IntKind.i64.wrap ((i : Int) + 1) = (i : Int) + 1 := by rw [IntKind.wrap_i64]; omega
 have hw2 : IntKind.i64.wrap ((n : Int) + 1) = (n : Int) + 1 := by rw [IntKind.wrap_i64]; omega
 have hb1 : (0 : Int) <= (i : Int) + 1 := by omega
 have hin : i <= n := by omega
 have htn : ((i : Int) + 1).toNat = i + 1 := by omega
 have htn2 : ((n : Int) + 1).toNat = n + 1 := by omega
 have hb2 : ¬ (c = i + 1) := by omega
 have hb3 : (i : Int) <= (n : Int) + 1 := by omega
 have hb4 : ¬ (c = i) := by omega
 have hb5 : ¬ ((c : Int) < (n : Int) + 1) := by omega
 have hcp1 : ∀ ty dc sc, (Builtin.copy_ #[99, 99] ty #[.slice (some ⟨b, off + (i + 1), none⟩) (n - i) dc, .slice (some ⟨b, off + i, none⟩) (n + 1 - i) sc]).run Try.prog w.drew = .ok (goInt (cs.drop i).length) (w.drew.setCells b (off + (i + 1)) (cs.drop i)) := fun ty dc sc =>
  run_copy_cells w.drew _ _ ty 74 b (off + (i + 1)) (n - i) dc ⟨b, off + i, none⟩ (n + 1 - i) sc (cs.drop i) Try.underlying99 hsz1 (by rw [hdl]; simp only [Nat.min_def]; split <;> omega)
   (fun j v hj => by rw [Addr.add_lit, Nat.add_assoc]; exact hcc (i + j) v (by rwa [List.getElem?_drop] at hj))
   (fun j hj => by rw [Nat.add_assoc]; exact hsp _ (by omega)) (fun j hj => hfz _) (fun v hv => h1c v (List.mem_of_mem_drop hv))
 obtain ⟨W1, hW1⟩ : ∃ W1, W1 = w.drew.setCells b (off + (i + 1)) (cs.drop i) := ⟨_, rfl⟩
 obtain ⟨UY, k1, k2, k3⟩ := eF (cs.drop i) (off + (i + 1)) w.drew cur hb (by rw [hdl]; omega)
 rw [<- hW1] at k1
 have hcp2 : ∀ (W : World), (∀ x, W.cell? x = W1.cell? x) -> (∀ x, W.frozen? x = W1.frozen? x) -> ∀ ty dc, (Builtin.copy_ #[99, 99] ty #[.slice (some ⟨b, off + i, none⟩) (n + 1 - i) dc, .slice (some ⟨vb, vo, none⟩) 1 vc]).run Try.prog W = .ok (goInt 1) (W.setCells b (off + i) [x]) := fun W hWc hWf ty dc =>
  run_copy_cells W _ _ ty 74 b (off + i) (n + 1 - i) dc ⟨vb, vo, none⟩ 1 vc [x] Try.underlying99 hsz1 (by simp only [Nat.min_def, List.length_cons, List.length_nil]; split <;> omega)
   (fun j v hj => by
    cases j with
    | zero =>
     injection hj with hj
     subst hj
     rw [Addr.add_lit, hWc, hW1, World.cell?_setCells_out b _ _ _ _ (fun h _ => absurd h hvb)]
     exact (dB Bd _).trans hx
    | succ j => cases hj)
   (fun j hj => by
    rw [hWc, dB k1, Array.getElem?_eq_getElem (by simp only [List.length_cons, List.length_nil] at hj; omega)]
    rfl) (fun j hj => by rw [hWf]; exact dX k1 _) (fun v hv => by rw [List.mem_singleton.1 hv]; exact h1v)
 rw [<- hW1] at hcp1
 clear hcc hsp hfz k1 k2 k3 h1c h1v Bd hb hsz hcs hx
 go_enter Try.func128, Try.ntmps128
 go_wp2_with (simp only [hov])
 go_region_law (refine step_copy_runI rfl _ _ 99 99 rfl _ _ (by simp [Act.eval, Act.put]) (by simp [Act.eval, Act.put]) (hcp1 _ _ _) ?_)
 go_wp2_with (at_builtin; refine wpList_copy_runI _ rfl _ _ 99 99 rfl _ _ rfl rfl (hcp2 _ (fun _ => rfl) (fun _ => rfl) _ _) ?_)
 go_ret
 first | exact ⟨rfl, rfl⟩ | exact ⟨rfl, by rw [hW1]⟩
set_option maxHeartbeats 4000000 in
theorem Jt (b off n c i vb vo vc : Nat) (cs : List Value) (x : Value) (w : World) (rU cur : Array Value) (hi : i < n) (hnc : n <= c) (hroom : c < n + 1) (hbig : (n + 1) * 8 <= 140737488355328)
  (Bd : w.heap[vb]? = some (.cells rU 74 (0, 0))) (hx : rU[vo]? = some x) (hb : w.heap[b]? = some (.cells cur 74 (0, 0))) (hcs : (cur.toList.drop off).take n = cs) (hcl : cs.length = n)
  (h1c : ∀ v ∈ cs, v.oneCell' = true) (h1v : x.oneCell' = true) :
  Calls Try.prog 128 #[.slice (some ⟨b, off, none⟩) n c, .int .i64 (i : Int), .slice (some ⟨vb, vo, none⟩) 1 vc] w fun e w' =>
   ∃ (G : Nat) (ROW : Array Value), n + 1 <= G /\ G <= maxLen /\ ROW.size = G /\ ROW.toList.take i = cs.take i /\ e = .returned (.slice (some ⟨w.heap.size, 0, none⟩) (n + 1) G) /\
   w' = (((w.alloc (.cells ROW 74)).drew.setCells w.heap.size i [x]).drew).setCells w.heap.size (i + 1) (cs.drop i) := by
 have hn63 : n <= 9223372036854775806 := by omega
 have hsz1 := qH nH
 obtain ⟨i0, hi0, hzz⟩ := Option.map_eq_some_iff.1 nH
 simp only [Prod.mk.injEq] at hzz
 obtain ⟨hz0, hzs, hzb⟩ := hzz
 have hbw : b < w.heap.size := dh hb
 have hvw : vb < w.heap.size := dh Bd
 have hcc : ∀ j v, cs[j]? = some v -> w.cell? ⟨b, off + j, none⟩ = some v := fun j v hj => by
  rw [dB hb, <- Array.getElem?_toList]
  exact jY hcs hj
 have hkk : (n : Int) + 1 - (i : Int) = ((n + 1 - i : Nat) : Int) := by omega
 have hik : i + (n + 1 - i) = n + 1 := by omega
 have hold : (Builtin.firstCells i0.size i (.slice (some ⟨b, off, none⟩) i c)).run Try.prog w.drew = .ok (cs.take i).toArray w.drew := by
  rw [hzs]
  exact run_firstCells_some w.drew 1 i ⟨b, off, none⟩ i c (cs.take i) (by rw [List.length_take]; omega) (fun j v hj => by
   rw [Addr.add_lit]
   rw [List.getElem?_take] at hj
   split at hj
   ·exact hcc j v hj
   ·cases hj)
 obtain ⟨G, hG⟩ : ∃ G, G = grownCap w (n + 1) c 74 := ⟨_, rfl⟩
 have hGn : n + 1 <= G := by rw [hG]; exact grownCap_ge w _ _ _
 have hG63 : G <= maxLen := by rw [hG]; exact grownCap_le_maxLen w (n + 1) c 74 (by unfold maxLen; omega)
 obtain ⟨ROW, hROW⟩ : ∃ ROW : Array Value, ROW = (cs.take i).toArray ++ Builtin.zeroCells (Value.cells (.pointer none)) (n + 1 - i) ++ Builtin.zeroCells (Value.cells (.pointer none)) (G - (n + 1)) := ⟨_, rfl⟩
 have hRs : ROW.size = G := by
  rw [hROW]
  simp [Builtin.zeroCells, Value.cells]
  omega
 have hRt : ROW.toList.take i = cs.take i := by
  have hlt : (cs.take i).length = i := by rw [List.length_take]; omega
  rw [hROW]
  simp only [Array.toList_append, List.append_assoc]
  rw [List.take_append_of_le_length (by rw [hlt]; exact Nat.le_refl _), List.take_of_length_le (by rw [hlt]; exact Nat.le_refl _)]
 have hrz : ∀ ty, (Builtin.append_ #[99, 3] ty #[.slice (some ⟨b, off, none⟩) i c, .int .i64 ((n : Int) + 1 - (i : Int))]).run Try.prog w = .ok (.slice (some ⟨w.heap.size, 0, none⟩) (n + 1) G) (w.drew.alloc (.cells ROW 74)) := fun ty => by
  have h := Lib.run_append_grow_zeros w 99 3 ty 74 i0 _ .i64 .i64 Try.underlying99 Try.underlying3 hi0 hz0 (some ⟨b, off, none⟩) i c (cs.take i) hold (n + 1 - i) (by omega) (by omega) (by omega) (by omega) (by rw [hzb]; omega) (by rw [hzb, hik]; exact growslice_fits hroom hbig)
  rw [hik, <- hG, <- hROW] at h
  rw [hkk]
  exact h
 clear hold hROW hG
 obtain ⟨W1, hW1⟩ : ∃ W1, W1 = w.drew.alloc (.cells ROW 74) := ⟨_, rfl⟩
 rw [<- hW1] at hrz
 have hnew : W1.heap[w.heap.size]? = some (.cells ROW 74 (0, 0)) := by rw [hW1]; exact heap_alloc_new w.drew _
 have hbN : b ≠ w.heap.size := by omega
 have hdl : (cs.drop i).length = n - i := by rw [List.length_drop, hcl]
 have UZ : ∀ j, W1.cell? ⟨b, j, none⟩ = w.cell? ⟨b, j, none⟩ := fun j => by rw [hW1, World.cell?_alloc_past (w := w.drew) _ b j hbw]; rfl
 have U0 : ∀ j, W1.cell? ⟨vb, j, none⟩ = w.cell? ⟨vb, j, none⟩ := fun j => by rw [hW1, World.cell?_alloc_past (w := w.drew) _ vb j hvw]; rfl
 have hcpA : ∀ (W : World), (∀ x, W.cell? x = W1.cell? x) -> (∀ x, W.frozen? x = W1.frozen? x) -> ∀ ty dc, (Builtin.copy_ #[99, 99] ty #[.slice (some ⟨w.heap.size, i, none⟩) (n + 1 - i) dc, .slice (some ⟨vb, vo, none⟩) 1 vc]).run Try.prog W = .ok (goInt 1) (W.setCells w.heap.size i [x]) := fun W hWc hWf ty dc =>
  run_copy_cells W _ _ ty 74 w.heap.size i (n + 1 - i) dc ⟨vb, vo, none⟩ 1 vc [x] Try.underlying99 hsz1 (by simp only [Nat.min_def, List.length_cons, List.length_nil]; split <;> omega)
   (fun j v hj => by
    cases j with
    | zero =>
     injection hj with hj
     subst hj
     rw [Addr.add_lit, hWc, U0]
     exact (dB Bd _).trans hx
    | succ j => cases hj)
   (fun j hj => by
    rw [hWc, dB hnew, Array.getElem?_eq_getElem (by simp only [List.length_cons, List.length_nil] at hj; omega)]
    rfl) (fun j hj => by rw [hWf]; exact dX hnew _) (fun v hv => by rw [List.mem_singleton.1 hv]; exact h1v)
 obtain ⟨UY, k1, k2, k3⟩ := eF [x] i W1 ROW hnew (by simp only [List.length_cons, List.length_nil]; omega)
 have hcpB : ∀ (W : World), (∀ x_, W.cell? x_ = (W1.setCells w.heap.size i [x]).cell? x_) -> (∀ x_, W.frozen? x_ = (W1.setCells w.heap.size i [x]).frozen? x_) -> ∀ ty dc sc, (Builtin.copy_ #[99, 99] ty #[.slice (some ⟨w.heap.size, i + 1, none⟩) (n - i) dc, .slice (some ⟨b, off + i, none⟩) (n - i) sc]).run Try.prog W = .ok (goInt (cs.drop i).length) (W.setCells w.heap.size (i + 1) (cs.drop i)) := fun W hWc hWf ty dc sc =>
  run_copy_cells W _ _ ty 74 w.heap.size (i + 1) (n - i) dc ⟨b, off + i, none⟩ (n - i) sc (cs.drop i) Try.underlying99 hsz1 (by rw [hdl]; simp only [Nat.min_def]; split <;> omega)
   (fun j v hj => by
    rw [Addr.add_lit, hWc, World.cell?_setCells_out _ _ _ _ _ (fun h _ => absurd h hbN), UZ, Nat.add_assoc]
    exact hcc (i + j) v (by rwa [List.getElem?_drop] at hj))
   (fun j hj => by
    rw [hWc, dB k1, Array.getElem?_eq_getElem (by omega)]
    rfl)
   (fun j hj => by rw [hWf]; exact dX k1 _) (fun v hv => h1c v (List.mem_of_mem_drop hv))
 subst hW1
 have hE1 : ∀ x, ((w.alloc (.cells ROW 74)).drew).cell? x = (w.drew.alloc (.cells ROW 74)).cell? x := fun x => rfl
 have hE2 : ∀ x, ((w.alloc (.cells ROW 74)).drew).frozen? x = (w.drew.alloc (.cells ROW 74)).frozen? x := fun x => rfl
 have hF1 : ∀ x_, (((w.alloc (.cells ROW 74)).drew.setCells w.heap.size i [x]).drew).cell? x_ = ((w.drew.alloc (.cells ROW 74)).setCells w.heap.size i [x]).cell? x_ := fun x => rfl
 have hF2 : ∀ x_, (((w.alloc (.cells ROW 74)).drew.setCells w.heap.size i [x]).drew).frozen? x_ = ((w.drew.alloc (.cells ROW 74)).setCells w.heap.size i [x]).frozen? x_ := fun x => rfl
 have hz2 : ¬ ((i : Int) = (n : Int)) := by omega
 have hz3 : (c : Int) < (n : Int) + 1 := by omega
 have hw1 : IntKind.i64.wrap ((i : Int) + 1) = (i : Int) + 1 := by rw [IntKind.wrap_i64]; omega
 have hw2 : IntKind.i64.wrap ((n : Int) + 1) = (n : Int) + 1 := by rw [IntKind.wrap_i64]; omega
 have hw3 : IntKind.i64.wrap ((n : Int) + 1 - (i : Int)) = (n : Int) + 1 - (i : Int) := by rw [IntKind.wrap_i64]; omega
 have hb1 : (0 : Int) <= (i : Int) + 1 := by omega
 have hin : i <= n := by omega
 have htn : ((i : Int) + 1).toNat = i + 1 := by omega
 have hb3 : (i : Int) <= (n : Int) := by omega
 have hGi : ¬ (G = i) := by omega
 have hGim : ¬ (G = i + 1) := by omega
 have hci : ¬ (c = i) := by omega
 have hG9 : G <= 9223372036854775807 := by unfold maxLen at hG63; omega
 have HX := A_ (show n + 1 <= G /\ G <= maxLen /\ ROW.size = G /\ ROW.toList.take i = cs.take i from ⟨hGn, hG63, hRs, hRt⟩)
 clear hkk hik hcc hRs hRt hnew UZ U0 k1 k2 k3 Bd hx hb hcs h1c h1v hG63
 go_enter Try.func128, Try.ntmps128
 go_wp2_with (first
  | (at_builtin; refine Lib.wpList_append_run _ rfl _ _ _ _ rfl _ _ rfl rfl _ _ (hrz _) ?_)
  | (at_builtin; refine wpList_copy_runI _ rfl _ _ 99 99 rfl _ _ rfl rfl (hcpA _ hE1 hE2 _ _) ?_)
  | (at_builtin; refine wpList_copy_runI _ rfl _ _ 99 99 rfl _ _ rfl rfl (hcpB _ (fun _ => rfl) (fun _ => rfl) _ _ _) ?_))
 go_region_law (refine step_copy_runI rfl _ _ 99 99 rfl (.slice (some ⟨w.heap.size, i + 1, none⟩) (n - i) (G - (i + 1))) (.slice (some ⟨b, off + i, none⟩) (n - i) (c - i)) (by simp [Act.eval, Act.put]) (by simp [Act.eval, Act.put]) (hcpB _ hF1 hF2 3 (G - (i + 1)) (c - i)) ?_)
 go_wp2
 go_ret
 exact ⟨G, ROW, HX.out.1, HX.out.2.1, HX.out.2.2.1, HX.out.2.2.2, rfl, rfl⟩
theorem gV (w : World) (b o : Nat) (vs : List Value) : w.grownBy (w.setCells b o vs) (some b) := by
 obtain ⟨h1, h2, h3, h4⟩ := kH b vs o w
 exact ⟨h1, h2, h3, by omega, fun k _ hk => lM vs o k fun e => hk (by rw [e])⟩
theorem u7 (w : World) (row : Option Nat) : w.grownBy w.drew row := ⟨rfl, rfl, rfl, Nat.le_refl _, fun _ _ _ => rfl⟩
theorem Ro {α : Type} {R cs D : List α} {x : α} {i n : Nat} (h : R.take i = cs.take i) (hn : cs.length = n) (hi : i <= n) :
  ((R.take i ++ [x] ++ D).take (i + 1) ++ cs.drop i ++ (R.take i ++ [x] ++ D).drop (i + 1 + (cs.drop i).length)).take (n + 1) = bz cs i x := by
 have hl : (cs.take i ++ [x]).length = i + 1 := by rw [List.length_append, List.length_take]; simp only [List.length_cons, List.length_nil]; omega
 have h2 : (cs.take i ++ [x] ++ D).take (i + 1) = cs.take i ++ [x] := by rw [<- hl]; exact List.take_left
 rw [h, h2]
 have e : cs.take i ++ [x] ++ cs.drop i = bz cs i x := by unfold bz; rw [List.append_assoc]; rfl
 rw [e, <- hn, <- fI x (hn ▸ hi)]
 exact List.take_left
theorem Qw {w : World} {base E : Nat} {lv x : Value} (h : w.ownsRow base E 1 lv 1 [x]) : ∃ vb vc rU, lv = .slice (some ⟨vb, 0, none⟩) 1 vc /\ w.heap[vb]? = some (.cells rU E (0, 0)) /\ rU[0]? = some x := by
 rcases h.2 with ⟨_, h0⟩ | ⟨g, cap, cur, rfl, _, hh, _, _, _, ht⟩
 ·omega
 ·refine ⟨g, cap, cur, rfl, hh, ?_⟩
  rw [Nat.mul_one] at ht
  rw [<- Array.getElem?_toList]
  have := congrArg (fun l => l[0]?) ht
  simp only [List.getElem?_take] at this
  simpa using this
theorem LA {w : World} {vb E : Nat} {rU : Array Value} {x : Value} (Bd : w.heap[vb]? = some (.cells rU E (0, 0))) (hx : rU[0]? = some x) : ∀ j u, [x][j]? = some u -> w.cell? ((⟨vb, 0, none⟩ : Addr).add j) = some u := fun j u hj => by
 cases j with
 | zero =>
  injection hj with hj
  subst hj
  rw [Addr.add_lit]
  exact (dB Bd _).trans hx
 | succ j => cases hj
theorem LB {w : World} {base E n G i : Nat} {ROW : Array Value} {cs : List Value} {x : Value} (hbase : base <= w.heap.size) (hi : i <= n) (hcl : cs.length = n) (h1 : n + 1 <= G) (h2 : G <= maxLen) (h3 : ROW.size = G) (h4 : ROW.toList.take i = cs.take i) :
  ((((w.alloc (.cells ROW E)).drew.setCells w.heap.size i [x]).drew).setCells w.heap.size (i + 1) (cs.drop i)).ownsRow base E 1 (.slice (some ⟨w.heap.size, 0, none⟩) (n + 1) G) (n + 1) (bz cs i x) /\
  ∀ row, w.grownBy ((((w.alloc (.cells ROW E)).drew.setCells w.heap.size i [x]).drew).setCells w.heap.size (i + 1) (cs.drop i)) row := by
 have hnew : (w.alloc (.cells ROW E)).drew.heap[w.heap.size]? = some (.cells ROW E (0, 0)) := heap_alloc_new w _
 have hdl : (cs.drop i).length = n - i := by rw [List.length_drop, hcl]
 obtain ⟨c1, k1, k2, k3⟩ := eF [x] i _ ROW hnew (by simp only [List.length_cons, List.length_nil]; omega)
 obtain ⟨c2, k4, k5, k6⟩ := eF (cs.drop i) (i + 1) (((w.alloc (.cells ROW E)).drew.setCells w.heap.size i [x]).drew) c1 k1 (by omega)
 refine ⟨⟨by rw [fI x (by omega)]; omega, .inr ⟨_, G, c2, rfl, hbase, k4, h1, h2, by omega, ?_⟩⟩, fun row => ?_⟩
 ·rw [Nat.mul_one, k6, k3]
  exact Ro h4 hcl hi
 ·obtain ⟨a1, a2, a3, a4⟩ := kH w.heap.size [x] i (w.alloc (.cells ROW E)).drew
  obtain ⟨b1, b2, b3, b4⟩ := kH w.heap.size (cs.drop i) (i + 1) (((w.alloc (.cells ROW E)).drew.setCells w.heap.size i [x]).drew)
  refine ⟨b1.trans a1, b2.trans a2, b3.trans a3, ?_, fun k hk _ => ?_⟩
  ·rw [b4]
   show w.heap.size <= ((w.alloc (.cells ROW E)).drew.setCells w.heap.size i [x]).heap.size
   rw [a4]
   show w.heap.size <= (w.alloc (.cells ROW E)).heap.size
   simp
  ·rw [lM _ _ k (by omega)]
   show ((w.alloc (.cells ROW E)).drew.setCells w.heap.size i [x]).heap[k]? = _
   rw [lM _ _ k (by omega)]
   exact (World.grownBy_alloc w (.cells ROW E) none).block k hk (by simp)
theorem zz {w : World} {base b E n c : Nat} {cur : Array Value} {xs : List Value} (hb : w.heap[b]? = some (.cells cur E (0, 0))) (hs : cur.size = 0 + c) (ht : (cur.toList.drop 0).take n = xs) (hn : n <= c) (hm : 0 + c <= maxLen) (hbase : base <= b) : w.ownsRow base E 1 (.slice (some ⟨b, 0, none⟩) n c) n xs := by
 refine ⟨?_, .inr ⟨b, c, cur, rfl, hbase, hb, hn, by omega, by omega, by rw [Nat.mul_one]; exact ht⟩⟩
 rw [<- ht, List.length_take, List.length_drop, Array.length_toList]
 omega
theorem VZ {base n c i : Nat} {A : Option Addr} {cs : List Value} {lv x : Value} {w : World} (hq : w.ownsRow base 9 1 (.slice A n c) n cs) (hl : w.ownsRow base 9 1 lv 1 [x]) (hne : ∀ k, (Value.slice A n c).ownBlock = some k -> lv.ownBlock ≠ some k)
  (hi : i <= n) (hbase : base <= w.heap.size) (hbig : (n + 1) * 16 <= 140737488355328) (h1c : ∀ v ∈ cs, v.oneCell' = true) (h1v : x.oneCell' = true) :
  Calls Try.prog 136 #[.slice A n c, .int .i64 (i : Int), lv] w fun e w' => ∃ A' c', e = .returned (.slice A' (n + 1) c') /\ w'.ownsRow base 9 1 (.slice A' (n + 1) c') (n + 1) (bz cs i x) /\ w.grownBy w' (Value.slice A n c).ownBlock /\
   ((Value.slice A' (n + 1) c').ownBlock = (Value.slice A n c).ownBlock ∨ ∃ b, (Value.slice A' (n + 1) c').ownBlock = some b /\ w.heap.size <= b) := by
 obtain ⟨vb, vc, rU, rfl, Bd, hx⟩ := Qw hl
 have hcl : cs.length = n := by rw [hq.1, Nat.mul_one]
 obtain ⟨i0, hi0, hzz⟩ := Option.map_eq_some_iff.1 eU
 simp only [Prod.mk.injEq] at hzz
 obtain ⟨hz0, hzs, hzb⟩ := hzz
 rcases Nat.lt_or_ge i n with hin | hin
 ·rcases hq.2 with ⟨_, h0⟩ | ⟨b, cap, cur, e, hbb, hb, hnc, hmx, hsz, ht⟩
  ·omega
  injection e with e1 e2 e3
  subst e1 e3
  rw [Nat.mul_one] at hsz ht
  replace hmx : 0 + c <= maxLen := by omega
  replace hsz : cur.size = 0 + c := by omega
  rw [show cur.toList = cur.toList.drop 0 from rfl] at ht
  have hvb : vb ≠ b := fun e => hne b rfl (by rw [e]; rfl)
  rcases Nat.lt_or_ge c (n + 1) with hroom | hroom
  ·refine (Js b 0 n c i vb 0 vc cs x w rU cur hin hnc hroom hbig Bd hx hb ht hcl h1c h1v).mono ?_
   rintro e w' ⟨G, ROW, g1, g2, g3, g4, rfl, rfl⟩
   obtain ⟨o1, o2⟩ := LB (E := 9) (x := x) hbase hi hcl g1 g2 g3 g4
   exact ⟨_, _, rfl,  o1, o2 _, .inr ⟨_, rfl, Nat.le_refl _⟩⟩
  ·refine (F7 b 0 n c i vb 0 vc cs x w rU cur hin hroom hmx hvb Bd hx hb hsz ht hcl h1c h1v).mono ?_
   rintro e w' ⟨rfl, rfl⟩
   obtain ⟨Zf, j1, j2, j3⟩ := Ig (w := w.drew) (x := x) hb hsz ht hroom hin
   refine ⟨_, _, rfl, zz j1 j2 j3 hroom hmx hbb, ?_, .inl rfl⟩
   exact ((u7 w _).trans (gV _ _ _ _)).trans (gV _ _ _ _)
 ·obtain rfl : i = n := Nat.le_antisymm hi hin
  have hnews := LA Bd hx
  have h1w : ∀ u ∈ [x], u.oneCell' = true := fun u hu => by rw [List.mem_singleton.1 hu]; exact h1v
  have U1 := fun ty => run_append_own_at (P := Try.prog) w base 38 ty 9 i0 (.string ⟨#[]⟩) 1 16 Try.underlying38 hi0 hz0 hzs hzb rfl (by decide) (.slice A i c) i cs hq ⟨vb, 0, none⟩ 1 vc [x] rfl hnews h1w (by unfold maxLen; omega) hbig hbase
  obtain ⟨v1, w1, hrun, ho, hg, _, hat0⟩ := U1 0
  have hrun : ∀ ty, (Builtin.append_ #[38, 38] ty #[.slice A i c, .slice (some ⟨vb, 0, none⟩) 1 vc]).run Try.prog w = .ok v1 w1 := fun ty => hrun
  have hat : v1.ownBlock = (Value.slice A i c).ownBlock ∨ ∃ b, v1.ownBlock = some b /\ w.heap.size <= b := hat0.imp id fun h => ⟨_, h, Nat.le_refl _⟩
  have ein : bz cs i x = cs ++ [x] := by unfold bz; rw [List.take_of_length_le (by omega), List.drop_eq_nil_of_le (by omega)]
  obtain ⟨A', c', rfl⟩ : ∃ A' c', v1 = .slice A' (i + 1) c' := by
   rcases ho.2 with ⟨_, h0⟩ | ⟨g, cap, cur, e, _⟩
   ·omega
   ·exact ⟨_, _, e⟩
  refine (Lv A i c vb 0 vc w hrun).mono ?_
  rintro e w' ⟨rfl, rfl⟩
  exact ⟨A', c', rfl, by rw [ein]; exact ho, hg, hat⟩
theorem V3 {base n c i : Nat} {A : Option Addr} {cs : List Value} {lv x : Value} {w : World} (hq : kW w base 74 1 (.slice A n c) n cs) (hl : w.ownsRow base 74 1 lv 1 [x]) (hne : ∀ k, (Value.slice A n c).ownBlock = some k -> lv.ownBlock ≠ some k)
  (hi : i <= n) (hbase : base <= w.heap.size) (hbig : (n + 1) * 8 <= 140737488355328) (h1c : ∀ v ∈ cs, v.oneCell' = true) (h1v : x.oneCell' = true) :
  Calls Try.prog 128 #[.slice A n c, .int .i64 (i : Int), lv] w fun e w' => ∃ A' c', e = .returned (.slice A' (n + 1) c') /\ kW w' base 74 1 (.slice A' (n + 1) c') (n + 1) (bz cs i x) /\ w.grownBy w' (Value.slice A n c).ownBlock /\
   ((Value.slice A' (n + 1) c').ownBlock = (Value.slice A n c).ownBlock ∨ ∃ b, (Value.slice A' (n + 1) c').ownBlock = some b /\ w.heap.size <= b) := by
 obtain ⟨vb, vc, rU, rfl, Bd, hx⟩ := Qw hl
 have hcl : cs.length = n := by rw [hq.1, Nat.mul_one]
 obtain ⟨i0, hi0, hzz⟩ := Option.map_eq_some_iff.1 nH
 simp only [Prod.mk.injEq] at hzz
 obtain ⟨hz0, hzs, hzb⟩ := hzz
 rcases Nat.lt_or_ge i n with hin | hin
 ·rcases hq.2 with ⟨h0, _⟩ | ⟨b, off, cap, cur, e, hbb, hb, hnc, hmx, hsz, ht⟩
  ·omega
  rw [Nat.mul_one] at e
  injection e with e1 e2 e3
  subst e1 e3
  rw [Nat.mul_one] at hsz ht
  rw [Nat.mul_one] at ht
  have hvb : vb ≠ b := fun e => hne b rfl (by rw [e]; rfl)
  rcases Nat.lt_or_ge c (n + 1) with hroom | hroom
  ·refine (Jt b off n c i vb 0 vc cs x w rU cur hin hnc hroom hbig Bd hx hb ht hcl h1c h1v).mono ?_
   rintro e w' ⟨G, ROW, g1, g2, g3, g4, rfl, rfl⟩
   obtain ⟨o1, o2⟩ := LB (E := 74) (x := x) hbase hi hcl g1 g2 g3 g4
   exact ⟨_, _, rfl, zA o1, o2 _, .inr ⟨_, rfl, Nat.le_refl _⟩⟩
  ·refine (F8 b off n c i vb 0 vc cs x w rU cur hin hroom hmx hvb Bd hx hb hsz ht hcl h1c h1v).mono ?_
   rintro e w' ⟨rfl, rfl⟩
   obtain ⟨Zf, j1, j2, j3⟩ := Ig (w := w.drew) (x := x) hb hsz ht hroom hin
   refine ⟨_, _, rfl, Er j1 j2 j3 hroom hmx hbb, ?_, .inl rfl⟩
   exact ((u7 w _).trans (gV _ _ _ _)).trans (gV _ _ _ _)
 ·obtain rfl : i = n := Nat.le_antisymm hi hin
  have hnews := LA Bd hx
  have h1w : ∀ u ∈ [x], u.oneCell' = true := fun u hu => by rw [List.mem_singleton.1 hu]; exact h1v
  have U1 := fun ty => Ed (P := Try.prog) w base 99 ty 74 i0 (.pointer none) 1 8 Try.underlying99 hi0 hz0 hzs hzb rfl (by decide) (.slice A i c) i cs hq ⟨vb, 0, none⟩ 1 vc [x] rfl hnews h1w (by decide) (by unfold maxLen; omega) hbig hbase
  obtain ⟨v1, w1, hrun, ho, hg, hat⟩ := U1 0
  have hrun : ∀ ty, (Builtin.append_ #[99, 99] ty #[.slice A i c, .slice (some ⟨vb, 0, none⟩) 1 vc]).run Try.prog w = .ok v1 w1 := fun ty => hrun
  have ein : bz cs i x = cs ++ [x] := by unfold bz; rw [List.take_of_length_le (by omega), List.drop_eq_nil_of_le (by omega)]
  obtain ⟨A', c', rfl⟩ : ∃ A' c', v1 = .slice A' (i + 1) c' := by
   rcases ho.2 with ⟨h0, _⟩ | ⟨g, off, cap, cur, e, _⟩
   ·omega
   ·exact ⟨_, _, e⟩
  refine (Lx A i c vb 0 vc w hrun).mono ?_
  rintro e w' ⟨rfl, rfl⟩
  exact ⟨A', c', rfl, by rw [ein]; exact ho, hg, hat⟩
section
variable {w w0 : World} {base : Nat} {gs : List (List Ck)}
theorem Ju {ia ib i c : Nat} {A : Option Addr} {l : List ByteArray} {lv : Value} {x : ByteArray} (HS : aa w base gs) (hia : gs[ia]? = some [txt (.slice A l.length c) l]) (hib : gs[ib]? = some [txt lv [x]]) (hne : ia ≠ ib) (hi : i <= l.length) (hbase : base <= w.heap.size) (hbig : l.length <= 1000000000000) (HB : Below base w0 w) :
  Calls Try.prog 136 #[.slice A l.length c, .int .i64 (i : Int), lv] w fun e w' => ∃ A' c', e = .returned (.slice A' (bz l i x).length c') /\ aa w' base (gs.set ia [txt (.slice A' (bz l i x).length c') (bz l i x)]) /\ Below base w0 w' := by
 have h1 : w.ownsRow base 9 1 (.slice A l.length c) l.length (encs Value.string l) := by
  have := (HS.at ia hia).ok _ List.mem_cons_self
  have h2 : w.ownsRow base 9 1 (.slice A l.length c) (encs Value.string l).length (encs Value.string l) := this
  rwa [dD] at h2
 have h2 : w.ownsRow base 9 1 lv 1 [Value.string x] := (HS.at ib hib).ok _ List.mem_cons_self
 have h3 := HS.ND hne hia hib _ List.mem_cons_self _ List.mem_cons_self
 have hin : bz (encs Value.string l) i (Value.string x) = encs Value.string (bz l i x) := by unfold encs; rw [qX]
 have hln := fI x hi
 refine (VZ h1 h2 (fun k hk => h3 k hk) hi hbase (by omega) (fun v hv => by
  obtain ⟨b, _, rfl⟩ := List.mem_map.1 hv
  rfl) rfl).mono ?_
 rintro e w' ⟨A', c', rfl, ho, hg, hat⟩
 rw [hin] at ho
 rw [<- hln] at ho hat ⊢
 refine ⟨A', c', rfl, HS.turn ia hia (Sat.one (c := txt (.slice A' (bz l i x).length c') (bz l i x)) ?_) ⟨hg.size, fun k hk hnot => hg.block k hk fun he => hnot ⟨_, List.mem_singleton_self _, he.symm⟩⟩ (si hat), HB.grown hg hbase fun k hk => ((HS.at ia hia).ge ⟨_, List.mem_cons_self, hk⟩)⟩
 show w'.ownsRow base 9 1 _ (encs Value.string (bz l i x)).length (encs Value.string (bz l i x))
 rw [dD]
 exact ho
theorem XY {ia ib i c : Nat} {A : Option Addr} {l : List NT} {lv : Value} {r : NT} (HS : aa w base gs) (hia : gs[ia]? = some [.kT 74 (.slice A l.length c) (ptrs l)]) (hib : gs[ib]? = some [.own 74 lv [bO r.p]]) (hne : ia ≠ ib) (hi : i <= l.length) (hbase : base <= w.heap.size) (hbig : l.length <= 1000000000000) (HB : Below base w0 w) :
  Calls Try.prog 128 #[.slice A l.length c, .int .i64 (i : Int), lv] w fun e w' => ∃ A' c', e = .returned (.slice A' (bz l i r).length c') /\ aa w' base (gs.set ia [.kT 74 (.slice A' (bz l i r).length c') (ptrs (bz l i r))]) /\ Below base w0 w' := by
 have hpl : ∀ m : List NT, (ptrs m).length = m.length := fun m => by rw [fu, dD, List.length_map]
 have h1 : kW w base 74 1 (.slice A l.length c) l.length (ptrs l) := by
  have := (HS.at ia hia).ok _ List.mem_cons_self
  have h2 : kW w base 74 1 (.slice A l.length c) (ptrs l).length (ptrs l) := this
  rwa [hpl] at h2
 have h2 : w.ownsRow base 74 1 lv 1 [bO r.p] := (HS.at ib hib).ok _ List.mem_cons_self
 have h3 := HS.ND hne hia hib _ List.mem_cons_self _ List.mem_cons_self
 have hin : bz (ptrs l) i (bO r.p) = ptrs (bz l i r) := by rw [fu, fu]; unfold encs; rw [qX, qX]
 have hln := fI r hi
 refine (V3 h1 h2 (fun k hk => h3 k hk) hi hbase (by omega) (fun v hv => by
  rw [fu] at hv
  obtain ⟨b, _, rfl⟩ := List.mem_map.1 hv
  rfl) rfl).mono ?_
 rintro e w' ⟨A', c', rfl, ho, hg, hat⟩
 rw [hin] at ho
 rw [<- hln] at ho hat ⊢
 refine ⟨A', c', rfl, HS.turn ia hia (Sat.one (c := .kT 74 (.slice A' (bz l i r).length c') (ptrs (bz l i r))) ?_) ⟨hg.size, fun k hk hnot => hg.block k hk fun he => hnot ⟨_, List.mem_singleton_self _, he.symm⟩⟩ (si hat), HB.grown hg hbase fun k hk => ((HS.at ia hia).ge ⟨_, List.mem_cons_self, hk⟩)⟩
 show kW w' base 74 1 _ (ptrs (bz l i r)).length (ptrs (bz l i r))
 rw [hpl]
 exact ho
end
theorem uy {P : Program} {ops : Array Oper} {o : Oper} {a : Act} {w : World} {K : Act -> World -> Prop} {Q : Exit -> Act -> World -> Prop} {E : Prop}
  (hg : o.guard = none) (d x : Operand) (dT sT : TypeId) (hop : o.op = Op.call { callee := Callee.builtin Builtin.append, args := #[d, x], argTypes := #[dT, sT] })
  (v u : Value) (hd : a.eval d = v) (hx : a.eval x = u) {v' : Value} {w' : World} (hr : (Builtin.append_ #[dT, sT] o.type #[v, u]).run P w = .ok v' w') (hK : K (a.put o.dst v') w') :
  if Region.wanted o (yielded ops a.tmps) = true then Oper.wp P o a w K Q else E := by
 have hw : Region.wanted o (yielded ops a.tmps) = true := by simp [Region.wanted, hg]
 rw [if_pos hw]
 unfold Oper.wp
 simp [execOp, hop, resolve, invoke, builtin, hd, hx, hr, Result.andThen]
 exact hK
theorem Ih {e : TypeId} {z : Value} {n_ by_ : Nat} (h : (Try.prog.info? e).map (fun i => (i.zero, i.size, i.bytes)) = some (some z, n_, by_)) (w : World) : (zeroValue e).run Try.prog w = .ok z w := by
 obtain ⟨i0, hi, hz⟩ := Option.map_eq_some_iff.1 h
 simp only [Prod.mk.injEq] at hz
 simp [zeroValue, typeInfo, hi, hz.1]
theorem TC {α : Type} {A cs Z : List α} {z : α} {i n : Nat} (hn : cs.length = n) (hi : i < n) :
  ((((A ++ (cs ++ Z)).take (A.length + i) ++ cs.drop (i + 1) ++ (A ++ (cs ++ Z)).drop (A.length + i + (cs.drop (i + 1)).length)).take (A.length + (n - 1)) ++ [z] ++
   ((A ++ (cs ++ Z)).take (A.length + i) ++ cs.drop (i + 1) ++ (A ++ (cs ++ Z)).drop (A.length + i + (cs.drop (i + 1)).length)).drop (A.length + (n - 1) + [z].length)).drop A.length).take (n - 1) = cs.eraseIdx i := by
 have e1 : (A ++ (cs ++ Z)).take (A.length + i) = A ++ cs.take i := by
  rw [List.take_append, Nat.add_sub_cancel_left, List.take_of_length_le (by omega), List.take_append_of_le_length (by omega)]
 have hl : (A ++ cs.take i ++ cs.drop (i + 1)).length = A.length + (n - 1) := by rw [List.length_append, List.length_append, List.length_take, List.length_drop]; omega
 rw [e1]
 have e2 : ∀ D : List α, (A ++ cs.take i ++ cs.drop (i + 1) ++ D).take (A.length + (n - 1)) = A ++ (cs.take i ++ cs.drop (i + 1)) := fun D => by rw [<- hl, List.take_left, List.append_assoc]
 rw [e2, List.append_assoc, List.append_assoc, List.drop_left, List.eraseIdx_eq_take_drop_succ]
 have h3 : (cs.take i ++ cs.drop (i + 1)).length = n - 1 := by rw [List.length_append, List.length_take, List.length_drop]; omega
 rw [<- h3]
 exact List.take_left
theorem Jv {α β : Type} (f : α -> β) (l : List α) (i : Nat) : (l.map f).eraseIdx i = (l.eraseIdx i).map f := by
 rw [List.eraseIdx_eq_take_drop_succ, List.eraseIdx_eq_take_drop_succ, List.map_append, List.map_take, List.map_drop]
theorem NR {α : Type} {l cs : List α} {off n : Nat} (ht : (l.drop off).take n = cs) (hn : off + n <= l.length) : ∃ A Z, l = A ++ (cs ++ Z) /\ A.length = off /\ cs.length = n := by
 have h1 : (l.take off).length = off := by rw [List.length_take]; omega
 have h2 : cs.length = n := by rw [<- ht, List.length_take, List.length_drop]; omega
 have h3 : l.drop off = cs ++ (l.drop off).drop n := by rw [<- ht, List.take_append_drop]
 refine ⟨l.take off, (l.drop off).drop n, ?_, h1, h2⟩
 rw [<- h3, List.take_append_drop]
theorem Ii {w : World} {b E off n c i : Nat} {cur : Array Value} {cs : List Value} {z : Value} (hb : w.heap[b]? = some (.cells cur E (0, 0))) (hs : cur.size = off + c) (ht : (cur.toList.drop off).take n = cs) (hroom : n <= c) (hi : i < n) :
  ∃ cur', ((w.setCells b (off + i) (cs.drop (i + 1))).setCells b (off + (n - 1)) [z]).heap[b]? = some (.cells cur' E (0, 0)) /\ cur'.size = off + c /\ (cur'.toList.drop off).take (n - 1) = cs.eraseIdx i := by
 have hl : cur.toList.length = off + c := by rw [Array.length_toList]; exact hs
 obtain ⟨A, Z, e, hA, hcl⟩ := NR ht (by omega)
 have hd : (cs.drop (i + 1)).length = n - (i + 1) := by rw [List.length_drop]; omega
 obtain ⟨c1, h1, h2, h3⟩ := eF (cs.drop (i + 1)) (off + i) w cur hb (by rw [hd]; omega)
 obtain ⟨c2, h4, h5, h6⟩ := eF [z] (off + (n - 1)) _ c1 h1 (by simp only [List.length_cons, List.length_nil]; omega)
 refine ⟨c2, h4, by omega, ?_⟩
 rw [h6, h3, e]
 subst hA
 exact TC hcl hi
set_option maxHeartbeats 4000000 in
theorem Jw (b off n c i : Nat) (cs : List Value) (w : World) (cur : Array Value) (hi : i < n) (hnc : n <= c) (hc63 : off + c <= maxLen) (hb : w.heap[b]? = some (.cells cur 9 (0, 0))) (hsz : cur.size = off + c)
  (hcs : (cur.toList.drop off).take n = cs) (hcl : cs.length = n) (h1c : ∀ v ∈ cs, v.oneCell' = true) :
  Calls Try.prog 139 #[.slice (some ⟨b, off, none⟩) n c, .int .i64 (i : Int), .int .i64 ((i : Int) + 1)] w fun e w' =>
   e = .returned (.slice (some ⟨b, off, none⟩) (n - 1) c) /\ w' = (w.drew.setCells b (off + i) (cs.drop (i + 1))).setCells b (off + (n - 1)) [(.string ⟨#[]⟩)] := by
 have hc' : c <= 9223372036854775807 := by unfold maxLen at hc63; omega
 obtain ⟨i0, hi0, hzz⟩ := Option.map_eq_some_iff.1 eU
 simp only [Prod.mk.injEq] at hzz
 obtain ⟨hz0, hzs, hzb⟩ := hzz
 have hcc : ∀ j v, cs[j]? = some v -> w.cell? ⟨b, off + j, none⟩ = some v := fun j v hj => by
  rw [dB hb, <- Array.getElem?_toList]
  exact jY hcs hj
 have hdl : (cs.drop (i + 1)).length = n - (i + 1) := by rw [List.length_drop, hcl]
 obtain ⟨A, hA, hsrc⟩ : ∃ A : Addr, (if c = i + 1 then (some ⟨b, off, none⟩ : Option Addr) else some ⟨b, off + (i + 1), none⟩) = some A /\ ∀ j u, (cs.drop (i + 1))[j]? = some u -> w.drew.cell? (A.add j) = some u := by
  by_cases h : c = i + 1
  ·refine ⟨⟨b, off, none⟩, by simp [h], fun t u hu => ?_⟩
   rw [List.drop_eq_nil_of_le (by omega)] at hu
   cases hu
  ·refine ⟨⟨b, off + (i + 1), none⟩, by simp [h], fun t u hu => ?_⟩
   rw [Addr.add_lit, Nat.add_assoc]
   exact hcc (i + 1 + t) u (by rwa [List.getElem?_drop] at hu)
 have hap : ∀ ty ca, (Builtin.append_ #[38, 38] ty #[.slice (some ⟨b, off, none⟩) i c, .slice (some A) (n - (i + 1)) ca]).run Try.prog w.drew = .ok (.slice (some ⟨b, off, none⟩) (i + (n - (i + 1))) c) (w.drew.setCells b (off + i) (cs.drop (i + 1))) := fun ty ca => by
  have h := run_append_room_cells (P := Try.prog) w.drew 38 ty 9 i0 Try.underlying38 hi0 b off i c A (n - (i + 1)) ca (cs.drop (i + 1)) (by rw [hdl, hzs, Nat.mul_one]) hsrc (fun v hv => h1c v (List.mem_of_mem_drop hv)) (by omega)
   (fun j hj => by
    rw [hzs, Nat.mul_one]
    show (w.cell? _).isSome = true
    rw [dB hb, Array.getElem?_eq_getElem (by omega)]
    rfl) (fun j hj => dX (w := w.drew) hb _)
  rw [hzs, Nat.mul_one] at h
  exact h
 obtain ⟨W1, hW1⟩ : ∃ W1, W1 = w.drew.setCells b (off + i) (cs.drop (i + 1)) := ⟨_, rfl⟩
 obtain ⟨UY, k1, k2, k3⟩ := eF (cs.drop (i + 1)) (off + i) w.drew cur hb (by rw [hdl]; omega)
 rw [<- hW1] at k1 hap
 have hln : i + (n - (i + 1)) = n - 1 := by omega
 have hrp : List.replicate (n - (i + (n - (i + 1)))) ((.string ⟨#[]⟩) : Value) = [(.string ⟨#[]⟩)] := by
  rw [show n - (i + (n - (i + 1))) = 1 by omega]
  rfl
 have hclr : ∀ ty ca, (Builtin.clear_ #[38] ty #[.slice (some ⟨b, off + (i + (n - (i + 1))), none⟩) (n - (i + (n - (i + 1)))) ca]).run Try.prog W1 = .ok (.tuple #[]) (W1.setCells b (off + (n - 1)) [(.string ⟨#[]⟩)]) := fun ty ca => by
  have h := Lib.run_clear_slice (P := Try.prog) W1 38 9 ty (.string ⟨#[]⟩) Try.underlying38 (Ih eU) rfl rfl b (off + (i + (n - (i + 1)))) (n - (i + (n - (i + 1)))) ca (by omega)
   (fun t ht => by
    rw [dB k1, Array.getElem?_eq_getElem (by omega)]
    rfl) (fun t ht => dX k1 _)
  rw [hrp, hln] at h
  rw [hln]
  exact h
 have HW := A_ hW1
 clear hW1 k1 k2 k3 hcc hsrc hcs hcl h1c hsz hb hdl hrp
 have HL := A_ hln
 clear hln
 have hw1 : IntKind.i64.wrap ((i : Int) + 1) = (i : Int) + 1 := by rw [IntKind.wrap_i64]; omega
 have hz2 : ¬ ((i : Int) = (i : Int) + 1) := by omega
 have hb1 : (0 : Int) <= (i : Int) + 1 := by omega
 have hb2 : (i : Int) + 1 <= (n : Int) := by omega
 have hb3 : (i : Int) <= (i : Int) + 1 := by omega
 have htn : ((i : Int) + 1).toNat = i + 1 := by omega
 have hic : i <= c := by omega
 have hin : i + 1 <= n := by omega
 have hle : i + (n - (i + 1)) <= n := by omega
 have hne : ¬ (c = i + (n - (i + 1))) := by omega
 go_enter Try.func139, Try.ntmps139
 go_wp2_with fail
 go_region_law (refine uy rfl _ _ 38 38 rfl (.slice (some ⟨b, off, none⟩) i c) (.slice (some A) (n - (i + 1)) (c - (i + 1))) (by simp [Act.eval, Act.put]) (by simp [Act.eval, Act.put]; first | exact hA | done) (hap _ _) ?_)
 go_wp2
 go_ret
 rw [HL.out]
 exact ⟨rfl, by rw [HW.out]⟩
theorem V4 {base n c i : Nat} {A : Option Addr} {cs : List Value} {w : World} (hq : w.ownsRow base 9 1 (.slice A n c) n cs) (hi : i < n) (h1c : ∀ v ∈ cs, v.oneCell' = true) :
  Calls Try.prog 139 #[.slice A n c, .int .i64 (i : Int), .int .i64 ((i : Int) + 1)] w fun e w' => e = .returned (.slice A (n - 1) c) /\ w'.ownsRow base 9 1 (.slice A (n - 1) c) (n - 1) (cs.eraseIdx i) /\ w.grownBy w' (Value.slice A n c).ownBlock := by
 have hcl : cs.length = n := by rw [hq.1, Nat.mul_one]
 rcases hq.2 with ⟨_, h0⟩ | ⟨b, cap, cur, e, hbb, hb, hnc, hmx, hsz, ht⟩
 ·omega
 injection e with e1 e2 e3
 subst e1 e3
 rw [Nat.mul_one] at hsz ht
 replace hmx : 0 + c <= maxLen := by omega
 replace hsz : cur.size = 0 + c := by omega
 rw [show cur.toList = cur.toList.drop 0 from rfl] at ht
 refine (Jw b 0 n c i cs w cur hi hnc hmx hb hsz ht hcl h1c).mono ?_
 rintro e w' ⟨rfl, rfl⟩
 obtain ⟨Zf, j1, j2, j3⟩ := Ii (w := w.drew) (z := (.string ⟨#[]⟩)) hb hsz ht hnc hi
 exact ⟨rfl, zz j1 j2 j3 (by omega) hmx hbb, ((u7 w _).trans (gV _ _ _ _)).trans (gV _ _ _ _)⟩
set_option maxHeartbeats 4000000 in
theorem Jy (b off n c i : Nat) (cs : List Value) (w : World) (cur : Array Value) (hi : i < n) (hnc : n <= c) (hc63 : off + c <= maxLen) (hb : w.heap[b]? = some (.cells cur 74 (0, 0))) (hsz : cur.size = off + c)
  (hcs : (cur.toList.drop off).take n = cs) (hcl : cs.length = n) (h1c : ∀ v ∈ cs, v.oneCell' = true) :
  Calls Try.prog 142 #[.slice (some ⟨b, off, none⟩) n c, .int .i64 (i : Int), .int .i64 ((i : Int) + 1)] w fun e w' =>
   e = .returned (.slice (some ⟨b, off, none⟩) (n - 1) c) /\ w' = (w.drew.setCells b (off + i) (cs.drop (i + 1))).setCells b (off + (n - 1)) [(.pointer none)] := by
 have hc' : c <= 9223372036854775807 := by unfold maxLen at hc63; omega
 obtain ⟨i0, hi0, hzz⟩ := Option.map_eq_some_iff.1 nH
 simp only [Prod.mk.injEq] at hzz
 obtain ⟨hz0, hzs, hzb⟩ := hzz
 have hcc : ∀ j v, cs[j]? = some v -> w.cell? ⟨b, off + j, none⟩ = some v := fun j v hj => by
  rw [dB hb, <- Array.getElem?_toList]
  exact jY hcs hj
 have hdl : (cs.drop (i + 1)).length = n - (i + 1) := by rw [List.length_drop, hcl]
 obtain ⟨A, hA, hsrc⟩ : ∃ A : Addr, (if c = i + 1 then (some ⟨b, off, none⟩ : Option Addr) else some ⟨b, off + (i + 1), none⟩) = some A /\ ∀ j u, (cs.drop (i + 1))[j]? = some u -> w.drew.cell? (A.add j) = some u := by
  by_cases h : c = i + 1
  ·refine ⟨⟨b, off, none⟩, by simp [h], fun t u hu => ?_⟩
   rw [List.drop_eq_nil_of_le (by omega)] at hu
   cases hu
  ·refine ⟨⟨b, off + (i + 1), none⟩, by simp [h], fun t u hu => ?_⟩
   rw [Addr.add_lit, Nat.add_assoc]
   exact hcc (i + 1 + t) u (by rwa [List.getElem?_drop] at hu)
 have hap : ∀ ty ca, (Builtin.append_ #[99, 99] ty #[.slice (some ⟨b, off, none⟩) i c, .slice (some A) (n - (i + 1)) ca]).run Try.prog w.drew = .ok (.slice (some ⟨b, off, none⟩) (i + (n - (i + 1))) c) (w.drew.setCells b (off + i) (cs.drop (i + 1))) := fun ty ca => by
  have h := run_append_room_cells (P := Try.prog) w.drew 99 ty 74 i0 Try.underlying99 hi0 b off i c A (n - (i + 1)) ca (cs.drop (i + 1)) (by rw [hdl, hzs, Nat.mul_one]) hsrc (fun v hv => h1c v (List.mem_of_mem_drop hv)) (by omega)
   (fun j hj => by
    rw [hzs, Nat.mul_one]
    show (w.cell? _).isSome = true
    rw [dB hb, Array.getElem?_eq_getElem (by omega)]
    rfl) (fun j hj => dX (w := w.drew) hb _)
  rw [hzs, Nat.mul_one] at h
  exact h
 obtain ⟨W1, hW1⟩ : ∃ W1, W1 = w.drew.setCells b (off + i) (cs.drop (i + 1)) := ⟨_, rfl⟩
 obtain ⟨UY, k1, k2, k3⟩ := eF (cs.drop (i + 1)) (off + i) w.drew cur hb (by rw [hdl]; omega)
 rw [<- hW1] at k1 hap
 have hln : i + (n - (i + 1)) = n - 1 := by omega
 have hrp : List.replicate (n - (i + (n - (i + 1)))) ((.pointer none) : Value) = [(.pointer none)] := by
  rw [show n - (i + (n - (i + 1))) = 1 by omega]
  rfl
 have hclr : ∀ ty ca, (Builtin.clear_ #[99] ty #[.slice (some ⟨b, off + (i + (n - (i + 1))), none⟩) (n - (i + (n - (i + 1)))) ca]).run Try.prog W1 = .ok (.tuple #[]) (W1.setCells b (off + (n - 1)) [(.pointer none)]) := fun ty ca => by
  have h := Lib.run_clear_slice (P := Try.prog) W1 99 74 ty (.pointer none) Try.underlying99 (Ih nH) rfl rfl b (off + (i + (n - (i + 1)))) (n - (i + (n - (i + 1)))) ca (by omega)
   (fun t ht => by
    rw [dB k1, Array.getElem?_eq_getElem (by omega)]
    rfl) (fun t ht => dX k1 _)
  rw [hrp, hln] at h
  rw [hln]
  exact h
 have HW := A_ hW1
 clear hW1 k1 k2 k3 hcc hsrc hcs hcl h1c hsz hb hdl hrp
 have HL := A_ hln
 clear hln
 have hw1 : IntKind.i64.wrap ((i : Int) + 1) = (i : Int) + 1 := by rw [IntKind.wrap_i64]; omega
 have hz2 : ¬ ((i : Int) = (i : Int) + 1) := by omega
 have hb1 : (0 : Int) <= (i : Int) + 1 := by omega
 have hb2 : (i : Int) + 1 <= (n : Int) := by omega
 have hb3 : (i : Int) <= (i : Int) + 1 := by omega
 have htn : ((i : Int) + 1).toNat = i + 1 := by omega
 have hic : i <= c := by omega
 have hin : i + 1 <= n := by omega
 have hle : i + (n - (i + 1)) <= n := by omega
 have hne : ¬ (c = i + (n - (i + 1))) := by omega
 go_enter Try.func142, Try.ntmps142
 go_wp2_with fail
 go_region_law (refine uy rfl _ _ 99 99 rfl (.slice (some ⟨b, off, none⟩) i c) (.slice (some A) (n - (i + 1)) (c - (i + 1))) (by simp [Act.eval, Act.put]) (by simp [Act.eval, Act.put]; first | exact hA | done) (hap _ _) ?_)
 go_wp2
 go_ret
 rw [HL.out]
 exact ⟨rfl, by rw [HW.out]⟩
theorem V5 {base n c i : Nat} {A : Option Addr} {cs : List Value} {w : World} (hq : kW w base 74 1 (.slice A n c) n cs) (hi : i < n) (h1c : ∀ v ∈ cs, v.oneCell' = true) :
  Calls Try.prog 142 #[.slice A n c, .int .i64 (i : Int), .int .i64 ((i : Int) + 1)] w fun e w' => e = .returned (.slice A (n - 1) c) /\ kW w' base 74 1 (.slice A (n - 1) c) (n - 1) (cs.eraseIdx i) /\ w.grownBy w' (Value.slice A n c).ownBlock := by
 have hcl : cs.length = n := by rw [hq.1, Nat.mul_one]
 rcases hq.2 with ⟨h0, _⟩ | ⟨b, off, cap, cur, e, hbb, hb, hnc, hmx, hsz, ht⟩
 ·omega
 rw [Nat.mul_one] at e
 injection e with e1 e2 e3
 subst e1 e3
 rw [Nat.mul_one] at hsz ht
 rw [Nat.mul_one] at ht
 refine (Jy b off n c i cs w cur hi hnc hmx hb hsz ht hcl h1c).mono ?_
 rintro e w' ⟨rfl, rfl⟩
 obtain ⟨Zf, j1, j2, j3⟩ := Ii (w := w.drew) (z := (.pointer none)) hb hsz ht hnc hi
 exact ⟨rfl, Er j1 j2 j3 (by omega) hmx hbb, ((u7 w _).trans (gV _ _ _ _)).trans (gV _ _ _ _)⟩
section
variable {w w0 : World} {base : Nat} {gs : List (List Ck)}
theorem TD {ia i c : Nat} {A : Option Addr} {l : List ByteArray} (HS : aa w base gs) (hia : gs[ia]? = some [txt (.slice A l.length c) l]) (hi : i < l.length) (hbase : base <= w.heap.size) (HB : Below base w0 w) :
  Calls Try.prog 139 #[.slice A l.length c, .int .i64 (i : Int), .int .i64 ((i : Int) + 1)] w fun e w' => e = .returned (.slice A (l.eraseIdx i).length c) /\ aa w' base (gs.set ia [txt (.slice A (l.eraseIdx i).length c) (l.eraseIdx i)]) /\ Below base w0 w' := by
 have h1 : w.ownsRow base 9 1 (.slice A l.length c) l.length (encs Value.string l) := by
  have := (HS.at ia hia).ok _ List.mem_cons_self
  have h2 : w.ownsRow base 9 1 (.slice A l.length c) (encs Value.string l).length (encs Value.string l) := this
  rwa [dD] at h2
 have hin : (encs Value.string l).eraseIdx i = encs Value.string (l.eraseIdx i) := by unfold encs; rw [Jv]
 have hln : (l.eraseIdx i).length = l.length - 1 := List.length_eraseIdx_of_lt hi
 refine (V4 h1 hi (fun v hv => by
  obtain ⟨b, _, rfl⟩ := List.mem_map.1 hv
  rfl)).mono ?_
 rintro e w' ⟨rfl, ho, hg⟩
 rw [hin] at ho
 rw [<- hln] at ho ⊢
 refine ⟨rfl, HS.turn ia hia (Sat.one (c := txt (.slice A (l.eraseIdx i).length c) (l.eraseIdx i)) ?_) ⟨hg.size, fun k hk hnot => hg.block k hk fun he => hnot ⟨_, List.mem_singleton_self _, he.symm⟩⟩ (si (.inl ?_)), HB.grown hg hbase fun k hk => ((HS.at ia hia).ge ⟨_, List.mem_cons_self, hk⟩)⟩
 ·show w'.ownsRow base 9 1 _ (encs Value.string (l.eraseIdx i)).length (encs Value.string (l.eraseIdx i))
  rw [dD]
  exact ho
 ·cases A <;> rfl
theorem XZ {ia i c : Nat} {A : Option Addr} {l : List NT} (HS : aa w base gs) (hia : gs[ia]? = some [.kT 74 (.slice A l.length c) (ptrs l)]) (hi : i < l.length) (hbase : base <= w.heap.size) (HB : Below base w0 w) :
  Calls Try.prog 142 #[.slice A l.length c, .int .i64 (i : Int), .int .i64 ((i : Int) + 1)] w fun e w' => e = .returned (.slice A (l.eraseIdx i).length c) /\ aa w' base (gs.set ia [.kT 74 (.slice A (l.eraseIdx i).length c) (ptrs (l.eraseIdx i))]) /\ Below base w0 w' := by
 have hpl : ∀ m : List NT, (ptrs m).length = m.length := fun m => by rw [fu, dD, List.length_map]
 have h1 : kW w base 74 1 (.slice A l.length c) l.length (ptrs l) := by
  have := (HS.at ia hia).ok _ List.mem_cons_self
  have h2 : kW w base 74 1 (.slice A l.length c) (ptrs l).length (ptrs l) := this
  rwa [hpl] at h2
 have hin : (ptrs l).eraseIdx i = ptrs (l.eraseIdx i) := by rw [fu, fu]; unfold encs; rw [Jv, Jv]
 have hln : (l.eraseIdx i).length = l.length - 1 := List.length_eraseIdx_of_lt hi
 refine (V5 h1 hi (fun v hv => by
  rw [fu] at hv
  obtain ⟨b, _, rfl⟩ := List.mem_map.1 hv
  rfl)).mono ?_
 rintro e w' ⟨rfl, ho, hg⟩
 rw [hin] at ho
 rw [<- hln] at ho ⊢
 refine ⟨rfl, HS.turn ia hia (Sat.one (c := .kT 74 (.slice A (l.eraseIdx i).length c) (ptrs (l.eraseIdx i))) ?_) ⟨hg.size, fun k hk hnot => hg.block k hk fun he => hnot ⟨_, List.mem_singleton_self _, he.symm⟩⟩ (si (.inl ?_)), HB.grown hg hbase fun k hk => ((HS.at ia hia).ge ⟨_, List.mem_cons_self, hk⟩)⟩
 ·show kW w' base 74 1 _ (ptrs (l.eraseIdx i)).length (ptrs (l.eraseIdx i))
  rw [hpl]
  exact ho
 ·cases A <;> rfl
end
theorem Es (A : Option Addr) (c : Nat) (l : List ByteArray) (n : Nat) (w : World) (hn : n = l.length) (hr : Kd.string.C w A n l) (hc : n <= c) (hl : l.length <= 1000000000000) :
  Calls Try.prog 74 #[.slice A n c] w fun e w' => ∃ kI : Value, e = .returned (kI) /\ Kd.string.R 9 w' w.heap.size (fun _ => True) kI l /\ Below w.heap.size w w' := by
 subst hn
 refine bn.calls A c l l w hr hc ?_
 unfold bn.f
 rw [Option.bind_some, if_pos (by simp only [List.length_nil]; omega)]
 rfl
def sZ {α : Type} (rs : Nat -> List α) : Nat -> List α
 | 0 => []
 | i + 1 => sZ rs i ++ rs i
theorem Ij {w : World} {E n G : Nat} {z : Value} (h1 : n <= G) (h2 : G <= maxLen) (hz : z.cells.size = 1) : (w.drew.alloc (.cells (Builtin.zeroCells z.cells n ++ Builtin.zeroCells z.cells (G - n)) E)).ownsRow w.heap.size E 1 (.slice (some ⟨w.heap.size, 0, none⟩) 0 G) 0 [] := by
 refine ⟨rfl, .inr ⟨w.heap.size, G, _, rfl, Nat.le_refl _, heap_alloc_new w.drew _, Nat.zero_le _, h2, ?_, by simp⟩⟩
 simp [Builtin.zeroCells, hz]
 omega
set_option maxHeartbeats 4000000 in
theorem TE (n : Nat) (w : World) (hn : n * 16 <= 140737488355328) :
  Calls Try.prog 146 #[.slice none 0 0, .int .i64 (n : Int)] w fun e w' => ∃ v, e = .returned v /\ Kd.R Kd.string 9 w' w.heap.size (fun _ => True) v [] /\ Below w.heap.size w w' := by
 have hw1 : IntKind.i64.wrap (n : Int) = (n : Int) := by rw [IntKind.wrap_i64]; omega
 have hnn : ¬ ((n : Int) < 0) := by omega
 rcases Nat.eq_zero_or_pos n with h0 | h0
 ·subst h0
  go_enter Try.func146, Try.ntmps146
  go_wp2
  go_ret
  exact ⟨_, rfl, Kd.yR _ _ _ _ _, Below.refl _ _⟩
 ·obtain ⟨i0, hi0, hzz⟩ := Option.map_eq_some_iff.1 eU
  simp only [Prod.mk.injEq] at hzz
  obtain ⟨hz0, hzs, hzb⟩ := hzz
  obtain ⟨G, hG⟩ : ∃ G, G = grownCap w n 0 9 := ⟨_, rfl⟩
  have hGn : n <= G := by rw [hG]; exact grownCap_ge w _ _ _
  have hG63 : G <= maxLen := by rw [hG]; exact grownCap_le_maxLen w n 0 9 (by unfold maxLen; omega)
  have hrz : ∀ ty, (Builtin.append_ #[38, 3] ty #[.slice none 0 0, .int .i64 (n : Int)]).run Try.prog w = .ok (.slice (some ⟨w.heap.size, 0, none⟩) n G) (w.drew.alloc (.cells (Builtin.zeroCells (Value.cells (.string ⟨#[]⟩)) n ++ Builtin.zeroCells (Value.cells (.string ⟨#[]⟩)) (G - n)) 9)) := fun ty => by
   rw [hG]
   exact Lib.run_append_nil_zeros w 38 3 ty 9 i0 _ .i64 .i64 Try.underlying38 Try.underlying3 hi0 hz0 n h0 (by omega) (by omega) (by rw [hzb]; omega)
  have hown := Ij (w := w) (E := 9) (z := (.string ⟨#[]⟩)) hGn hG63 rfl
  obtain ⟨W1, hW1⟩ : ∃ W1, W1 = w.drew.alloc (.cells (Builtin.zeroCells (Value.cells (.string ⟨#[]⟩)) n ++ Builtin.zeroCells (Value.cells (.string ⟨#[]⟩)) (G - n)) 9) := ⟨_, rfl⟩
  rw [<- hW1] at hrz hown
  have HO := A_ hown
  have HB : ae (Below w.heap.size w W1) := ⟨by rw [hW1]; exact Below.alloc (aH (Below.refl _ _)) (Nat.le_refl _) _⟩
  clear hown hW1 hG
  have hp : (0 : Int) < (n : Int) := by omega
  have hG9 : G <= 9223372036854775807 := by unfold maxLen at hG63; omega
  go_enter Try.func146, Try.ntmps146
  go_wp2_with (at_builtin; refine Lib.wpList_append_run _ rfl _ _ _ _ rfl _ _ rfl rfl _ _ (hrz _) ?_)
  go_ret
  exact ⟨_, rfl, Kd.pJ (enc := Value.string) (xs := []) (h1 := fun _ => rfl) HO.out (fun _ _ => trivial), HB.out⟩
set_option maxHeartbeats 4000000 in
theorem TF (n : Nat) (w : World) (hn : n * 8 <= 140737488355328) :
  Calls Try.prog 147 #[.slice none 0 0, .int .i64 (n : Int)] w fun e w' => ∃ v, e = .returned v /\ Kd.R gL 74 w' w.heap.size (fun _ => True) v [] /\ Below w.heap.size w w' := by
 have hw1 : IntKind.i64.wrap (n : Int) = (n : Int) := by rw [IntKind.wrap_i64]; omega
 have hnn : ¬ ((n : Int) < 0) := by omega
 rcases Nat.eq_zero_or_pos n with h0 | h0
 ·subst h0
  go_enter Try.func147, Try.ntmps147
  go_wp2
  go_ret
  exact ⟨_, rfl, Kd.yR _ _ _ _ _, Below.refl _ _⟩
 ·obtain ⟨i0, hi0, hzz⟩ := Option.map_eq_some_iff.1 nH
  simp only [Prod.mk.injEq] at hzz
  obtain ⟨hz0, hzs, hzb⟩ := hzz
  obtain ⟨G, hG⟩ : ∃ G, G = grownCap w n 0 74 := ⟨_, rfl⟩
  have hGn : n <= G := by rw [hG]; exact grownCap_ge w _ _ _
  have hG63 : G <= maxLen := by rw [hG]; exact grownCap_le_maxLen w n 0 74 (by unfold maxLen; omega)
  have hrz : ∀ ty, (Builtin.append_ #[99, 3] ty #[.slice none 0 0, .int .i64 (n : Int)]).run Try.prog w = .ok (.slice (some ⟨w.heap.size, 0, none⟩) n G) (w.drew.alloc (.cells (Builtin.zeroCells (Value.cells (.pointer none)) n ++ Builtin.zeroCells (Value.cells (.pointer none)) (G - n)) 74)) := fun ty => by
   rw [hG]
   exact Lib.run_append_nil_zeros w 99 3 ty 74 i0 _ .i64 .i64 Try.underlying99 Try.underlying3 hi0 hz0 n h0 (by omega) (by omega) (by rw [hzb]; omega)
  have hown := Ij (w := w) (E := 74) (z := (.pointer none)) hGn hG63 rfl
  obtain ⟨W1, hW1⟩ : ∃ W1, W1 = w.drew.alloc (.cells (Builtin.zeroCells (Value.cells (.pointer none)) n ++ Builtin.zeroCells (Value.cells (.pointer none)) (G - n)) 74) := ⟨_, rfl⟩
  rw [<- hW1] at hrz hown
  have HO := A_ hown
  have HB : ae (Below w.heap.size w W1) := ⟨by rw [hW1]; exact Below.alloc (aH (Below.refl _ _)) (Nat.le_refl _) _⟩
  clear hown hW1 hG
  have hp : (0 : Int) < (n : Int) := by omega
  have hG9 : G <= 9223372036854775807 := by unfold maxLen at hG63; omega
  go_enter Try.func147, Try.ntmps147
  go_wp2_with (at_builtin; refine Lib.wpList_append_run _ rfl _ _ _ _ rfl _ _ rfl rfl _ _ (hrz _) ?_)
  go_ret
  exact ⟨_, rfl, Kd.pJ (enc := bO) (xs := []) (h1 := fun _ => rfl) HO.out (fun _ _ => trivial), HB.out⟩
theorem NS (gv m cv : Nat) (A : Nat -> Option Addr) (c : Nat -> Nat) (rs : Nat -> List ByteArray) (w : World) (hV : ∀ j, j < m -> w.cell? ⟨gv, j, none⟩ = some (.slice (A j) (rs j).length (c j))) (hR : ∀ j, j < m -> Kd.C Kd.string w (A j) (rs j).length (rs j)) (hC : ∀ j, j < m -> (rs j).length <= c j) (hmc : m <= cv) (hm : m <= 1000)
  (hbig : ∀ j, j <= m -> (sZ rs j).length <= 1000000000000) :
  Calls Try.prog 140 #[.slice (some ⟨gv, 0, none⟩) m cv] w fun e w' => ∃ v, e = .returned v /\ Kd.R Kd.string 9 w' w.heap.size (fun _ => True) v (sZ rs m) /\ Below w.heap.size w w' := by
 have HV := A_ hV
 have HR := A_ hR
 have HC := A_ hC
 have HL := A_ hbig
 clear hV hR hC hbig
 have hstep : ae (∀ j, (sZ rs (j + 1)).length = (sZ rs j).length + (rs j).length) := ⟨fun j => by show (sZ rs j ++ rs j).length = _; rw [List.length_append]⟩
 go_enter Try.func140, Try.ntmps140
 go_upto_region 3 with fail
 go_loopg [3, 11] m (fun kq u3 u11 w' => ∃ (i s : Nat), u3 = .int .i64 (s : Int) /\ u11 = .int .i64 (i : Int) /\ ae (s = (sZ rs i).length) /\ ae (kq + i = m) /\ w = w')
 case atStart => exact ⟨0, 0, by first | rfl | (simp; done), by first | rfl | (simp; done), ⟨rfl⟩, ⟨Nat.add_zero _⟩, rfl⟩
 case round =>
  obtain ⟨i, s, rfl, rfl, HS, HK, rfl⟩ := hrel
  by_cases hi : i < m
  ·have ce := pF ((i : Int) < (m : Int))
   have BU : (i < m) = True := eq_true hi
   have z := HV.out i hi
   have hs2 : s + (rs i).length <= 1000000000000 := by
    have h1 := HL.out (i + 1) (by omega)
    have h2 := hstep.out i
    have h3 := HS.out
    omega
   have HS2 := A_ hs2
   have w1 : wrap64 ((s : Int) + ((rs i).length : Int)) = ((s + (rs i).length : Nat) : Int) := jW ⟨by omega, by omega, by omega⟩
   have nn := mZ (((s + (rs i).length : Nat) : Int) < 0)
   have ci := dN (0 <= (i : Int))
   go_upto_region 6 with fail
   go_wp2_with fail
   go_roundg (m - (i + 1))
   case measure => have := HK.out; omega
   case rel => exact ⟨i + 1, s + (rs i).length, by first | rfl | (simp; done), by first | rfl | go_num | (simp; done), ⟨by rw [hstep.out, HS.out]⟩, ⟨by have := HK.out; omega⟩, rfl⟩
  ·have ce := mZ ((i : Int) < (m : Int))
   have BU : (i < m) = False := eq_false hi
   have hsb : s * 16 <= 140737488355328 := by
    have h1 := HL.out i (by have := HK.out; omega)
    have h2 := HS.out
    omega
   have HX := A_ (TE s w hsb)
   clear hi hsb HS
   go_wp2_with (first | (go_at_call 146; (with_reducible refine HX.out.mono ?_); rintro e w1 ⟨v1, rfl, ho, hb⟩; have HO := A_ ho; have HB := A_ hb; clear ho hb))
   go_upto_region 11 with fail
   go_loopg [6, 27] m (fun kq u6 u27 w' => ∃ (j : Nat), u27 = .int .i64 (j : Int) /\ ae (kq + j = m) /\ ae (Kd.R Kd.string 9 w' w.heap.size (fun _ => True) u6 (sZ rs j)) /\ ae (Below w.heap.size w w'))
   case atStart => exact ⟨0, by first | rfl | (simp; done), ⟨Nat.add_zero _⟩, HO, HB⟩
   case round =>
    clear HO HB
    obtain ⟨j, rfl, Vi, HO, HB⟩ := hrel
    obtain ⟨A6, c6, rfl⟩ := Kd.au HO.out
    by_cases hj : j < m
    ·have ce2 := pF ((j : Int) < (m : Int))
     have Zg : (j < m) = True := eq_true hj
     have ci2 := dN (0 <= (j : Int))
     have z := tq HB.out (HV.out j hj)
     have hle : ((sZ rs j).length + (rs j).length) * 16 <= 140737488355328 := by
      have h1 := HL.out (j + 1) (by omega)
      have h2 := hstep.out j
      omega
     have Gl := A_ hle
     have HJ := A_ hj
     have HR2 := A_ (Kd.aA (HR.out j hj) HB.out)
     clear hle
     go_upto_region 14 with (first | ((with_reducible refine di (b := .append) (xs := #[.tmp 31, .tmp 32]) rfl ?_); at_builtin; refine Kd.fU Kd.string (w0 := w) w.heap.size rfl (.tmp 31) (.tmp 32) 38 9 (.string ⟨#[]⟩) 16 rfl Try.underlying38 eU rfl (by decide) (by omega) (.slice A6 (sZ rs j).length c6) (sZ rs j) (rs j) (A j) (rs j).length (c j) (fun _ => True) (fun _ => False) rfl rfl HO.out HR2.out (fun _ _ h => h) (fun _ h => h.elim) (fun _ _ => trivial) HB.out (Below.size HB.out) Gl.out ?_; intro Z5 w16 ho hb hg hat; clear hg hat HO HB; have HO := A_ ho; have HB := A_ hb; clear ho hb))
     go_wp2_with fail
     go_roundg (m - (j + 1))
     case measure => have := Vi.out; omega
     case rel => exact ⟨j + 1, by first | rfl | go_num | (simp; done), ⟨by have := Vi.out; have := HJ.out; omega⟩, HO, HB⟩
    ·have ce2 := mZ ((j : Int) < (m : Int))
     have Zg : (j < m) = False := eq_false hj
     have HJ := A_ (show j = m by have := Vi.out; omega)
     clear hj
     go_wp2_with fail
     go_ret
     exact ⟨_, rfl, by rw [<- HJ.out]; exact HO.out, HB.out⟩
theorem NU (gv m cv : Nat) (A : Nat -> Option Addr) (c : Nat -> Nat) (rs : Nat -> List Nat) (w : World) (hV : ∀ j, j < m -> w.cell? ⟨gv, j, none⟩ = some (.slice (A j) (rs j).length (c j))) (hR : ∀ j, j < m -> Kd.C gL w (A j) (rs j).length (rs j)) (hC : ∀ j, j < m -> (rs j).length <= c j) (hmc : m <= cv) (hm : m <= 1000)
  (hbig : ∀ j, j <= m -> (sZ rs j).length <= 1000000000000) :
  Calls Try.prog 141 #[.slice (some ⟨gv, 0, none⟩) m cv] w fun e w' => ∃ v, e = .returned v /\ Kd.R gL 74 w' w.heap.size (fun _ => True) v (sZ rs m) /\ Below w.heap.size w w' := by
 have HV := A_ hV
 have HR := A_ hR
 have HC := A_ hC
 have HL := A_ hbig
 clear hV hR hC hbig
 have hstep : ae (∀ j, (sZ rs (j + 1)).length = (sZ rs j).length + (rs j).length) := ⟨fun j => by show (sZ rs j ++ rs j).length = _; rw [List.length_append]⟩
 go_enter Try.func141, Try.ntmps141
 go_upto_region 3 with fail
 go_loopg [3, 11] m (fun kq u3 u11 w' => ∃ (i s : Nat), u3 = .int .i64 (s : Int) /\ u11 = .int .i64 (i : Int) /\ ae (s = (sZ rs i).length) /\ ae (kq + i = m) /\ w = w')
 case atStart => exact ⟨0, 0, by first | rfl | (simp; done), by first | rfl | (simp; done), ⟨rfl⟩, ⟨Nat.add_zero _⟩, rfl⟩
 case round =>
  obtain ⟨i, s, rfl, rfl, HS, HK, rfl⟩ := hrel
  by_cases hi : i < m
  ·have ce := pF ((i : Int) < (m : Int))
   have BU : (i < m) = True := eq_true hi
   have z := HV.out i hi
   have hs2 : s + (rs i).length <= 1000000000000 := by
    have h1 := HL.out (i + 1) (by omega)
    have h2 := hstep.out i
    have h3 := HS.out
    omega
   have HS2 := A_ hs2
   have w1 : wrap64 ((s : Int) + ((rs i).length : Int)) = ((s + (rs i).length : Nat) : Int) := jW ⟨by omega, by omega, by omega⟩
   have nn := mZ (((s + (rs i).length : Nat) : Int) < 0)
   have ci := dN (0 <= (i : Int))
   go_upto_region 6 with fail
   go_wp2_with fail
   go_roundg (m - (i + 1))
   case measure => have := HK.out; omega
   case rel => exact ⟨i + 1, s + (rs i).length, by first | rfl | (simp; done), by first | rfl | go_num | (simp; done), ⟨by rw [hstep.out, HS.out]⟩, ⟨by have := HK.out; omega⟩, rfl⟩
  ·have ce := mZ ((i : Int) < (m : Int))
   have BU : (i < m) = False := eq_false hi
   have hsb : s * 8 <= 140737488355328 := by
    have h1 := HL.out i (by have := HK.out; omega)
    have h2 := HS.out
    omega
   have HX := A_ (TF s w hsb)
   clear hi hsb HS
   go_wp2_with (first | (go_at_call 147; (with_reducible refine HX.out.mono ?_); rintro e w1 ⟨v1, rfl, ho, hb⟩; have HO := A_ ho; have HB := A_ hb; clear ho hb))
   go_upto_region 11 with fail
   go_loopg [6, 27] m (fun kq u6 u27 w' => ∃ (j : Nat), u27 = .int .i64 (j : Int) /\ ae (kq + j = m) /\ ae (Kd.R gL 74 w' w.heap.size (fun _ => True) u6 (sZ rs j)) /\ ae (Below w.heap.size w w'))
   case atStart => exact ⟨0, by first | rfl | (simp; done), ⟨Nat.add_zero _⟩, HO, HB⟩
   case round =>
    clear HO HB
    obtain ⟨j, rfl, Vi, HO, HB⟩ := hrel
    obtain ⟨A6, c6, rfl⟩ := Kd.au HO.out
    by_cases hj : j < m
    ·have ce2 := pF ((j : Int) < (m : Int))
     have Zg : (j < m) = True := eq_true hj
     have ci2 := dN (0 <= (j : Int))
     have z := tq HB.out (HV.out j hj)
     have hle : ((sZ rs j).length + (rs j).length) * 8 <= 140737488355328 := by
      have h1 := HL.out (j + 1) (by omega)
      have h2 := hstep.out j
      omega
     have Gl := A_ hle
     have HJ := A_ hj
     have HR2 := A_ (Kd.aA (HR.out j hj) HB.out)
     clear hle
     go_upto_region 14 with (first | ((with_reducible refine di (b := .append) (xs := #[.tmp 31, .tmp 32]) rfl ?_); at_builtin; refine Kd.fU gL (w0 := w) w.heap.size rfl (.tmp 31) (.tmp 32) 99 74 (.pointer none) 8 rfl Try.underlying99 nH rfl (by decide) (by omega) (.slice A6 (sZ rs j).length c6) (sZ rs j) (rs j) (A j) (rs j).length (c j) (fun _ => True) (fun _ => False) rfl rfl HO.out HR2.out (fun _ _ h => h) (fun _ h => h.elim) (fun _ _ => trivial) HB.out (Below.size HB.out) Gl.out ?_; intro Z5 w16 ho hb hg hat; clear hg hat HO HB; have HO := A_ ho; have HB := A_ hb; clear ho hb))
     go_wp2_with fail
     go_roundg (m - (j + 1))
     case measure => have := Vi.out; omega
     case rel => exact ⟨j + 1, by first | rfl | go_num | (simp; done), ⟨by have := Vi.out; have := HJ.out; omega⟩, HO, HB⟩
    ·have ce2 := mZ ((j : Int) < (m : Int))
     have Zg : (j < m) = False := eq_false hj
     have HJ := A_ (show j = m by have := Vi.out; omega)
     clear hj
     go_wp2_with fail
     go_ret
     exact ⟨_, rfl, by rw [<- HJ.out]; exact HO.out, HB.out⟩
theorem Et {w : World} {base E n c : Nat} {Ag : Option Addr} {xs : List Value} (h : w.ownsRow base E 1 (.slice Ag n c) n xs) (hn : 0 < n) : ∃ g, Ag = some ⟨g, 0, none⟩ /\ n <= c /\ ∀ j x, xs[j]? = some x -> w.cell? ⟨g, j, none⟩ = some x := by
 rcases h.2 with ⟨_, h0⟩ | ⟨g, cap, cur, e, _, hh, hnc, _, _, ht⟩
 ·omega
 ·injection e with e1 e2 e3
  subst e1 e3
  rw [Nat.mul_one] at ht
  refine ⟨g, rfl, hnc, fun j x hj => ?_⟩
  rw [dB hh, <- Array.getElem?_toList]
  have := jY (l := cur.toList) (o := 0) (by rw [List.drop_zero]; exact ht) hj
  rwa [Nat.zero_add] at this
def Ik {α : Type} (a b c : α) : Nat -> α
 | 0 => a
 | 1 => b
 | _ => c
theorem V6 {w : World} {base cg c0 c1 c2 : Nat} {Ag A0 A1 A2 : Option Addr} {l0 l1 l2 : List ByteArray} (hg : w.ownsRow base 38 1 (.slice Ag 3 cg) 3 [.slice A0 l0.length c0, .slice A1 l1.length c1, .slice A2 l2.length c2])
  (h0 : Kd.string.C w A0 l0.length l0) (h1 : Kd.string.C w A1 l1.length l1) (h2 : Kd.string.C w A2 l2.length l2) (k0 : l0.length <= c0) (k1 : l1.length <= c1) (k2 : l2.length <= c2) (hb : l0.length + l1.length + l2.length <= 1000000000000) :
  Calls Try.prog 140 #[.slice Ag 3 cg] w fun e w' => ∃ v, e = .returned v /\ Kd.R Kd.string 9 w' w.heap.size (fun _ => True) v (l0 ++ l1 ++ l2) /\ Below w.heap.size w w' := by
 obtain ⟨g, rfl, hc, hx⟩ := Et hg (by decide)
 refine NS g 3 cg (Ik A0 A1 A2) (Ik c0 c1 c2) (Ik l0 l1 l2) w (fun j hj => ?_) (fun j hj => ?_) (fun j hj => ?_) hc (by decide) (fun j hj => ?_)
 ·match j, hj with
  | 0, _ => exact hx 0 _ rfl
  | 1, _ => exact hx 1 _ rfl
  | 2, _ => exact hx 2 _ rfl
 ·match j, hj with
  | 0, _ => exact h0
  | 1, _ => exact h1
  | 2, _ => exact h2
 ·match j, hj with
  | 0, _ => exact k0
  | 1, _ => exact k1
  | 2, _ => exact k2
 ·match j, hj with
  | 0, _ => exact Nat.zero_le _
  | 1, _ => show (([] : List ByteArray) ++ l0).length <= _; simp only [List.length_append, List.length_nil]; omega
  | 2, _ => show (([] : List ByteArray) ++ l0 ++ l1).length <= _; simp only [List.length_append, List.length_nil]; omega
  | 3, _ => show (([] : List ByteArray) ++ l0 ++ l1 ++ l2).length <= _; simp only [List.length_append, List.length_nil]; omega
theorem V7 {w : World} {base cg c0 c1 : Nat} {Ag A0 A1 : Option Addr} {l0 l1 : List Nat} (hg : w.ownsRow base 99 1 (.slice Ag 2 cg) 2 [.slice A0 l0.length c0, .slice A1 l1.length c1])
  (h0 : Kd.C gL w A0 l0.length l0) (h1 : Kd.C gL w A1 l1.length l1) (k0 : l0.length <= c0) (k1 : l1.length <= c1) (hb : l0.length + l1.length <= 1000000000000) :
  Calls Try.prog 141 #[.slice Ag 2 cg] w fun e w' => ∃ v, e = .returned v /\ Kd.R gL 74 w' w.heap.size (fun _ => True) v (l0 ++ l1) /\ Below w.heap.size w w' := by
 obtain ⟨g, rfl, hc, hx⟩ := Et hg (by decide)
 refine NU g 2 cg (Ik A0 A1 none) (Ik c0 c1 0) (Ik l0 l1 []) w (fun j hj => ?_) (fun j hj => ?_) (fun j hj => ?_) hc (by decide) (fun j hj => ?_)
 ·match j, hj with
  | 0, _ => exact hx 0 _ rfl
  | 1, _ => exact hx 1 _ rfl
 ·match j, hj with
  | 0, _ => exact h0
  | 1, _ => exact h1
 ·match j, hj with
  | 0, _ => exact k0
  | 1, _ => exact k1
 ·match j, hj with
  | 0, _ => exact Nat.zero_le _
  | 1, _ => show (([] : List Nat) ++ l0).length <= _; simp only [List.length_append, List.length_nil]; omega
  | 2, _ => show (([] : List Nat) ++ l0 ++ l1).length <= _; simp only [List.length_append, List.length_nil]; omega
set_option maxHeartbeats 8000000
set_option maxRecDepth 100000
theorem aa.pack {w : World} {base : Nat} {a b c : List Ck} {R : List (List Ck)} (h : aa w base (a :: b :: c :: R)) : aa w base [a, b, c, R.flatten] := by
 unfold aa at h ⊢
 simp only [List.flatten_cons, List.flatten_nil, List.append_nil] at h ⊢
 exact h
theorem aa.unpack {w : World} {base : Nat} {a b c : List Ck} {R : List (List Ck)} (h : aa w base [a, b, c, R.flatten]) : aa w base (a :: b :: c :: R) := by
 unfold aa at h ⊢
 simp only [List.flatten_cons, List.flatten_nil, List.append_nil] at h ⊢
 exact h
theorem LC.calls {p : Nat} {Ak Av : Option Addr} {ck cv : Nat} {ks vs : List ByteArray} {Sq : Value} {i : Nat} {x y : ByteArray} (hi : i <= ks.length) (hv : i <= vs.length) (hk1 : ks.length <= 1000000000000) (hv1 : vs.length <= 1000000000000) (base : Nat) (R : List (List Ck)) (w : World)
  (hs : aa w base ([.box 101 p #[.slice Ak ks.length ck, .slice Av vs.length cv, Sq]] :: [txt (.slice Ak ks.length ck) ks] :: [txt (.slice Av vs.length cv) vs] :: R)) (hbs : base <= w.heap.size) :
  Calls Try.prog 126 #[bO p, .int .i64 (i : Int), .string x, .string y] w fun e w' => e = .returned (.tuple #[]) /\ ∃ U2 MQ U3 cv', aa w' base ([.box 101 p #[.slice U2 (bz ks i x).length MQ, .slice U3 (bz vs i y).length cv', Sq]] :: [txt (.slice U2 (bz ks i x).length MQ) (bz ks i x)] :: [txt (.slice U3 (bz vs i y).length cv') (bz vs i y)] :: R) /\ Below base w w' := by
 have HS := A_ (aa.pack hs)
 have HB := A_ (Below.refl base w)
 have eB := A_ hbs
 obtain ⟨GR, Zh⟩ : ∃ G, G = R.flatten := ⟨_, rfl⟩
 rw [<- Zh] at HS
 have HGR := A_ Zh
 clear hs hbs Zh
 go_enter Try.func126, Try.ntmps126
 refine dL (n := 24) (S := fun w' => w'.cell? ⟨p, 0, none⟩ = some (.slice Ak ks.length ck) /\ w'.cell? ⟨p, 1, none⟩ = some (.slice Av vs.length cv)) (ds := [20, 23]) (bt 24 0) (by kernel_rfl) rfl rfl ⟨(aa.z0 (aa.drew HS.out) 0 rfl), (aa.z1 (aa.drew HS.out) 0 rfl)⟩ (fun hHeld => ?_)
 refine aQ 0 8 1 ?_
 refine aQ 1 9 3 ?_
 refine aQ 2 10 7 ?_
 refine aQ 3 11 15 ?_
 refine aQ 4 12 31 ?_
 refine aQ 6 14 95 ?_
 refine aQ 7 15 223 ?_
 refine aQ 10 18 1247 ?_
 refine aQ 11 19 3295 ?_
 refine aQ 12 20 7391 ?_
 refine aQ 14 22 23775 ?_
 refine aQ 15 23 56543 ?_
 refine gF 5 13 56575 hHeld ?_
 refine gF 13 21 64767 hHeld ?_
 refine GN (σ := Value × Value × Value) 7 (bt 24 131071) (fun z => [(16, z.1), (17, z.2.1), (24, z.2.2)]) (fun z w' => Below base w w' /\ aa w' base [[.box 101 p #[.slice Ak ks.length ck, .slice Av vs.length cv, Sq]], [txt z.2.1 (bz ks i x)], lW Av cv vs, GR, [txt z.2.2 [y]]]) ?_ ?_
 rotate_left
 ·intro iW
  refine IX 8 16 (some 16) (some 24) 65023 130303 (fun K hK => ?_) (fun K hK => ?_)
  ·skip
   refine Kd.bB Kd.string (w0 := w) base 9 (by rfl) (N := 16) rfl (xs := [x]) (inner := [.string x]) (ok := fun _ => True) (okp := fun _ => False) ?hr (Kd.bH (enc := Value.string) [x]) (fun _ h => h.elim) trivial (aH HB.out) (eY eB HB) (by simp) ?_
   (case hr => first | (go_simp; done) | (go_simp; rfl))
   intro vb1 Ub dW hbb hgb hnb
   have oJ := A_ hbb
   have oL := A_ (aa.lit (aa.drew HS.out) dW hgb hnb)
   obtain ⟨iw, iy, rfl⟩ : ∃ A c, vb1 = .slice A 1 c := Kd.au dW
   clear dW hbb hgb hnb
   refine hK.out _ _ ⟨(aa.z0 oL.out 0 rfl), (aa.z1 oL.out 0 rfl)⟩ (fun hHeld => ?_)
   clear hK K
   refine fw 16 ?_
   refine IX 9 16 (some 17) (some 24) 65535 130559 (fun K hK => ?_) (fun K hK => ?_)
   ·skip
    refine wm Try.func136 #[.slice Ak ks.length ck, .int .i64 (i : Int), .slice iw 1 iy] ?_
    with_reducible refine (Ju (ia := 1) (ib := 4) (i := i) oL.out rfl rfl (by decide) hi (eY eB oJ) hk1 oJ.out).mono ?_
    rintro e KF ⟨A1, c1, rfl, hs_, rV⟩
    refine ⟨_, rfl, ?_⟩
    have kE := A_ rV
    have jg := A_ hs_
    clear hs_ rV
    refine hK.out _ _ ⟨(aa.z0 jg.out 0 rfl), (aa.z1 jg.out 0 rfl)⟩ (fun hHeld => ?_)
    clear hK K
    refine fw 17 ?_
    refine jm 16 (some 24) 131071 (fun K hK => ?_)
    refine Kd.bB Kd.string (w0 := w) base 9 (by rfl) (N := 24) rfl (xs := [y]) (inner := [.string y]) (ok := fun _ => True) (okp := fun _ => False) ?hr (Kd.bH (enc := Value.string) [y]) (fun _ h => h.elim) trivial kE.out (eY eB kE) (by simp) ?_
    (case hr => first | (go_simp; done) | (go_simp; rfl))
    intro uD Gi dW hbb hgb hnb
    have lu := A_ hbb
    have iR := A_ (aa.lit jg.out dW hgb hnb)
    obtain ⟨gI, gJ, rfl⟩ : ∃ A c, uD = .slice A 1 c := Kd.au dW
    clear dW hbb hgb hnb
    refine hK.out _ _ ⟨(aa.z0 iR.out 0 rfl), (aa.z1 iR.out 0 rfl)⟩ (fun hHeld => ?_)
    clear hK K
    refine fw 24 ?_
    exact CL (iW ⟨.slice iw 1 iy, .slice A1 (bz ks i x).length c1, .slice gI 1 gJ⟩ _ ⟨lu.out, aa.ky iR.out [0, 1, 2, 3, 5] (by decide)⟩)
   ·skip
    refine Kd.bB Kd.string (w0 := w) base 9 (by rfl) (N := 24) rfl (xs := [y]) (inner := [.string y]) (ok := fun _ => True) (okp := fun _ => False) ?hr (Kd.bH (enc := Value.string) [y]) (fun _ h => h.elim) trivial oJ.out (eY eB oJ) (by simp) ?_
    (case hr => first | (go_simp; done) | (go_simp; rfl))
    intro uD KF dW hbb hgb hnb
    have kE := A_ hbb
    have jg := A_ (aa.lit oL.out dW hgb hnb)
    obtain ⟨gI, gJ, rfl⟩ : ∃ A c, uD = .slice A 1 c := Kd.au dW
    clear dW hbb hgb hnb
    refine hK.out _ _ ⟨(aa.z0 jg.out 0 rfl), (aa.z1 jg.out 0 rfl)⟩ (fun hHeld => ?_)
    clear hK K
    refine fw 24 ?_
    refine jm 9 (some 17) 131071 (fun K hK => ?_)
    refine wm Try.func136 #[.slice Ak ks.length ck, .int .i64 (i : Int), .slice iw 1 iy] ?_
    with_reducible refine (Ju (ia := 1) (ib := 4) (i := i) jg.out rfl rfl (by decide) hi (eY eB kE) hk1 kE.out).mono ?_
    rintro e Gi ⟨A1, c1, rfl, hs_, rV⟩
    refine ⟨_, rfl, ?_⟩
    have lu := A_ rV
    have iR := A_ hs_
    clear hs_ rV
    refine hK.out _ _ ⟨(aa.z0 iR.out 0 rfl), (aa.z1 iR.out 0 rfl)⟩ (fun hHeld => ?_)
    clear hK K
    refine fw 17 ?_
    exact CL (iW ⟨.slice iw 1 iy, .slice A1 (bz ks i x).length c1, .slice gI 1 gJ⟩ _ ⟨lu.out, aa.ky iR.out [0, 1, 2, 3, 5] (by decide)⟩)
  ·skip
   refine Kd.bB Kd.string (w0 := w) base 9 (by rfl) (N := 24) rfl (xs := [y]) (inner := [.string y]) (ok := fun _ => True) (okp := fun _ => False) ?hr (Kd.bH (enc := Value.string) [y]) (fun _ h => h.elim) trivial (aH HB.out) (eY eB HB) (by simp) ?_
   (case hr => first | (go_simp; done) | (go_simp; rfl))
   intro uD Ub dW hbb hgb hnb
   have oJ := A_ hbb
   have oL := A_ (aa.lit (aa.drew HS.out) dW hgb hnb)
   obtain ⟨gI, gJ, rfl⟩ : ∃ A c, uD = .slice A 1 c := Kd.au dW
   clear dW hbb hgb hnb
   refine hK.out _ _ ⟨(aa.z0 oL.out 0 rfl), (aa.z1 oL.out 0 rfl)⟩ (fun hHeld => ?_)
   clear hK K
   refine fw 24 ?_
   refine jm 8 (some 16) 130559 (fun K hK => ?_)
   refine Kd.bB Kd.string (w0 := w) base 9 (by rfl) (N := 16) rfl (xs := [x]) (inner := [.string x]) (ok := fun _ => True) (okp := fun _ => False) ?hr (Kd.bH (enc := Value.string) [x]) (fun _ h => h.elim) trivial oJ.out (eY eB oJ) (by simp) ?_
   (case hr => first | (go_simp; done) | (go_simp; rfl))
   intro vb1 KF dW hbb hgb hnb
   have kE := A_ hbb
   have jg := A_ (aa.lit oL.out dW hgb hnb)
   obtain ⟨iw, iy, rfl⟩ : ∃ A c, vb1 = .slice A 1 c := Kd.au dW
   clear dW hbb hgb hnb
   refine hK.out _ _ ⟨(aa.z0 jg.out 0 rfl), (aa.z1 jg.out 0 rfl)⟩ (fun hHeld => ?_)
   clear hK K
   refine fw 16 ?_
   refine jm 9 (some 17) 131071 (fun K hK => ?_)
   refine wm Try.func136 #[.slice Ak ks.length ck, .int .i64 (i : Int), .slice iw 1 iy] ?_
   with_reducible refine (Ju (ia := 1) (ib := 5) (i := i) jg.out rfl rfl (by decide) hi (eY eB kE) hk1 kE.out).mono ?_
   rintro e Gi ⟨A1, c1, rfl, hs_, rV⟩
   refine ⟨_, rfl, ?_⟩
   have lu := A_ rV
   have iR := A_ hs_
   clear hs_ rV
   refine hK.out _ _ ⟨(aa.z0 iR.out 0 rfl), (aa.z1 iR.out 0 rfl)⟩ (fun hHeld => ?_)
   clear hK K
   refine fw 17 ?_
   exact CL (iW ⟨.slice iw 1 iy, .slice A1 (bz ks i x).length c1, .slice gI 1 gJ⟩ _ ⟨lu.out, aa.ky iR.out [0, 1, 2, 3, 4] (by decide)⟩)
 rintro ⟨vb1, u1, uD⟩ w8 ⟨hb, hs⟩
 obtain ⟨gI, gJ, rfl⟩ : ∃ A c, uD = .slice A 1 c := Kd.au (aa.sr hs 4 rfl)
 obtain ⟨A1, c1, rfl⟩ := Kd.au (aa.sr hs 1 rfl)
 have hHeld : (w8.cell? ⟨p, 0, none⟩ = some (.slice Ak ks.length ck)) /\ (w8.cell? ⟨p, 1, none⟩ = some (.slice Av vs.length cv)) := ⟨aa.z0 hs 0 rfl, aa.z1 hs 0 rfl⟩
 clear HS HB
 have HB := A_ hb
 have HS := A_ hs
 clear hb hs
 refine Cg (a' := ?_) ?_ ?_
 rotate_left
 ·simp only [sU, Act.put, List.setIfInBounds_toArray, List.set_cons_zero, List.set_cons_succ]
  rfl
 refine jm 17 (some 25) 262143 (fun K hK => ?_)
 refine wm Try.func136 #[.slice Av vs.length cv, .int .i64 (i : Int), .slice gI 1 gJ] ?_
 with_reducible refine (Ju (ia := 2) (ib := 4) (i := i) HS.out rfl rfl (by decide) hv (eY eB HB) hv1 HB.out).mono ?_
 rintro e w9 ⟨A2, c2, rfl, hs_, rV⟩
 refine ⟨_, rfl, ?_⟩
 clear HS HB
 have HB := A_ rV
 have az := oK hs_
 have HS := az
 clear az hs_ rV
 have zs0 := aa.z0 HS.out 0 rfl
 have kJ := aa.f HS.out 0 rfl 0
 have Vm := aa.z1 HS.out 0 rfl
 have Vn := aa.f HS.out 0 rfl 1
 refine hK.out _ _ ⟨(aa.z0 HS.out 0 rfl), (aa.z1 HS.out 0 rfl)⟩ (fun hHeld => ?_)
 clear hK K
 refine fw 25 ?_
 refine aQ 18 26 524287 ?_
 refine aQ 19 27 1048575 ?_
 refine wZ 20 none 2097151 (fun K hK => ?_)
 refine iN (w1 := ?_) (by rfl) rfl ?_ ?_
 rotate_left
 ·go_simp
  rfl
 refine hK.out _ _ ?_
 clear hK K
 refine aQ 21 28 4194303 ?_
 refine aQ 22 29 8388607 ?_
 refine wZ 23 none 16777215 (fun K hK => ?_)
 refine iN (w1 := ?_) (by rfl) rfl ?_ ?_
 rotate_left
 ·go_simp
  rfl
 refine hK.out _ _ ?_
 clear hK K
 refine fA (by kernel_rfl) ?_
 go_end0
 have hS := aa.ky (aa.Ec (aa.Eb HS.out 0 rfl (.slice A1 (bz ks i x).length c1)) 0 rfl (.slice A2 (bz vs i y).length c2)) [0, 1, 2, 3] (by decide)
 exact ⟨rfl, A1, c1, A2, c2, aa.unpack (by rw [<- HGR.out]; exact hS), (HB.out.setCell (p := ⟨p, 0, none⟩) (aa.ge HS.out 0 rfl) _).setCell (p := ⟨p, 1, none⟩) (aa.ge HS.out 0 rfl) _⟩
set_option maxHeartbeats 8000000
set_option maxRecDepth 100000
theorem LD.calls {p : Nat} {Ak Av : Option Addr} {ck cv : Nat} {ks vs : List ByteArray} {Sq : Value} {i : Nat} (hks : i < ks.length) (hvs : i < vs.length) (hk1 : ks.length <= 1000000000000) (hv1 : vs.length <= 1000000000000) (base : Nat) (R : List (List Ck)) (w : World)
  (hs : aa w base ([.box 101 p #[.slice Ak ks.length ck, .slice Av vs.length cv, Sq]] :: [txt (.slice Ak ks.length ck) ks] :: [txt (.slice Av vs.length cv) vs] :: R)) (hbs : base <= w.heap.size) :
  Calls Try.prog 131 #[bO p, .int .i64 (i : Int)] w fun e w' => e = .returned (.tuple #[.string (bF ks i), .string (bF vs i)]) /\ ∃ U2 MQ U3 cv', aa w' base ([.box 101 p #[.slice U2 (ks.eraseIdx i).length MQ, .slice U3 (vs.eraseIdx i).length cv', Sq]] :: [txt (.slice U2 (ks.eraseIdx i).length MQ) (ks.eraseIdx i)] :: [txt (.slice U3 (vs.eraseIdx i).length cv') (vs.eraseIdx i)] :: R) /\ Below base w w' := by
 have h0 := aa.pack hs
 obtain ⟨gk, rfl⟩ := dP (h0.sr 1 rfl) (by omega)
 obtain ⟨gv, rfl⟩ := dP (h0.sr 2 rfl) (by omega)
 obtain ⟨GR, Zh⟩ : ∃ G, G = R.flatten := ⟨_, rfl⟩
 rw [<- Zh] at h0
 have HS := A_ h0
 have HB := A_ (Below.refl base w)
 have eB := A_ hbs
 have HGR := A_ Zh
 clear hs h0 hbs Zh
 obtain ⟨x, hx⟩ : ∃ x, bF ks i = x := ⟨_, rfl⟩
 have Hx : ae (i < ks.length /\ bF ks i = x) := ⟨by omega, hx⟩
 clear hx
 obtain ⟨y, hy⟩ : ∃ x, bF vs i = x := ⟨_, rfl⟩
 have Hy : ae (i < vs.length /\ bF vs i = y) := ⟨by omega, hy⟩
 clear hy
 obtain ⟨l1, oF⟩ := oI (ks.eraseIdx i)
 obtain ⟨l2, sS⟩ := oI (vs.eraseIdx i)
 go_enter Try.func131, Try.ntmps131
 go_upto_region 1 with fail
 have b3 := dN (0 <= (i : Int))
 have b4 := dN ((i : Int) < (ks.length : Int))
 have b5 := dN (i < ks.length)
 have b6 := dN ((i : Int) < (vs.length : Int))
 have b7 := dN (i < vs.length)
 refine dL (n := 16) (S := fun w' => w'.cell? ⟨p, 0, none⟩ = some (.slice (some ⟨gk, 0, none⟩) ks.length ck) /\ w'.cell? ⟨gk, i, none⟩ = some (.string x) /\ w'.cell? ⟨p, 1, none⟩ = some (.slice (some ⟨gv, 0, none⟩) vs.length cv) /\ w'.cell? ⟨gv, i, none⟩ = some (.string y)) (ds := []) (bt 16 0) (by kernel_rfl) rfl rfl ⟨(aa.z0 (aa.drew HS.out) 0 rfl), (iY (aa.sr (aa.drew HS.out) 1 rfl) Hx.out), (aa.z1 (aa.drew HS.out) 0 rfl), (iY (aa.sr (aa.drew HS.out) 2 rfl) Hy.out)⟩ (fun hHeld => ?_)
 refine aQ 0 8 1 ?_
 refine aQ 1 9 3 ?_
 refine aQ 2 10 7 ?_
 refine aQ 4 12 23 ?_
 refine aQ 7 15 151 ?_
 refine aQ 8 16 407 ?_
 refine aQ 9 17 919 ?_
 refine aQ 11 19 2967 ?_
 refine gF 3 11 2975 hHeld ?_
 refine aQ 5 13 3007 ?_
 refine gF 6 14 3071 hHeld ?_
 refine aQ 14 6 19455 ?_
 refine gF 10 18 20479 hHeld ?_
 refine aQ 12 20 24575 ?_
 refine gF 13 21 32767 hHeld ?_
 refine aQ 15 7 65535 ?_
 refine fA (by kernel_rfl) ?_
 have az := jr (World.drew w) ((aa.drew HS.out))
 have aG : ae (Below base w (World.drew w)) := ⟨(aH HB.out)⟩
 generalize World.drew w = w2 at az aG ⊢
 clear HS HB; have HS := az; have HB := aG; clear az aG
 go_upto_region 2 with fail
 have q8 : wrap64 ((i : Int) + 1) = ((i : Int) + 1) := jW (by omega)
 refine dL (n := 24) (S := fun w' => w'.cell? ⟨p, 0, none⟩ = some (.slice (some ⟨gk, 0, none⟩) ks.length ck) /\ w'.cell? ⟨p, 1, none⟩ = some (.slice (some ⟨gv, 0, none⟩) vs.length cv)) (ds := [20, 23]) (bt 24 0) (by kernel_rfl) rfl rfl ⟨(aa.z0 (aa.drew HS.out) 0 rfl), (aa.z1 (aa.drew HS.out) 0 rfl)⟩ (fun hHeld => ?_)
 refine aQ 0 22 1 ?_
 refine aQ 1 23 3 ?_
 refine aQ 2 24 7 ?_
 refine aQ 3 25 15 ?_
 refine aQ 4 26 31 ?_
 refine aQ 6 28 95 ?_
 refine aQ 7 29 223 ?_
 refine aQ 8 30 479 ?_
 refine aQ 10 32 1503 ?_
 refine aQ 11 33 3551 ?_
 refine aQ 12 34 7647 ?_
 refine aQ 14 36 24031 ?_
 refine aQ 15 37 56799 ?_
 refine aQ 16 38 122335 ?_
 refine gF 5 27 122367 hHeld ?_
 refine gF 13 35 130559 hHeld ?_
 refine jm 9 (some 31) 131071 (fun K hK => ?_)
 refine wm Try.func139 #[.slice (some ⟨gk, 0, none⟩) ks.length ck, .int .i64 (i : Int), .int .i64 (wrap64 ((i : Int) + 1))] ?_
 rw [show wrap64 ((i : Int) + 1) = (i : Int) + 1 from jW (by omega)]
 with_reducible refine (TD (ia := 1) (i := i) (aa.drew HS.out) rfl hks (eY eB HB) (aH HB.out)).mono ?_
 rintro e w3 ⟨rfl, hs_, rV⟩
 refine ⟨_, rfl, ?_⟩
 rw [<- oF.out] at hs_ ⊢
 have az := oK hs_
 have aG : ae (Below base w w3) := ⟨rV⟩
 clear HS HB hs_ rV; have HS := az; have HB := aG; clear az aG
 refine hK.out _ _ ⟨(aa.z0 HS.out 0 rfl), (aa.z1 HS.out 0 rfl)⟩ (fun hHeld => ?_)
 clear hK K
 refine fw 31 ?_
 refine jm 17 (some 39) 262143 (fun K hK => ?_)
 refine wm Try.func139 #[.slice (some ⟨gv, 0, none⟩) vs.length cv, .int .i64 (i : Int), .int .i64 ((i : Int) + 1)] ?_
 skip
 with_reducible refine (TD (ia := 2) (i := i) HS.out rfl hvs (eY eB HB) HB.out).mono ?_
 rintro e w4 ⟨rfl, hs_, rV⟩
 refine ⟨_, rfl, ?_⟩
 rw [<- sS.out] at hs_ ⊢
 have az := oK hs_
 have aG : ae (Below base w w4) := ⟨rV⟩
 clear HS HB hs_ rV; have HS := az; have HB := aG; clear az aG
 have zs0 := aa.z0 HS.out 0 rfl
 have kJ := aa.f HS.out 0 rfl 0
 have Vm := aa.z1 HS.out 0 rfl
 have Vn := aa.f HS.out 0 rfl 1
 refine hK.out _ _ ⟨(aa.z0 HS.out 0 rfl), (aa.z1 HS.out 0 rfl)⟩ (fun hHeld => ?_)
 clear hK K
 refine fw 39 ?_
 refine aQ 18 40 524287 ?_
 refine aQ 19 41 1048575 ?_
 refine wZ 20 none 2097151 (fun K hK => ?_)
 refine iN (w1 := ?_) (by rfl) rfl ?_ ?_
 rotate_left
 ·go_simp
  rfl
 refine hK.out _ _ ?_
 clear hK K
 refine aQ 21 42 4194303 ?_
 refine aQ 22 43 8388607 ?_
 refine wZ 23 none 16777215 (fun K hK => ?_)
 refine iN (w1 := ?_) (by rfl) rfl ?_ ?_
 rotate_left
 ·go_simp
  rfl
 refine hK.out _ _ ?_
 clear hK K
 refine fA (by kernel_rfl) ?_
 clear q8
 have az := jr (World.setCell (World.setCell w4 ⟨p, 0, none⟩ (.slice (some ⟨gk, 0, none⟩) l1.length ck)) ⟨p, 1, none⟩ (.slice (some ⟨gv, 0, none⟩) l2.length cv)) (aa.Ec (aa.Eb HS.out 0 rfl (.slice (some ⟨gk, 0, none⟩) l1.length ck)) 0 rfl (.slice (some ⟨gv, 0, none⟩) l2.length cv))
 have aG : ae (Below base w (World.setCell (World.setCell w4 ⟨p, 0, none⟩ (.slice (some ⟨gk, 0, none⟩) l1.length ck)) ⟨p, 1, none⟩ (.slice (some ⟨gv, 0, none⟩) l2.length cv))) := ⟨((HB.out).setCell (p := ⟨p, 0, none⟩) (aa.ge HS.out 0 rfl) _).setCell (p := ⟨p, 1, none⟩) (aa.ge HS.out 0 rfl) _⟩
 generalize World.setCell (World.setCell w4 ⟨p, 0, none⟩ (.slice (some ⟨gk, 0, none⟩) l1.length ck)) ⟨p, 1, none⟩ (.slice (some ⟨gv, 0, none⟩) l2.length cv) = w5 at az aG ⊢
 clear HS HB zs0 kJ Vm Vn; have HS := az; have HB := aG; clear az aG
 go_upto_region 3 with fail
 go_wp2_with fail
 go_ret2
 exact ⟨by rw [Hx.out.2, Hy.out.2]; rfl, _, ck, _, cv, by rw [<- oF.out, <- sS.out]; exact aa.unpack (by rw [<- HGR.out]; exact HS.out), HB.out⟩
section
variable {w w0 : World} {base : Nat} {gs : List (List Ck)}
theorem V8 {ia ib i c n xp : Nat} {ai : Int} {A : Option Addr} {l : List NT} {lv : Value} {r : NT} (HS : aa w base gs) (hai : ai = (i : Int) /\ n = l.length) (hia : gs[ia]? = some [.kT 74 (.slice A n c) (ptrs l)]) (hib : gs[ib]? = some [.own 74 lv (encs bO [xp])]) (hp : r.p = xp) (hne : ia ≠ ib) (hi : i <= l.length) (hbase : base <= w.heap.size) (hbig : l.length <= 1000000000000) (HB : Below base w0 w) :
  Calls Try.prog 128 #[.slice A n c, .int .i64 ai, lv] w fun e w' => ∃ A' c', e = .returned (.slice A' (bz l i r).length c') /\ aa w' base (gs.set ia [.kT 74 (.slice A' (bz l i r).length c') (ptrs (bz l i r))]) /\ Below base w0 w' := by
 obtain ⟨rfl, rfl⟩ := hai
 subst hp
 exact XY HS hia hib hne hi hbase hbig HB
end
section
variable {w w0 : World} {base : Nat} {gs : List (List Ck)}
theorem zB {α : Type} {l : List α} {n : Nat} (h : l.length <= n + 1) : l.eraseIdx n = l.take n := by
 rw [List.eraseIdx_eq_take_drop_succ, List.drop_eq_nil_of_le h, List.append_nil]
theorem Qx {p n m i : Nat} {ai : Int} {Ak Av : Option Addr} {ck cv : Nat} {ks vs ks' vs' : List ByteArray} {Sq : Value} {x y : ByteArray} {R : List (List Ck)}
  (hs : aa w base ([.box 101 p #[.slice Ak n ck, .slice Av m cv, Sq]] :: [txt (.slice Ak n ck) ks] :: [txt (.slice Av m cv) vs] :: R)) (hk : ks' = bz ks i x) (hv : vs' = bz vs i y) (hb : ai = (i : Int) /\ i <= n /\ i <= m /\ n <= 1000000 /\ m <= 1000000) (hbs : base <= w.heap.size) :
  Calls Try.prog 126 #[bO p, .int .i64 ai, .string x, .string y] w fun e w' => e = .returned (.tuple #[]) /\ ∃ U2 MQ U3 cv', aa w' base ([.box 101 p #[.slice U2 ks'.length MQ, .slice U3 vs'.length cv', Sq]] :: [txt (.slice U2 ks'.length MQ) ks'] :: [txt (.slice U3 vs'.length cv') vs'] :: R) /\ Below base w w' := by
 obtain ⟨rfl, h1, h2, h3, h4⟩ := hb
 obtain ⟨e1, _⟩ := aa.row hs 1 rfl
 obtain ⟨e2, _⟩ := aa.row hs 2 rfl
 subst e1 e2 hk hv
 exact LC.calls h1 h2 (by omega) (by omega) base R w hs hbs
theorem zC {p n m i : Nat} {ai : Int} {Ak Av : Option Addr} {ck cv : Nat} {ks vs ks' vs' : List ByteArray} {Sq : Value} {x y : ByteArray} {R : List (List Ck)}
  (hs : aa w base ([.box 101 p #[.slice Ak n ck, .slice Av m cv, Sq]] :: [txt (.slice Ak n ck) ks] :: [txt (.slice Av m cv) vs] :: R)) (hx : i < ks.length /\ bF ks i = x) (hy : i < vs.length /\ bF vs i = y) (hk : ks' = ks.eraseIdx i) (hv : vs' = vs.eraseIdx i) (hb : ai = (i : Int) /\ n <= 1000000 /\ m <= 1000000) (hbs : base <= w.heap.size) :
  Calls Try.prog 131 #[bO p, .int .i64 ai] w fun e w' => e = .returned (.tuple #[.string x, .string y]) /\ ∃ U2 MQ U3 cv', aa w' base ([.box 101 p #[.slice U2 ks'.length MQ, .slice U3 vs'.length cv', Sq]] :: [txt (.slice U2 ks'.length MQ) ks'] :: [txt (.slice U3 vs'.length cv') vs'] :: R) /\ Below base w w' := by
 obtain ⟨rfl, h3, h4⟩ := hb
 obtain ⟨e1, _⟩ := aa.row hs 1 rfl
 obtain ⟨e2, _⟩ := aa.row hs 2 rfl
 obtain ⟨hx1, rfl⟩ := hx
 obtain ⟨hy1, rfl⟩ := hy
 subst e1 e2 hk hv
 exact LD.calls hx1 hy1 (by omega) (by omega) base R w hs hbs
theorem Eu {ig i0 i1 i2 cg n0 n1 n2 c0 c1 c2 : Nat} {Ag A0 A1 A2 : Option Addr} {l0 l1 l2 l : List ByteArray} (hs : aa w base gs) (hg : gs[ig]? = some [.own 38 (.slice Ag 3 cg) [.slice A0 n0 c0, .slice A1 n1 c1, .slice A2 n2 c2]]) (h0 : gs[i0]? = some [txt (.slice A0 n0 c0) l0]) (h1 : gs[i1]? = some [txt (.slice A1 n1 c1) l1]) (h2 : gs[i2]? = some [txt (.slice A2 n2 c2) l2]) (hl : l = l0 ++ l1 ++ l2) (hb : n0 + n1 + n2 <= 1000000) :
  Calls Try.prog 140 #[.slice Ag 3 cg] w fun e w' => ∃ v, e = .returned v /\ Kd.R Kd.string 9 w' w.heap.size (fun _ => True) v l /\ Below w.heap.size w w' := by
 obtain ⟨rfl, q0, r0⟩ := hs.row i0 h0
 obtain ⟨rfl, q1, r1⟩ := hs.row i1 h1
 obtain ⟨rfl, q2, r2⟩ := hs.row i2 h2
 subst hl
 exact V6 (base := base) ((hs.at ig hg).ok _ List.mem_cons_self) r0 r1 r2 q0 q1 q2 (by omega)
theorem ab2 {ig i0 i1 cg n0 n1 c0 c1 : Nat} {Ag A0 A1 : Option Addr} {l0 l1 l : List NT} (hs : aa w base gs) (hg : gs[ig]? = some [.own 99 (.slice Ag 2 cg) [.slice A0 n0 c0, .slice A1 n1 c1]]) (h0 : gs[i0]? = some [.kT 74 (.slice A0 n0 c0) (ptrs l0)]) (h1 : gs[i1]? = some [.kT 74 (.slice A1 n1 c1) (ptrs l1)]) (hl : l = l0 ++ l1) (hb : n0 + n1 <= 1000000) :
  Calls Try.prog 141 #[.slice Ag 2 cg] w fun e w' => ∃ v, e = .returned v /\ Kd.R gL 74 w' w.heap.size (fun _ => True) v (l.map NT.p) /\ Below w.heap.size w w' := by
 obtain ⟨rfl, q0, r0⟩ := hs.gX i0 h0
 obtain ⟨rfl, q1, r1⟩ := hs.gX i1 h1
 subst hl
 rw [List.map_append]
 have hk : Ck.ok w base (.own 99 (.slice Ag 2 cg) [.slice A0 (l0.map NT.p).length c0, .slice A1 (l1.map NT.p).length c1]) := by rw [List.length_map, List.length_map]; exact (hs.at ig hg).ok _ List.mem_cons_self
 exact V7 (base := base) hk (by rw [List.length_map]; exact r0) (by rw [List.length_map]; exact r1) (by rw [List.length_map]; exact q0) (by rw [List.length_map]; exact q1) (by rw [List.length_map, List.length_map]; omega)
theorem Rp {E n : Nat} {v : Value} {x : Value} {xs : List Value} (h : Ck.ok w base (.own E v (x :: xs))) : ∃ A c, v = .slice A (xs.length + 1) c := by
 have h : w.ownsRow base E 1 v (xs.length + 1) (x :: xs) := h
 rcases h.2 with ⟨_, h0⟩ | ⟨g, cap, cur, e, _⟩
 ·omega
 ·exact ⟨_, _, e⟩
theorem aax {ia i n c : Nat} {a1 a2 : Int} {A : Option Addr} {l l' : List NT} (HS : aa w base gs) (hia : gs[ia]? = some [.kT 74 (.slice A n c) (ptrs l)]) (hl : l' = l.eraseIdx i) (hi : a1 = (i : Int) /\ a2 = (i : Int) + 1 /\ i < n) (hbase : base <= w.heap.size) (HB : Below base w0 w) :
  Calls Try.prog 142 #[.slice A n c, .int .i64 a1, .int .i64 a2] w fun e w' => e = .returned (.slice A l'.length c) /\ aa w' base (gs.set ia [.kT 74 (.slice A l'.length c) (ptrs l')]) /\ Below base w0 w' := by
 obtain ⟨rfl, rfl, h3⟩ := hi
 obtain ⟨e1, _⟩ := aa.gX HS ia hia
 subst e1 hl
 exact XZ HS hia h3 hbase HB
end
section
variable {P : Program} {ops : Array Oper} {o : Oper} {a : Act} {Q : Exit -> Act -> World -> Prop} {Kc : Act -> World -> Prop}
theorem fK {w0 W : World} (base e n : Nat) (hw : Region.wanted o (yielded ops a.tmps) = true) {N : Tmp} (_hd : o.dst = some N) {xs : List Value} (hn : xs.length = n)
  (hrun : (execOp a.eval o).run P W = .ok (.value (.slice (some ⟨W.heap.size, 0, none⟩) n n)) (W.alloc (.cells xs.toArray e)))
  (HB : Below base w0 W) (hbase : base <= W.heap.size) (hm : n <= 1000)
  (h : ∀ A c w1, Ck.ok w1 base (.own e (.slice A n c) xs) -> Below base w0 w1 -> W.grownBy w1 none -> (∃ b, (Value.slice A n c).ownBlock = some b /\ W.heap.size <= b) -> Kc (a.put o.dst (.slice A n c)) w1) :
  if Region.wanted o (yielded ops a.tmps) = true then Oper.wp P o a W Kc Q else Kc (a.put o.dst undef) W := by
 subst hn
 refine uZ hw hrun (h _ _ _ ?_ (HB.alloc hbase _) (World.grownBy_alloc W _ none) ⟨W.heap.size, by simp [Value.ownBlock], Nat.le_refl _⟩)
 have h2 := World.ownsRow_lit (base := base) (e := e) (size := 1) W xs.toArray xs.length hbase (by unfold maxLen; omega) (by simp)
 show World.ownsRow _ base e 1 _ xs.length xs
 simpa using h2
end
set_option maxHeartbeats 8000000
set_option maxRecDepth 100000
theorem NV.calls : ∀ (n : Nat) (t : NT), t.erase.big <= n -> mG t.erase -> ∀ (base : Nat) (vo : Value) (fP : List Pg) (L : List Ck) (w : World), Sat w base (t.fB 101 74 ++ (iP vo fP ++ L)) -> base <= w.heap.size -> fP.length + t.erase.big <= 100000 ->
  Calls Try.prog 110 #[bO t.p, vo] w (PGR w base 101 74 t L fP) := by
 intro n
 induction n with
 | zero =>
  intro t hb
  exact absurd t.erase.fZ (by omega)
 | succ n ih =>
  intro t hbig hbd base vo fP L w hs hbs hpl
  have h0 := Em hs
  obtain ⟨⟨ho1, ho2, ho3⟩, yN⟩ := cz.1 hbd
  cases t with | mk tp Gq Gr Gs tks tvs aZ =>
  have e0 : (NT.mk tp Gq Gr Gs tks tvs aZ).erase = .mk tks tvs (NT.aD aZ) := rfl
  rw [e0] at hbig ho1 ho2 ho3 yN hpl
  simp only [NT.keys, NT.vals, NT.kids, NT.p, NT.kv, NT.vv, NT.cv] at h0 ⊢
  simp only [PT.keys, PT.vals, PT.kids] at ho1 ho2 ho3 yN
  obtain ⟨tF, ja, rfl⟩ := Kd.au (h0.sr 1 rfl)
  obtain ⟨uF, jk, rfl⟩ := Kd.au (h0.sr 2 rfl)
  obtain ⟨Cc, jC, rfl, _, _⟩ := eO (h0.q 3 rfl)
  obtain ⟨Ao, co, rfl⟩ := jc (h0.rowOk 5 rfl)
  have HS := A_ h0
  have HB := A_ (Below.refl base w)
  have eB := A_ hbs
  have Sm := A_ hbig
  have HPL := A_ hpl
  have R6 := A_ yN
  have hnl : (NT.aD aZ).length = aZ.length := by rw [aN, List.length_map]
  have Vl : tvs.length <= 4 /\ aZ.length <= 5 := by omega
  have hpn : fP.length + 1 <= 100000 := by have := (PT.mk tks tvs (NT.aD aZ)).fZ; omega
  clear h0 hs hbs hbig hpl ho1 ho3 yN hbd hnl e0
  go_enter Try.func110, Try.ntmps110
  go_upto_region 2 with fail
  refine dL (n := 15) (S := fun w' => w'.cell? ⟨tp, 0, none⟩ = some (.slice tF tks.length ja) /\ w'.cell? ⟨tp, 1, none⟩ = some (.slice uF tvs.length jk)) (ds := []) (bt 15 0) (by kernel_rfl) rfl rfl ⟨(aa.z0 (aa.drew HS.out) 0 rfl), (aa.z1 (aa.drew HS.out) 0 rfl)⟩ (fun hHeld => ?_)
  refine aQ 0 10 1 ?_
  refine aQ 1 11 3 ?_
  refine aQ 2 12 7 ?_
  refine aQ 3 13 15 ?_
  refine aQ 6 16 79 ?_
  refine aQ 7 17 207 ?_
  refine aQ 8 18 463 ?_
  refine gF 4 14 479 hHeld ?_
  refine gF 9 19 991 hHeld ?_
  refine jm 5 (some 15) 1023 (fun K hK => ?_)
  refine wm Try.func74 #[.slice tF tks.length ja] ?_
  with_reducible refine (Es tF ja tks tks.length _ rfl (aa.row (aa.drew HS.out) 1 rfl).2.2 (aa.row (aa.drew HS.out) 1 rfl).2.1 (by omega)).mono ?_
  rintro e w8 ⟨kI, rfl, ho, hb⟩
  refine ⟨_, rfl, ?_⟩
  obtain ⟨Y7, Y8, rfl⟩ := Kd.au ho
  have az := oK (aa.gQ (aa.drew HS.out) hb (eY eB HB) ho)
  have aG : ae (Below base w w8) := ⟨((aH HB.out)).trans (hb.mono (eY eB HB))⟩
  clear HS HB ho hb; have HS := az; have HB := aG; clear az aG
  refine hK.out _ _ ⟨(aa.z0 HS.out 0 rfl), (aa.z1 HS.out 0 rfl)⟩ (fun hHeld => ?_)
  clear hK K
  refine fw 15 ?_
  refine jm 10 (some 20) 2047 (fun K hK => ?_)
  refine wm Try.func74 #[.slice uF tvs.length jk] ?_
  with_reducible refine (Es uF jk tvs tvs.length _ rfl (aa.row HS.out 2 rfl).2.2 (aa.row HS.out 2 rfl).2.1 (by omega)).mono ?_
  rintro e w9 ⟨kI, rfl, ho, hb⟩
  refine ⟨_, rfl, ?_⟩
  obtain ⟨Y9, Za, rfl⟩ := Kd.au ho
  have az := oK (aa.gQ HS.out hb (eY eB HB) ho)
  have aG : ae (Below base w w9) := ⟨(HB.out).trans (hb.mono (eY eB HB))⟩
  clear HS HB ho hb; have HS := az; have HB := aG; clear az aG
  refine hK.out _ _ ⟨(aa.z0 HS.out 0 rfl), (aa.z1 HS.out 0 rfl)⟩ (fun hHeld => ?_)
  clear hK K
  refine fw 20 ?_
  refine aQ 11 21 4095 ?_
  refine jm 12 (some 22) 8191 (fun K hK => ?_)
  refine zx 110 3 [.slice Y7 tks.length Y8, .slice Y9 tvs.length Za, .slice none 0 0] rfl (by rfl) (N := 22) rfl ?hr ?_
  (case hr => first | (go_simp; done) | (go_simp; rfl))
  intro gp vN hg ho hb
  have az := oK (aa.newRow HS.out hb (eY eB HB) (by rw [<- hg] at *; exact ho))
  have aG : ae (Below base w vN) := ⟨HB.out.trans (hb.mono (eY eB HB))⟩
  clear HS HB hg ho hb; have HS := az; have HB := aG; clear az aG
  refine hK.out _ _ ⟨(aa.z0 HS.out 0 rfl), (aa.z1 HS.out 0 rfl)⟩ (fun hHeld => ?_)
  clear hK K
  refine fw 22 ?_
  refine jm 13 (some 23) 16383 (fun K hK => ?_)
  refine vM (w0 := w) (base := base) (by rfl) (.tmp 10) (.tmp 22) 27 110 3 72 _ rfl Try.underlying27 IZ rfl (by decide) (by decide) (.slice Ao fP.length co) fP.length 1 1 gp (fP.flatMap Pg.cells) [.slice Y7 tks.length Y8, .slice Y9 tvs.length Za, .slice none 0 0] rfl rfl (aa.rowOk HS.out 5 rfl) (aa.rowOk HS.out 10 rfl) (by intro u hu; simp only [List.mem_cons, List.not_mem_nil, or_false] at hu; rcases hu with rfl | rfl | rfl <;> rfl) HB.out (eY eB HB) (by omega) ?_
  intro vo1 sP ho hb hg hat
  obtain ⟨A1, c1, rfl⟩ := jc ho
  have az := oK (aa.Ty 5 HS.out rfl ho hg hat)
  have aG : ae (Below base w sP) := ⟨hb⟩
  clear HS HB ho hb hg hat; have HS := az; have HB := aG; clear az aG
  refine hK.out _ _ ⟨(aa.z0 HS.out 0 rfl), (aa.z1 HS.out 0 rfl)⟩ (fun hHeld => ?_)
  clear hK K
  refine fw 23 ?_
  refine aQ 14 1 32767 ?_
  refine fA (by kernel_rfl) ?_
  obtain ⟨K, hK⟩ : ∃ K, K = NT.aD aZ := ⟨_, rfl⟩
  have HK := A_ hK
  have Bb := A_ (show K.length = aZ.length by rw [hK, aN, List.length_map])
  obtain ⟨go1, rfl⟩ := zy (aa.rowOk HS.out 5 rfl) (by omega)
  have az : ae (aa sP base (BK 101 74 (NT.mk tp (.slice tF tks.length ja) (.slice uF tvs.length jk) (.slice Cc aZ.length jC) tks tvs aZ) (.slice (some ⟨go1, 0, none⟩) (fP.length + 1) c1) fP [] ⟨.slice Y7 tks.length Y8, .slice Y9 tvs.length Za, .slice none 0 0, tks, tvs, []⟩ L)) := ⟨by
   have h1 := (aa.Xe (aa.Ie HS.out 3)).ky [0, 1, 2, 3, 4, 5, 8, 9, 11, 6, 12, 7] (by decide)
   unfold BK
   show aa _ _ [_, _, _, _, _, [.row 110 3 (.slice (some ⟨go1, 0, none⟩) (fP.length + 1) c1) (fP ++ [_]).length ((fP ++ [_]).flatMap Pg.cells)], _, _, _, _, _, _]
   rw [List.length_append, List.flatMap_append, List.flatMap_cons, List.flatMap_nil, List.append_nil]
   exact h1⟩
  clear HS hK
  have HS := az
  clear az
  obtain ⟨t0, ht0⟩ : ∃ t0, t0 = NT.mk tp (.slice tF tks.length ja) (.slice uF tvs.length jk) (.slice Cc aZ.length jC) tks tvs aZ := ⟨_, rfl⟩
  have HT0 := A_ ht0
  rw [<- ht0] at HS
  clear ht0
  go_upto_region 3 with fail
  have Ce : sP.cell? ⟨tp, 2, none⟩ = some (.slice Cc aZ.length jC) := by
   have h1 := HS.out
   rw [HT0.out] at h1
   exact aa.z2 h1 0 rfl
  go_wp2_with fail
  clear Ce
  go_loopg [1, 29] aZ.length (fun kq u1 u29 w' => ∃ (i m go co : Nat) (A B : List Pg) (kv vv cv : Value) (cs : List Int), u1 = .slice (some ⟨go, 0, none⟩) m co /\ u29 = .int .i64 (i : Int) /\ ae (kq + i = aZ.length) /\ ae (cs = starts (K.take i) (fP.length + 1)) /\ ae (A.map Pg.erase = fP.map Pg.erase) /\ ae (B.map Pg.erase = rP (K.take i) (fP.length + 1)) /\ ae (m = fP.length + 1 + PT.jH (K.take i)) /\ ae (aa w' base (BK 101 74 t0 (.slice (some ⟨go, 0, none⟩) m co) A B ⟨kv, vv, cv, tks, tvs, cs⟩ L)) /\ ae (Below base w w'))
  case atStart => exact ⟨0, fP.length + 1, go1, c1, fP, [], _, _, _, [], by first | rfl | (simp; done), by first | rfl | (simp; done), ⟨Nat.add_zero _⟩, ⟨rfl⟩, ⟨rfl⟩, ⟨rfl⟩, ⟨rfl⟩, HS, HB⟩
  case round =>
   clear HS HB
   obtain ⟨i, m, go, co1, A, B, kv, vv, cv, cs, rfl, rfl, Zb, Zc, HA, Gp, HM, HS, HB⟩ := hrel
   have ET := A_ (show A.length = fP.length by have := congrArg List.length HA.out; rw [List.length_map, List.length_map] at this; exact this)
   have hbt : PT.jH (K.take i) + 1 <= (PT.mk tks tvs (NT.aD aZ)).big := by rw [PT.big, <- HK.out]; have := nP K i; omega
   have hm : fP.length + 1 <= m /\ m <= 100000 := by have := HM.out; have := HPL.out; omega
   have ci := dN (0 <= (i : Int))
   have hcl0 : cs.length <= 5 := by rw [Zc.out, uY, List.length_take, Bb.out]; omega
   by_cases hi : i < aZ.length
   ·have ce := pF ((i : Int) < (aZ.length : Int))
    have BU : (i < aZ.length) = True := eq_true hi
    obtain ⟨s, hsx⟩ : ∃ s, aZ[i]? = some s := ⟨aZ[i], List.getElem?_eq_getElem hi⟩
    have Sn := A_ hsx
    have jl : ae (K[i]? = some s.erase) := ⟨by rw [HK.out, aN, List.getElem?_map, hsx]; rfl⟩
    have az := HS.out
    rw [HT0.out] at az
    unfold BK at az
    simp only [NT.keys, NT.vals, NT.kids, NT.p, NT.kv, NT.vv, NT.cv] at az
    obtain ⟨Ac, cc, rfl⟩ := Kd.au (aa.ir az 8 rfl)
    obtain ⟨KH, ck1, rfl⟩ := Kd.au (aa.sr az 6 rfl)
    obtain ⟨Bh, xW, rfl⟩ := Kd.au (aa.sr az 7 rfl)
    clear HS
    have HS := A_ az
    clear az hsx
    obtain ⟨kS, rfl⟩ := gq (aa.q HS.out 3 rfl) (by omega)
    have uG := il (aa.gX HS.out 3 rfl) (And.intro Sn.out rfl)
    go_upto_region 6 with fail
    clear uG
    obtain ⟨l1, hl1⟩ : ∃ r : List Int, r = cs ++ [(m : Int)] := ⟨_, rfl⟩
    have oF := A_ hl1
    clear hl1
    have b2 := dN (0 <= (fP.length : Int))
    have b3 := dN ((fP.length : Int) < (m : Int))
    have b4 := dN (fP.length < m)
    have sd11 : (cs.length + 1) * 8 <= 140737488355328 := by omega
    have gy := (yu HS.out 5 rfl ET.out)
    go_upto_region 7 with (first | ((with_reducible refine kV (N := 42) rfl ?_); refine Kd.Ch (Kd.int .i64) (w0 := w) base 3 ?hg (N := 42) ?hd (xs := [(m : Int)]) (inner := [.int .i64 (m : Int)]) (ok := fun _ => True) (okp := fun _ => False) ?hr (Kd.bH (enc := (Value.int .i64)) [(m : Int)]) (fun _ h => h.elim) trivial HB.out (eY eB HB) (by simp) ?_; (case hd => rfl); (case hg => rfl); (case hr => first | (go_simp; done) | (go_simp; rfl)); intro v5 Gh ho hb hg hn; obtain ⟨A6, c7, rfl⟩ : ∃ A c, v5 = .slice A 1 c := Kd.au ho; have az := oK (aa.rA HS.out (Qt ho) hg hn); have aG : ae (Below base w Gh) := ⟨hb⟩; clear HS HB ho hb hg hn; have HS := az; have HB := aG; clear az aG; clear gy; have gy := (yu HS.out 5 rfl ET.out)) | ((with_reducible refine di (b := .append) (xs := #[.tmp 39, .tmp 42]) rfl ?_); at_builtin; refine Kd.fU (Kd.int .i64) (w0 := w) base rfl (.tmp 39) (.tmp 42) 108 3 (.int .i64 0) 8 rfl Try.underlying108 info3 rfl (by decide) (by omega) (.slice Ac cs.length cc) cs [(m : Int)] A6 1 c7 (fun _ => True) (fun _ => False) rfl rfl (aa.ir HS.out 8 rfl) (XU HS.out 12 rfl) (fun _ _ h => h) (fun _ h => h.elim) (fun _ _ => trivial) HB.out (eY eB HB) sd11 ?_; intro u8 IC ho hb hg hat; rw [<- oF.out] at ho; obtain ⟨A9, c10, rfl⟩ := Kd.au ho; have az := oK (aa.XV 8 HS.out rfl ho hg hat); have aG : ae (Below base w IC) := ⟨hb⟩; clear HS HB ho hb hg hat; have HS := az; have HB := aG; clear az aG; clear gy; have gy := (yu HS.out 5 rfl ET.out); have MW := yu HS.out 5 rfl ET.out; have MX := aa.VT HS.out 5 rfl (fP.length * 3 + 2)))
    have az := jr (World.setCell IC ⟨go, fP.length * 3 + 2, none⟩ (.slice A9 l1.length c10)) (aa.Dh HS.out 5 rfl ET.out ⟨.slice KH tks.length ck1, .slice Bh tvs.length xW, .slice A9 l1.length c10, tks, tvs, l1⟩ 2 (.slice A9 l1.length c10) (by decide) rfl)
    have aG : ae (Below base w (World.setCell IC ⟨go, fP.length * 3 + 2, none⟩ (.slice A9 l1.length c10))) := ⟨(HB.out).setCell (p := ⟨go, fP.length * 3 + 2, none⟩) (aa.Qu HS.out 5 rfl) _⟩
    generalize World.setCell IC ⟨go, fP.length * 3 + 2, none⟩ (.slice A9 l1.length c10) = EN at az aG ⊢
    clear HS HB gy MW MX; have HS := az; have HB := aG; clear az aG
    obtain ⟨p', hp'⟩ : ∃ p' : Pg, p' = ⟨.slice KH tks.length ck1, .slice Bh tvs.length xW, .slice A9 l1.length c10, tks, tvs, l1⟩ := ⟨_, rfl⟩
    have HP' := A_ hp'
    have az : aa EN base (BK 101 74 (NT.mk tp (.slice tF tks.length ja) (.slice uF tvs.length jk) (.slice (some kS) aZ.length jC) tks tvs aZ) (.slice (some ⟨go, 0, none⟩) m co1) A B p' L) := by
     rw [hp']
     exact aa.ky HS.out [0, 1, 2, 3, 4, 5, 6, 7, 8, 9, 10, 11] (by decide)
    have hpl : (A ++ p' :: B).length = m := by
     have h1 := congrArg List.length Gp.out
     rw [List.length_map, qZ] at h1
     rw [List.length_append, List.length_cons, h1, ET.out, HM.out]
     omega
    have HPN := A_ hpl
    have hbs : s.erase.big <= n /\ m + s.erase.big <= 100000 := by
     have h1 := Ic jl.out
     have h2 := nP K (i + 1)
     have h3 := Sm.out
     have h4 := HPL.out
     rw [PT.big, <- HK.out] at h3 h4
     have := HM.out
     omega
    have hC := ih s hbs.1 (R6.out _ (by rw [<- HK.out]; exact List.mem_of_getElem? jl.out)) base _ _ _ EN (Eo Sn.out az) (eY eB HB) (by rw [hpl]; exact hbs.2)
    have HC := A_ hC
    clear hC az hp' hpl hbs
    go_upto_region 8 with (first | (go_at_call 110; (with_reducible refine HC.out.mono ?_); rintro e w30 ⟨vo2, pgs2, rfl, he, hs2, hb2⟩))
    clear HC HS
    rw [List.map_append, List.map_cons, List.append_assoc, List.cons_append, HPN.out] at he
    obtain ⟨A2, p2, B2, rfl, hA2, hp2, hB2⟩ := Ct he
    have h5 := Ep Sn.out hs2
    obtain ⟨Ao2, co2, rfl⟩ := jc (aa.rowOk h5 5 rfl)
    obtain ⟨go2, rfl⟩ := zy (aa.rowOk h5 5 rfl) (by rw [List.length_append, List.length_cons]; omega)
    cases p2 with | mk kv2 vv2 cv2 Zd vs2 cs2 =>
    have e6 : (⟨Zd, vs2, cs2⟩ : bE) = ⟨tks, tvs, l1⟩ := by rw [show (⟨Zd, vs2, cs2⟩ : bE) = p'.erase from hp2, HP'.out]; rfl
    injection e6 with e7 e8 e9
    subst e7
    subst e8
    subst e9
    have HS := A_ h5
    have HB3 := A_ (HB.out.trans hb2)
    have HA2 := A_ (hA2.trans HA.out)
    have HB2 := A_ (show B2.map Pg.erase = rP (K.take (i + 1)) (fP.length + 1) by rw [hB2, Gp.out, uw jl.out, yo, HM.out])
    have WC := A_ (show (A2 ++ ⟨kv2, vv2, cv2, Zd, vs2, cs2⟩ :: B2).length = fP.length + 1 + PT.jH (K.take (i + 1)) by
     have h1 := congrArg List.length HB2.out
     have h2 := congrArg List.length HA2.out
     rw [List.length_map, qZ] at h1
     rw [List.length_map, List.length_map] at h2
     rw [List.length_append, List.length_cons, h1, h2]
     omega)
    have CV := A_ (show cs2 = starts (K.take (i + 1)) (fP.length + 1) by rw [oF.out, uw jl.out, wK, <- Zc.out, HM.out])
    clear he hs2 hb2 hA2 hp2 hB2 h5 HB
    go_wp2_with fail
    go_roundg (aZ.length - (i + 1))
    case measure => have := Zb.out; omega
    case rel => exact ⟨i + 1, _, go2, co2, A2, B2, kv2, vv2, cv2, cs2, by first | rfl | (simp; done), by first | rfl | go_num | (simp; done), ⟨by have := Zb.out; omega⟩, CV, HA2, HB2, WC, ⟨by rw [HT0.out]; exact HS.out⟩, HB3⟩
   ·have ce := mZ ((i : Int) < (aZ.length : Int))
    have BU : (i < aZ.length) = False := eq_false hi
    have hKi : K.take i = K := List.take_of_length_le (by rw [Bb.out]; omega)
    have FU := A_ hKi
    clear hKi hi
    go_wp2_with fail
    go_ret
    refine ⟨_, A ++ ⟨kv, vv, cv, tks, tvs, cs⟩ :: B, rfl, ?_, by rw [<- HT0.out]; exact En HS.out, HB.out⟩
    rw [List.map_append, List.map_cons, HA.out, Gp.out, FU.out]
    show _ = fP.map Pg.erase ++ mh (.mk tks tvs (NT.aD aZ)) fP.length
    rw [mh, <- HK.out]
    show _ ++ (⟨tks, tvs, cs⟩ : bE) :: _ = _
    rw [Zc.out, FU.out]
theorem Rq.calls (t : NT) (hbd : mG t.erase) (hbig : t.erase.big <= 100000) (base : Nat) (L : List Ck) (w : World) (hs : Sat w base (t.fB 101 74 ++ L)) (hbs : base <= w.heap.size) :
  Calls Try.prog 81 #[bO t.p] w (TRR w base 101 74 t L) := by
 have Ze : ae (Sat w base (L ++ t.fB 101 74)) := ⟨hs.perm List.perm_append_comm⟩
 have HB := A_ (Below.refl base w)
 have eB := A_ hbs
 have HBD := A_ hbd
 clear hs hbs hbd
 obtain ⟨tp, htp⟩ : ∃ p, t.p = p := ⟨_, rfl⟩
 have HTP := A_ htp
 rw [htp]
 clear htp
 go_enter Try.func81, Try.ntmps81
 go_upto_region 1 with (first | (refine lY 2 #[.slice none 0 0] 29 ?_; intro g hg w2 aM hb; have az : ae (Sat w2 base (t.fB 101 74 ++ (iP (.slice none 0 0) [] ++ (.box 29 g #[.slice none 0 0] :: L)))) := ⟨Qv ((Sat.oQ Ze.out hg aM hb eB.out).perm ((List.perm_append_comm (l₁ := L)).cons _ |>.trans List.perm_middle.symm))⟩; have aG := A_ (HB.out.trans (hb.mono eB.out)); clear Ze HB hg aM hb; have HS := az; have HB := aG; clear az aG))
 have hC := NV.calls t.erase.big t (Nat.le_refl _) HBD.out base _ [] _ w2 HS.out (eY eB HB) (by rw [List.length_nil]; omega)
 rw [HTP.out] at hC
 have HC := A_ hC
 clear hC HS
 go_wp2_with (first | (go_at_call 110; (with_reducible refine HC.out.mono ?_); rintro e w3 ⟨vo, fP, rfl, he, hs3, hb3⟩; obtain ⟨Ao, co, rfl⟩ := jc (hs3.ok (sW vo fP) (List.mem_append_right _ List.mem_cons_self)); have HZ := A_ (hs3.cell (T := 29) (p := g) (cs := #[.slice none 0 0]) (List.mem_append_right _ (List.mem_append_right _ List.mem_cons_self))); have hz := hs3.cell (T := 29) (p := g) (cs := #[.slice none 0 0]) (List.mem_append_right _ (List.mem_append_right _ List.mem_cons_self)); have hz1 : w3.cell? ⟨g, 0, none⟩ = some (.slice none 0 0) := (af hz 0).trans rfl; have hf1 := ax hz 0; have HE := A_ he; have J9 := A_ hs3; have HB3 := A_ hb3; clear hz he hs3 hb3))
 refine bodyPost_ret (results_cell_row rfl _ _ g 29 #[.slice Ao fP.length co] (0, 0) _ rfl (gY (cs := #[.slice none 0 0]) HZ.out 0 _ rfl) Try.underlying29 rfl (by kernel_rfl)) rfl ?_
 have hX : Sat (w3.setCell ⟨g, 0, none⟩ (.slice Ao fP.length co)) base (.box 29 g #[.slice Ao fP.length co] :: (t.fB 101 74 ++ (iP (.slice Ao fP.length co) fP ++ L))) := Sat.put (cs := #[.slice none 0 0]) (J9.out.perm (by
  rw [<- List.append_assoc]
  refine List.perm_middle.trans ?_
  rw [List.append_assoc])) 0 _ rfl
 exact ⟨_, fP, rfl, by rw [HE.out]; rfl, hX.tail, (HB.out.trans HB3.out).setCell (p := ⟨g, 0, none⟩) (J9.out.ok (.box 29 g #[.slice none 0 0]) (List.mem_append_right _ (List.mem_append_right _ List.mem_cons_self))).1 _⟩
set_option maxHeartbeats 8000000
set_option maxRecDepth 100000
set_option maxHeartbeats 8000000
set_option maxRecDepth 100000
set_option maxHeartbeats 8000000
set_option maxRecDepth 100000
open Go.Proofs.Ytoddejmlcnbdmaa.Pure (mO bD)
theorem V9 (K : List ByteArray) (key : ByteArray) (hK : K.length <= 1000) (hs : Go.Proofs.Ytoddejmlcnbdmaa.Pure.Jj K) : ∃ k, fH.f k K key = some (dV key K : Int) := by
 obtain ⟨b, h⟩ := Go.Proofs.Ytoddejmlcnbdmaa.Pure.Lc K key (by omega) hs
 exact ⟨b, h b (Nat.le_refl _)⟩
set_option maxHeartbeats 8000000
set_option maxRecDepth 100000
open Go.Proofs.Ytoddejmlcnbdmaa.Pure (mO bD)
end Go.Proofs.Ytoddejmlcnbdmaa.Tree
namespace Go.Proofs.Ytoddejmlcnbdmaa.Fn
open Go.Proofs.Ytoddejmlcnbdmaa.Tree
open Go.Proofs.Ytoddejmlcnbdmaa.Pure (Qq Qr xx bD rD oO jK BI zk bZ)
set_option maxHeartbeats 8000000
set_option maxRecDepth 100000
def tu (P : List bE) : Bool := ZV P && decide (P.length <= 1048576)
theorem zD {P : List bE} (h : tu P = true) : ZV P = true /\ P.length <= 1048576 := by
 unfold tu at h
 simpa using h
theorem TG {P : List bE} {r : Option PT} : ∀ {k m : Nat}, k <= m -> vG k P = some r -> vG m P = some r := by
 intro k m h e
 obtain ⟨d, rfl⟩ := Nat.exists_eq_add_of_le h
 clear h
 induction d with
 | zero => exact e
 | succ d ih => exact Nz P (k + d) r ih
theorem TH {P : List bE} {k : Nat} {r : Option PT} (hP : P.length <= 1048576) (h : vG k P = some r) : FQ P = r := by
 obtain ⟨K, hK⟩ := Go.Proofs.Ytoddejmlcnbdmaa.Pure.Qp P hP
 have h1 := TG (Nat.le_max_left k K) h
 have h2 := hK (max k K) (Nat.le_max_right k K)
 have h2 : vG (max k K) P = some (FQ P) := h2
 rw [h1] at h2
 exact (Option.some.inj h2).symm
theorem xz {w : World} {base g n c : Nat} {A : Option Addr} {X : List Ck} {fP : List Pg} (h : Sat w base (X ++ (iP (.slice A n c) fP ++ [.box 29 g #[.slice none 0 0]]))) : Kd.S iV 110 (w.setCell ⟨g, 0, none⟩ (.slice A n c)) base (fun _ => True) (.slice A n c) (fP.map Pg.erase) := by
 have h1 : Sat w base (.box 29 g #[.slice none 0 0] :: (X ++ iP (.slice A n c) fP)) := h.perm (by
  rw [<- List.append_assoc]
  exact List.perm_append_comm)
 have h2 : Sat (w.setCell ⟨g, 0, none⟩ (.slice A n c)) base (.box 29 g #[.slice A n c] :: (X ++ iP (.slice A n c) fP)) := Sat.put (cs := #[.slice none 0 0]) h1 0 _ rfl
 exact VY h2.tail.right
end Go.Proofs.Ytoddejmlcnbdmaa.Fn
namespace Go.Proofs.Ytoddejmlcnbdmaa.Pure
open Go.Proofs.Ytoddejmlcnbdmaa.Fn Go.Proofs.Ytoddejmlcnbdmaa.Tree
def kM (key : ByteArray) (l : List KV) : ByteArray × Bool := match l.find? (fun x => x.1.toList == key.toList) with
 | some x => (x.2, true)
 | none => (ByteArray.empty, false)
theorem yw {key : ByteArray} {A B : List KV} (h : ∀ x ∈ A, (x.1.toList == key.toList) = false) : kM key (A ++ B) = kM key B := by
 unfold kM
 rw [List.find?_append, List.find?_eq_none.2 (fun x hx => by rw [h x hx]; decide)]
 rfl
theorem LF {key : ByteArray} {A B : List KV} (h : ∀ x ∈ B, (x.1.toList == key.toList) = false) : kM key (A ++ B) = kM key A := by
 have hB : B.find? (fun x => x.1.toList == key.toList) = none := List.find?_eq_none.2 (fun x hx => by rw [h x hx]; decide)
 unfold kM
 rw [List.find?_append, hB, Option.or_none]
theorem Rs {key : ByteArray} {x : KV} {B : List KV} (h : (x.1.toList == key.toList) = true) : kM key (x :: B) = (x.2, true) := by
 unfold kM
 rw [List.find?_cons, h]
theorem Rt {key : ByteArray} {l : List KV} (h : ∀ x ∈ l, (x.1.toList == key.toList) = false) : kM key l = (ByteArray.empty, false) := by
 unfold kM
 rw [List.find?_eq_none.2 (fun x hx => by rw [h x hx]; decide)]
theorem zF {key : ByteArray} {l : List KV} : (kM key l).2 = true ↔ Has key l := by
 unfold kM Has
 cases h : l.find? (fun x => x.1.toList == key.toList) with
 | none =>
  refine ⟨fun e => (by cases e), ?_⟩
  rintro ⟨x, hx, e⟩
  have := List.find?_eq_none.1 h x hx
  exact absurd e this
 | some x => exact ⟨fun _ => ⟨x, List.mem_of_find?_eq_some h, by have := List.find?_some h; exact this⟩, fun _ => rfl⟩
theorem zG : ∀ (n : Nat) (t : PT) (key : ByteArray), t.big <= n -> mG t -> mO (bD t) -> CO n t key = kM key (bD t)
 | 0, t, key, hb, _, _ => absurd t.fZ (by omega)
 | n + 1, t, key, hb, hbd, hs => by
  obtain ⟨⟨h1, h2, h3⟩, h4⟩ := cz.1 hbd
  have hle := nJ key t.keys
  rw [CO]
  cases hS : jI t.keys (dV key t.keys) key with
  | true =>
   rw [if_pos rfl]
   have hlt := lJ hS
   have hx : t.keys[dV key t.keys]? = some (bF t.keys (dV key t.keys)) := qG hlt
   have he : ((bF t.keys (dV key t.keys)).toList == key.toList) = true := by
    unfold jI at hS
    rw [hx] at hS
    exact hS
   obtain ⟨A, B, hAB⟩ := yh (t.kids.map bD) ((bU t).take (dV key t.keys)) ((bU t).drop (dV key t.keys + 1)) (by
    rw [List.length_map, List.length_take, uk h1]
    rcases h3 with h | h
    ·left
     rw [List.length_eq_zero_iff.1 h]
     rfl
    ·right
     omega)
   have e : bD t = A ++ (bF t.keys (dV key t.keys), bF t.vals (dV key t.keys)) :: B := by
    rw [eH (bZ hbd), <- hAB]
    congr 1
    exact kZ hlt h1
   rw [e] at hs ⊢
   rw [yw (fun x hx => by
    have := (List.pairwise_append.1 hs).2.2 x hx _ List.mem_cons_self
    rw [<- eq_of_beq he]
    exact Eg this), Rs he]
   unfold cK bF
   rw [Int.toNat_natCast]
  | false =>
   rw [if_neg (by decide)]
   by_cases h0 : t.kids.length = 0
   ·rw [if_pos h0]
    have hsk : Jj t.keys := rE ((nM (bZ hbd)).2 hs)
    rw [iK (bZ hbd) (List.length_eq_zero_iff.1 h0), <- List.take_append_drop (dV key t.keys) (bU t)]
    rw [yw (fun x hx => Eg (sj h1 x hx)), Rt (fun x hx => D7 (qF hsk hS x hx))]
   ·rw [if_neg h0]
    have hkl : t.kids.length = t.keys.length + 1 := h3.resolve_left h0
    have hx : t.kids[dV key t.keys]? = some t.kids[dV key t.keys] := List.getElem?_eq_getElem (by omega)
    generalize t.kids[dV key t.keys] = s at hx
    rw [hx]
    simp only
    have hm := List.mem_of_getElem? hx
    obtain ⟨hpre, CG, _⟩ := sw hbd hs hS hx
    rw [(uq hbd hx hle).1, yw (fun x hx => Eg (hpre x hx)), LF (fun x hx => D7 (CG x hx))]
    exact zG n s key (by have := PT.gK hx; omega) (h4 s hm) (mg hbd hs hx hle)
theorem Wd {t : PT} {key : ByteArray} {g : ByteArray × Bool} : ∀ {k m : Nat}, k <= m -> yf k k t key = some g -> yf m m t key = some g := by
 intro k m h e
 obtain ⟨d, rfl⟩ := Nat.exists_eq_add_of_le h
 clear h
 induction d with
 | zero => exact e
 | succ d ih => exact GX (k + d) (k + d) t key g ih
theorem Il {k : Nat} {t : PT} {key : ByteArray} {g : ByteArray × Bool} (h : Qq t) (e : yf k k t key = some g) : g = kM key (bD t) := by
 obtain ⟨K, hK⟩ := NI t.big t key (Nat.le_refl _) (bZ h.bnd) ((nM (bZ h.bnd)).2 h.NM)
 have h1 := Wd (m := max k (max K t.big)) (by omega) e
 rw [hK _ (by omega) _ (by omega), zG t.big t key (Nat.le_refl _) h.bnd h.NM] at h1
 exact (Option.some.inj h1).symm
end Go.Proofs.Ytoddejmlcnbdmaa.Pure
namespace Go.Proofs.Ytoddejmlcnbdmaa.Tree
set_option maxHeartbeats 8000000
set_option maxRecDepth 100000
theorem NW.calls (t l r : NT) (P Q : List NT) (i : Nat) (hi : 0 < i) (ht : t.kids = P ++ l :: r :: Q) (hP : P.length = i - 1) (h2 : 2 < l.keys.length) (hl : Jo l.keys l.vals l.kids.length) (hr : Jo r.keys r.vals r.kids.length) (hj : i - 1 < t.keys.length /\ t.keys.length <= 1000 /\ t.vals.length = t.keys.length /\ t.kids.length = t.keys.length + 1)
  (base : Nat) (L : List Ck) (w : World) (hs : Sat w base (t.fB 96 70 ++ L)) (hbs : base <= w.heap.size) :
  Calls Try.prog 113 #[bO t.p, .int .i64 (i : Int)] w (WR w base 96 70 t L (D9 t.erase (i - 1))) := by
 cases t with | mk tp Gq Gr Gs tks tvs aZ =>
 cases l with | mk lp MZ M0 M3 dO kG lcs =>
 cases r with | mk rp M4 M5 rcv mP lS fo =>
 have h0 := open_pair ht hs
 unfold kL at h0
 simp only [NT.keys, NT.vals, NT.kids, NT.p, NT.kv, NT.vv, NT.cv] at ht hl hr hj h0 h2 ⊢
 clear hs
 unfold Jo at hl hr
 obtain ⟨hl1, hl2, hl3⟩ := hl
 obtain ⟨hr1, hr2, hr3⟩ := hr
 obtain ⟨hj1, hj2, M6, PH⟩ := hj
 have hil : i < aZ.length := by rw [ht, List.length_append, hP]; simp only [List.length_cons]; omega
 have hij : i = (i - 1) + 1 := by omega
 have HP := A_ hP
 have HT := A_ ht
 have hkl : aZ[(i - 1)]? = some (NT.mk lp MZ M0 M3 dO kG lcs) /\ (NT.mk lp MZ M0 M3 dO kG lcs).p = lp := ⟨by rw [ht]; exact Ri hP, rfl⟩
 have hkr : aZ[i]? = some (NT.mk rp M4 M5 rcv mP lS fo) /\ (NT.mk rp M4 M5 rcv mP lS fo).p = rp := ⟨by rw [ht, hij]; exact Rj hP, rfl⟩
 have Bb := A_ hkl
 have Sr := A_ hkr
 clear hkl hkr ht hij
 obtain ⟨R, hR⟩ : ∃ R, R = D9 (NT.mk tp Gq Gr Gs tks tvs aZ).erase (i - 1) := ⟨_, rfl⟩
 rw [<- hR]
 have HRR := A_ hR
 clear hR
 obtain ⟨tF, ja, rfl⟩ := Kd.au (h0.sr 1 rfl)
 obtain ⟨jE, rfl⟩ := dP (h0.sr 1 rfl) (by omega)
 obtain ⟨uF, jk, rfl⟩ := Kd.au (h0.sr 2 rfl)
 obtain ⟨jF, rfl⟩ := dP (h0.sr 2 rfl) (by omega)
 obtain ⟨Cc, jC, rfl, _, _⟩ := eO (h0.q 3 rfl)
 obtain ⟨kS, rfl⟩ := gq (h0.q 3 rfl) (by omega)
 obtain ⟨IG, wo, rfl⟩ := Kd.au (h0.sr 5 rfl)
 obtain ⟨KI, rfl⟩ := dP (h0.sr 5 rfl) (by omega)
 obtain ⟨Dn, uJ, rfl⟩ := Kd.au (h0.sr 6 rfl)
 obtain ⟨KJ, rfl⟩ := dP (h0.sr 6 rfl) (by omega)
 obtain ⟨xL, oM, rfl, _, _⟩ := eO (h0.q 7 rfl)
 obtain ⟨Kt, II, rfl⟩ := Kd.au (h0.sr 10 rfl)
 obtain ⟨Dp, CY, rfl⟩ := Kd.au (h0.sr 11 rfl)
 obtain ⟨xM, crc, rfl, _, _⟩ := eO (h0.q 12 rfl)
 obtain ⟨GP, FH⟩ : ∃ G, G = NT.bI 96 70 P := ⟨_, rfl⟩
 obtain ⟨GQ, FI⟩ : ∃ G, G = NT.bI 96 70 Q ++ L := ⟨_, rfl⟩
 rw [<- FH, <- FI] at h0
 have HS := A_ h0
 have HB := A_ (Below.refl base w)
 have eB := A_ hbs
 have PI := A_ FH
 have PK := A_ FI
 clear h0 hbs FH FI hP
 have Vo := A_ (show fo.length <= 1001 by omega)
 have HV := A_ (show kG.length = dO.length /\ lS.length = mP.length /\ tvs.length = tks.length /\ (lcs.length = 0 ∨ lcs.length = dO.length + 1) /\ aZ.length = tks.length + 1 from ⟨hl2, hr2, M6, hl3, PH⟩)
 have hlv : dO.length <= kG.length /\ kG.length <= 1000 := by omega
 have hrv : lS.length <= 1000 := by omega
 have Vl : i - 1 < tvs.length /\ tvs.length <= 1000 := by omega
 have htc : aZ.length <= 1001 := by omega
 have HI0 := A_ hi
 clear hl2 hl3 hr2 hr3 M6 PH
 obtain ⟨tx, htx⟩ : ∃ x, bF tks (i - 1) = x := ⟨_, rfl⟩
 have qb : ae ((i - 1) < tks.length /\ bF tks (i - 1) = tx) := ⟨by omega, htx⟩
 clear htx
 obtain ⟨ty, hty⟩ : ∃ x, bF tvs (i - 1) = x := ⟨_, rfl⟩
 have o7 : ae ((i - 1) < tvs.length /\ bF tvs (i - 1) = ty) := ⟨by omega, hty⟩
 clear hty
 obtain ⟨lx, hlx⟩ : ∃ x, bF dO (dO.length - 1) = x := ⟨_, rfl⟩
 have PL : ae ((dO.length - 1) < dO.length /\ bF dO (dO.length - 1) = lx) := ⟨by omega, hlx⟩
 clear hlx
 obtain ⟨ly, U4⟩ : ∃ x, bF kG (dO.length - 1) = x := ⟨_, rfl⟩
 have PM : ae ((dO.length - 1) < kG.length /\ bF kG (dO.length - 1) = ly) := ⟨by have := HV.out; omega, U4⟩
 clear U4
 obtain ⟨l1, oF⟩ := oI (bz mP 0 tx)
 obtain ⟨l2, sS⟩ := oI (bz lS 0 ty)
 obtain ⟨l3, Dq⟩ := oI (tks.set (i - 1) lx)
 obtain ⟨l4, Gt⟩ := oI (tvs.set (i - 1) ly)
 obtain ⟨l5, FV⟩ := oI (dO.take (dO.length - 1))
 obtain ⟨l6, FW⟩ := oI (kG.take (dO.length - 1))
 go_enter Try.func113, Try.ntmps113
 have b7 := dN (0 <= (i : Int))
 have b8 := dN ((i : Int) < (aZ.length : Int))
 have b9 := dN (i < aZ.length)
 have gy := (aa.z2 HS.out 0 rfl)
 have uG := (il (aa.gX HS.out 3 rfl) Sr.out)
 go_upto_region 2 with fail
 clear gy uG
 have c10 := pF ((0 : Int) < (i : Int))
 have b11 := dN (1 <= (i : Int))
 have b12 := dN (((i : Int) - 1) < (aZ.length : Int))
 have b13 := dN ((i - 1) < aZ.length)
 have c14 := pF ((2 : Int) < (dO.length : Int))
 have gy := (aa.z2 HS.out 0 rfl)
 have uG := (il (aa.gX HS.out 3 rfl) Bb.out)
 have Ce := (aa.z0 HS.out 4 rfl)
 go_upto_region 3 with fail
 clear gy uG Ce
 have gy := (aa.z2 HS.out 0 rfl)
 have uG := (il (aa.gX HS.out 3 rfl) Bb.out)
 go_upto_region 4 with fail
 clear gy uG
 have gy := (aa.z0 HS.out 4 rfl)
 go_upto_region 5 with fail
 clear gy
 have b15 := dN (((i : Int) - 1) < (tks.length : Int))
 have b16 := dN ((i - 1) < tks.length)
 have sd17 : 0 <= mP.length /\ mP.length <= 1000000 := by omega
 have q20 : wrap64 ((i : Int) - 1) = ((i : Int) - 1) := jW (by omega)
 refine dL (n := 17) (S := fun w' => w'.cell? ⟨rp, 0, none⟩ = some (.slice Kt mP.length II) /\ w'.cell? ⟨tp, 0, none⟩ = some (.slice (some ⟨jE, 0, none⟩) tks.length ja) /\ w'.cell? ⟨jE, (i - 1), none⟩ = some (.string tx)) (ds := [16]) (bt 17 0) (by kernel_rfl) rfl rfl ⟨(aa.z0 (aa.drew HS.out) 9 rfl), (aa.z0 (aa.drew HS.out) 0 rfl), (iY (aa.sr (aa.drew HS.out) 1 rfl) qb.out)⟩ (fun hHeld => ?_)
 refine aQ 0 51 1 ?_
 refine aQ 1 52 3 ?_
 refine aQ 2 53 7 ?_
 refine aQ 3 54 15 ?_
 refine aQ 5 56 47 ?_
 refine aQ 6 57 111 ?_
 refine aQ 7 58 239 ?_
 refine aQ 9 60 751 ?_
 refine aQ 10 61 1775 ?_
 refine gF 4 55 1791 hHeld ?_
 refine gF 8 59 2047 hHeld ?_
 refine aQ 11 62 4095 ?_
 refine gF 12 63 8191 hHeld ?_
 refine jm 13 (some 64) 16383 (fun K hK => ?_)
 refine wm Try.func124 #[.slice Kt mP.length II, .int .i64 0, .string tx] ?_
 with_reducible refine (Xg 0 0 tx rfl oF.out (aa.row (aa.drew HS.out) 10 rfl) sd17).mono ?_
 rintro e w2 ⟨kI, rfl, ho, hb⟩
 refine ⟨_, rfl, ?_⟩
 obtain ⟨Bc, c19, rfl⟩ := Kd.au ho
 have az := oK (aa.gQ (aa.drew HS.out) hb (eY eB HB) ho)
 have aG : ae (Below base w w2) := ⟨((aH HB.out)).trans (hb.mono (eY eB HB))⟩
 clear HS HB ho hb; have HS := az; have HB := aG; clear az aG
 have zs0 := aa.z0 HS.out 9 rfl
 have kJ := aa.f HS.out 9 rfl 0
 refine hK.out _ _ ⟨(aa.z0 HS.out 9 rfl), (aa.z0 HS.out 0 rfl), (iY (aa.sr HS.out 1 rfl) qb.out)⟩ (fun hHeld => ?_)
 clear hK K
 refine fw 64 ?_
 refine aQ 14 65 32767 ?_
 refine aQ 15 66 65535 ?_
 refine wZ 16 none 131071 (fun K hK => ?_)
 refine iN (w1 := ?_) (by rfl) rfl ?_ ?_
 rotate_left
 ·go_simp
  rfl
 refine hK.out _ _ ?_
 clear hK K
 refine fA (by kernel_rfl) ?_
 clear q20
 have az := jr (World.setCell w2 ⟨rp, 0, none⟩ (.slice Bc l1.length c19)) (aa.ky (aa.Eb HS.out 9 rfl (.slice Bc l1.length c19)) [0, 1, 2, 3, 4, 5, 6, 7, 8, 9, 16, 11, 12, 13, 14, 15] (by decide))
 have aG : ae (Below base w (World.setCell w2 ⟨rp, 0, none⟩ (.slice Bc l1.length c19))) := ⟨(HB.out).setCell (p := ⟨rp, 0, none⟩) (aa.ge HS.out 9 rfl) _⟩
 generalize World.setCell w2 ⟨rp, 0, none⟩ (.slice Bc l1.length c19) = w3 at az aG ⊢
 clear HS HB zs0 kJ; have HS := az; have HB := aG; clear az aG
 go_upto_region 6 with fail
 have b21 := dN (((i : Int) - 1) < (tvs.length : Int))
 have b22 := dN ((i - 1) < tvs.length)
 have U5 : 0 <= lS.length /\ lS.length <= 1000000 := by omega
 have q26 : wrap64 ((i : Int) - 1) = ((i : Int) - 1) := jW (by omega)
 refine dL (n := 17) (S := fun w' => w'.cell? ⟨rp, 1, none⟩ = some (.slice Dp lS.length CY) /\ w'.cell? ⟨tp, 1, none⟩ = some (.slice (some ⟨jF, 0, none⟩) tvs.length jk) /\ w'.cell? ⟨jF, (i - 1), none⟩ = some (.string ty)) (ds := [16]) (bt 17 0) (by kernel_rfl) rfl rfl ⟨(aa.z1 (aa.drew HS.out) 9 rfl), (aa.z1 (aa.drew HS.out) 0 rfl), (iY (aa.sr (aa.drew HS.out) 2 rfl) o7.out)⟩ (fun hHeld => ?_)
 refine aQ 0 67 1 ?_
 refine aQ 1 68 3 ?_
 refine aQ 2 69 7 ?_
 refine aQ 3 70 15 ?_
 refine aQ 5 72 47 ?_
 refine aQ 6 73 111 ?_
 refine aQ 7 74 239 ?_
 refine aQ 9 76 751 ?_
 refine aQ 10 77 1775 ?_
 refine gF 4 71 1791 hHeld ?_
 refine gF 8 75 2047 hHeld ?_
 refine aQ 11 78 4095 ?_
 refine gF 12 79 8191 hHeld ?_
 refine jm 13 (some 80) 16383 (fun K hK => ?_)
 refine wm Try.func124 #[.slice Dp lS.length CY, .int .i64 0, .string ty] ?_
 with_reducible refine (Xg 0 0 ty rfl sS.out (aa.row (aa.drew HS.out) 11 rfl) U5).mono ?_
 rintro e w4 ⟨kI, rfl, ho, hb⟩
 refine ⟨_, rfl, ?_⟩
 obtain ⟨FJ, FL, rfl⟩ := Kd.au ho
 have az := oK (aa.gQ (aa.drew HS.out) hb (eY eB HB) ho)
 have aG : ae (Below base w w4) := ⟨((aH HB.out)).trans (hb.mono (eY eB HB))⟩
 clear HS HB ho hb; have HS := az; have HB := aG; clear az aG
 have zs0 := aa.z1 HS.out 9 rfl
 have kJ := aa.f HS.out 9 rfl 1
 refine hK.out _ _ ⟨(aa.z1 HS.out 9 rfl), (aa.z1 HS.out 0 rfl), (iY (aa.sr HS.out 2 rfl) o7.out)⟩ (fun hHeld => ?_)
 clear hK K
 refine fw 80 ?_
 refine aQ 14 81 32767 ?_
 refine aQ 15 82 65535 ?_
 refine wZ 16 none 131071 (fun K hK => ?_)
 refine iN (w1 := ?_) (by rfl) rfl ?_ ?_
 rotate_left
 ·go_simp
  rfl
 refine hK.out _ _ ?_
 clear hK K
 refine fA (by kernel_rfl) ?_
 clear q26
 have az := jr (World.setCell w4 ⟨rp, 1, none⟩ (.slice FJ l2.length FL)) (aa.ky (aa.Ec HS.out 9 rfl (.slice FJ l2.length FL)) [0, 1, 2, 3, 4, 5, 6, 7, 8, 9, 10, 16, 12, 13, 14, 15] (by decide))
 have aG : ae (Below base w (World.setCell w4 ⟨rp, 1, none⟩ (.slice FJ l2.length FL))) := ⟨(HB.out).setCell (p := ⟨rp, 1, none⟩) (aa.ge HS.out 9 rfl) _⟩
 generalize World.setCell w4 ⟨rp, 1, none⟩ (.slice FJ l2.length FL) = w5 at az aG ⊢
 clear HS HB zs0 kJ; have HS := az; have HB := aG; clear az aG
 go_upto_region 7 with fail
 have b27 := dN (1 <= (dO.length : Int))
 have b28 := dN (((dO.length : Int) - 1) < (dO.length : Int))
 have b29 := dN ((dO.length - 1) < dO.length)
 have q30 : wrap64 ((i : Int) - 1) = ((i : Int) - 1) := jW (by omega)
 have zs0 := iY (aa.sr (aa.drew HS.out) 1 rfl) qb.out
 have kJ := ik (aa.sr (aa.drew HS.out) 1 rfl) (Nat.lt_of_le_of_lt (Nat.zero_le _) qb.out.1) (i - 1)
 refine dL (n := 15) (S := fun w' => w'.cell? ⟨tp, 0, none⟩ = some (.slice (some ⟨jE, 0, none⟩) tks.length ja) /\ w'.cell? ⟨lp, 0, none⟩ = some (.slice (some ⟨KI, 0, none⟩) dO.length wo) /\ w'.cell? ⟨KI, (dO.length - 1), none⟩ = some (.string lx)) (ds := [14]) (bt 15 0) (by kernel_rfl) rfl rfl ⟨(aa.z0 (aa.drew HS.out) 0 rfl), (aa.z0 (aa.drew HS.out) 4 rfl), (iY (aa.sr (aa.drew HS.out) 5 rfl) PL.out)⟩ (fun hHeld => ?_)
 refine aQ 0 83 1 ?_
 refine aQ 1 84 3 ?_
 refine aQ 2 85 7 ?_
 refine aQ 4 87 23 ?_
 refine aQ 5 88 55 ?_
 refine aQ 6 89 119 ?_
 refine aQ 7 90 247 ?_
 refine aQ 8 91 503 ?_
 refine aQ 10 93 1527 ?_
 refine gF 3 86 1535 hHeld ?_
 refine gF 9 92 2047 hHeld ?_
 refine aQ 11 94 4095 ?_
 refine gF 12 95 8191 hHeld ?_
 refine aQ 13 96 16383 ?_
 refine wZ 14 none 32767 (fun K hK => ?_)
 refine iN (w1 := ?_) (by rfl) rfl ?_ ?_
 rotate_left
 ·go_simp
  rfl
 refine hK.out _ _ ?_
 clear hK K
 refine fA (by kernel_rfl) ?_
 clear q30
 have az := jr (World.drew (World.setCell w5 ⟨jE, (i - 1), none⟩ (.string lx))) (aa.rM (aa.drew HS.out) 1 rfl (i - 1) lx Dq.out)
 have aG : ae (Below base w (World.drew (World.setCell w5 ⟨jE, (i - 1), none⟩ (.string lx)))) := ⟨((aH HB.out)).setCell (p := ⟨jE, (i - 1), none⟩) (vL (aa.drew HS.out) 1 rfl qb.out) _⟩
 generalize World.drew (World.setCell w5 ⟨jE, (i - 1), none⟩ (.string lx)) = w6 at az aG ⊢
 clear HS HB zs0 kJ; have HS := az; have HB := aG; clear az aG
 go_upto_region 8 with fail
 have b31 := dN (((dO.length : Int) - 1) < (kG.length : Int))
 have b32 := dN ((dO.length - 1) < kG.length)
 have q33 : wrap64 ((i : Int) - 1) = ((i : Int) - 1) := jW (by omega)
 have zs0 := iY (aa.sr (aa.drew HS.out) 2 rfl) o7.out
 have kJ := ik (aa.sr (aa.drew HS.out) 2 rfl) (Nat.lt_of_le_of_lt (Nat.zero_le _) o7.out.1) (i - 1)
 refine dL (n := 15) (S := fun w' => w'.cell? ⟨tp, 1, none⟩ = some (.slice (some ⟨jF, 0, none⟩) tvs.length jk) /\ w'.cell? ⟨lp, 1, none⟩ = some (.slice (some ⟨KJ, 0, none⟩) kG.length uJ) /\ w'.cell? ⟨KJ, (dO.length - 1), none⟩ = some (.string ly)) (ds := [14]) (bt 15 0) (by kernel_rfl) rfl rfl ⟨(aa.z1 (aa.drew HS.out) 0 rfl), (aa.z1 (aa.drew HS.out) 4 rfl), (iY (aa.sr (aa.drew HS.out) 6 rfl) PM.out)⟩ (fun hHeld => ?_)
 refine aQ 0 97 1 ?_
 refine aQ 1 98 3 ?_
 refine aQ 2 99 7 ?_
 refine aQ 4 101 23 ?_
 refine aQ 5 102 55 ?_
 refine aQ 6 103 119 ?_
 refine aQ 7 104 247 ?_
 refine aQ 8 105 503 ?_
 refine aQ 10 107 1527 ?_
 refine gF 3 100 1535 hHeld ?_
 refine gF 9 106 2047 hHeld ?_
 refine aQ 11 108 4095 ?_
 refine gF 12 109 8191 hHeld ?_
 refine aQ 13 110 16383 ?_
 refine wZ 14 none 32767 (fun K hK => ?_)
 refine iN (w1 := ?_) (by rfl) rfl ?_ ?_
 rotate_left
 ·go_simp
  rfl
 refine hK.out _ _ ?_
 clear hK K
 refine fA (by kernel_rfl) ?_
 clear q33
 have az := jr (World.drew (World.setCell w6 ⟨jF, (i - 1), none⟩ (.string ly))) (aa.rM (aa.drew HS.out) 2 rfl (i - 1) ly Gt.out)
 have aG : ae (Below base w (World.drew (World.setCell w6 ⟨jF, (i - 1), none⟩ (.string ly)))) := ⟨((aH HB.out)).setCell (p := ⟨jF, (i - 1), none⟩) (vL (aa.drew HS.out) 2 rfl o7.out) _⟩
 generalize World.drew (World.setCell w6 ⟨jF, (i - 1), none⟩ (.string ly)) = w7 at az aG ⊢
 clear HS HB zs0 kJ; have HS := az; have HB := aG; clear az aG
 go_upto_region 9 with fail
 obtain ⟨i0_, Be, _, Gu, _⟩ := info_parts eU
 have hcut34 := Jz (P := Try.prog) 38 9 .i64 Try.underlying38 Be (some ⟨KI, 0, none⟩) dO.length wo ((dO.length : Int) - 1) (by omega) (by omega) (aa.row HS.out 5 rfl).2.1
 simp only [show (((dO.length : Int) - 1)).toNat = (dO.length - 1) from by omega] at hcut34
 clear Be Gu
 have gy := (aa.z0 HS.out 4 rfl)
 have zs0 := aa.z0 HS.out 4 rfl
 have kJ := aa.f HS.out 4 rfl 0
 go_upto_region 10 with fail
 have az := jr (World.setCell w7 ⟨lp, 0, none⟩ (.slice (some ⟨KI, 0, none⟩) (dO.length - 1) wo)) (Qi (aa.Eb HS.out 4 rfl (.slice (some ⟨KI, 0, none⟩) (dO.length - 1) wo)) 5 rfl FV.out (by omega))
 have aG : ae (Below base w (World.setCell w7 ⟨lp, 0, none⟩ (.slice (some ⟨KI, 0, none⟩) (dO.length - 1) wo))) := ⟨(HB.out).setCell (p := ⟨lp, 0, none⟩) (aa.ge HS.out 4 rfl) _⟩
 generalize World.setCell w7 ⟨lp, 0, none⟩ (.slice (some ⟨KI, 0, none⟩) (dO.length - 1) wo) = w8 at az aG ⊢
 clear HS HB gy zs0 kJ; have HS := az; have HB := aG; clear az aG
 clear hcut34
 obtain ⟨i0_, Be, _, Gu, _⟩ := info_parts eU
 have hcut35 := Jz (P := Try.prog) 38 9 .i64 Try.underlying38 Be (some ⟨KJ, 0, none⟩) kG.length uJ ((dO.length : Int) - 1) (by omega) (by omega) (aa.row HS.out 6 rfl).2.1
 simp only [show (((dO.length : Int) - 1)).toNat = (dO.length - 1) from by omega] at hcut35
 clear Be Gu
 have gy := (aa.z1 HS.out 4 rfl)
 have zs0 := aa.z1 HS.out 4 rfl
 have kJ := aa.f HS.out 4 rfl 1
 go_upto_region 11 with fail
 have az := jr (World.setCell w8 ⟨lp, 1, none⟩ (.slice (some ⟨KJ, 0, none⟩) (dO.length - 1) uJ)) (Qi (aa.Ec HS.out 4 rfl (.slice (some ⟨KJ, 0, none⟩) (dO.length - 1) uJ)) 6 rfl FW.out (by omega))
 have aG : ae (Below base w (World.setCell w8 ⟨lp, 1, none⟩ (.slice (some ⟨KJ, 0, none⟩) (dO.length - 1) uJ))) := ⟨(HB.out).setCell (p := ⟨lp, 1, none⟩) (aa.ge HS.out 4 rfl) _⟩
 generalize World.setCell w8 ⟨lp, 1, none⟩ (.slice (some ⟨KJ, 0, none⟩) (dO.length - 1) uJ) = w9 at az aG ⊢
 clear HS HB gy zs0 kJ; have HS := az; have HB := aG; clear az aG
 clear hcut35
 by_cases wV : lcs.length = 0
 ·skip
  have hl0 : lcs = [] := List.length_eq_zero_iff.1 wV
  have Zi := A_ hl0
  have CJ := A_ ((aa.ky HS.out [4, 5, 6, 7, 8] (by decide)).Xf)
  have hbl := A_ (show decide (((NT.mk lp (.slice (some ⟨KI, 0, none⟩) (dO.length - 1) wo) (.slice (some ⟨KJ, 0, none⟩) (dO.length - 1) uJ) (.slice xL lcs.length oM) l5 l6 lcs).erase.kids.length : Int) = 0) = true from decide_eq_true (by show ((NT.aD lcs).length : Int) = 0; rw [aN, List.length_map]; omega))
  go_wp2_with (first | (go_at_call 84; (with_reducible refine (dZ.dQ true hbl.out _ ?aj).mono ?_); (case aj => repeat (first | exact CJ.out | (with_reducible refine Rd.drewN ?_ _) | (with_reducible refine Rd.drew ?_))); rintro e w' ⟨rfl, ⟨nd, rfl⟩⟩))
  generalize hW : World.drewN _ _ = vN
  have az : ae (aa vN base [qW 96 tp (mF jE) tks.length ja (mF jF) tvs.length jk (some kS) aZ.length jC, yM (mF jE) tks.length ja l3, yM (mF jF) tvs.length jk l4, rY 70 (some kS) jC aZ, qW 96 lp (mF KI) (dO.length - 1) wo (mF KJ) (dO.length - 1) uJ xL lcs.length oM, yM (mF KI) (dO.length - 1) wo l5, yM (mF KJ) (dO.length - 1) uJ l6, rY 70 xL oM lcs, (NT.bI 96 70 lcs), qW 96 rp Bc l1.length c19 FJ l2.length FL xM fo.length crc, lW Bc c19 l1, lW FJ FL l2, rY 70 xM crc fo, (NT.bI 96 70 fo), GP, GQ]) := ⟨by rw [<- hW]; exact aa.drewN HS.out _⟩
  have aG : ae (Below base w vN) := ⟨by rw [<- hW]; exact ah HB.out _⟩
  clear HS HB CJ hbl hW; have HS := az; have HB := aG; clear az aG
  go_end0
  have hS := FR (aa.ky HS.out [0, 1, 2, 3, 4, 5, 6, 7, 8, 9, 10, 11, 12, 13, 14, 15] (by decide))
  refine ⟨rfl, NT.mk tp (.slice (some ⟨jE, 0, none⟩) tks.length ja) (.slice (some ⟨jF, 0, none⟩) tvs.length jk) (.slice (some kS) aZ.length jC) l3 l4 (P ++ NT.mk lp (.slice (some ⟨KI, 0, none⟩) (dO.length - 1) wo) (.slice (some ⟨KJ, 0, none⟩) (dO.length - 1) uJ) (.slice xL lcs.length oM) l5 l6 lcs :: NT.mk rp (.slice Bc l1.length c19) (.slice FJ l2.length FL) (.slice xM fo.length crc) l1 l2 fo :: Q), rfl, ?_, shut_pair rfl ?_, HB.out⟩
  ·have e0 := HRR.out
   rw [HT.out] at e0
   rw [e0]
   show PT.mk l3 l4 (NT.aD (P ++ _ :: _ :: Q)) = D9 (PT.mk tks tvs (NT.aD (P ++ _ :: _ :: Q))) (i - 1)
   simp only [aN, List.map_append, List.map_cons]
   rw [zq (by rw [List.length_map]; exact HP.out)]
   have Ku := oF.out
   subst Ku
   have Kv := sS.out
   subst Kv
   have Kw := Dq.out
   subst Kw
   have Ky := Gt.out
   subst Ky
   have Kz := FV.out
   subst Kz
   have KA := FW.out
   subst KA
   have ex := qb.out.2
   subst ex
   have ey := o7.out.2
   subst ey
   have ez := PL.out.2
   subst ez
   have eu := PM.out.2
   subst eu
   have ec := Zi.out
   subst ec
   simp [vI, vJ, NT.erase, NT.aD, PT.keys, PT.vals, PT.kids]
  ·unfold kL
   simp only [NT.keys, NT.vals, NT.kids, NT.p, NT.kv, NT.vv, NT.cv]
   have hq : ∀ a b : NT, a.p = lp -> b.p = rp -> ptrs (P ++ a :: b :: Q) = ptrs aZ := fun a b ha hb => by rw [HT.out]; simp only [ptrs, List.map_append, List.map_cons, ha, hb]; rfl
   rw [hq _ _ rfl rfl, <- PI.out, <- PK.out]
   exact hS
 ·skip
  have hlc : dO.length < lcs.length /\ lcs.length <= 1001 := by have := HV.out; omega
  have hrc : fo.length <= 1001 := by have := Vo.out; omega
  obtain ⟨s, hs0⟩ : ∃ s, lcs[dO.length]? = some s := ⟨lcs[dO.length], List.getElem?_eq_getElem hlc.1⟩
  obtain ⟨sp, hsp⟩ : ∃ p, s.p = p := ⟨_, rfl⟩
  have jl : ae (lcs[dO.length]? = some s /\ s.p = sp) := ⟨hs0, hsp⟩
  clear hs0 hsp
  obtain ⟨Cf, rfl⟩ := gq (aa.q HS.out 7 rfl) (by omega)
  obtain ⟨Vp, Zj⟩ := oI (bz fo 0 s)
  obtain ⟨l37, Zk⟩ := oI (lcs.take dO.length)
  have Zl : ae (Vp.map NT.p = bz (fo.map NT.p) 0 sp) := ⟨by rw [Zj.out, qX, jl.out.2]⟩
  have CJ := A_ ((aa.ky HS.out [4, 5, 6, 7, 8] (by decide)).Xf)
  have hbl := A_ (show decide (((NT.mk lp (.slice (some ⟨KI, 0, none⟩) (dO.length - 1) wo) (.slice (some ⟨KJ, 0, none⟩) (dO.length - 1) uJ) (.slice (some Cf) lcs.length oM) l5 l6 lcs).erase.kids.length : Int) = 0) = false from decide_eq_false (by show ((NT.aD lcs).length : Int) ≠ 0; rw [aN, List.length_map]; omega))
  go_upto_region 12 with (first | (go_at_call 84; (with_reducible refine (dZ.dQ false hbl.out _ ?aj).mono ?_); (case aj => repeat (first | exact CJ.out | (with_reducible refine Rd.drewN ?_ _) | (with_reducible refine Rd.drew ?_))); rintro e w' ⟨rfl, ⟨nd, rfl⟩⟩))
  generalize hW : World.drewN _ _ = vN
  have az : ae (aa vN base [qW 96 tp (mF jE) tks.length ja (mF jF) tvs.length jk (some kS) aZ.length jC, yM (mF jE) tks.length ja l3, yM (mF jF) tvs.length jk l4, rY 70 (some kS) jC aZ, qW 96 lp (mF KI) (dO.length - 1) wo (mF KJ) (dO.length - 1) uJ (some Cf) lcs.length oM, yM (mF KI) (dO.length - 1) wo l5, yM (mF KJ) (dO.length - 1) uJ l6, rY 70 (some Cf) oM lcs, (NT.bI 96 70 lcs), qW 96 rp Bc l1.length c19 FJ l2.length FL xM fo.length crc, lW Bc c19 l1, lW FJ FL l2, rY 70 xM crc fo, (NT.bI 96 70 fo), GP, GQ]) := ⟨by rw [<- hW]; exact aa.drewN HS.out _⟩
  have aG : ae (Below base w vN) := ⟨by rw [<- hW]; exact ah HB.out _⟩
  clear HS HB CJ hbl hW; have HS := az; have HB := aG; clear az aG
  have b38 := dN (0 <= (dO.length : Int))
  have b39 := dN ((dO.length : Int) < (lcs.length : Int))
  have b40 := dN (dO.length < lcs.length)
  have sd41 : 0 <= fo.length /\ fo.length <= 1000000 := by omega
  obtain ⟨q44, q45⟩ : (wrap64 (((dO.length : Int) - 1) + 1) = (dO.length : Int)) /\ (wrap64 (dO.length : Int) = (dO.length : Int)) := ⟨jW (by omega), jW (by omega)⟩
  refine dL (n := 17) (S := fun w' => w'.cell? ⟨rp, 2, none⟩ = some (.slice xM fo.length crc) /\ w'.cell? ⟨lp, 2, none⟩ = some (.slice (some Cf) lcs.length oM) /\ w'.cell? (Cf.add dO.length) = some (bO sp)) (ds := [16]) (bt 17 0) (by kernel_rfl) rfl rfl ⟨(aa.z2 (aa.drew HS.out) 9 rfl), (aa.z2 (aa.drew HS.out) 4 rfl), (il (aa.gX (aa.drew HS.out) 7 rfl) jl.out)⟩ (fun hHeld => ?_)
  refine aQ 0 132 1 ?_
  refine aQ 1 133 3 ?_
  refine aQ 2 134 7 ?_
  refine aQ 3 135 15 ?_
  refine aQ 5 137 47 ?_
  refine aQ 6 138 111 ?_
  refine aQ 7 139 239 ?_
  refine aQ 9 141 751 ?_
  refine aQ 10 142 1775 ?_
  refine gF 4 136 1791 hHeld ?_
  refine gF 8 140 2047 hHeld ?_
  refine aQ 11 143 4095 ?_
  refine gF 12 144 8191 hHeld ?_
  refine jm 13 (some 145) 16383 (fun K hK => ?_)
  refine wm Try.func125 #[.slice xM fo.length crc, .int .i64 0, bO sp] ?_
  with_reducible refine (aas 0 0 s sp jl.out.2 rfl Zl.out (aa.gX (aa.drew HS.out) 12 rfl) sd41).mono ?_
  rintro e sP ⟨kI, rfl, ho, hb⟩
  refine ⟨_, rfl, ?_⟩
  obtain ⟨R7, R8, IJ⟩ := Kd.au ho
  rw [List.length_map] at IJ
  subst IJ
  have az := oK (aa.Jh (aa.drew HS.out) hb (eY eB HB) ho)
  have aG : ae (Below base w sP) := ⟨((aH HB.out)).trans (hb.mono (eY eB HB))⟩
  clear HS HB ho hb; have HS := az; have HB := aG; clear az aG
  have zs0 := aa.z2 HS.out 9 rfl
  have kJ := aa.f HS.out 9 rfl 2
  refine hK.out _ _ ⟨(aa.z2 HS.out 9 rfl), (aa.z2 HS.out 4 rfl), (il (aa.gX HS.out 7 rfl) jl.out)⟩ (fun hHeld => ?_)
  clear hK K
  refine fw 145 ?_
  refine aQ 14 146 32767 ?_
  refine aQ 15 147 65535 ?_
  refine wZ 16 none 131071 (fun K hK => ?_)
  refine iN (w1 := ?_) (by rfl) rfl ?_ ?_
  rotate_left
  ·go_simp
   rfl
  refine hK.out _ _ ?_
  clear hK K
  refine fA (by kernel_rfl) ?_
  clear q44 q45
  have az := jr (World.setCell sP ⟨rp, 2, none⟩ (.slice R7 Vp.length R8)) (aa.ky (aa.zo HS.out 9 rfl (.slice R7 Vp.length R8)) [0, 1, 2, 3, 4, 5, 6, 7, 8, 9, 10, 11, 16, 13, 14, 15] (by decide))
  have aG : ae (Below base w (World.setCell sP ⟨rp, 2, none⟩ (.slice R7 Vp.length R8))) := ⟨(HB.out).setCell (p := ⟨rp, 2, none⟩) (aa.ge HS.out 9 rfl) _⟩
  generalize World.setCell sP ⟨rp, 2, none⟩ (.slice R7 Vp.length R8) = MV at az aG ⊢
  clear HS HB zs0 kJ; have HS := az; have HB := aG; clear az aG
  go_upto_region 13 with fail
  obtain ⟨i0_, Be, _, Gu, _⟩ := info_parts nG
  have hcut46 := Jz (P := Try.prog) 94 70 .i64 kN Be (some Cf) lcs.length oM (dO.length : Int) (by omega) (by omega) (aa.gX HS.out 7 rfl).2.1
  simp only [show ((dO.length : Int)).toNat = dO.length from by omega] at hcut46
  clear Be Gu
  have gy := (aa.z2 HS.out 4 rfl)
  have zs0 := aa.z2 HS.out 4 rfl
  have kJ := aa.f HS.out 4 rfl 2
  go_wp2_with fail
  have az := jr (World.setCell MV ⟨lp, 2, none⟩ (.slice (some Cf) dO.length oM)) (Qj (aa.zo HS.out 4 rfl (.slice (some Cf) dO.length oM)) 7 rfl Zk.out (by omega))
  have aG : ae (Below base w (World.setCell MV ⟨lp, 2, none⟩ (.slice (some Cf) dO.length oM))) := ⟨(HB.out).setCell (p := ⟨lp, 2, none⟩) (aa.ge HS.out 4 rfl) _⟩
  generalize World.setCell MV ⟨lp, 2, none⟩ (.slice (some Cf) dO.length oM) = Gh at az aG ⊢
  clear HS HB gy zs0 kJ; have HS := az; have HB := aG; clear az aG
  clear hcut46
  have WK : ae (NT.bI 96 70 lcs = NT.bI 96 70 l37 ++ s.fB 96 70) := ⟨by rw [Zk.out, ma 96 70 jl.out.1, List.drop_eq_nil_of_le (by have := HV.out; omega), NT.bI, List.append_nil]⟩
  have az : ae (aa Gh base [qW 96 tp (mF jE) tks.length ja (mF jF) tvs.length jk (some kS) aZ.length jC, yM (mF jE) tks.length ja l3, yM (mF jF) tvs.length jk l4, rY 70 (some kS) jC aZ, qW 96 lp (mF KI) (dO.length - 1) wo (mF KJ) (dO.length - 1) uJ (some Cf) dO.length oM, yM (mF KI) (dO.length - 1) wo l5, yM (mF KJ) (dO.length - 1) uJ l6, qy_ 70 (some Cf) dO.length oM l37, (NT.bI 96 70 l37), qW 96 rp Bc l1.length c19 FJ l2.length FL R7 Vp.length R8, lW Bc c19 l1, lW FJ FL l2, rY 70 R7 R8 Vp, (NT.bI 96 70 fo), GP, GQ, (s.fB 96 70)]) := ⟨aa.cut HS.out 8 (congrArg some WK.out)⟩
  have aG : ae (Below base w Gh) := ⟨HB.out⟩
  clear HS HB; have HS := az; have HB := aG; clear az aG
  go_end0
  have hS := FR (aa.ky HS.out [0, 1, 2, 3, 4, 5, 6, 7, 8, 9, 10, 11, 12, 16, 13, 14, 15] (by decide))
  refine ⟨rfl, NT.mk tp (.slice (some ⟨jE, 0, none⟩) tks.length ja) (.slice (some ⟨jF, 0, none⟩) tvs.length jk) (.slice (some kS) aZ.length jC) l3 l4 (P ++ NT.mk lp (.slice (some ⟨KI, 0, none⟩) (dO.length - 1) wo) (.slice (some ⟨KJ, 0, none⟩) (dO.length - 1) uJ) (.slice (some Cf) dO.length oM) l5 l6 l37 :: NT.mk rp (.slice Bc l1.length c19) (.slice FJ l2.length FL) (.slice R7 Vp.length R8) l1 l2 Vp :: Q), rfl, ?_, shut_pair rfl ?_, HB.out⟩
  ·have e0 := HRR.out
   rw [HT.out] at e0
   rw [e0]
   show PT.mk l3 l4 (NT.aD (P ++ _ :: _ :: Q)) = D9 (PT.mk tks tvs (NT.aD (P ++ _ :: _ :: Q))) (i - 1)
   simp only [aN, List.map_append, List.map_cons]
   rw [zq (by rw [List.length_map]; exact HP.out)]
   have Ku := oF.out
   subst Ku
   have Kv := sS.out
   subst Kv
   have Kw := Dq.out
   subst Kw
   have Ky := Gt.out
   subst Ky
   have Kz := FV.out
   subst Kz
   have KA := FW.out
   subst KA
   have ex := qb.out.2
   subst ex
   have ey := o7.out.2
   subst ey
   have ez := PL.out.2
   subst ez
   have eu := PM.out.2
   subst eu
   have el37 := Zk.out
   subst el37
   have el36 := Zj.out
   subst el36
   have hn : ¬ lcs = [] := fun h => wV (by rw [h]; rfl)
   simp [vI, vJ, NT.erase, aN, PT.keys, PT.vals, PT.kids, fJ, hn, qX, List.map_take]
   rw [jl.out.1]
   rfl
  ·unfold kL
   simp only [NT.keys, NT.vals, NT.kids, NT.p, NT.kv, NT.vv, NT.cv]
   have hq : ∀ a b : NT, a.p = lp -> b.p = rp -> ptrs (P ++ a :: b :: Q) = ptrs aZ := fun a b ha hb => by rw [HT.out]; simp only [ptrs, List.map_append, List.map_cons, ha, hb]; rfl
   have hc : NT.bI 96 70 Vp = s.fB 96 70 ++ NT.bI 96 70 fo := by rw [Zj.out]; show NT.bI 96 70 ([] ++ s :: fo.drop 0) = _; rw [List.nil_append, List.drop_zero, NT.bI]
   rw [hq _ _ rfl rfl, <- PI.out, <- PK.out, hc]
   unfold aa at hS ⊢
   simp only [List.flatten_cons, List.append_assoc] at hS ⊢
   exact hS
set_option maxHeartbeats 8000000
set_option maxRecDepth 100000
theorem NY.calls (t l r : NT) (P Q : List NT) (i : Nat) (hno : i = 0 ∨ 0 < i /\ ∃ s : NT, t.kids[i - 1]? = some s /\ s.keys.length <= 2) (ht : t.kids = P ++ l :: r :: Q) (hP : P.length = i) (h2 : 2 < r.keys.length) (hl : Jo l.keys l.vals l.kids.length) (hr : Jo r.keys r.vals r.kids.length) (hj : i < t.keys.length /\ t.keys.length <= 1000 /\ t.vals.length = t.keys.length /\ t.kids.length = t.keys.length + 1)
  (base : Nat) (L : List Ck) (w : World) (hs : Sat w base (t.fB 96 70 ++ L)) (hbs : base <= w.heap.size) :
  Calls Try.prog 113 #[bO t.p, .int .i64 (i : Int)] w (WR w base 96 70 t L (Ea t.erase i)) := by
 have Vq : ae (i = 0 ∨ 0 < i /\ ∃ (sp n : Nat) (A : Option Addr) (c : Nat), Lp t.kids (i - 1) sp /\ n <= 2 /\ w.cell? ⟨sp, 0, none⟩ = some (.slice A n c)) := ⟨by
  rcases hno with h | ⟨h, s, h1, h2⟩
  ·exact .inl h
  ·obtain ⟨A, c, h3⟩ := pR hs h1
   exact .inr ⟨h, s.p, s.keys.length, A, c, ⟨s, h1, rfl⟩, h2, h3⟩⟩
 clear hno
 cases t with | mk tp Gq Gr Gs tks tvs aZ =>
 cases l with | mk lp MZ M0 M3 dO kG lcs =>
 cases r with | mk rp M4 M5 rcv mP lS fo =>
 have h0 := open_pair ht hs
 unfold kL at h0
 simp only [NT.keys, NT.vals, NT.kids, NT.p, NT.kv, NT.vv, NT.cv] at ht hl hr hj h0 h2 Vq ⊢
 clear hs
 unfold Jo at hl hr
 obtain ⟨hl1, hl2, hl3⟩ := hl
 obtain ⟨hr1, hr2, hr3⟩ := hr
 obtain ⟨hj1, hj2, M6, PH⟩ := hj
 have hil : (i + 1) < aZ.length := by rw [ht, List.length_append, hP]; simp only [List.length_cons]; omega
 have hij : (i + 1) = i + 1 := by omega
 have HP := A_ hP
 have HT := A_ ht
 have hkl : aZ[i]? = some (NT.mk lp MZ M0 M3 dO kG lcs) /\ (NT.mk lp MZ M0 M3 dO kG lcs).p = lp := ⟨by rw [ht]; exact Ri hP, rfl⟩
 have hkr : aZ[(i + 1)]? = some (NT.mk rp M4 M5 rcv mP lS fo) /\ (NT.mk rp M4 M5 rcv mP lS fo).p = rp := ⟨by rw [ht, hij]; exact Rj hP, rfl⟩
 have Bb := A_ hkl
 have Sr := A_ hkr
 clear hkl hkr ht hij
 obtain ⟨R, hR⟩ : ∃ R, R = Ea (NT.mk tp Gq Gr Gs tks tvs aZ).erase i := ⟨_, rfl⟩
 rw [<- hR]
 have HRR := A_ hR
 clear hR
 obtain ⟨tF, ja, rfl⟩ := Kd.au (h0.sr 1 rfl)
 obtain ⟨jE, rfl⟩ := dP (h0.sr 1 rfl) (by omega)
 obtain ⟨uF, jk, rfl⟩ := Kd.au (h0.sr 2 rfl)
 obtain ⟨jF, rfl⟩ := dP (h0.sr 2 rfl) (by omega)
 obtain ⟨Cc, jC, rfl, _, _⟩ := eO (h0.q 3 rfl)
 obtain ⟨kS, rfl⟩ := gq (h0.q 3 rfl) (by omega)
 obtain ⟨IG, wo, rfl⟩ := Kd.au (h0.sr 5 rfl)
 obtain ⟨Dn, uJ, rfl⟩ := Kd.au (h0.sr 6 rfl)
 obtain ⟨xL, oM, rfl, _, _⟩ := eO (h0.q 7 rfl)
 obtain ⟨Kt, II, rfl⟩ := Kd.au (h0.sr 10 rfl)
 obtain ⟨grk, rfl⟩ := dP (h0.sr 10 rfl) (by omega)
 obtain ⟨Dp, CY, rfl⟩ := Kd.au (h0.sr 11 rfl)
 obtain ⟨grv, rfl⟩ := dP (h0.sr 11 rfl) (by omega)
 obtain ⟨xM, crc, rfl, _, _⟩ := eO (h0.q 12 rfl)
 obtain ⟨GP, FH⟩ : ∃ G, G = NT.bI 96 70 P := ⟨_, rfl⟩
 obtain ⟨GQ, FI⟩ : ∃ G, G = NT.bI 96 70 Q ++ L := ⟨_, rfl⟩
 rw [<- FH, <- FI] at h0
 have HS := A_ h0
 have HB := A_ (Below.refl base w)
 have eB := A_ hbs
 have PI := A_ FH
 have PK := A_ FI
 clear h0 hbs FH FI hP
 have Vo := A_ (show fo.length <= 1001 /\ lcs.length <= 1001 by omega)
 have HV := A_ (show kG.length = dO.length /\ lS.length = mP.length /\ tvs.length = tks.length /\ (fo.length = 0 ∨ fo.length = mP.length + 1) /\ aZ.length = tks.length + 1 from ⟨hl2, hr2, M6, hr3, PH⟩)
 have hrv : mP.length <= lS.length /\ lS.length <= 1000 := by omega
 have hlv : kG.length <= 1000 := by omega
 have Vl : i < tvs.length /\ tvs.length <= 1000 := by omega
 have htc : aZ.length <= 1001 := by omega
 clear hl2 hl3 hr2 hr3 M6 PH
 obtain ⟨tx, htx⟩ : ∃ x, bF tks i = x := ⟨_, rfl⟩
 have qb : ae (i < tks.length /\ bF tks i = tx) := ⟨by omega, htx⟩
 clear htx
 obtain ⟨ty, hty⟩ : ∃ x, bF tvs i = x := ⟨_, rfl⟩
 have o7 : ae (i < tvs.length /\ bF tvs i = ty) := ⟨by omega, hty⟩
 clear hty
 obtain ⟨lx, hlx⟩ : ∃ x, bF mP 0 = x := ⟨_, rfl⟩
 have PL : ae (0 < mP.length /\ bF mP 0 = lx) := ⟨by omega, hlx⟩
 clear hlx
 obtain ⟨ly, U4⟩ : ∃ x, bF lS 0 = x := ⟨_, rfl⟩
 have PM : ae (0 < lS.length /\ bF lS 0 = ly) := ⟨by have := HV.out; omega, U4⟩
 clear U4
 obtain ⟨l1, oF⟩ := oI (dO ++ [tx])
 obtain ⟨l2, sS⟩ := oI (kG ++ [ty])
 obtain ⟨l3, Dq⟩ := oI (tks.set i lx)
 obtain ⟨l4, Gt⟩ := oI (tvs.set i ly)
 obtain ⟨l5, FV⟩ := oI (mP.eraseIdx 0)
 obtain ⟨l6, FW⟩ := oI (lS.eraseIdx 0)
 go_enter Try.func113, Try.ntmps113
 have b7 := dN (0 <= (i : Int))
 have b8 := dN ((i : Int) < (aZ.length : Int))
 have b9 := dN (i < aZ.length)
 have gy := (aa.z2 HS.out 0 rfl)
 have uG := (il (aa.gX HS.out 3 rfl) Bb.out)
 go_upto_region 2 with fail
 clear gy uG
 go_cut [19] (fun v_ wc => v_ = .bool false /\ w = wc)
 case first =>
  skip
  rcases Vq.out with h0 | ⟨h0, s0p, ls, As, cs, ⟨s0, hs1, hs4⟩, hs2, hs3⟩
  ·have c_ := mZ ((0 : Int) < (i : Int))
   go_wp2_with fail
   go_meet
   case rel => exact ⟨rfl, rfl⟩
  ·have c_ := pF ((0 : Int) < (i : Int))
   have Vr := dN (1 <= (i : Int))
   have Xq := dN (((i : Int) - 1) < (aZ.length : Int))
   have Zm := dN ((i - 1) < aZ.length)
   have Zn := mZ ((2 : Int) < (ls : Int))
   have uG := aa.z2 HS.out 0 rfl
   have Ce := il (aa.gX HS.out 3 rfl) (And.intro hs1 hs4)
   go_wp2_with fail
   go_meet
   case rel => exact ⟨rfl, rfl⟩
 case rest =>
  obtain ⟨rfl, ew⟩ := hcut
  subst ew
  go_upto_region 14 with fail
  have c10 := pF ((i : Int) < (tks.length : Int))
  have b11 := dN (0 <= ((i : Int) + 1))
  have b12 := dN (((i : Int) + 1) < (aZ.length : Int))
  have b13 := dN ((i + 1) < aZ.length)
  have c14 := pF ((2 : Int) < (mP.length : Int))
  have gy := (aa.z0 HS.out 0 rfl)
  have uG := (aa.z2 HS.out 0 rfl)
  have Ce := (yl (aa.gX HS.out 3 rfl) Sr.out (by omega))
  have z3_ := (aa.z0 HS.out 9 rfl)
  go_upto_region 15 with fail
  clear gy uG Ce z3_
  have gy := (aa.z2 HS.out 0 rfl)
  have uG := (yl (aa.gX HS.out 3 rfl) Sr.out (by omega))
  go_upto_region 16 with fail
  clear gy uG
  have b15 := dN ((i : Int) < (tks.length : Int))
  have b16 := dN (i < tks.length)
  have U5 : (dO.length + 1) * 16 <= 140737488355328 := by omega
  refine dL (n := 17) (S := fun w' => w'.cell? ⟨lp, 0, none⟩ = some (.slice IG dO.length wo) /\ w'.cell? ⟨tp, 0, none⟩ = some (.slice (some ⟨jE, 0, none⟩) tks.length ja) /\ w'.cell? ⟨jE, i, none⟩ = some (.string tx)) (ds := [16]) (bt 17 0) (by kernel_rfl) rfl rfl ⟨(aa.z0 (aa.drew HS.out) 4 rfl), (aa.z0 (aa.drew HS.out) 0 rfl), (iY (aa.sr (aa.drew HS.out) 1 rfl) qb.out)⟩ (fun hHeld => ?_)
  refine aQ 0 189 1 ?_
  refine aQ 1 190 3 ?_
  refine aQ 2 191 7 ?_
  refine aQ 3 192 15 ?_
  refine aQ 5 194 47 ?_
  refine aQ 6 195 111 ?_
  refine aQ 7 196 239 ?_
  refine aQ 9 198 751 ?_
  refine gF 4 193 767 hHeld ?_
  refine gF 8 197 1023 hHeld ?_
  refine aQ 10 199 2047 ?_
  refine gF 11 200 4095 hHeld ?_
  refine jm 12 (some 201) 8191 (fun K hK => ?_)
  refine Kd.bB Kd.string (w0 := w) base 9 (by rfl) (N := 201) rfl (xs := [tx]) (inner := [.string tx]) (ok := fun _ => True) (okp := fun _ => False) ?hr (Kd.bH (enc := Value.string) [tx]) (fun _ h => h.elim) trivial (aH HB.out) (eY eB HB) (by simp) ?_
  (case hr => first | (go_simp; done) | (go_simp; rfl))
  intro v17 w2 ho hb hg hn
  obtain ⟨Bc, c19, rfl⟩ : ∃ A c, v17 = .slice A 1 c := Kd.au ho
  have az := oK (aa.lit (aa.drew HS.out) ho hg hn)
  have aG : ae (Below base w w2) := ⟨hb⟩
  clear HS HB ho hb hg hn; have HS := az; have HB := aG; clear az aG
  refine hK.out _ _ ⟨(aa.z0 HS.out 4 rfl), (aa.z0 HS.out 0 rfl), (iY (aa.sr HS.out 1 rfl) qb.out)⟩ (fun hHeld => ?_)
  clear hK K
  refine fw 201 ?_
  refine jm 13 (some 202) 16383 (fun K hK => ?_)
  refine Kd.aV Kd.string (w0 := w) base (by rfl) (.tmp 193) (.tmp 201) 38 9 (.string ⟨#[]⟩) 16 rfl Try.underlying38 eU rfl (by decide) (by omega) (.slice IG dO.length wo) dO [tx] Bc 1 c19 (fun _ => True) (fun _ => False) rfl rfl (aa.sr HS.out 5 rfl) (F5 HS.out 16 rfl) (fun _ _ h => h) (fun _ h => h.elim) (fun _ _ => trivial) HB.out (eY eB HB) U5 ?_
  intro u20 w3 ho hb hg hat
  rw [<- oF.out] at ho
  obtain ⟨QP, QQ, rfl⟩ := Kd.au ho
  have az := oK (aa.app 5 HS.out rfl ho hg hat)
  have aG : ae (Below base w w3) := ⟨hb⟩
  clear HS HB ho hb hg hat; have HS := az; have HB := aG; clear az aG
  have zs0 := aa.z0 HS.out 4 rfl
  have kJ := aa.f HS.out 4 rfl 0
  refine hK.out _ _ ⟨(aa.z0 HS.out 4 rfl), (aa.z0 HS.out 0 rfl), (iY (aa.sr HS.out 1 rfl) qb.out)⟩ (fun hHeld => ?_)
  clear hK K
  refine fw 202 ?_
  refine aQ 14 203 32767 ?_
  refine aQ 15 204 65535 ?_
  refine wZ 16 none 131071 (fun K hK => ?_)
  refine iN (w1 := ?_) (by rfl) rfl ?_ ?_
  rotate_left
  ·go_simp
   rfl
  refine hK.out _ _ ?_
  clear hK K
  refine fA (by kernel_rfl) ?_
  have az := jr (World.setCell w3 ⟨lp, 0, none⟩ (.slice QP l1.length QQ)) (aa.Eb HS.out 4 rfl (.slice QP l1.length QQ))
  have aG : ae (Below base w (World.setCell w3 ⟨lp, 0, none⟩ (.slice QP l1.length QQ))) := ⟨(HB.out).setCell (p := ⟨lp, 0, none⟩) (aa.ge HS.out 4 rfl) _⟩
  generalize World.setCell w3 ⟨lp, 0, none⟩ (.slice QP l1.length QQ) = w4 at az aG ⊢
  clear HS HB zs0 kJ; have HS := az; have HB := aG; clear az aG
  go_upto_region 17 with fail
  have b24 := dN ((i : Int) < (tvs.length : Int))
  have b25 := dN (i < tvs.length)
  have sd32 : (kG.length + 1) * 16 <= 140737488355328 := by omega
  refine dL (n := 17) (S := fun w' => w'.cell? ⟨lp, 1, none⟩ = some (.slice Dn kG.length uJ) /\ w'.cell? ⟨tp, 1, none⟩ = some (.slice (some ⟨jF, 0, none⟩) tvs.length jk) /\ w'.cell? ⟨jF, i, none⟩ = some (.string ty)) (ds := [16]) (bt 17 0) (by kernel_rfl) rfl rfl ⟨(aa.z1 (aa.drew HS.out) 4 rfl), (aa.z1 (aa.drew HS.out) 0 rfl), (iY (aa.sr (aa.drew HS.out) 2 rfl) o7.out)⟩ (fun hHeld => ?_)
  refine aQ 0 205 1 ?_
  refine aQ 1 206 3 ?_
  refine aQ 2 207 7 ?_
  refine aQ 3 208 15 ?_
  refine aQ 5 210 47 ?_
  refine aQ 6 211 111 ?_
  refine aQ 7 212 239 ?_
  refine aQ 9 214 751 ?_
  refine gF 4 209 767 hHeld ?_
  refine gF 8 213 1023 hHeld ?_
  refine aQ 10 215 2047 ?_
  refine gF 11 216 4095 hHeld ?_
  refine jm 12 (some 217) 8191 (fun K hK => ?_)
  refine Kd.bB Kd.string (w0 := w) base 9 (by rfl) (N := 217) rfl (xs := [ty]) (inner := [.string ty]) (ok := fun _ => True) (okp := fun _ => False) ?hr (Kd.bH (enc := Value.string) [ty]) (fun _ h => h.elim) trivial (aH HB.out) (eY eB HB) (by simp) ?_
  (case hr => first | (go_simp; done) | (go_simp; rfl))
  intro v26 w5 ho hb hg hn
  obtain ⟨PN, c28, rfl⟩ : ∃ A c, v26 = .slice A 1 c := Kd.au ho
  have az := oK (aa.lit (aa.drew HS.out) ho hg hn)
  have aG : ae (Below base w w5) := ⟨hb⟩
  clear HS HB ho hb hg hn; have HS := az; have HB := aG; clear az aG
  refine hK.out _ _ ⟨(aa.z1 HS.out 4 rfl), (aa.z1 HS.out 0 rfl), (iY (aa.sr HS.out 2 rfl) o7.out)⟩ (fun hHeld => ?_)
  clear hK K
  refine fw 217 ?_
  refine jm 13 (some 218) 16383 (fun K hK => ?_)
  refine Kd.aV Kd.string (w0 := w) base (by rfl) (.tmp 209) (.tmp 217) 38 9 (.string ⟨#[]⟩) 16 rfl Try.underlying38 eU rfl (by decide) (by omega) (.slice Dn kG.length uJ) kG [ty] PN 1 c28 (fun _ => True) (fun _ => False) rfl rfl (aa.sr HS.out 6 rfl) (F5 HS.out 17 rfl) (fun _ _ h => h) (fun _ h => h.elim) (fun _ _ => trivial) HB.out (eY eB HB) sd32 ?_
  intro u29 w6 ho hb hg hat
  rw [<- sS.out] at ho
  obtain ⟨tN, c31, rfl⟩ := Kd.au ho
  have az := oK (aa.app 6 HS.out rfl ho hg hat)
  have aG : ae (Below base w w6) := ⟨hb⟩
  clear HS HB ho hb hg hat; have HS := az; have HB := aG; clear az aG
  have zs0 := aa.z1 HS.out 4 rfl
  have kJ := aa.f HS.out 4 rfl 1
  refine hK.out _ _ ⟨(aa.z1 HS.out 4 rfl), (aa.z1 HS.out 0 rfl), (iY (aa.sr HS.out 2 rfl) o7.out)⟩ (fun hHeld => ?_)
  clear hK K
  refine fw 218 ?_
  refine aQ 14 219 32767 ?_
  refine aQ 15 220 65535 ?_
  refine wZ 16 none 131071 (fun K hK => ?_)
  refine iN (w1 := ?_) (by rfl) rfl ?_ ?_
  rotate_left
  ·go_simp
   rfl
  refine hK.out _ _ ?_
  clear hK K
  refine fA (by kernel_rfl) ?_
  have az := jr (World.setCell w6 ⟨lp, 1, none⟩ (.slice tN l2.length c31)) (aa.Ec HS.out 4 rfl (.slice tN l2.length c31))
  have aG : ae (Below base w (World.setCell w6 ⟨lp, 1, none⟩ (.slice tN l2.length c31))) := ⟨(HB.out).setCell (p := ⟨lp, 1, none⟩) (aa.ge HS.out 4 rfl) _⟩
  generalize World.setCell w6 ⟨lp, 1, none⟩ (.slice tN l2.length c31) = w7 at az aG ⊢
  clear HS HB zs0 kJ; have HS := az; have HB := aG; clear az aG
  go_upto_region 18 with fail
  have b33 := dN ((0 : Int) < (mP.length : Int))
  have b34 := dN (0 < mP.length)
  have zs0 := iY (aa.sr (aa.drew HS.out) 1 rfl) qb.out
  have kJ := ik (aa.sr (aa.drew HS.out) 1 rfl) (Nat.lt_of_le_of_lt (Nat.zero_le _) qb.out.1) i
  refine dL (n := 13) (S := fun w' => w'.cell? ⟨tp, 0, none⟩ = some (.slice (some ⟨jE, 0, none⟩) tks.length ja) /\ w'.cell? ⟨rp, 0, none⟩ = some (.slice (some ⟨grk, 0, none⟩) mP.length II) /\ w'.cell? ⟨grk, 0, none⟩ = some (.string lx)) (ds := [12]) (bt 13 0) (by kernel_rfl) rfl rfl ⟨(aa.z0 (aa.drew HS.out) 0 rfl), (aa.z0 (aa.drew HS.out) 9 rfl), (iY (aa.sr (aa.drew HS.out) 10 rfl) PL.out)⟩ (fun hHeld => ?_)
  refine aQ 0 221 1 ?_
  refine aQ 1 222 3 ?_
  refine aQ 2 223 7 ?_
  refine aQ 4 225 23 ?_
  refine aQ 5 226 55 ?_
  refine aQ 6 227 119 ?_
  refine aQ 7 228 247 ?_
  refine gF 3 224 255 hHeld ?_
  refine gF 8 229 511 hHeld ?_
  refine aQ 9 230 1023 ?_
  refine gF 10 231 2047 hHeld ?_
  refine aQ 11 232 4095 ?_
  refine wZ 12 none 8191 (fun K hK => ?_)
  refine iN (w1 := ?_) (by rfl) rfl ?_ ?_
  rotate_left
  ·go_simp
   rfl
  refine hK.out _ _ ?_
  clear hK K
  refine fA (by kernel_rfl) ?_
  have az := jr (World.drew (World.setCell w7 ⟨jE, i, none⟩ (.string lx))) (aa.rM (aa.drew HS.out) 1 rfl i lx Dq.out)
  have aG : ae (Below base w (World.drew (World.setCell w7 ⟨jE, i, none⟩ (.string lx)))) := ⟨((aH HB.out)).setCell (p := ⟨jE, i, none⟩) (vL (aa.drew HS.out) 1 rfl qb.out) _⟩
  generalize World.drew (World.setCell w7 ⟨jE, i, none⟩ (.string lx)) = w8 at az aG ⊢
  clear HS HB zs0 kJ; have HS := az; have HB := aG; clear az aG
  go_upto_region 19 with fail
  have b35 := dN ((0 : Int) < (lS.length : Int))
  have b36 := dN (0 < lS.length)
  have zs0 := iY (aa.sr (aa.drew HS.out) 2 rfl) o7.out
  have kJ := ik (aa.sr (aa.drew HS.out) 2 rfl) (Nat.lt_of_le_of_lt (Nat.zero_le _) o7.out.1) i
  refine dL (n := 13) (S := fun w' => w'.cell? ⟨tp, 1, none⟩ = some (.slice (some ⟨jF, 0, none⟩) tvs.length jk) /\ w'.cell? ⟨rp, 1, none⟩ = some (.slice (some ⟨grv, 0, none⟩) lS.length CY) /\ w'.cell? ⟨grv, 0, none⟩ = some (.string ly)) (ds := [12]) (bt 13 0) (by kernel_rfl) rfl rfl ⟨(aa.z1 (aa.drew HS.out) 0 rfl), (aa.z1 (aa.drew HS.out) 9 rfl), (iY (aa.sr (aa.drew HS.out) 11 rfl) PM.out)⟩ (fun hHeld => ?_)
  refine aQ 0 233 1 ?_
  refine aQ 1 234 3 ?_
  refine aQ 2 235 7 ?_
  refine aQ 4 237 23 ?_
  refine aQ 5 238 55 ?_
  refine aQ 6 239 119 ?_
  refine aQ 7 240 247 ?_
  refine gF 3 236 255 hHeld ?_
  refine gF 8 241 511 hHeld ?_
  refine aQ 9 242 1023 ?_
  refine gF 10 243 2047 hHeld ?_
  refine aQ 11 244 4095 ?_
  refine wZ 12 none 8191 (fun K hK => ?_)
  refine iN (w1 := ?_) (by rfl) rfl ?_ ?_
  rotate_left
  ·go_simp
   rfl
  refine hK.out _ _ ?_
  clear hK K
  refine fA (by kernel_rfl) ?_
  have az := jr (World.drew (World.setCell w8 ⟨jF, i, none⟩ (.string ly))) (aa.rM (aa.drew HS.out) 2 rfl i ly Gt.out)
  have aG : ae (Below base w (World.drew (World.setCell w8 ⟨jF, i, none⟩ (.string ly)))) := ⟨((aH HB.out)).setCell (p := ⟨jF, i, none⟩) (vL (aa.drew HS.out) 2 rfl o7.out) _⟩
  generalize World.drew (World.setCell w8 ⟨jF, i, none⟩ (.string ly)) = w9 at az aG ⊢
  clear HS HB zs0 kJ; have HS := az; have HB := aG; clear az aG
  go_upto_region 20 with fail
  have sd37 : 0 < mP.length /\ mP.length <= 1000000 := by omega
  have gy := (aa.z0 HS.out 9 rfl)
  go_upto_region 21 with (first | (go_at_call 112; (with_reducible refine (Rk 0 0 rfl FV.out (aa.row HS.out 10 rfl) sd37).mono ?_); rintro e vN ⟨kI, rfl, ho, hb⟩; obtain ⟨IK, IL, rfl⟩ := Kd.au ho; have az := oK (aa.gQ HS.out hb (eY eB HB) ho); have aG : ae (Below base w vN) := ⟨(HB.out).trans (hb.mono (eY eB HB))⟩; clear HS HB ho hb; have HS := az; have HB := aG; clear az aG; clear gy; have gy := (aa.z0 HS.out 9 rfl); have zs0 := aa.z0 HS.out 9 rfl; have kJ := aa.f HS.out 9 rfl 0))
  have az := jr (World.setCell vN ⟨rp, 0, none⟩ (.slice IK l5.length IL)) (aa.ky (aa.Eb HS.out 9 rfl (.slice IK l5.length IL)) [0, 1, 2, 3, 4, 5, 6, 7, 8, 9, 18, 11, 12, 13, 14, 15, 16, 17] (by decide))
  have aG : ae (Below base w (World.setCell vN ⟨rp, 0, none⟩ (.slice IK l5.length IL))) := ⟨(HB.out).setCell (p := ⟨rp, 0, none⟩) (aa.ge HS.out 9 rfl) _⟩
  generalize World.setCell vN ⟨rp, 0, none⟩ (.slice IK l5.length IL) = sP at az aG ⊢
  clear HS HB gy zs0 kJ; have HS := az; have HB := aG; clear az aG
  have Zo : 0 < lS.length /\ lS.length <= 1000000 := by omega
  have gy := (aa.z1 HS.out 9 rfl)
  go_upto_region 22 with (first | (go_at_call 112; (with_reducible refine (Rk 0 0 rfl FW.out (aa.row HS.out 11 rfl) Zo).mono ?_); rintro e MV ⟨kI, rfl, ho, hb⟩; obtain ⟨QR, QS, rfl⟩ := Kd.au ho; have az := oK (aa.gQ HS.out hb (eY eB HB) ho); have aG : ae (Below base w MV) := ⟨(HB.out).trans (hb.mono (eY eB HB))⟩; clear HS HB ho hb; have HS := az; have HB := aG; clear az aG; clear gy; have gy := (aa.z1 HS.out 9 rfl); have zs0 := aa.z1 HS.out 9 rfl; have kJ := aa.f HS.out 9 rfl 1))
  have az := jr (World.setCell MV ⟨rp, 1, none⟩ (.slice QR l6.length QS)) (aa.ky (aa.Ec HS.out 9 rfl (.slice QR l6.length QS)) [0, 1, 2, 3, 4, 5, 6, 7, 8, 9, 10, 18, 12, 13, 14, 15, 16, 17] (by decide))
  have aG : ae (Below base w (World.setCell MV ⟨rp, 1, none⟩ (.slice QR l6.length QS))) := ⟨(HB.out).setCell (p := ⟨rp, 1, none⟩) (aa.ge HS.out 9 rfl) _⟩
  generalize World.setCell MV ⟨rp, 1, none⟩ (.slice QR l6.length QS) = Gh at az aG ⊢
  clear HS HB gy zs0 kJ; have HS := az; have HB := aG; clear az aG
  by_cases wV : fo.length = 0
  ·skip
   have hl0 : fo = [] := List.length_eq_zero_iff.1 wV
   have Zi := A_ hl0
   have CJ := A_ ((aa.ky HS.out [9, 10, 11, 12, 13] (by decide)).Xf)
   have hbl := A_ (show decide (((NT.mk rp (.slice IK l5.length IL) (.slice QR l6.length QS) (.slice xM fo.length crc) l5 l6 fo).erase.kids.length : Int) = 0) = true from decide_eq_true (by show ((NT.aD fo).length : Int) = 0; rw [aN, List.length_map]; omega))
   go_wp2_with (first | (go_at_call 84; (with_reducible refine (dZ.dQ true hbl.out _ ?aj).mono ?_); (case aj => repeat (first | exact CJ.out | (with_reducible refine Rd.drewN ?_ _) | (with_reducible refine Rd.drew ?_))); rintro e w' ⟨rfl, ⟨nd, rfl⟩⟩))
   generalize hW : World.drewN _ _ = IC
   have az : ae (aa IC base [qW 96 tp (mF jE) tks.length ja (mF jF) tvs.length jk (some kS) aZ.length jC, yM (mF jE) tks.length ja l3, yM (mF jF) tvs.length jk l4, rY 70 (some kS) jC aZ, qW 96 lp QP l1.length QQ tN l2.length c31 xL lcs.length oM, lW QP QQ l1, lW tN c31 l2, rY 70 xL oM lcs, (NT.bI 96 70 lcs), qW 96 rp IK l5.length IL QR l6.length QS xM fo.length crc, lW IK IL l5, lW QR QS l6, rY 70 xM crc fo, (NT.bI 96 70 fo), GP, GQ, [txt (.slice Bc 1 c19) [tx]], [txt (.slice PN 1 c28) [ty]]]) := ⟨by rw [<- hW]; exact aa.drewN HS.out _⟩
   have aG : ae (Below base w IC) := ⟨by rw [<- hW]; exact ah HB.out _⟩
   clear HS HB CJ hbl hW; have HS := az; have HB := aG; clear az aG
   go_end0
   have hS := FR (aa.ky HS.out [0, 1, 2, 3, 4, 5, 6, 7, 8, 9, 10, 11, 12, 13, 14, 15] (by decide))
   refine ⟨rfl, NT.mk tp (.slice (some ⟨jE, 0, none⟩) tks.length ja) (.slice (some ⟨jF, 0, none⟩) tvs.length jk) (.slice (some kS) aZ.length jC) l3 l4 (P ++ NT.mk lp (.slice QP l1.length QQ) (.slice tN l2.length c31) (.slice xL lcs.length oM) l1 l2 lcs :: NT.mk rp (.slice IK l5.length IL) (.slice QR l6.length QS) (.slice xM fo.length crc) l5 l6 fo :: Q), rfl, ?_, shut_pair rfl ?_, HB.out⟩
   ·have e0 := HRR.out
    rw [HT.out] at e0
    rw [e0]
    show PT.mk l3 l4 (NT.aD (P ++ _ :: _ :: Q)) = Ea (PT.mk tks tvs (NT.aD (P ++ _ :: _ :: Q))) i
    simp only [aN, List.map_append, List.map_cons]
    rw [zt (by rw [List.length_map]; exact HP.out)]
    have Ku := oF.out
    subst Ku
    have Kv := sS.out
    subst Kv
    have Kw := Dq.out
    subst Kw
    have Ky := Gt.out
    subst Ky
    have Kz := FV.out
    subst Kz
    have KA := FW.out
    subst KA
    have PO := qb.out.2
    subst PO
    have ety := o7.out.2
    subst ety
    have U6 := PL.out.2
    subst U6
    have U7 := PM.out.2
    subst U7
    have ec := Zi.out
    subst ec
    simp [um, vK, NT.erase, NT.aD, PT.keys, PT.vals, PT.kids]
   ·unfold kL
    simp only [NT.keys, NT.vals, NT.kids, NT.p, NT.kv, NT.vv, NT.cv]
    have hq : ∀ a b : NT, a.p = lp -> b.p = rp -> ptrs (P ++ a :: b :: Q) = ptrs aZ := fun a b ha hb => by rw [HT.out]; simp only [ptrs, List.map_append, List.map_cons, ha, hb]; rfl
    rw [hq _ _ rfl rfl, <- PI.out, <- PK.out]
    exact hS
  ·skip
   have hrc : 0 < fo.length /\ fo.length <= 1001 := by have := Vo.out; omega
   have hlc : lcs.length <= 1001 := by have := Vo.out; omega
   obtain ⟨s, hs0⟩ : ∃ s, fo[0]? = some s := ⟨fo[0], List.getElem?_eq_getElem hrc.1⟩
   obtain ⟨sp, hsp⟩ : ∃ p, s.p = p := ⟨_, rfl⟩
   have jl : ae (fo[0]? = some s /\ s.p = sp) := ⟨hs0, hsp⟩
   clear hs0 hsp
   obtain ⟨QT, rfl⟩ := gq (aa.q HS.out 12 rfl) (by omega)
   obtain ⟨Vs, Zp⟩ := oI (lcs ++ [s])
   obtain ⟨U8, Zq⟩ := oI (fo.eraseIdx 0)
   have Zl : ae (lcs.map NT.p ++ [sp] = Vs.map NT.p) := ⟨by rw [Zp.out, List.map_append, <- jl.out.2]; rfl⟩
   have CJ := A_ ((aa.ky HS.out [9, 10, 11, 12, 13] (by decide)).Xf)
   have hbl := A_ (show decide (((NT.mk rp (.slice IK l5.length IL) (.slice QR l6.length QS) (.slice (some QT) fo.length crc) l5 l6 fo).erase.kids.length : Int) = 0) = false from decide_eq_false (by show ((NT.aD fo).length : Int) ≠ 0; rw [aN, List.length_map]; omega))
   go_upto_region 23 with (first | (go_at_call 84; (with_reducible refine (dZ.dQ false hbl.out _ ?aj).mono ?_); (case aj => repeat (first | exact CJ.out | (with_reducible refine Rd.drewN ?_ _) | (with_reducible refine Rd.drew ?_))); rintro e w' ⟨rfl, ⟨nd, rfl⟩⟩))
   generalize hW : World.drewN _ _ = IC
   have az : ae (aa IC base [qW 96 tp (mF jE) tks.length ja (mF jF) tvs.length jk (some kS) aZ.length jC, yM (mF jE) tks.length ja l3, yM (mF jF) tvs.length jk l4, rY 70 (some kS) jC aZ, qW 96 lp QP l1.length QQ tN l2.length c31 xL lcs.length oM, lW QP QQ l1, lW tN c31 l2, rY 70 xL oM lcs, (NT.bI 96 70 lcs), qW 96 rp IK l5.length IL QR l6.length QS (some QT) fo.length crc, lW IK IL l5, lW QR QS l6, rY 70 (some QT) crc fo, (NT.bI 96 70 fo), GP, GQ, [txt (.slice Bc 1 c19) [tx]], [txt (.slice PN 1 c28) [ty]]]) := ⟨by rw [<- hW]; exact aa.drewN HS.out _⟩
   have aG : ae (Below base w IC) := ⟨by rw [<- hW]; exact ah HB.out _⟩
   clear HS HB CJ hbl hW; have HS := az; have HB := aG; clear az aG
   have b45 := dN ((0 : Int) < (fo.length : Int))
   have b46 := dN (0 < fo.length)
   have sd53 : ((lcs.map NT.p).length + 1) * 8 <= 140737488355328 := by rw [List.length_map]; omega
   refine dL (n := 16) (S := fun w' => w'.cell? ⟨lp, 2, none⟩ = some (.slice xL lcs.length oM) /\ w'.cell? ⟨rp, 2, none⟩ = some (.slice (some QT) fo.length crc) /\ w'.cell? QT = some (bO sp)) (ds := [15]) (bt 16 0) (by kernel_rfl) rfl rfl ⟨(aa.z2 (aa.drew HS.out) 4 rfl), (aa.z2 (aa.drew HS.out) 9 rfl), (wJ (aa.gX (aa.drew HS.out) 12 rfl) jl.out)⟩ (fun hHeld => ?_)
   refine aQ 0 264 1 ?_
   refine aQ 1 265 3 ?_
   refine aQ 2 266 7 ?_
   refine aQ 3 267 15 ?_
   refine aQ 5 269 47 ?_
   refine aQ 6 270 111 ?_
   refine aQ 7 271 239 ?_
   refine gF 4 268 255 hHeld ?_
   refine gF 8 272 511 hHeld ?_
   refine aQ 9 273 1023 ?_
   refine gF 10 274 2047 hHeld ?_
   refine jm 11 (some 275) 4095 (fun K hK => ?_)
   refine Kd.bB gL (w0 := w) base 70 (by rfl) (N := 275) rfl (xs := [sp]) (inner := [bO sp]) (ok := fun _ => True) (okp := fun _ => False) ?hr (Kd.bH (enc := bO) [sp]) (fun _ h => h.elim) trivial (aH HB.out) (eY eB HB) (by simp) ?_
   (case hr => first | (go_simp; done) | (go_simp; rfl))
   intro v47 EN ho hb hg hn
   obtain ⟨A48, c49, rfl⟩ : ∃ A c, v47 = .slice A 1 c := Kd.au ho
   have az := oK (aa.rA (aa.drew HS.out) (Ji ho) hg hn)
   have aG : ae (Below base w EN) := ⟨hb⟩
   clear HS HB ho hb hg hn; have HS := az; have HB := aG; clear az aG
   refine hK.out _ _ ⟨(aa.z2 HS.out 4 rfl), (aa.z2 HS.out 9 rfl), (wJ (aa.gX HS.out 12 rfl) jl.out)⟩ (fun hHeld => ?_)
   clear hK K
   refine fw 275 ?_
   refine jm 12 (some 276) 8191 (fun K hK => ?_)
   refine lX (w0 := w) base (by rfl) (.tmp 268) (.tmp 275) 94 70 rfl kN nG (.slice xL lcs.length oM) (lcs.map NT.p) [sp] A48 1 c49 rfl rfl (aa.q HS.out 7 rfl) (aaq HS.out 18 rfl) HB.out (eY eB HB) sd53 ?_
   intro u50 w16 ho hb hg hat
   rw [Zl.out] at ho
   obtain ⟨Zr, Zt, IJ⟩ := Kd.y8 ho
   rw [List.length_map] at IJ
   obtain ⟨rfl, _⟩ := IJ
   have az := oK (aa.Tm 7 HS.out rfl ho hg hat)
   have aG : ae (Below base w w16) := ⟨hb⟩
   clear HS HB ho hb hg hat; have HS := az; have HB := aG; clear az aG
   have zs0 := aa.z2 HS.out 4 rfl
   have kJ := aa.f HS.out 4 rfl 2
   refine hK.out _ _ ⟨(aa.z2 HS.out 4 rfl), (aa.z2 HS.out 9 rfl), (wJ (aa.gX HS.out 12 rfl) jl.out)⟩ (fun hHeld => ?_)
   clear hK K
   refine fw 276 ?_
   refine aQ 13 277 16383 ?_
   refine aQ 14 278 32767 ?_
   refine wZ 15 none 65535 (fun K hK => ?_)
   refine iN (w1 := ?_) (by rfl) rfl ?_ ?_
   rotate_left
   ·go_simp
    rfl
   refine hK.out _ _ ?_
   clear hK K
   refine fA (by kernel_rfl) ?_
   have az := jr (World.setCell w16 ⟨lp, 2, none⟩ (.slice Zr Vs.length Zt)) (aa.zo HS.out 4 rfl (.slice Zr Vs.length Zt))
   have aG : ae (Below base w (World.setCell w16 ⟨lp, 2, none⟩ (.slice Zr Vs.length Zt))) := ⟨(HB.out).setCell (p := ⟨lp, 2, none⟩) (aa.ge HS.out 4 rfl) _⟩
   generalize World.setCell w16 ⟨lp, 2, none⟩ (.slice Zr Vs.length Zt) = ZY at az aG ⊢
   clear HS HB zs0 kJ; have HS := az; have HB := aG; clear az aG
   go_upto_region 24 with fail
   have sd54 : 0 < fo.length /\ fo.length <= 1000000 := by omega
   have Hl44m : ae (U8.map NT.p = (fo.map NT.p).eraseIdx 0) := ⟨by rw [Zq.out, Ho]⟩
   have gy := (aa.z2 HS.out 9 rfl)
   go_wp2_with (first | (go_at_call 129; (with_reducible refine (aat 0 0 rfl Hl44m.out (aa.gX HS.out 12 rfl) sd54).mono ?_); rintro e WJ ⟨kI, rfl, ho, hb⟩; obtain ⟨Zu, Zv, IJ⟩ := Kd.au ho; rw [List.length_map] at IJ; subst IJ; have az := oK (aa.Jh HS.out hb (eY eB HB) ho); have aG : ae (Below base w WJ) := ⟨(HB.out).trans (hb.mono (eY eB HB))⟩; clear HS HB ho hb; have HS := az; have HB := aG; clear az aG; clear gy; have gy := (aa.z2 HS.out 9 rfl); have zs0 := aa.z2 HS.out 9 rfl; have kJ := aa.f HS.out 9 rfl 2))
   have az := jr (World.setCell WJ ⟨rp, 2, none⟩ (.slice Zu U8.length Zv)) (aa.ky (aa.zo HS.out 9 rfl (.slice Zu U8.length Zv)) [0, 1, 2, 3, 4, 5, 6, 7, 8, 9, 10, 11, 19, 13, 14, 15, 16, 17, 18] (by decide))
   have aG : ae (Below base w (World.setCell WJ ⟨rp, 2, none⟩ (.slice Zu U8.length Zv))) := ⟨(HB.out).setCell (p := ⟨rp, 2, none⟩) (aa.ge HS.out 9 rfl) _⟩
   generalize World.setCell WJ ⟨rp, 2, none⟩ (.slice Zu U8.length Zv) = Y4 at az aG ⊢
   clear HS HB gy zs0 kJ; have HS := az; have HB := aG; clear az aG
   have WK : ae (NT.bI 96 70 fo = s.fB 96 70 ++ NT.bI 96 70 U8) := ⟨by rw [Zq.out, ma 96 70 jl.out.1, List.take_zero, NT.bI, List.nil_append, List.eraseIdx_zero, <- List.drop_one]⟩
   have az : ae (aa Y4 base [qW 96 tp (mF jE) tks.length ja (mF jF) tvs.length jk (some kS) aZ.length jC, yM (mF jE) tks.length ja l3, yM (mF jF) tvs.length jk l4, rY 70 (some kS) jC aZ, qW 96 lp QP l1.length QQ tN l2.length c31 Zr Vs.length Zt, lW QP QQ l1, lW tN c31 l2, rY 70 Zr Zt Vs, (NT.bI 96 70 lcs), qW 96 rp IK l5.length IL QR l6.length QS Zu U8.length Zv, lW IK IL l5, lW QR QS l6, rY 70 Zu Zv U8, (NT.bI 96 70 U8), GP, GQ, [txt (.slice Bc 1 c19) [tx]], [txt (.slice PN 1 c28) [ty]], [.own 70 (.slice A48 1 c49) (encs bO [sp])], (s.fB 96 70)]) := ⟨aa.aao HS.out 13 (congrArg some WK.out)⟩
   have aG : ae (Below base w Y4) := ⟨HB.out⟩
   clear HS HB; have HS := az; have HB := aG; clear az aG
   go_end0
   have hS := FR (aa.ky HS.out [0, 1, 2, 3, 4, 5, 6, 7, 8, 19, 9, 10, 11, 12, 13, 14, 15] (by decide))
   refine ⟨rfl, NT.mk tp (.slice (some ⟨jE, 0, none⟩) tks.length ja) (.slice (some ⟨jF, 0, none⟩) tvs.length jk) (.slice (some kS) aZ.length jC) l3 l4 (P ++ NT.mk lp (.slice QP l1.length QQ) (.slice tN l2.length c31) (.slice Zr Vs.length Zt) l1 l2 Vs :: NT.mk rp (.slice IK l5.length IL) (.slice QR l6.length QS) (.slice Zu U8.length Zv) l5 l6 U8 :: Q), rfl, ?_, shut_pair rfl ?_, HB.out⟩
   ·have e0 := HRR.out
    rw [HT.out] at e0
    rw [e0]
    show PT.mk l3 l4 (NT.aD (P ++ _ :: _ :: Q)) = Ea (PT.mk tks tvs (NT.aD (P ++ _ :: _ :: Q))) i
    simp only [aN, List.map_append, List.map_cons]
    rw [zt (by rw [List.length_map]; exact HP.out)]
    have Ku := oF.out
    subst Ku
    have Kv := sS.out
    subst Kv
    have Kw := Dq.out
    subst Kw
    have Ky := Gt.out
    subst Ky
    have Kz := FV.out
    subst Kz
    have KA := FW.out
    subst KA
    have el43 := Zp.out
    subst el43
    have el44 := Zq.out
    subst el44
    have PO := qb.out.2
    subst PO
    have ety := o7.out.2
    subst ety
    have U6 := PL.out.2
    subst U6
    have U7 := PM.out.2
    subst U7
    have hn : ¬ fo = [] := fun h => wV (by rw [h]; rfl)
    have hs' : (fo.map NT.erase).head? = some s.erase := by rw [List.head?_eq_getElem?, List.getElem?_map, jl.out.1]; rfl
    simp [um, vK, NT.erase, aN, PT.keys, PT.vals, PT.kids, fJ, hn, List.map_drop, List.eraseIdx_zero]
    rw [jl.out.1]
    rfl
   ·unfold kL
    simp only [NT.keys, NT.vals, NT.kids, NT.p, NT.kv, NT.vv, NT.cv]
    have hq : ∀ a b : NT, a.p = lp -> b.p = rp -> ptrs (P ++ a :: b :: Q) = ptrs aZ := fun a b ha hb => by rw [HT.out]; simp only [ptrs, List.map_append, List.map_cons, ha, hb]; rfl
    have hc : NT.bI 96 70 Vs = NT.bI 96 70 lcs ++ s.fB 96 70 := by rw [Zp.out, jP, NT.bI, NT.bI, List.append_nil]
    rw [hq _ _ rfl rfl, <- PI.out, <- PK.out, hc]
    unfold aa at hS ⊢
    simp only [List.flatten_cons, List.append_assoc] at hS ⊢
    exact hS
set_option maxHeartbeats 8000000
set_option maxRecDepth 100000
theorem Im.calls (t l r : NT) (P Q : List NT) (i : Nat) (ht : t.kids = P ++ l :: r :: Q) (hP : P.length = i) (hl : Jo l.keys l.vals l.kids.length) (hr : Jo r.keys r.vals r.kids.length) (hj : i < t.keys.length /\ t.keys.length <= 1000 /\ t.vals.length = t.keys.length /\ t.kids.length = t.keys.length + 1)
  (base : Nat) (L : List Ck) (w : World) (hs : Sat w base (t.fB 96 70 ++ L)) (hbs : base <= w.heap.size) :
  Calls Try.prog 130 #[bO t.p, .int .i64 (i : Int)] w (WR w base 96 70 t L (xQ t.erase i)) := by
 cases t with | mk tp Gq Gr Gs tks tvs aZ =>
 cases l with | mk lp MZ M0 M3 dO kG lcs =>
 cases r with | mk rp M4 M5 rcv mP lS fo =>
 have h0 := open_pair ht hs
 unfold kL at h0
 simp only [NT.keys, NT.vals, NT.kids, NT.p, NT.kv, NT.vv, NT.cv] at ht hl hr hj h0 ⊢
 clear hs
 unfold Jo at hl hr
 obtain ⟨hl1, hl2, hl3⟩ := hl
 obtain ⟨hr1, hr2, hr3⟩ := hr
 obtain ⟨hj1, hj2, M6, PH⟩ := hj
 have hil : (i + 1) < aZ.length := by rw [ht, List.length_append, hP]; simp only [List.length_cons]; omega
 have hij : (i + 1) = i + 1 := by omega
 have HP := A_ hP
 have HT := A_ ht
 have hkl : aZ[i]? = some (NT.mk lp MZ M0 M3 dO kG lcs) /\ (NT.mk lp MZ M0 M3 dO kG lcs).p = lp := ⟨by rw [ht]; exact Ri hP, rfl⟩
 have hkr : aZ[(i + 1)]? = some (NT.mk rp M4 M5 rcv mP lS fo) /\ (NT.mk rp M4 M5 rcv mP lS fo).p = rp := ⟨by rw [ht, hij]; exact Rj hP, rfl⟩
 have Bb := A_ hkl
 have Sr := A_ hkr
 clear hkl hkr ht hij
 obtain ⟨R, hR⟩ : ∃ R, R = xQ (NT.mk tp Gq Gr Gs tks tvs aZ).erase i := ⟨_, rfl⟩
 rw [<- hR]
 have HRR := A_ hR
 clear hR
 obtain ⟨tF, ja, rfl⟩ := Kd.au (h0.sr 1 rfl)
 obtain ⟨jE, rfl⟩ := dP (h0.sr 1 rfl) (by omega)
 obtain ⟨uF, jk, rfl⟩ := Kd.au (h0.sr 2 rfl)
 obtain ⟨jF, rfl⟩ := dP (h0.sr 2 rfl) (by omega)
 obtain ⟨Cc, jC, rfl, _, _⟩ := eO (h0.q 3 rfl)
 obtain ⟨kS, rfl⟩ := gq (h0.q 3 rfl) (by omega)
 obtain ⟨IG, wo, rfl⟩ := Kd.au (h0.sr 5 rfl)
 obtain ⟨Dn, uJ, rfl⟩ := Kd.au (h0.sr 6 rfl)
 obtain ⟨xL, oM, rfl, _, _⟩ := eO (h0.q 7 rfl)
 obtain ⟨Kt, II, rfl⟩ := Kd.au (h0.sr 10 rfl)
 obtain ⟨Dp, CY, rfl⟩ := Kd.au (h0.sr 11 rfl)
 obtain ⟨xM, crc, rfl, _, _⟩ := eO (h0.q 12 rfl)
 obtain ⟨GP, FH⟩ : ∃ G, G = NT.bI 96 70 P := ⟨_, rfl⟩
 obtain ⟨GQ, FI⟩ : ∃ G, G = NT.bI 96 70 Q ++ L := ⟨_, rfl⟩
 rw [<- FH, <- FI] at h0
 have HS := A_ h0
 have HB := A_ (Below.refl base w)
 have eB := A_ hbs
 have PI := A_ FH
 have PK := A_ FI
 clear h0 hbs FH FI hP
 have Vo := A_ (show fo.length <= 1001 /\ lcs.length <= 1001 by omega)
 have hrc : fo.length <= 1001 := by omega
 have hlc : lcs.length <= 1001 := by omega
 have hrv : lS.length <= 1000 := by omega
 have hlv : kG.length <= 1000 := by omega
 have Vl : i < tvs.length /\ tvs.length <= 1000 := by omega
 have htc : aZ.length <= 1001 := by omega
 clear hl2 hl3 hr2 hr3 M6 PH
 obtain ⟨tx, htx⟩ : ∃ x, bF tks i = x := ⟨_, rfl⟩
 have qb : ae (i < tks.length /\ bF tks i = tx) := ⟨by omega, htx⟩
 clear htx
 obtain ⟨ty, hty⟩ : ∃ x, bF tvs i = x := ⟨_, rfl⟩
 have o7 : ae (i < tvs.length /\ bF tvs i = ty) := ⟨by omega, hty⟩
 clear hty
 obtain ⟨l1, oF⟩ := oI (dO ++ [tx])
 obtain ⟨l2, sS⟩ := oI (l1 ++ mP)
 have hl1b : l1.length <= 1001 := by rw [oF.out, List.length_append]; simp only [List.length_cons, List.length_nil]; omega
 obtain ⟨l3, Dq⟩ := oI (kG ++ [ty])
 obtain ⟨l4, Gt⟩ := oI (l3 ++ lS)
 have hl3b : l3.length <= 1001 := by rw [Dq.out, List.length_append]; simp only [List.length_cons, List.length_nil]; omega
 obtain ⟨l5, FV⟩ := oI (tks.eraseIdx i)
 obtain ⟨l6, FW⟩ := oI (tvs.eraseIdx i)
 obtain ⟨l7, Hl7⟩ := oI (lcs ++ fo)
 have Zl : ae (lcs.map NT.p ++ fo.map NT.p = l7.map NT.p) := ⟨by rw [Hl7.out, List.map_append]⟩
 obtain ⟨l8, Hl8⟩ := oI (aZ.eraseIdx (i + 1))
 go_enter Try.func130, Try.ntmps130
 have b9 := dN (0 <= (i : Int))
 have b10 := dN ((i : Int) < (aZ.length : Int))
 have b11 := dN (i < aZ.length)
 have gy := (aa.z2 HS.out 0 rfl)
 have uG := (il (aa.gX HS.out 3 rfl) Bb.out)
 go_upto_region 1 with fail
 clear gy uG
 have b12 := dN (0 <= ((i : Int) + 1))
 have b13 := dN (((i : Int) + 1) < (aZ.length : Int))
 have b14 := dN ((i + 1) < aZ.length)
 have gy := (aa.z2 HS.out 0 rfl)
 have uG := (yl (aa.gX HS.out 3 rfl) Sr.out (by omega))
 go_upto_region 2 with fail
 clear gy uG
 have b15 := dN ((i : Int) < (tks.length : Int))
 have b16 := dN (i < tks.length)
 have U5 : (dO.length + 1) * 16 <= 140737488355328 := by omega
 have sd27 : (l1.length + mP.length) * 16 <= 140737488355328 := by omega
 refine dL (n := 22) (S := fun w' => w'.cell? ⟨lp, 0, none⟩ = some (.slice IG dO.length wo) /\ w'.cell? ⟨tp, 0, none⟩ = some (.slice (some ⟨jE, 0, none⟩) tks.length ja) /\ w'.cell? ⟨jE, i, none⟩ = some (.string tx) /\ w'.cell? ⟨rp, 0, none⟩ = some (.slice Kt mP.length II)) (ds := [21]) (bt 22 0) (by kernel_rfl) rfl rfl ⟨(aa.z0 (aa.drew HS.out) 4 rfl), (aa.z0 (aa.drew HS.out) 0 rfl), (iY (aa.sr (aa.drew HS.out) 1 rfl) qb.out), (aa.z0 (aa.drew HS.out) 9 rfl)⟩ (fun hHeld => ?_)
 refine aQ 0 21 1 ?_
 refine aQ 1 22 3 ?_
 refine aQ 2 23 7 ?_
 refine aQ 3 24 15 ?_
 refine aQ 5 26 47 ?_
 refine aQ 6 27 111 ?_
 refine aQ 7 28 239 ?_
 refine aQ 9 30 751 ?_
 refine aQ 14 35 17135 ?_
 refine aQ 15 36 49903 ?_
 refine aQ 16 37 115439 ?_
 refine gF 4 25 115455 hHeld ?_
 refine gF 8 29 115711 hHeld ?_
 refine aQ 10 31 116735 ?_
 refine gF 11 32 118783 hHeld ?_
 refine gF 17 38 249855 hHeld ?_
 refine jm 12 (some 33) 253951 (fun K hK => ?_)
 refine Kd.bB Kd.string (w0 := w) base 9 (by rfl) (N := 33) rfl (xs := [tx]) (inner := [.string tx]) (ok := fun _ => True) (okp := fun _ => False) ?hr (Kd.bH (enc := Value.string) [tx]) (fun _ h => h.elim) trivial (aH HB.out) (eY eB HB) (by simp) ?_
 (case hr => first | (go_simp; done) | (go_simp; rfl))
 intro v17 w2 ho hb hg hn
 obtain ⟨Bc, c19, rfl⟩ : ∃ A c, v17 = .slice A 1 c := Kd.au ho
 have az := oK (aa.lit (aa.drew HS.out) ho hg hn)
 have aG : ae (Below base w w2) := ⟨hb⟩
 clear HS HB ho hb hg hn; have HS := az; have HB := aG; clear az aG
 refine hK.out _ _ ⟨(aa.z0 HS.out 4 rfl), (aa.z0 HS.out 0 rfl), (iY (aa.sr HS.out 1 rfl) qb.out), (aa.z0 HS.out 9 rfl)⟩ (fun hHeld => ?_)
 clear hK K
 refine fw 33 ?_
 refine jm 13 (some 34) 262143 (fun K hK => ?_)
 refine Kd.aV Kd.string (w0 := w) base (by rfl) (.tmp 25) (.tmp 33) 38 9 (.string ⟨#[]⟩) 16 rfl Try.underlying38 eU rfl (by decide) (by omega) (.slice IG dO.length wo) dO [tx] Bc 1 c19 (fun _ => True) (fun _ => False) rfl rfl (aa.sr HS.out 5 rfl) (F5 HS.out 16 rfl) (fun _ _ h => h) (fun _ h => h.elim) (fun _ _ => trivial) HB.out (eY eB HB) U5 ?_
 intro u20 w3 ho hb hg hat
 rw [<- oF.out] at ho
 obtain ⟨QP, QQ, rfl⟩ := Kd.au ho
 have az := oK (aa.app 5 HS.out rfl ho hg hat)
 have aG : ae (Below base w w3) := ⟨hb⟩
 clear HS HB ho hb hg hat; have HS := az; have HB := aG; clear az aG
 refine hK.out _ _ ⟨(aa.z0 HS.out 4 rfl), (aa.z0 HS.out 0 rfl), (iY (aa.sr HS.out 1 rfl) qb.out), (aa.z0 HS.out 9 rfl)⟩ (fun hHeld => ?_)
 clear hK K
 refine fw 34 ?_
 refine jm 18 (some 39) 524287 (fun K hK => ?_)
 refine Kd.aV Kd.string (w0 := w) base (by rfl) (.tmp 34) (.tmp 38) 38 9 (.string ⟨#[]⟩) 16 rfl Try.underlying38 eU rfl (by decide) (by omega) (.slice QP l1.length QQ) l1 mP Kt mP.length II (fun _ => True) (fun _ => False) rfl rfl (aa.sr HS.out 5 rfl) (F5 HS.out 10 rfl) (fun _ _ h => h) (fun _ h => h.elim) (fun _ _ => trivial) HB.out (eY eB HB) sd27 ?_
 intro u24 w4 ho hb hg hat
 rw [<- sS.out] at ho
 obtain ⟨Na, Nb, rfl⟩ := Kd.au ho
 have az := oK (aa.app 5 HS.out rfl ho hg hat)
 have aG : ae (Below base w w4) := ⟨hb⟩
 clear HS HB ho hb hg hat; have HS := az; have HB := aG; clear az aG
 have zs0 := aa.z0 HS.out 4 rfl
 have kJ := aa.f HS.out 4 rfl 0
 refine hK.out _ _ ⟨(aa.z0 HS.out 4 rfl), (aa.z0 HS.out 0 rfl), (iY (aa.sr HS.out 1 rfl) qb.out), (aa.z0 HS.out 9 rfl)⟩ (fun hHeld => ?_)
 clear hK K
 refine fw 39 ?_
 refine aQ 19 40 1048575 ?_
 refine aQ 20 41 2097151 ?_
 refine wZ 21 none 4194303 (fun K hK => ?_)
 refine iN (w1 := ?_) (by rfl) rfl ?_ ?_
 rotate_left
 ·go_simp
  rfl
 refine hK.out _ _ ?_
 clear hK K
 refine fA (by kernel_rfl) ?_
 have az := jr (World.setCell w4 ⟨lp, 0, none⟩ (.slice Na l2.length Nb)) (aa.Eb HS.out 4 rfl (.slice Na l2.length Nb))
 have aG : ae (Below base w (World.setCell w4 ⟨lp, 0, none⟩ (.slice Na l2.length Nb))) := ⟨(HB.out).setCell (p := ⟨lp, 0, none⟩) (aa.ge HS.out 4 rfl) _⟩
 generalize World.setCell w4 ⟨lp, 0, none⟩ (.slice Na l2.length Nb) = w5 at az aG ⊢
 clear HS HB zs0 kJ; have HS := az; have HB := aG; clear az aG
 go_upto_region 3 with fail
 have b28 := dN ((i : Int) < (tvs.length : Int))
 have b29 := dN (i < tvs.length)
 have sd36 : (kG.length + 1) * 16 <= 140737488355328 := by omega
 have Zo : (l3.length + lS.length) * 16 <= 140737488355328 := by omega
 refine dL (n := 22) (S := fun w' => w'.cell? ⟨lp, 1, none⟩ = some (.slice Dn kG.length uJ) /\ w'.cell? ⟨tp, 1, none⟩ = some (.slice (some ⟨jF, 0, none⟩) tvs.length jk) /\ w'.cell? ⟨jF, i, none⟩ = some (.string ty) /\ w'.cell? ⟨rp, 1, none⟩ = some (.slice Dp lS.length CY)) (ds := [21]) (bt 22 0) (by kernel_rfl) rfl rfl ⟨(aa.z1 (aa.drew HS.out) 4 rfl), (aa.z1 (aa.drew HS.out) 0 rfl), (iY (aa.sr (aa.drew HS.out) 2 rfl) o7.out), (aa.z1 (aa.drew HS.out) 9 rfl)⟩ (fun hHeld => ?_)
 refine aQ 0 42 1 ?_
 refine aQ 1 43 3 ?_
 refine aQ 2 44 7 ?_
 refine aQ 3 45 15 ?_
 refine aQ 5 47 47 ?_
 refine aQ 6 48 111 ?_
 refine aQ 7 49 239 ?_
 refine aQ 9 51 751 ?_
 refine aQ 14 56 17135 ?_
 refine aQ 15 57 49903 ?_
 refine aQ 16 58 115439 ?_
 refine gF 4 46 115455 hHeld ?_
 refine gF 8 50 115711 hHeld ?_
 refine aQ 10 52 116735 ?_
 refine gF 11 53 118783 hHeld ?_
 refine gF 17 59 249855 hHeld ?_
 refine jm 12 (some 54) 253951 (fun K hK => ?_)
 refine Kd.bB Kd.string (w0 := w) base 9 (by rfl) (N := 54) rfl (xs := [ty]) (inner := [.string ty]) (ok := fun _ => True) (okp := fun _ => False) ?hr (Kd.bH (enc := Value.string) [ty]) (fun _ h => h.elim) trivial (aH HB.out) (eY eB HB) (by simp) ?_
 (case hr => first | (go_simp; done) | (go_simp; rfl))
 intro v30 w6 ho hb hg hn
 obtain ⟨A31, c32, rfl⟩ : ∃ A c, v30 = .slice A 1 c := Kd.au ho
 have az := oK (aa.lit (aa.drew HS.out) ho hg hn)
 have aG : ae (Below base w w6) := ⟨hb⟩
 clear HS HB ho hb hg hn; have HS := az; have HB := aG; clear az aG
 refine hK.out _ _ ⟨(aa.z1 HS.out 4 rfl), (aa.z1 HS.out 0 rfl), (iY (aa.sr HS.out 2 rfl) o7.out), (aa.z1 HS.out 9 rfl)⟩ (fun hHeld => ?_)
 clear hK K
 refine fw 54 ?_
 refine jm 13 (some 55) 262143 (fun K hK => ?_)
 refine Kd.aV Kd.string (w0 := w) base (by rfl) (.tmp 46) (.tmp 54) 38 9 (.string ⟨#[]⟩) 16 rfl Try.underlying38 eU rfl (by decide) (by omega) (.slice Dn kG.length uJ) kG [ty] A31 1 c32 (fun _ => True) (fun _ => False) rfl rfl (aa.sr HS.out 6 rfl) (F5 HS.out 17 rfl) (fun _ _ h => h) (fun _ h => h.elim) (fun _ _ => trivial) HB.out (eY eB HB) sd36 ?_
 intro u33 w7 ho hb hg hat
 rw [<- Dq.out] at ho
 obtain ⟨A34, c35, rfl⟩ := Kd.au ho
 have az := oK (aa.app 6 HS.out rfl ho hg hat)
 have aG : ae (Below base w w7) := ⟨hb⟩
 clear HS HB ho hb hg hat; have HS := az; have HB := aG; clear az aG
 refine hK.out _ _ ⟨(aa.z1 HS.out 4 rfl), (aa.z1 HS.out 0 rfl), (iY (aa.sr HS.out 2 rfl) o7.out), (aa.z1 HS.out 9 rfl)⟩ (fun hHeld => ?_)
 clear hK K
 refine fw 55 ?_
 refine jm 18 (some 60) 524287 (fun K hK => ?_)
 refine Kd.aV Kd.string (w0 := w) base (by rfl) (.tmp 55) (.tmp 59) 38 9 (.string ⟨#[]⟩) 16 rfl Try.underlying38 eU rfl (by decide) (by omega) (.slice A34 l3.length c35) l3 lS Dp lS.length CY (fun _ => True) (fun _ => False) rfl rfl (aa.sr HS.out 6 rfl) (F5 HS.out 11 rfl) (fun _ _ h => h) (fun _ h => h.elim) (fun _ _ => trivial) HB.out (eY eB HB) Zo ?_
 intro u37 w8 ho hb hg hat
 rw [<- Gt.out] at ho
 obtain ⟨IK, IL, rfl⟩ := Kd.au ho
 have az := oK (aa.app 6 HS.out rfl ho hg hat)
 have aG : ae (Below base w w8) := ⟨hb⟩
 clear HS HB ho hb hg hat; have HS := az; have HB := aG; clear az aG
 have zs0 := aa.z1 HS.out 4 rfl
 have kJ := aa.f HS.out 4 rfl 1
 refine hK.out _ _ ⟨(aa.z1 HS.out 4 rfl), (aa.z1 HS.out 0 rfl), (iY (aa.sr HS.out 2 rfl) o7.out), (aa.z1 HS.out 9 rfl)⟩ (fun hHeld => ?_)
 clear hK K
 refine fw 60 ?_
 refine aQ 19 61 1048575 ?_
 refine aQ 20 62 2097151 ?_
 refine wZ 21 none 4194303 (fun K hK => ?_)
 refine iN (w1 := ?_) (by rfl) rfl ?_ ?_
 rotate_left
 ·go_simp
  rfl
 refine hK.out _ _ ?_
 clear hK K
 refine fA (by kernel_rfl) ?_
 have az := jr (World.setCell w8 ⟨lp, 1, none⟩ (.slice IK l4.length IL)) (aa.Ec HS.out 4 rfl (.slice IK l4.length IL))
 have aG : ae (Below base w (World.setCell w8 ⟨lp, 1, none⟩ (.slice IK l4.length IL))) := ⟨(HB.out).setCell (p := ⟨lp, 1, none⟩) (aa.ge HS.out 4 rfl) _⟩
 generalize World.setCell w8 ⟨lp, 1, none⟩ (.slice IK l4.length IL) = w9 at az aG ⊢
 clear HS HB zs0 kJ; have HS := az; have HB := aG; clear az aG
 go_upto_region 4 with fail
 have sd44 : ((lcs.map NT.p).length + fo.length) * 8 <= 140737488355328 := by rw [List.length_map]; omega
 refine dL (n := 13) (S := fun w' => w'.cell? ⟨lp, 2, none⟩ = some (.slice xL lcs.length oM) /\ w'.cell? ⟨rp, 2, none⟩ = some (.slice xM fo.length crc)) (ds := [12]) (bt 13 0) (by kernel_rfl) rfl rfl ⟨(aa.z2 (aa.drew HS.out) 4 rfl), (aa.z2 (aa.drew HS.out) 9 rfl)⟩ (fun hHeld => ?_)
 refine aQ 0 63 1 ?_
 refine aQ 1 64 3 ?_
 refine aQ 2 65 7 ?_
 refine aQ 3 66 15 ?_
 refine aQ 5 68 47 ?_
 refine aQ 6 69 111 ?_
 refine aQ 7 70 239 ?_
 refine gF 4 67 255 hHeld ?_
 refine gF 8 71 511 hHeld ?_
 refine jm 9 (some 72) 1023 (fun K hK => ?_)
 refine lX (w0 := w) base (by rfl) (.tmp 67) (.tmp 71) 94 70 rfl kN nG (.slice xL lcs.length oM) (lcs.map NT.p) (fo.map NT.p) xM fo.length crc rfl rfl (aa.q (aa.drew HS.out) 7 rfl) (aap (aa.drew HS.out) 12 rfl) (aH HB.out) (eY eB HB) sd44 ?_
 intro u41 vN ho hb hg hat
 rw [Zl.out] at ho
 obtain ⟨R7, R8, IJ⟩ := Kd.y8 ho
 rw [List.length_map] at IJ
 obtain ⟨rfl, _⟩ := IJ
 have az := oK (aa.Tm 7 (aa.drew HS.out) rfl ho hg hat)
 have aG : ae (Below base w vN) := ⟨hb⟩
 clear HS HB ho hb hg hat; have HS := az; have HB := aG; clear az aG
 have zs0 := aa.z2 HS.out 4 rfl
 have kJ := aa.f HS.out 4 rfl 2
 refine hK.out _ _ ⟨(aa.z2 HS.out 4 rfl), (aa.z2 HS.out 9 rfl)⟩ (fun hHeld => ?_)
 clear hK K
 refine fw 72 ?_
 refine aQ 10 73 2047 ?_
 refine aQ 11 74 4095 ?_
 refine wZ 12 none 8191 (fun K hK => ?_)
 refine iN (w1 := ?_) (by rfl) rfl ?_ ?_
 rotate_left
 ·go_simp
  rfl
 refine hK.out _ _ ?_
 clear hK K
 refine fA (by kernel_rfl) ?_
 have az := jr (World.setCell vN ⟨lp, 2, none⟩ (.slice R7 l7.length R8)) (aa.zo HS.out 4 rfl (.slice R7 l7.length R8))
 have aG : ae (Below base w (World.setCell vN ⟨lp, 2, none⟩ (.slice R7 l7.length R8))) := ⟨(HB.out).setCell (p := ⟨lp, 2, none⟩) (aa.ge HS.out 4 rfl) _⟩
 generalize World.setCell vN ⟨lp, 2, none⟩ (.slice R7 l7.length R8) = sP at az aG ⊢
 clear HS HB zs0 kJ; have HS := az; have HB := aG; clear az aG
 go_upto_region 5 with fail
 have sd45 : i < tks.length /\ tks.length <= 1000000 := by omega
 have gy := (aa.z0 HS.out 0 rfl)
 go_upto_region 6 with (first | (go_at_call 112; (with_reducible refine (Rk i (i : Int) rfl FV.out (aa.row HS.out 1 rfl) sd45).mono ?_); rintro e MV ⟨kI, rfl, ho, hb⟩; obtain ⟨A46, c47, rfl⟩ := Kd.au ho; have az := oK (aa.gQ HS.out hb (eY eB HB) ho); have aG : ae (Below base w MV) := ⟨(HB.out).trans (hb.mono (eY eB HB))⟩; clear HS HB ho hb; have HS := az; have HB := aG; clear az aG; clear gy; have gy := (aa.z0 HS.out 0 rfl); have zs0 := aa.z0 HS.out 0 rfl; have kJ := aa.f HS.out 0 rfl 0))
 have az := jr (World.setCell MV ⟨tp, 0, none⟩ (.slice A46 l5.length c47)) (aa.ky (aa.Eb HS.out 0 rfl (.slice A46 l5.length c47)) [0, 18, 2, 3, 4, 5, 6, 7, 8, 9, 10, 11, 12, 13, 14, 15, 16, 17] (by decide))
 have aG : ae (Below base w (World.setCell MV ⟨tp, 0, none⟩ (.slice A46 l5.length c47))) := ⟨(HB.out).setCell (p := ⟨tp, 0, none⟩) (aa.ge HS.out 0 rfl) _⟩
 generalize World.setCell MV ⟨tp, 0, none⟩ (.slice A46 l5.length c47) = Gh at az aG ⊢
 clear HS HB gy zs0 kJ; have HS := az; have HB := aG; clear az aG
 have sd48 : i < tvs.length /\ tvs.length <= 1000000 := by omega
 have gy := (aa.z1 HS.out 0 rfl)
 go_upto_region 7 with (first | (go_at_call 112; (with_reducible refine (Rk i (i : Int) rfl FW.out (aa.row HS.out 2 rfl) sd48).mono ?_); rintro e IC ⟨kI, rfl, ho, hb⟩; obtain ⟨A49, c50, rfl⟩ := Kd.au ho; have az := oK (aa.gQ HS.out hb (eY eB HB) ho); have aG : ae (Below base w IC) := ⟨(HB.out).trans (hb.mono (eY eB HB))⟩; clear HS HB ho hb; have HS := az; have HB := aG; clear az aG; clear gy; have gy := (aa.z1 HS.out 0 rfl); have zs0 := aa.z1 HS.out 0 rfl; have kJ := aa.f HS.out 0 rfl 1))
 have az := jr (World.setCell IC ⟨tp, 1, none⟩ (.slice A49 l6.length c50)) (aa.ky (aa.Ec HS.out 0 rfl (.slice A49 l6.length c50)) [0, 1, 18, 3, 4, 5, 6, 7, 8, 9, 10, 11, 12, 13, 14, 15, 16, 17] (by decide))
 have aG : ae (Below base w (World.setCell IC ⟨tp, 1, none⟩ (.slice A49 l6.length c50))) := ⟨(HB.out).setCell (p := ⟨tp, 1, none⟩) (aa.ge HS.out 0 rfl) _⟩
 generalize World.setCell IC ⟨tp, 1, none⟩ (.slice A49 l6.length c50) = EN at az aG ⊢
 clear HS HB gy zs0 kJ; have HS := az; have HB := aG; clear az aG
 have sd51 : (i + 1) < aZ.length /\ aZ.length <= 1000000 := by omega
 have Hl8m : ae (l8.map NT.p = (aZ.map NT.p).eraseIdx (i + 1)) := ⟨by rw [Hl8.out, Ho]⟩
 have gy := (aa.z2 HS.out 0 rfl)
 go_wp2_with (first | (go_at_call 129; (with_reducible refine (aat (i + 1) ((i : Int) + 1) (by omega) Hl8m.out (aa.gX HS.out 3 rfl) sd51).mono ?_); rintro e w16 ⟨kI, rfl, ho, hb⟩; obtain ⟨A52, c53, IJ⟩ := Kd.au ho; rw [List.length_map] at IJ; subst IJ; have az := oK (aa.Jh HS.out hb (eY eB HB) ho); have aG : ae (Below base w w16) := ⟨(HB.out).trans (hb.mono (eY eB HB))⟩; clear HS HB ho hb; have HS := az; have HB := aG; clear az aG; clear gy; have gy := (aa.z2 HS.out 0 rfl); have zs0 := aa.z2 HS.out 0 rfl; have kJ := aa.f HS.out 0 rfl 2))
 have az := jr (World.setCell w16 ⟨tp, 2, none⟩ (.slice A52 l8.length c53)) (aa.ky (aa.zo HS.out 0 rfl (.slice A52 l8.length c53)) [0, 1, 2, 18, 4, 5, 6, 7, 8, 9, 10, 11, 12, 13, 14, 15, 16, 17] (by decide))
 have aG : ae (Below base w (World.setCell w16 ⟨tp, 2, none⟩ (.slice A52 l8.length c53))) := ⟨(HB.out).setCell (p := ⟨tp, 2, none⟩) (aa.ge HS.out 0 rfl) _⟩
 generalize World.setCell w16 ⟨tp, 2, none⟩ (.slice A52 l8.length c53) = ZY at az aG ⊢
 clear HS HB gy zs0 kJ; have HS := az; have HB := aG; clear az aG
 go_end0
 have hS := FR (aa.ky HS.out [0, 1, 2, 3, 4, 5, 6, 7, 8, 13, 14, 15] (by decide))
 obtain ⟨m, hm⟩ : ∃ m, m = NT.mk lp (.slice Na l2.length Nb) (.slice IK l4.length IL) (.slice R7 l7.length R8) l2 l4 l7 := ⟨_, rfl⟩
 refine ⟨rfl, NT.mk tp (.slice A46 l5.length c47) (.slice A49 l6.length c50) (.slice A52 l8.length c53) l5 l6 (P ++ m :: Q), rfl, ?_, Lm rfl ?_, HB.out⟩
 ·have e0 := HRR.out
  rw [HT.out] at e0
  rw [e0]
  show PT.mk l5 l6 (NT.aD (P ++ m :: Q)) = xQ (PT.mk tks tvs (NT.aD (P ++ _ :: _ :: Q))) i
  simp only [aN, List.map_append, List.map_cons]
  rw [zu (by rw [List.length_map]; exact HP.out), hm]
  have Ku := oF.out
  subst Ku
  have Kv := sS.out
  subst Kv
  have Kw := Dq.out
  subst Kw
  have Ky := Gt.out
  subst Ky
  have Kz := FV.out
  subst Kz
  have KA := FW.out
  subst KA
  have el7 := Hl7.out
  subst el7
  have el8 := Hl8.out
  subst el8
  have PO := qb.out.2
  subst PO
  have ety := o7.out.2
  subst ety
  simp [Cr, NT.erase, aN, PT.keys, PT.vals, PT.kids]
 ·unfold Ll
  simp only [NT.keys, NT.vals, NT.kids, NT.p, NT.kv, NT.vv, NT.cv]
  have hq : ptrs (P ++ m :: Q) = ptrs l8 := by
   have e1 := Hl8.out
   have e2 := HT.out
   have e3 := HP.out
   rw [e1, e2]
   subst e3
   exact (Hq (by rw [hm]; rfl)).symm
  have hc : NT.bI 96 70 l7 = NT.bI 96 70 lcs ++ NT.bI 96 70 fo := by rw [Hl7.out, jP]
  rw [hq, <- PI.out, <- PK.out, hm]
  simp only [NT.keys, NT.vals, NT.kids, NT.p, NT.kv, NT.vv, NT.cv]
  rw [hc]
  unfold aa at hS ⊢
  simp only [List.flatten_cons, List.append_assoc] at hS ⊢
  exact hS
set_option maxHeartbeats 8000000
set_option maxRecDepth 100000
theorem yA {w : World} {base T E : Nat} {t : NT} {L : List Ck} (hs : Sat w base (t.fB T E ++ L)) (hc : 0 < t.kids.length) :
  ∃ (Ak Av : Option Addr) (ad : Addr) (ck cv cc : Nat), w.cell? ⟨t.p, 0, none⟩ = some (.slice Ak t.keys.length ck) /\ w.cell? ⟨t.p, 1, none⟩ = some (.slice Av t.vals.length cv) /\ w.cell? ⟨t.p, 2, none⟩ = some (.slice (some ad) t.kids.length cc) /\
   (t.kids.length = t.kids.length /\ t.kids.length <= cc /\ gL.C w (some ad) t.kids.length (t.kids.map NT.p)) := by
 have h0 := jb hs
 obtain ⟨Ak, ck, e1⟩ := Kd.au (h0.sr 1 rfl)
 obtain ⟨Av, cv, e2⟩ := Kd.au (h0.sr 2 rfl)
 obtain ⟨Ac, cc, e3, h3, h4⟩ := eO (h0.q 3 rfl)
 have hq := h0.q 3 rfl
 rw [e3] at hq
 obtain ⟨ad, rfl⟩ := gq hq hc
 have z0 := h0.z0 0 rfl
 have z1 := h0.z1 0 rfl
 have z2 := h0.z2 0 rfl
 rw [e1] at z0
 rw [e2] at z1
 rw [e3] at z2
 exact ⟨Ak, Av, ad, ck, cv, cc, z0, z1, z2, rfl, h3, h4⟩
theorem Ew.calls (t : NT) (i : Nat) (R : PT) (hno : i = 0 ∨ 0 < i /\ ∃ s : NT, t.kids[i - 1]? = some s /\ s.keys.length <= 2) (hj : t.keys.length <= 1000 /\ t.kids.length = t.keys.length + 1 /\ i < t.kids.length) (base : Nat) (L : List Ck) (w : World) (hs : Sat w base (t.fB 96 70 ++ L))
  (hc : i < t.keys.length /\ (∃ s : NT, t.kids[i + 1]? = some s /\ s.keys.length <= 2) /\ Calls Try.prog 130 #[bO t.p, .int .i64 (i : Int)] w (WR w base 96 70 t L R) ∨
   i = t.keys.length /\ 0 < i /\ Calls Try.prog 130 #[bO t.p, .int .i64 ((i - 1 : Nat) : Int)] w (WR w base 96 70 t L R)) :
  Calls Try.prog 113 #[bO t.p, .int .i64 (i : Int)] w (WR w base 96 70 t L R) := by
 obtain ⟨Ak, Av, ad, ck, cv, cc, z0, z1, z2, hq⟩ := yA hs (by omega)
 have Vq : ae (i = 0 ∨ 0 < i /\ ∃ (sp n : Nat) (A : Option Addr) (c : Nat), w.cell? (ad.add (i - 1)) = some (bO sp) /\ n <= 2 /\ w.cell? ⟨sp, 0, none⟩ = some (.slice A n c)) := ⟨by
  rcases hno with h | ⟨h, s, h1, h2⟩
  ·exact .inl h
  ·obtain ⟨A, c, h3⟩ := pR hs h1
   exact .inr ⟨h, s.p, s.keys.length, A, c, il hq ⟨h1, rfl⟩, h2, h3⟩⟩
 have HC : ae (i < t.keys.length /\ (∃ (sp n : Nat) (A : Option Addr) (c : Nat), w.cell? ⟨ad.block, ad.off + (i + 1), none⟩ = some (bO sp) /\ n <= 2 /\ w.cell? ⟨sp, 0, none⟩ = some (.slice A n c)) /\ Calls Try.prog 130 #[bO t.p, .int .i64 (i : Int)] w (WR w base 96 70 t L R) ∨
   i = t.keys.length /\ 0 < i /\ Calls Try.prog 130 #[bO t.p, .int .i64 ((i : Int) - 1)] w (WR w base 96 70 t L R)) := ⟨by
  rcases hc with ⟨h, ⟨s, h1, h2⟩, h3⟩ | ⟨h, h1, h2⟩
  ·obtain ⟨A, c, h4⟩ := pR hs h1
   exact .inl ⟨h, ⟨s.p, s.keys.length, A, c, yl hq ⟨h1, rfl⟩ (by omega), h2, h4⟩, h3⟩
  ·rw [show ((i - 1 : Nat) : Int) = (i : Int) - 1 by omega] at h2
   exact .inr ⟨h, h1, h2⟩⟩
 have zi := il hq (And.intro (List.getElem?_eq_getElem hj.2.2) rfl)
 generalize (t.kids[i]).p = ip at zi
 obtain ⟨hj1, hj2, M6⟩ := hj
 obtain ⟨nk, hnk⟩ : ∃ n, t.keys.length = n := ⟨_, rfl⟩
 obtain ⟨nc, hnc⟩ : ∃ n, t.kids.length = n := ⟨_, rfl⟩
 obtain ⟨tp, htp⟩ : ∃ p, t.p = p := ⟨_, rfl⟩
 rw [hnk] at z0 hj1 hj2
 rw [hnc] at z2 hj2 M6
 rw [htp] at z0 z1 z2 ⊢
 rw [hnk, htp] at HC
 have HJ := A_ hj2
 have hil : nk <= 1000 /\ i < nc /\ nc <= 1001 := by omega
 clear hno hc hs hq z1 hnk hnc hj2 htp
 have b0 := dN (0 <= (i : Int))
 have b1 := dN ((i : Int) < (nc : Int))
 have b2 := dN (i < nc)
 go_enter Try.func113, Try.ntmps113
 go_upto_region 2 with fail
 go_cut [19] (fun v_ wc => v_ = .bool false /\ w = wc)
 case first =>
  rcases Vq.out with h0 | ⟨h0, sp, ls, As, cs, hs1, hs2, hs3⟩
  ·have c_ := mZ ((0 : Int) < (i : Int))
   go_wp2_with fail
   go_meet
   case rel => exact ⟨rfl, rfl⟩
  ·have c_ := pF ((0 : Int) < (i : Int))
   have Vr := dN (1 <= (i : Int))
   have Xq := dN (((i : Int) - 1) < (nc : Int))
   have Zm := dN ((i - 1) < nc)
   have Zn := mZ ((2 : Int) < (ls : Int))
   go_wp2_with fail
   go_meet
   case rel => exact ⟨rfl, rfl⟩
 case rest =>
  obtain ⟨rfl, ew⟩ := hcut
  subst ew
  go_upto_region 14 with fail
  rcases HC.out with ⟨h1, ⟨sp, n, A, c, hz1, hn, hz2⟩, hC⟩ | ⟨h1, h2, hC⟩
  ·have c1_ := pF ((i : Int) < (nk : Int))
   have Vr := dN (0 <= (i : Int) + 1)
   have Xq : ((i : Int) + 1 < (nc : Int)) = True := eq_true (by have := HJ.out; omega)
   have Zm : (i + 1 < nc) = True := eq_true (by have := HJ.out; omega)
   have Zn := mZ ((2 : Int) < (n : Int))
   go_wp2_with (first | (go_at_call 130; (with_reducible refine hC.mono ?_); rintro e w1 ⟨rfl, hr⟩))
   go_end0
   exact ⟨rfl, hr⟩
  ·have hge : nk <= i := by omega
   clear h1
   have c1_ := mZ ((i : Int) < (nk : Int))
   go_wp2_with (first | (go_at_call 130; (with_reducible refine hC.mono ?_); rintro e w1 ⟨rfl, hr⟩))
   go_end0
   exact ⟨rfl, hr⟩
def X0 (t : NT) : Prop := Jo t.keys t.vals t.kids.length
theorem rQ {t s : NT} {j : Nat} (h : t.kids[j]? = some s) : fJ t.erase j = s.erase := by
 unfold fJ
 rw [rJ, List.getD_eq_getElem?_getD, List.getElem?_map, h]
 rfl
theorem xA {l : List NT} {j : Nat} {a b : NT} (ha : l[j]? = some a) (hb : l[j + 1]? = some b) : l = l.take j ++ a :: b :: l.drop (j + 2) := by
 rw [<- fF hb, <- fF ha, List.take_append_drop]
theorem Ru.calls (t : NT) (i : Nat) (ht : X0 t) (hk : t.kids.length = t.keys.length + 1) (h0 : 0 < t.keys.length) (hi : i < t.kids.length) (hks : ∀ s ∈ t.kids, X0 s) (base : Nat) (L : List Ck) (w : World) (hs : Sat w base (t.fB 96 70 ++ L)) (hbs : base <= w.heap.size) :
  Calls Try.prog 113 #[bO t.p, .int .i64 (i : Int)] w (WR w base 96 70 t L (Lh t.erase i)) := by
 obtain ⟨ht1, ht2, _⟩ := ht
 have key : t.erase.keys.length = t.keys.length := by rw [bN]
 have get : ∀ j, j < t.kids.length -> ∃ s : NT, t.kids[j]? = some s /\ X0 s /\ fJ t.erase j = s.erase := fun j hj => by
  have e : t.kids[j]? = some t.kids[j] := List.getElem?_eq_getElem hj
  exact ⟨_, e, hks _ (List.getElem_mem hj), rQ e⟩
 unfold Lh
 by_cases hA : 0 < i /\ 2 < (fJ t.erase (i - 1)).keys.length
 ·rw [if_pos hA]
  obtain ⟨l, hl, ol, el⟩ := get (i - 1) (by omega)
  obtain ⟨r, hr, Vh, er⟩ := get i hi
  rw [el, bN] at hA
  exact NW.calls t l r (t.kids.take (i - 1)) (t.kids.drop (i - 1 + 2)) i hA.1 (xA hl (by rw [show i - 1 + 1 = i by omega]; exact hr)) (by rw [List.length_take]; omega) hA.2 ol Vh ⟨by omega, ht1, ht2, hk⟩ base L w hs hbs
 ·rw [if_neg hA]
  have hno : i = 0 ∨ 0 < i /\ ∃ s : NT, t.kids[i - 1]? = some s /\ s.keys.length <= 2 := by
   rcases Nat.eq_zero_or_pos i with h | h
   ·exact .inl h
   ·obtain ⟨l, hl, ol, el⟩ := get (i - 1) (by omega)
    rw [el, bN] at hA
    exact .inr ⟨h, l, hl, by omega⟩
  rw [key]
  by_cases hB : i < t.keys.length
  ·obtain ⟨l, hl, ol, el⟩ := get i hi
   obtain ⟨r, hr, Vh, er⟩ := get (i + 1) (by omega)
   have hp := xA hl hr
   have hl' : (t.kids.take i).length = i := by rw [List.length_take]; omega
   by_cases hC : 2 < r.keys.length
   ·rw [if_pos ⟨hB, by rw [er, bN]; exact hC⟩]
    exact NY.calls t l r _ _ i hno hp hl' hC ol Vh ⟨hB, ht1, ht2, hk⟩ base L w hs hbs
   ·rw [if_neg (by rw [er, bN]; omega), if_pos hB]
    exact Ew.calls t i _ hno ⟨ht1, hk, hi⟩ base L w hs (.inl ⟨hB, ⟨r, hr, by omega⟩, Im.calls t l r _ _ i hp hl' ol Vh ⟨hB, ht1, ht2, hk⟩ base L w hs hbs⟩)
  ·rw [if_neg (fun h => hB h.1), if_neg hB]
   obtain ⟨l, hl, ol, el⟩ := get (i - 1) (by omega)
   obtain ⟨r, hr, Vh, er⟩ := get i hi
   exact Ew.calls t i _ hno ⟨ht1, hk, hi⟩ base L w hs (.inr ⟨by omega, by omega, Im.calls t l r _ _ (i - 1) (xA hl (by rw [show i - 1 + 1 = i by omega]; exact hr)) (by rw [List.length_take]; omega) ol Vh ⟨by omega, ht1, ht2, hk⟩ base L w hs hbs⟩)
end Go.Proofs.Ytoddejmlcnbdmaa.Tree

