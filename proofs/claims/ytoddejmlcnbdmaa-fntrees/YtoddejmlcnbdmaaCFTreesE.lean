/- The law FnTrees holds of the given program: at every input it answers true and leaves its arguments as they were; no condition. -/
import Derived.Deep.QuietTactic
import Derived.BigQuiet
import Derived.Test.YtoddejmlcnbdmaaQWWords
import Derived.ChangeArms
import Derived.ChangeSame
import Derived.Deep.Slices
import Derived.Deep.Strs
import Derived.Deep.Fields
import Derived.Lib.SmallJoins
import Derived.WideShapes
import Derived.Test.YtoddejmlcnbdmaaRows
import Derived.WalkKit
import Derived.ProofKit
import Derived.OpenShut
import Derived.ShutString
import Derived.ChangeOld
import Derived.Below
import Derived.SizedLaws
import Derived.Carry
import Derived.Test.YtoddejmlcnbdmaaCFTreesA
import Derived.Test.YtoddejmlcnbdmaaCFTreesB
import Derived.Test.YtoddejmlcnbdmaaCFTreesC
import Derived.Test.YtoddejmlcnbdmaaCFTreesD
set_option maxHeartbeats 8000000
set_option maxRecDepth 100000
set_option linter.unusedVariables false
set_option linter.unusedSimpArgs false
open Go.Proofs.Ytoddejmlcnbdmaa.Fn
open Go.RowKit Go.Proofs.YtoddejmlcnbdmaaW.PrintWords Go.Proofs.YtoddejmlcnbdmaaW.PrintLast Go.Proofs.YtoddejmlcnbdmaaW.PrintMore Go.Proofs.Ytoddejmlcnbdmaa.Gen
namespace Go.Proofs.Ytoddejmlcnbdmaa.Fn
def jP.f (dU : List Int) (dF : Int) (ig : Int) (a1 : Int) : Option (Bool × Int × Int) := (bZ.f dU dF ig a1).bind fun BI => (some ((BI.1 == 0), BI.2.1, BI.2.2))
theorem jP.calls (g : Nat) (dU : List Int) (dF : Int) (ig : Int) (a1 : Int) (r1 : Bool) (r2 : Int) (r3 : Int) (w0 w : World) (hI : aG w0 w g dU dF ig) (hB : Below w0.heap.size w0 w) (h : jP.f dU dF ig a1 = some (r1, r2, r3)) :
  Calls Try.prog 91 #[.pointer (some ⟨g, 0, none⟩), .int .i64 a1] w fun e w' => e = .returned (.bool r1) /\ aG w0 w' g dU r2 r3 /\ Below w0.heap.size w0 w' /\ bf w w' g none := by
 have HI0 := A_ hI
 have HK := A_ (bf.refl w g none)
 have HL := A_ hB.size
 clear hI
 have HW0 := A_ hB.size
 have HB := A_ hB
 clear hB
 have H : ((bZ.f dU dF ig a1).bind fun BI => (some ((BI.1 == 0), BI.2.1, BI.2.2))) = some (r1, r2, r3) := h
 clear h
 replace H := Option.bind_eq_some_iff.mp H
 obtain ⟨⟨t389, t390, t391⟩, vH, H⟩ := H
 replace H : (some ((t389 == 0), t390, t391)) = some (r1, r2, r3) := H
 have A3 := A_ vH
 clear vH
 simp only [Option.some.injEq, Prod.mk.injEq] at H
 obtain ⟨rfl, rfl, rfl⟩ := H
 go_enter Try.func91, Try.ntmps91
 go_wp2_with (first | ((with_reducible refine bW (f := 92) rfl ?_); refine iw (some 7) rfl rfl Try.func92 (by kernel_rfl) rfl #[.pointer (some ⟨g, 0, none⟩), .int .i64 a1] rfl (BM) ?_; (with_reducible refine (bZ.calls g dU dF ig a1 t389 t390 t391 w0 _ ?aD ?dR A3.out).mono ?_); (case aD => repeat (first | (with_reducible first | exact HI0.out | apply aG.alloc | apply aG.drewN | apply aG.drew | apply aG.oO | apply aG.oP) | exact HI0.out)); (case dR => repeat (first | (with_reducible first | exact HB.out | apply bu | apply ah | apply bC | refine bM ?_ (aG.ge HI0.out)) | exact HB.out)); rintro e w4 ⟨rfl, hi, hb, hk⟩; refine ⟨_, rfl, ?_⟩; replace HK := A_ (bf.trans (by repeat (first | (with_reducible first | exact HK.out | apply bf.uN | apply eB | apply fD | apply eD) | exact HK.out)) hk (.inl rfl)); replace HB := A_ (hb); replace HI0 := A_ (hi); (try clear hb); (try clear hb2); (try clear hk); (try clear hi)))
 go_ret
 exact ⟨Jn, by repeat (first | (with_reducible first | exact HI0.out | apply aG.alloc | apply aG.drewN | apply aG.drew | apply aG.oO | apply aG.oP) | exact HI0.out), by repeat (first | (with_reducible first | exact HB.out | apply bu | apply ah | apply bC | refine bM ?_ (aG.ge HI0.out)) | exact HB.out), by repeat (first | (with_reducible first | exact HK.out | apply bf.uN | apply eB | apply fD | apply eD) | exact HK.out)⟩
end Go.Proofs.Ytoddejmlcnbdmaa.Fn
namespace Go.Proofs.Ytoddejmlcnbdmaa.Pure
open Go.Proofs.Ytoddejmlcnbdmaa.Fn Go.Proofs.Ytoddejmlcnbdmaa.Tree
theorem FV (c : List Int) (hc : Code c) (a s : Int) (h0 : 0 <= a) (h1 : a <= 1152921504606846976) (n : Int) :
  ∃ (x : Bool) (a' s' : Int), jP.f c a s n = some (x, a', s') /\ a <= a' /\ a' <= a + 2 := by
 obtain ⟨x, a', s', e, b1, b2, _⟩ := qE c hc a s h0 h1 n
 simp only [jP.f, e, Option.bind_some]
 exact ⟨_, _, _, rfl, b1, b2⟩
theorem J4 (c : List Int) (hc : Code c) (a s : Int) (h0 : 0 <= a) (h1 : a <= 1152921504606846976) (l : List ByteArray) (hl : 0 < l.length) :
  ∃ (x : ByteArray) (a' s' : Int), kM.f c a s l = some (x, a', s') /\ a <= a' /\ a' <= a + 2 := by
 obtain ⟨x, a', s', e, b1, b2, b3, b4, _⟩ := qE c hc a s h0 h1 (l.length : Int)
 have b4 := b4 (by omega)
 simp only [kM.f, e, Option.bind_some, if_pos b3, if_pos b4]
 exact ⟨_, _, _, rfl, b1, b2⟩
theorem Du (c : List Int) (hc : Code c) (a s : Int) (h0 : 0 <= a) (h1 : a <= 1152921504606846976) :
  ∃ (x : ByteArray) (a' s' : Int), jl.f c a s = some (x, a', s') /\ a <= a' /\ a' <= a + 2 /\ jk x = true := by
 obtain ⟨x, a', s', e, b1, b2, _⟩ := qE c hc a s h0 h1 30
 simp only [jl.f, e, Option.bind_some]
 refine ⟨_, _, _, rfl, b1, b2, ?_⟩
 unfold jk
 rw [<- CO, nm, strOfNums_data]
 simp
def um (r : List bH) : Prop := r ≠ [] /\ r.length <= 1000 /\ ∀ p ∈ r, p.f0.length <= 4 /\ p.f1.length <= 4 /\ p.f2.length <= 5
theorem wE {r : List bH} (h1 : r.length <= 1000) (h2 : ∀ p ∈ r, p.f0.length <= 4 /\ p.f1.length <= 4 /\ p.f2.length <= 5) : nJ r = true := by
 unfold nJ BQ
 simp only [Bool.and_eq_true, decide_eq_true_eq, List.all_eq_true]
 exact ⟨⟨by omega, fun p hp => by have := h2 p hp; omega⟩, by omega⟩
theorem Dv {t : PT} (h : wm t) (hl : (aW t).length <= 41) : um (iF t 0) := by
 obtain ⟨a, b⟩ := J3 h hl
 refine ⟨fun e => ?_, a, b⟩
 have := sJ t 0
 rw [e] at this
 have := t.eH
 simp at *
 omega
theorem FW {P : List bH} {a b : ByteArray} (hP : P.length <= 1000) (h : (KY (pz P) a b).2 = true) : um (KY (pz P) a b).1 := by
 cases ho : pz P with
 | none => rw [ho] at h; cases h
 | some t =>
  rw [ho] at h
  obtain ⟨h1, h2⟩ := pK (by omega) ho
  obtain ⟨q1, q2⟩ := mR h1 a b
  unfold KY at h ⊢
  simp only at h ⊢
  split at h
  ·rename_i c
   rw [if_pos c]
   split at h
   ·cases h
   ·rename_i c2
    rw [if_neg c2]
    refine Dv q1 ?_
    rw [q2]
    have := jv (k := a) (v := b) (aW t)
    omega
  ·cases h
theorem Dw {P : List bH} {a : ByteArray} (hP : P.length <= 1000) (h : (Dr (pz P) a).2 = true) : um (Dr (pz P) a).1 := by
 cases ho : pz P with
 | none => rw [ho] at h; cases h
 | some t =>
  rw [ho] at h
  obtain ⟨h1, h2⟩ := pK (by omega) ho
  unfold Dr at h ⊢
  simp only at h ⊢
  split at h
  ·rename_i c
   rw [if_pos c]
   obtain ⟨r, e1, q1, q2⟩ := zZ h1 (Ay.1 c)
   rw [e1] at h ⊢
   refine Dv q1 ?_
   rw [q2]
   have : (oL a (aW t)).length <= (aW t).length := List.length_filter_le _ _
   omega
  ·cases h
end Go.Proofs.Ytoddejmlcnbdmaa.Pure
namespace Go.Proofs.Ytoddejmlcnbdmaa.Tree
open Go.Proofs.Ytoddejmlcnbdmaa.Pure (um wE FW Dw Du J4 FV qE jk)
def Cv (w0 w W : World) (g : Nat) (s : List Int) (m : Int) (gs : List (List Ck)) : Prop := Go.Proofs.Ytoddejmlcnbdmaa.Pure.Code s /\ ∃ p q, 0 <= p /\ p <= m /\ Cu w0 w W g s p q gs
section
variable {w0 w W W1 : World} {g : Nat} {s : List Int} {m : Int} {gs gs1 : List (List Ck)}
theorem Cv.S (h : Cv w0 w W g s m gs) : aa W w.heap.size gs := by
 obtain ⟨_, p, q, _, _, h⟩ := h
 exact h.S
theorem Cv.via (h : Cv w0 w W g s m gs) (f : ∀ {p q : Int}, Cu w0 w W g s p q gs -> Cu w0 w W1 g s p q gs1) : Cv w0 w W1 g s m gs1 := by
 obtain ⟨hc, p, q, h1, h2, h⟩ := h
 exact ⟨hc, p, q, h1, h2, f h⟩
theorem Cv.to (h : Cv w0 w W g s m gs) (hs : aa W w.heap.size gs1) : Cv w0 w W g s m gs1 := h.via fun h => h.to hs
theorem Cv.iN (h : Cv w0 w W g s m gs) (is : List Nat) (hn : is.Nodup) : Cv w0 w W g s m (iN gs is) := h.to (h.S.iN is hn)
theorem Cv.under (h : Cv w0 w W g s m gs) (hb : Below W.heap.size W W1) : Cv w0 w W1 g s m gs := h.via fun h => h.under hb
theorem Cv.drew (h : Cv w0 w W g s m gs) : Cv w0 w W.drew g s m gs := h.via fun h => h.drew
theorem Cv.size (h : Cv w0 w W g s m gs) : w.heap.size <= W.heap.size := by
 obtain ⟨_, p, q, _, _, h⟩ := h
 exact h.size
theorem Cv.box (h : Cv w0 w W g s m gs) {T b : Nat} {cs : Array Value} (hg : b = W.heap.size) (aC : W1.heap[b]? = some (.cells cs T (0, 0))) (hb : Below W.heap.size W W1) : Cv w0 w W1 g s m (gs ++ [[.box T b cs]]) := h.via fun h => h.box hg aC hb
theorem Cv.put (h : Cv w0 w W g s m gs) (i : Nat) {T b : Nat} {cs : Array Value} (hi : gs[i]? = some [.box T b cs]) (j : Nat) (u : Value) : Cv w0 w (W.setCell ⟨b, j, none⟩ u) g s m (gs.set i [.box T b (cs.setIfInBounds j u)]) := h.via fun h => h.put i hi j u rfl
theorem Cv.lit (h : Cv w0 w W g s m gs) {v : Value} {l : List ByteArray} (hb : Below W.heap.size W W1) (ho : Kd.string.R 9 W1 W.heap.size (fun _ => True) v l) : Cv w0 w W1 g s m (gs ++ [[txt v l]]) :=
 (h.under hb).to (h.S.gJ hb h.size ho)
theorem Cv.z (h : Cv w0 w W g s m gs) (i : Nat) {T b : Nat} {v : Value} (hi : gs[i]? = some [.box T b #[v]]) : W.cell? ⟨b, 0, none⟩ = some v := (h.S.z i hi 0).trans rfl
theorem Cv.f (h : Cv w0 w W g s m gs) (i : Nat) {T b : Nat} {v : Value} (hi : gs[i]? = some [.box T b #[v]]) : W.frozen? ⟨b, 0, none⟩ = false := h.S.f i hi 0
theorem Cv.made (h : Cv w0 w W g s m gs) (hb : Below W.heap.size W W1) {v : Value} {r : List bH} (ho : fG W1 W.heap.size v r) : ∃ A c pgs, v = .slice A (List.length pgs) c /\ List.map Pg.erase pgs = r /\ Cv w0 w W1 g s m (gs ++ [aM v pgs]) := by
 obtain ⟨A, c, pgs, h1, h2, h3⟩ := ho
 exact ⟨A, c, pgs, h1, h2, (h.under hb).to (h.S.new hb h.size h3)⟩
theorem Cv.Ip (h : Cv w0 w W g s m gs) (hm : m <= 1000000) : Calls Try.prog 89 #[.pointer (some ⟨g, 0, none⟩)] W fun e W1 => ∃ x, e = .returned (.string x) /\ jk x = true /\ Cv w0 w W1 g s (m + 2) gs := by
 obtain ⟨hc, p, q, h1, h2, h⟩ := h
 obtain ⟨x, p', q', e, b1, b2, b3⟩ := Du s hc p q h1 (by omega)
 exact (jl.calls g s p q x p' q' w0 W h.I h.B e).mono fun e W1 ⟨e1, i, b, k⟩ => ⟨x, e1, b3, hc, p', q', by omega, by omega, h.cur i b k⟩
theorem Cv.one (h : Cv w0 w W g s m gs) (hm : m <= 1000000) (n : Int) : Calls Try.prog 91 #[.pointer (some ⟨g, 0, none⟩), .int .i64 n] W fun e W1 => ∃ x, e = .returned (.bool x) /\ Cv w0 w W1 g s (m + 2) gs := by
 obtain ⟨hc, p, q, h1, h2, h⟩ := h
 obtain ⟨x, p', q', e, b1, b2⟩ := FV s hc p q h1 (by omega) n
 exact (jP.calls g s p q n x p' q' w0 W h.I h.B e).mono fun e W1 ⟨e1, i, b, k⟩ => ⟨x, e1, hc, p', q', by omega, by omega, h.cur i b k⟩
theorem Cv.pick (h : Cv w0 w W g s m gs) (hm : m <= 1000000) (n : Int) (hn : 0 < n) : Calls Try.prog 92 #[.pointer (some ⟨g, 0, none⟩), .int .i64 n] W fun e W1 => ∃ x : Nat, e = .returned (.int .i64 (x : Int)) /\ (x : Int) < n /\ Cv w0 w W1 g s (m + 2) gs := by
 obtain ⟨hc, p, q, h1, h2, h⟩ := h
 obtain ⟨x, p', q', e, b1, b2, b3, b4, _⟩ := qE s hc p q h1 (by omega) n
 have hx : ((x.toNat : Nat) : Int) = x := by omega
 exact (bZ.calls g s p q n x p' q' w0 W h.I h.B e).mono fun e W1 ⟨e1, i, b, k⟩ => ⟨x.toNat, by rw [hx]; exact e1, by rw [hx]; exact b4 hn, hc, p', q', by omega, by omega, h.cur i b k⟩
theorem Cv.of (h : Cv w0 w W g s m gs) (hm : m <= 1000000) (i : Nat) {A : Option Addr} {n c : Nat} {l : List ByteArray} (hi : gs[i]? = some [txt (.slice A n c) l]) (hl : 0 < l.length) : Calls Try.prog 88 #[.pointer (some ⟨g, 0, none⟩), .slice A n c] W fun e W1 => ∃ x, e = .returned (.string x) /\ Cv w0 w W1 g s (m + 2) gs := by
 obtain ⟨hc, p, q, h1, h2, h⟩ := h
 obtain ⟨x, p', q', e, b1, b2⟩ := J4 s hc p q h1 (by omega) l hl
 obtain ⟨rfl, hn, hC⟩ := h.S.row i hi
 have hge : ∀ ad, A = some ad -> 0 < l.length -> ad.block ≠ g := by
  intro ad e _ eb
  subst e
  have ho : W.ownsRow w.heap.size 9 1 (.slice (some ad) l.length c) (encs Value.string l).length (encs Value.string l) := (h.S.at i hi).ok _ List.mem_cons_self
  rw [cB] at ho
  obtain ⟨g', e'⟩ := qC ho hl
  have hb := (h.S.at i hi).ge (k := g') ⟨_, List.mem_singleton_self _, by rw [e']; simp [Ck.blk, Value.ownBlock]⟩
  have := h.lt
  injection e' with e'
  subst e'
  have eb : g' = g := eb
  omega
 exact (kM.calls g s p q A c l x p' q' w0 W h.I h.B hC hn hge e).mono fun e W1 ⟨e1, i, b, k⟩ => ⟨x, e1, hc, p', q', by omega, by omega, h.cur i b k⟩
theorem AU {v : Value} {pgs : List Pg} {A : Option Addr} {c base : Nat} (h : Sat W base (aM (.slice A pgs.length c) pgs)) : Kd.C jX W A (pgs.map Pg.erase).length (pgs.map Pg.erase) /\ (pgs.map Pg.erase).length <= c := by
 have h1 := Kd.M9 (Pn h)
 obtain ⟨e1, e2, e3⟩ := h1
 exact ⟨e3, by rw [List.length_map]; exact e2⟩
theorem Cv.putKey (h : Cv w0 w W g s m gs) (i : Nat) {A : Option Addr} {c : Nat} {pgs : List Pg} (hi : gs[i]? = some (aM (.slice A pgs.length c) pgs)) (hn : um (pgs.map Pg.erase)) (k v : ByteArray) :
  Calls Try.prog 36 #[.agg #[.slice A pgs.length c], .string k, .string v] W fun e W1 => ∃ A2 c2 di ok, e = .returned (.tuple #[.agg #[.slice A2 (List.length di) c2], .bool ok]) /\ (ok = true -> um (di.map Pg.erase)) /\ Cv w0 w W1 g s m (gs ++ [aM (.slice A2 di.length c2) di]) := by
 obtain ⟨q1, q2⟩ := AU (v := .slice none 0 0) (h.S.at i hi)
 have hf : lD.f (pgs.map Pg.erase) k v = some ((KY (pz (pgs.map Pg.erase)) k v).1, (KY (pz (pgs.map Pg.erase)) k v).2) := by unfold lD.f; rw [if_pos (wE hn.2.1 hn.2.2)]
 have hC := lD.nK A c _ k v _ _ W q1 q2 hf
 rw [List.length_map] at hC
 refine hC.mono fun e W1 ⟨v0, e1, ho, hb⟩ => ?_
 obtain ⟨A2, c2, di, rfl, e3, h3⟩ := h.made hb ho
 exact ⟨A2, c2, di, _, e1, fun he => by rw [e3]; exact FW hn.2.1 he, h3⟩
theorem Cv.dropKey (h : Cv w0 w W g s m gs) (i : Nat) {A : Option Addr} {c : Nat} {pgs : List Pg} (hi : gs[i]? = some (aM (.slice A pgs.length c) pgs)) (hn : um (pgs.map Pg.erase)) (k : ByteArray) :
  Calls Try.prog 39 #[.agg #[.slice A pgs.length c], .string k] W fun e W1 => ∃ A2 c2 di ok, e = .returned (.tuple #[.agg #[.slice A2 (List.length di) c2], .bool ok]) /\ (ok = true -> um (di.map Pg.erase)) /\ Cv w0 w W1 g s m (gs ++ [aM (.slice A2 di.length c2) di]) := by
 obtain ⟨q1, q2⟩ := AU (v := .slice none 0 0) (h.S.at i hi)
 have hf : ky.f (pgs.map Pg.erase) k = some ((Dr (pz (pgs.map Pg.erase)) k).1, (Dr (pz (pgs.map Pg.erase)) k).2) := by unfold ky.f; rw [if_pos (wE hn.2.1 hn.2.2)]
 have hC := ky.nK A c _ k _ _ W q1 q2 hf
 rw [List.length_map] at hC
 refine hC.mono fun e W1 ⟨v0, e1, ho, hb⟩ => ?_
 obtain ⟨A2, c2, di, rfl, e3, h3⟩ := h.made hb ho
 exact ⟨A2, c2, di, _, e1, fun he => by rw [e3]; exact Dw hn.2.1 he, h3⟩
theorem Cv.Py (h : Cv w0 w W g s m gs) (k v : ByteArray) (hk : jk k = true) (hv : v.size <= 12) :
  Calls Try.prog 55 #[.string k, .string v] W fun e W1 => ∃ A2 c2 di, e = .returned (.tuple #[.agg #[.slice A2 (List.length di) c2], .bool true]) /\ um (di.map Pg.erase) /\ Cv w0 w W1 g s m (gs ++ [aM (.slice A2 di.length c2) di]) := by
 have hp : pq k v = true := by rw [Go.Proofs.Ytoddejmlcnbdmaa.Pure.zJ, hk]; exact decide_eq_true hv
 have hC := wD.nK k v W
 unfold vw at hC
 rw [if_pos hp] at hC
 refine hC.mono fun e W1 ⟨v0, e1, ho, hb⟩ => ?_
 obtain ⟨A2, c2, di, rfl, e3, h3⟩ := h.made hb ho
 exact ⟨A2, c2, di, e1, by rw [e3]; exact ⟨by simp, by simp, fun p hp => by rw [List.mem_singleton.1 hp]; simp⟩, h3⟩
end
open Go.Proofs.Ytoddejmlcnbdmaa.Pure (um wE)
set_option maxHeartbeats 8000000
set_option maxRecDepth 100000
def OT (w : World) (base : Nat) (A : Option Addr) (r : List bH) : Prop := ∀ W : World, (∀ k, base <= k -> k < w.heap.size -> W.heap[k]? = w.heap[k]?) -> Kd.C jX W A r.length r
theorem OT.C {w : World} {base : Nat} {A : Option Addr} {r : List bH} (h : OT w base A r) : Kd.C jX w A r.length r := h w fun _ _ _ => rfl
theorem OT.step {w W : World} {base base' : Nat} {A : Option Addr} {r : List bH} (h : OT w base A r) (hs : w.heap.size <= W.heap.size) (hb : base' <= base) (hk : ∀ k, base <= k -> k < w.heap.size -> W.heap[k]? = w.heap[k]?) : OT W base' A r :=
 fun W' h' => h W' fun k h1 h2 => (h' k (Nat.le_trans hb h1) (Nat.lt_of_lt_of_le h2 hs)).trans (hk k h1 h2)
def y5 (w0 w : World) (g : Nat) (s : List Int) (e : Ending) (w' : World) : Prop := ∃ A c r, e = .returned (.agg #[.slice A (List.length r) c]) /\ r.length <= c /\ OT w' w.heap.size A r /\ nJ r = true /\ ∃ p q, 0 <= p /\ p <= 200000 /\ aG w0 w' g s p q /\ Below w0.heap.size w0 w' /\ bf w w' g none
section
variable {w0 w W : World} {g b2 b3 : Nat} {s : List Int} {m m1 : Int} {gs : List (List Ck)} {A : Option Addr} {c : Nat}
theorem Cv.le (h : Cv w0 w W g s m gs) (e : m <= m1) : Cv w0 w W g s m1 gs := by
 obtain ⟨hc, p, q, h1, h2, h⟩ := h
 exact ⟨hc, p, q, h1, by omega, h⟩
theorem FX {r : List bH} (h : Cv w0 w W g s m gs) (hm : m <= 200000) (hn : r.length <= c) (hC : OT W w.heap.size A r) (h1 : r.length <= 1000) (h2 : ∀ p ∈ r, p.f0.length <= 4 /\ p.f1.length <= 4 /\ p.f2.length <= 5) : y5 w0 w g s (.returned (.agg #[.slice A r.length c])) W := by
 obtain ⟨hc, p, q, q1, q2, h⟩ := h
 exact ⟨A, c, r, rfl, hn, hC, wE h1 h2, p, q, q1, by omega, h.I, h.B, h.K⟩
theorem Cv.pages {v : Value} {p : Pg} {B : List Pg} {X : List (List Ck)} (h : Cv w0 w W g s m (X ++ [aM v (p :: B)])) : Cv w0 w W g s m (X ++ [[l9 v (p :: B)], [txt p.kv p.ks], [txt p.vv p.vs], [ints p.cv p.cs], gX B]) := h.to (by
 have h := h.S
 unfold aa at *
 simp only [List.flatten_append, List.flatten_cons, List.flatten_nil, List.append_nil] at h ⊢
 exact h)
theorem Cv.whole {v : Value} {p : Pg} {B : List Pg} {X : List (List Ck)} (h : Cv w0 w W g s m (X ++ [[l9 v (p :: B)], [txt p.kv p.ks], [txt p.vv p.vs], [ints p.cv p.cs], gX B])) : Cv w0 w W g s m (X ++ [aM v (p :: B)]) := h.to (by
 have h := h.S
 unfold aa at *
 simp only [List.flatten_append, List.flatten_cons, List.flatten_nil, List.append_nil] at h ⊢
 exact h)
theorem Cu.set {p q : Int} {gs1 : List (List Ck)} (h : Cu w0 w W g s p q gs) {b j : Nat} (u : Value) (h1 : w.heap.size <= b) (hs : aa (W.setCell ⟨b, j, none⟩ u) w.heap.size gs1) : Cu w0 w (W.setCell ⟨b, j, none⟩ u) g s p q gs1 := by
 have hk : Kept W (W.setCell ⟨b, j, none⟩ u) (fun k => k = b) := (Kept.refl W (fun k => k = b)).setCell (p := ⟨b, j, none⟩) (.inl rfl) u
 have h2 : w0.heap.size <= b := Nat.le_trans (by have := h.I; obtain ⟨_, _, _, h5, _⟩ := this; exact Nat.le_trans h5 (Nat.le_of_lt h.lt)) h1
 refine ⟨h.I.kept hk (fun e => by have := h.lt; omega), bM h.B h2, ?_, hs, h.lt⟩
 exact Kept.keep (S2 := fun k => k = b) h.K hk (fun k e => by rw [e]; exact h1)
theorem Cv.uG (h : Cv w0 w W g s m gs) (i : Nat) {g1 n c : Nat} {l : List ByteArray} (hi : gs[i]? = some [txt (.slice (some ⟨g1, 0, none⟩) n c) l]) (x : ByteArray) (hl : 0 < l.length) : Cv w0 w (W.setCell ⟨g1, 0, none⟩ (.string x)) g s m (gs.set i [txt (.slice (some ⟨g1, 0, none⟩) n c) (l.set 0 x)]) := by
 obtain ⟨hc, p, q, h1, h2, h⟩ := h
 refine ⟨hc, p, q, h1, h2, h.set _ ((h.S.at i hi).ge (k := g1) ⟨_, List.mem_singleton_self _, by simp [Ck.blk, Value.ownBlock]⟩) (h.S.uG i hi 0 x rfl)⟩
theorem J5 {pgs : List Pg} {base : Nat} (h : Sat W base (aM (.slice A pgs.length c) pgs)) : OT W base A (pgs.map Pg.erase) := fun W' hk => (AU (v := .slice none 0 0) (h.move (w1 := W') fun k hb hl => hk k (h.ge hb) hl)).1
theorem AV {pgs : List Pg} (h : Cv w0 w W g s m gs) (i : Nat) (hi : gs[i]? = some (aM (.slice A pgs.length c) pgs)) (hm : m <= 200000) (h1 : pgs.length <= 1000) (h2 : ∀ p ∈ pgs.map Pg.erase, p.f0.length <= 4 /\ p.f1.length <= 4 /\ p.f2.length <= 5) : y5 w0 w g s (.returned (.agg #[.slice A pgs.length c])) W := by
 obtain ⟨q1, q2⟩ := AU (v := .slice none 0 0) (h.S.at i hi)
 have := FX h hm q2 (J5 (h.S.at i hi)) (by rw [List.length_map]; exact h1) h2
 rw [List.length_map] at this
 exact this
theorem Na {pgs : List Pg} (h : Cv w0 w W g s m gs) (i : Nat) (hi : gs[i]? = some (aM (.slice A pgs.length c) pgs)) (hm : m <= 200000) (h1 : pgs.length <= 1000) (h2 : ∀ p ∈ pgs.map Pg.erase, p.f0.length <= 4 /\ p.f1.length <= 4 /\ p.f2.length <= 5) (n : Nat) (hn : n <= pgs.length) : y5 w0 w g s (.returned (.agg #[.slice A n c])) W := by
 obtain ⟨q1, q2⟩ := AU (v := .slice none 0 0) (h.S.at i hi)
 rw [List.length_map] at q2
 have e : ((pgs.map Pg.erase).take n).length = n := by rw [List.length_take, List.length_map]; omega
 have := FX (c := c) h hm (r := (pgs.map Pg.erase).take n) (by rw [e]; omega) (fun W' hk => Kd.Rw (J5 (h.S.at i hi) W' hk) (by rw [List.length_map]; exact hn)) (by rw [e]; omega) (fun p hp => h2 p (List.mem_of_mem_take hp))
 rw [e] at this
 exact this
end
theorem yF.runs (s : List Int) (hc : Go.Proofs.Ytoddejmlcnbdmaa.Pure.Code s) (g : Nat) (p q : Int) (h0 : 0 <= p) (h1 : p <= 100000) (w0 w : World) (hI : aG w0 w g s p q) (hB : Below w0.heap.size w0 w) :
  Calls Try.prog 87 #[.pointer (some ⟨g, 0, none⟩)] w (y5 w0 w g s) := by
 have hlt : g < w.heap.size := by
  obtain ⟨_, _, hb, _⟩ := hI
  exact gF hb
 have HC : af (Cv w0 w w g s 100000 []) := ⟨hc, p, q, h0, h1, hI, hB, bf.refl w g none, Sat.nil _ _, hlt⟩
 clear hc h0 h1 hI hB hlt
 go_enter Try.func87, Try.ntmps87
 go_upto_region 2 with (first | (refine jf 2 #[.slice none 0 0] 29 ?_; intro b2 hg w1 aC hb; have aj : af (Cv w0 w w1 g s 100000 [[.box 29 b2 #[.slice none 0 0]]]) := ⟨HC.out.box hg aC hb⟩; clear HC hg aC hb; have HC := aj; clear aj) | (go_at_call 89; (with_reducible refine (HC.out.Ip (by omega)).mono ?_); rintro e w2 ⟨k0, rfl, hk0, hc⟩; have aj : af (Cv w0 w w2 g s 100002 [[.box 29 b2 #[.slice none 0 0]]]) := ⟨hc⟩; clear HC hc; have HC := aj; clear aj; have IB := A_ hk0; clear hk0) | (go_at_call 55; (with_reducible refine (HC.out.Py k0 ⟨#[118]⟩ IB.out (by decide)).mono ?_); rintro e w3 ⟨A, c, pgs, rfl, hn, hc⟩; have aj : af (Cv w0 w w3 g s 100002 [[.box 29 b2 #[.slice none 0 0]], aM (.slice A pgs.length c) pgs]) := ⟨hc⟩; clear HC hc; have HC := aj; clear aj; have HN := A_ hn; clear hn IB) | (refine jf 3 #[.slice none 0 0] 29 ?_; intro b3 hg w4 aC hb; have aj : af (Cv w0 w w4 g s 100002 [[.box 29 b2 #[.slice none 0 0]], aM (.slice A pgs.length c) pgs, [.box 29 b3 #[.slice none 0 0]]]) := ⟨HC.out.box hg aC hb⟩; clear HC hg aC hb; have HC := aj; clear aj; have hz3 := HC.out.z 2 rfl; have hf3 := HC.out.f 2 rfl))
 have aj : af (Cv w0 w (World.setCell w4 ⟨b3, 0, none⟩ (.slice A pgs.length c)) g s 100002 [[.box 29 b2 #[.slice none 0 0]], [.box 29 b3 #[.slice A pgs.length c]], aM (.slice A pgs.length c) pgs]) := ⟨(HC.out.put 2 rfl 0 _).iN [0, 2, 1] (by decide)⟩
 generalize World.setCell w4 ⟨b3, 0, none⟩ (.slice A pgs.length c) = w5 at aj ⊢
 clear HC hz3 hf3
 have HC := aj
 clear aj
 go_upto_if 19 with (first | (go_at_call 92; (with_reducible refine (HC.out.pick (by omega) 20 (by omega)).mono ?_); rintro e w6 ⟨n, rfl, hn, hc⟩; have aj : af (Cv w0 w w6 g s 100004 [[.box 29 b2 #[.slice none 0 0]], [.box 29 b3 #[.slice A pgs.length c]], aM (.slice A pgs.length c) pgs]) := ⟨hc⟩; clear HC hc; have HC := aj; clear aj; have HX := A_ hn; clear hn) | (go_at_call 91; (with_reducible refine (HC.out.one (by omega) 6).mono ?_); rintro e w7 ⟨o, rfl, hc⟩; have aj : af (Cv w0 w w7 g s 100006 [[.box 29 b2 #[.slice none 0 0]], [.box 29 b3 #[.slice A pgs.length c]], aM (.slice A pgs.length c) pgs]) := ⟨hc⟩; clear HC hc; have HC := aj; clear aj))
 go_cut [5] (fun v5 wc => ∃ n : Nat, v5 = .int .i64 (n : Int) /\ af (n <= 40) /\ af (Cv w0 w wc g s 100006 [[.box 29 b2 #[.slice none 0 0]], [.box 29 b3 #[.slice A pgs.length c]], aM (.slice A pgs.length c) pgs]))
 case first =>
  cases o with
  | true =>
   go_wp2
   go_meet
   case rel => exact ⟨40, rfl, ⟨by omega⟩, HC⟩
  | false =>
   go_wp2
   go_meet
   case rel => exact ⟨n, rfl, ⟨by have := HX.out; omega⟩, HC⟩
 case rest =>
  clear HC HX
  obtain ⟨n, rfl, HX, HC⟩ := hcut
  go_wp2
  go_loopg [5] n (fun kq v5 w' => ∃ (i : Nat) (A : Option Addr) (c : Nat) (pgs : List Pg), v5 = .int .i64 (i : Int) /\ af (i = kq /\ i <= 40) /\ af (um (pgs.map Pg.erase)) /\ af (Cv w0 w w' g s (100006 + 8 * (40 - (i : Int))) [[.box 29 b2 #[.slice none 0 0]], [.box 29 b3 #[.slice A pgs.length c]], aM (.slice A pgs.length c) pgs]))
  case atStart => exact ⟨n, A, c, pgs, by first | rfl | (simp; done), ⟨rfl, HX.out⟩, HN, ⟨HC.out.le (by have := HX.out; omega)⟩⟩
  case round =>
   clear HC HN HX
   obtain ⟨i, A, c, pgs, rfl, HI, HN, HC⟩ := hrel
   by_cases hi : 0 < i
   ·have c_ := kZ (0 < (i : Int))
    have Hf : (0 < i) = True := eq_true hi
    obtain ⟨m, hm⟩ : ∃ m : Int, m = (100006 + 8 * (40 - (i : Int))) := ⟨_, rfl⟩
    rw [<- hm] at HC
    have HM : af (m = (100006 + 8 * (40 - (i : Int))) /\ m <= 100400) := ⟨hm, by omega⟩
    have HP := A_ hi
    clear hm hi
    go_upto_region 7 with fail
    replace HC := A_ (HC.out.drew)
    refine dz (n := 13) (S := fun w' => w'.cell? ⟨b3, 0, none⟩ = some (.slice A pgs.length c)) (ds := [11]) (bt 13 0) (by kernel_rfl) rfl rfl (HC.out.z 1 rfl) (fun hHeld => ?_)
    generalize World.drew _ = wd at HC hHeld ⊢
    refine aV 1 26 2 ?_
    refine aV 3 28 10 ?_
    refine Co (i := 0) (N := some 25) (v := ?_) (a' := ?_) (bt 13 11) rfl rfl (by kernel_rfl) (fun _ _ _ h => h) (Or.inl ⟨by rfl, ?_⟩) hHeld ?_ ?_
    rotate_left
    ·intro w' s0
     go_simp
     with_reducible rfl
    rotate_left
    ·simp only [Act.put, X9, Ya]
     rfl
    refine kz (σ := ByteArray × Value × ByteArray × Value × Bool × Nat) 2 (bt 13 2047) (fun s_ => [(27, .string s_.1), (29, s_.2.1), (30, .string s_.2.2.1), (31, .tuple #[.agg #[s_.2.2.2.1], .bool s_.2.2.2.2.1]), (24, .tuple #[.agg #[s_.2.2.2.1], .bool s_.2.2.2.2.1]), (32, .agg #[s_.2.2.2.1]), (33, .bool s_.2.2.2.2.1), (6, .pointer (some ⟨s_.2.2.2.2.2, 0, none⟩))]) (fun s_ w' => (w'.cell? ⟨b3, 0, none⟩ = some (.slice A pgs.length c)) /\ (∃ A2 c2 di, s_.2.2.2.1 = .slice A2 (List.length di) c2 /\ (s_.2.2.2.2.1 = true -> um (di.map Pg.erase)) /\ Cv w0 w w' g s (m + 4) [[.box 29 b2 #[.slice none 0 0]], [.box 29 b3 #[.slice A pgs.length c]], aM (.slice A pgs.length c) pgs, [.box 29 s_.2.2.2.2.2 #[.slice none 0 0]], aM (.slice A2 di.length c2) di])) ?_ ?_
    rotate_left
    ·intro hJ2_4_5_6_10
     refine kz (σ := ByteArray × Value × ByteArray × Value × Bool) 3 (bt 13 1023) (fun s_ => [(27, .string s_.1), (29, s_.2.1), (30, .string s_.2.2.1), (31, .tuple #[.agg #[s_.2.2.2.1], .bool s_.2.2.2.2]), (24, .tuple #[.agg #[s_.2.2.2.1], .bool s_.2.2.2.2]), (32, .agg #[s_.2.2.2.1]), (33, .bool s_.2.2.2.2)]) (fun s_ w' => (w'.cell? ⟨b3, 0, none⟩ = some (.slice A pgs.length c)) /\ (∃ A2 c2 di, s_.2.2.2.1 = .slice A2 (List.length di) c2 /\ (s_.2.2.2.2 = true -> um (di.map Pg.erase)) /\ Cv w0 w w' g s (m + 4) [[.box 29 b2 #[.slice none 0 0]], [.box 29 b3 #[.slice A pgs.length c]], aM (.slice A pgs.length c) pgs, aM (.slice A2 di.length c2) di])) ?_ ?_
     rotate_left
     ·intro hJ2_4_5_6
      refine kz (σ := ByteArray × Value × ByteArray × Nat) 6 (bt 13 1087) (fun s_ => [(27, .string s_.1), (29, s_.2.1), (30, .string s_.2.2.1), (6, .pointer (some ⟨s_.2.2.2, 0, none⟩))]) (fun s_ w' => (w'.cell? ⟨b3, 0, none⟩ = some (.slice A pgs.length c)) /\ (Cv w0 w w' g s (m + 4) [[.box 29 b2 #[.slice none 0 0]], [.box 29 b3 #[.slice A pgs.length c]], aM (.slice A pgs.length c) pgs, [txt s_.2.1 [⟨#[]⟩, ⟨#[49]⟩, ⟨#[50, 50]⟩]], [.box 29 s_.2.2.2 #[.slice none 0 0]]])) ?_ ?_
      rotate_left
      ·intro hJ2_4_5_10
       refine kz (σ := ByteArray × Value × ByteArray) 7 (bt 13 63) (fun s_ => [(27, .string s_.1), (29, s_.2.1), (30, .string s_.2.2)]) (fun s_ w' => (w'.cell? ⟨b3, 0, none⟩ = some (.slice A pgs.length c)) /\ (Cv w0 w w' g s (m + 4) [[.box 29 b2 #[.slice none 0 0]], [.box 29 b3 #[.slice A pgs.length c]], aM (.slice A pgs.length c) pgs, [txt s_.2.1 [⟨#[]⟩, ⟨#[49]⟩, ⟨#[50, 50]⟩]]])) ?_ ?_
       rotate_left
       ·intro hJ2_4_5
        refine kz (σ := ByteArray × Value × Nat) 7 (bt 13 1055) (fun s_ => [(27, .string s_.1), (29, s_.2.1), (6, .pointer (some ⟨s_.2.2, 0, none⟩))]) (fun s_ w' => (w'.cell? ⟨b3, 0, none⟩ = some (.slice A pgs.length c)) /\ ((∃ A1 c1, s_.2.1 = .slice A1 3 c1) /\ Cv w0 w w' g s (m + 2) [[.box 29 b2 #[.slice none 0 0]], [.box 29 b3 #[.slice A pgs.length c]], aM (.slice A pgs.length c) pgs, [txt s_.2.1 [⟨#[]⟩, ⟨#[49]⟩, ⟨#[50, 50]⟩]], [.box 29 s_.2.2 #[.slice none 0 0]]])) ?_ ?_
        rotate_left
        ·intro BJ
         refine kz (σ := ByteArray × Value) 8 (bt 13 31) (fun s_ => [(27, .string s_.1), (29, s_.2)]) (fun s_ w' => (w'.cell? ⟨b3, 0, none⟩ = some (.slice A pgs.length c)) /\ ((∃ A1 c1, s_.2 = .slice A1 3 c1) /\ Cv w0 w w' g s (m + 2) [[.box 29 b2 #[.slice none 0 0]], [.box 29 b3 #[.slice A pgs.length c]], aM (.slice A pgs.length c) pgs, [txt s_.2 [⟨#[]⟩, ⟨#[49]⟩, ⟨#[50, 50]⟩]]])) ?_ ?_
         rotate_left
         ·intro hJ2_4
          refine kz (σ := ByteArray × Nat) 8 (bt 13 1039) (fun s_ => [(27, .string s_.1), (6, .pointer (some ⟨s_.2, 0, none⟩))]) (fun s_ w' => (w'.cell? ⟨b3, 0, none⟩ = some (.slice A pgs.length c)) /\ (Cv w0 w w' g s (m + 2) [[.box 29 b2 #[.slice none 0 0]], [.box 29 b3 #[.slice A pgs.length c]], aM (.slice A pgs.length c) pgs, [.box 29 s_.2 #[.slice none 0 0]]])) ?_ ?_
          rotate_left
          ·intro hJ2_10
           refine kz (σ := Value × Nat) 8 (bt 13 1051) (fun s_ => [(29, s_.1), (6, .pointer (some ⟨s_.2, 0, none⟩))]) (fun s_ w' => (w'.cell? ⟨b3, 0, none⟩ = some (.slice A pgs.length c)) /\ ((∃ A1 c1, s_.1 = .slice A1 3 c1) /\ Cv w0 w w' g s m [[.box 29 b2 #[.slice none 0 0]], [.box 29 b3 #[.slice A pgs.length c]], aM (.slice A pgs.length c) pgs, [txt s_.1 [⟨#[]⟩, ⟨#[49]⟩, ⟨#[50, 50]⟩]], [.box 29 s_.2 #[.slice none 0 0]]])) ?_ ?_
           rotate_left
           ·intro hJ4_10
            refine kz (σ := ByteArray) 9 (bt 13 15) (fun s_ => [(27, .string s_)]) (fun s_ w' => (w'.cell? ⟨b3, 0, none⟩ = some (.slice A pgs.length c)) /\ (Cv w0 w w' g s (m + 2) [[.box 29 b2 #[.slice none 0 0]], [.box 29 b3 #[.slice A pgs.length c]], aM (.slice A pgs.length c) pgs])) ?_ ?_
            rotate_left
            ·intro hJ2
             refine kz (σ := Value) 9 (bt 13 27) (fun s_ => [(29, s_)]) (fun s_ w' => (w'.cell? ⟨b3, 0, none⟩ = some (.slice A pgs.length c)) /\ ((∃ A1 c1, s_ = .slice A1 3 c1) /\ Cv w0 w w' g s m [[.box 29 b2 #[.slice none 0 0]], [.box 29 b3 #[.slice A pgs.length c]], aM (.slice A pgs.length c) pgs, [txt s_ [⟨#[]⟩, ⟨#[49]⟩, ⟨#[50, 50]⟩]]])) ?_ ?_
             rotate_left
             ·intro hJ4
              refine kz (σ := Nat) 9 (bt 13 1035) (fun s_ => [(6, .pointer (some ⟨s_, 0, none⟩))]) (fun s_ w' => (w'.cell? ⟨b3, 0, none⟩ = some (.slice A pgs.length c)) /\ (Cv w0 w w' g s m [[.box 29 b2 #[.slice none 0 0]], [.box 29 b3 #[.slice A pgs.length c]], aM (.slice A pgs.length c) pgs, [.box 29 s_ #[.slice none 0 0]]])) ?_ ?_
              rotate_left
              ·intro hJ10
               refine Rx (i := 2) (j := 4) (k := 10) (Ni := some 27) (Nj := some 29) (Nk := some 6) (bt 13 15) (bt 13 27) (bt 13 1035) rfl rfl rfl rfl rfl rfl (by kernel_rfl) (by decide) (by decide) (by decide) (fun K hK => ?_) (fun K hK => ?_) (fun K hK => ?_)
               ·skip
                refine uj Try.func89 #[.pointer (some ⟨g, 0, none⟩)] ?_
                with_reducible refine (HC.out.Ip (by have := HM.out; omega)).mono ?_
                rintro e w9 ⟨kx, rfl, -, hc⟩
                refine ⟨_, rfl, ?_⟩
                have aj : af (Cv w0 w w9 g s (m + 2) [[.box 29 b2 #[.slice none 0 0]], [.box 29 b3 #[.slice A pgs.length c]], aM (.slice A pgs.length c) pgs]) := ⟨hc⟩
                clear HC hc
                have HC := aj
                clear aj
                refine hK.out _ _ (HC.out.z 1 rfl) (fun hHeld => ?_)
                clear hK K
                refine eF 27 ?_
                exact dG (by first | (simp only [bz, Act.put, List.setIfInBounds_toArray, List.set_cons_zero, List.set_cons_succ]; done) | (simp only [bz, Act.put, List.setIfInBounds_toArray, List.set_cons_zero, List.set_cons_succ]; rfl)) (hJ2 kx _ ⟨HC.out.z 1 rfl, HC.out⟩)
               ·skip
                refine Kd.bn Kd.string (w0 := _) (World.heap _).size 9 (by rfl) (N := 29) rfl (xs := [⟨#[]⟩, ⟨#[49]⟩, ⟨#[50, 50]⟩]) (inner := [.string ⟨#[]⟩, .string ⟨#[49]⟩, .string ⟨#[50, 50]⟩]) (ok := fun _ => True) (okp := fun _ => False) ?hr (Kd.aX (enc := Value.string) [⟨#[]⟩, ⟨#[49]⟩, ⟨#[50, 50]⟩]) (fun _ h => h.elim) trivial (Below.refl _ _) (Nat.le_refl _) (by simp) ?_
                (case hr => first | (go_simp; done) | (go_simp; rfl))
                intro v1 w9 ho hb hg hn
                obtain ⟨A1, c1, rfl⟩ : ∃ A c, v1 = .slice A 3 c := Kd.av ho
                have aj : af (Cv w0 w w9 g s m [[.box 29 b2 #[.slice none 0 0]], [.box 29 b3 #[.slice A pgs.length c]], aM (.slice A pgs.length c) pgs, [txt (.slice A1 3 c1) [⟨#[]⟩, ⟨#[49]⟩, ⟨#[50, 50]⟩]]]) := ⟨HC.out.lit hb ho⟩
                clear HC ho hb hg hn
                have HC := aj
                clear aj
                refine hK.out _ _ (HC.out.z 1 rfl) (fun hHeld => ?_)
                clear hK K
                refine eF 29 ?_
                exact dG (by first | (simp only [bz, Act.put, List.setIfInBounds_toArray, List.set_cons_zero, List.set_cons_succ]; done) | (simp only [bz, Act.put, List.setIfInBounds_toArray, List.set_cons_zero, List.set_cons_succ]; rfl)) (hJ4 (.slice A1 3 c1) _ ⟨HC.out.z 1 rfl, ⟨⟨A1, c1, rfl⟩, HC.out⟩⟩)
               ·skip
                refine gV (by rfl) (N := 6) rfl (cs := #[.slice none 0 0]) (t := 29) ?hr ?_
                (case hr => first | (go_simp; done) | (go_simp; rfl))
                intro bx hg w9 aC hb
                have aj : af (Cv w0 w w9 g s m [[.box 29 b2 #[.slice none 0 0]], [.box 29 b3 #[.slice A pgs.length c]], aM (.slice A pgs.length c) pgs, [.box 29 bx #[.slice none 0 0]]]) := ⟨HC.out.box hg aC hb⟩
                clear HC hg aC hb
                have HC := aj
                clear aj
                refine hK.out _ _ (HC.out.z 1 rfl) (fun hHeld => ?_)
                clear hK K
                refine eF 6 ?_
                exact dG (by first | (simp only [bz, Act.put, List.setIfInBounds_toArray, List.set_cons_zero, List.set_cons_succ]; done) | (simp only [bz, Act.put, List.setIfInBounds_toArray, List.set_cons_zero, List.set_cons_succ]; rfl)) (hJ10 bx _ ⟨HC.out.z 1 rfl, HC.out⟩)
              ·skip
               rintro bx wj ⟨hHeld, hF⟩
               have hc := hF
               have HC := A_ hc
               clear hc
               clear hF
               refine dG (a' := ?_) ?_ ?_
               rotate_left
               ·simp only [bz, Act.put, List.setIfInBounds_toArray, List.set_cons_zero, List.set_cons_succ]
                rfl
               refine DJ 2 4 (some 27) (some 29) 1039 1051 (fun K hK => ?_) (fun K hK => ?_)
               ·skip
                refine uj Try.func89 #[.pointer (some ⟨g, 0, none⟩)] ?_
                with_reducible refine (HC.out.Ip (by have := HM.out; omega)).mono ?_
                rintro e w9 ⟨kx, rfl, -, hc⟩
                refine ⟨_, rfl, ?_⟩
                have aj : af (Cv w0 w w9 g s (m + 2) [[.box 29 b2 #[.slice none 0 0]], [.box 29 b3 #[.slice A pgs.length c]], aM (.slice A pgs.length c) pgs, [.box 29 bx #[.slice none 0 0]]]) := ⟨hc⟩
                clear HC hc
                have HC := aj
                clear aj
                refine hK.out _ _ (HC.out.z 1 rfl) (fun hHeld => ?_)
                clear hK K
                refine eF 27 ?_
                exact dG (by first | (simp only [bz, Act.put, List.setIfInBounds_toArray, List.set_cons_zero, List.set_cons_succ]; done) | (simp only [bz, Act.put, List.setIfInBounds_toArray, List.set_cons_zero, List.set_cons_succ]; rfl)) (hJ2_10 (⟨kx, bx⟩) _ ⟨HC.out.z 1 rfl, HC.out⟩)
               ·skip
                refine Kd.bn Kd.string (w0 := _) (World.heap _).size 9 (by rfl) (N := 29) rfl (xs := [⟨#[]⟩, ⟨#[49]⟩, ⟨#[50, 50]⟩]) (inner := [.string ⟨#[]⟩, .string ⟨#[49]⟩, .string ⟨#[50, 50]⟩]) (ok := fun _ => True) (okp := fun _ => False) ?hr (Kd.aX (enc := Value.string) [⟨#[]⟩, ⟨#[49]⟩, ⟨#[50, 50]⟩]) (fun _ h => h.elim) trivial (Below.refl _ _) (Nat.le_refl _) (by simp) ?_
                (case hr => first | (go_simp; done) | (go_simp; rfl))
                intro v1 w9 ho hb hg hn
                obtain ⟨A1, c1, rfl⟩ : ∃ A c, v1 = .slice A 3 c := Kd.av ho
                have aj : af (Cv w0 w w9 g s m [[.box 29 b2 #[.slice none 0 0]], [.box 29 b3 #[.slice A pgs.length c]], aM (.slice A pgs.length c) pgs, [txt (.slice A1 3 c1) [⟨#[]⟩, ⟨#[49]⟩, ⟨#[50, 50]⟩]], [.box 29 bx #[.slice none 0 0]]]) := ⟨(HC.out.lit hb ho).iN [0, 1, 2, 4, 3] (by decide)⟩
                clear HC ho hb hg hn
                have HC := aj
                clear aj
                refine hK.out _ _ (HC.out.z 1 rfl) (fun hHeld => ?_)
                clear hK K
                refine eF 29 ?_
                exact dG (by first | (simp only [bz, Act.put, List.setIfInBounds_toArray, List.set_cons_zero, List.set_cons_succ]; done) | (simp only [bz, Act.put, List.setIfInBounds_toArray, List.set_cons_zero, List.set_cons_succ]; rfl)) (hJ4_10 (⟨(.slice A1 3 c1), bx⟩) _ ⟨HC.out.z 1 rfl, ⟨⟨A1, c1, rfl⟩, HC.out⟩⟩)
             ·skip
              rintro lv wj ⟨hHeld, hF⟩
              obtain ⟨⟨A1, c1, rfl⟩, hc⟩ := hF
              have HC := A_ hc
              clear hc
              refine dG (a' := ?_) ?_ ?_
              rotate_left
              ·simp only [bz, Act.put, List.setIfInBounds_toArray, List.set_cons_zero, List.set_cons_succ]
               rfl
              refine DJ 2 10 (some 27) (some 6) 31 1051 (fun K hK => ?_) (fun K hK => ?_)
              ·skip
               refine uj Try.func89 #[.pointer (some ⟨g, 0, none⟩)] ?_
               with_reducible refine (HC.out.Ip (by have := HM.out; omega)).mono ?_
               rintro e w9 ⟨kx, rfl, -, hc⟩
               refine ⟨_, rfl, ?_⟩
               have aj : af (Cv w0 w w9 g s (m + 2) [[.box 29 b2 #[.slice none 0 0]], [.box 29 b3 #[.slice A pgs.length c]], aM (.slice A pgs.length c) pgs, [txt (.slice A1 3 c1) [⟨#[]⟩, ⟨#[49]⟩, ⟨#[50, 50]⟩]]]) := ⟨hc⟩
               clear HC hc
               have HC := aj
               clear aj
               refine hK.out _ _ (HC.out.z 1 rfl) (fun hHeld => ?_)
               clear hK K
               refine eF 27 ?_
               exact dG (by first | (simp only [bz, Act.put, List.setIfInBounds_toArray, List.set_cons_zero, List.set_cons_succ]; done) | (simp only [bz, Act.put, List.setIfInBounds_toArray, List.set_cons_zero, List.set_cons_succ]; rfl)) (hJ2_4 (⟨kx, (.slice A1 3 c1)⟩) _ ⟨HC.out.z 1 rfl, ⟨⟨A1, c1, rfl⟩, HC.out⟩⟩)
              ·skip
               refine gV (by rfl) (N := 6) rfl (cs := #[.slice none 0 0]) (t := 29) ?hr ?_
               (case hr => first | (go_simp; done) | (go_simp; rfl))
               intro bx hg w9 aC hb
               have aj : af (Cv w0 w w9 g s m [[.box 29 b2 #[.slice none 0 0]], [.box 29 b3 #[.slice A pgs.length c]], aM (.slice A pgs.length c) pgs, [txt (.slice A1 3 c1) [⟨#[]⟩, ⟨#[49]⟩, ⟨#[50, 50]⟩]], [.box 29 bx #[.slice none 0 0]]]) := ⟨HC.out.box hg aC hb⟩
               clear HC hg aC hb
               have HC := aj
               clear aj
               refine hK.out _ _ (HC.out.z 1 rfl) (fun hHeld => ?_)
               clear hK K
               refine eF 6 ?_
               exact dG (by first | (simp only [bz, Act.put, List.setIfInBounds_toArray, List.set_cons_zero, List.set_cons_succ]; done) | (simp only [bz, Act.put, List.setIfInBounds_toArray, List.set_cons_zero, List.set_cons_succ]; rfl)) (hJ4_10 (⟨(.slice A1 3 c1), bx⟩) _ ⟨HC.out.z 1 rfl, ⟨⟨A1, c1, rfl⟩, HC.out⟩⟩)
            ·skip
             rintro kx wj ⟨hHeld, hF⟩
             have hc := hF
             have HC := A_ hc
             clear hc
             clear hF
             refine dG (a' := ?_) ?_ ?_
             rotate_left
             ·simp only [bz, Act.put, List.setIfInBounds_toArray, List.set_cons_zero, List.set_cons_succ]
              rfl
             refine DJ 4 10 (some 29) (some 6) 31 1039 (fun K hK => ?_) (fun K hK => ?_)
             ·skip
              refine Kd.bn Kd.string (w0 := _) (World.heap _).size 9 (by rfl) (N := 29) rfl (xs := [⟨#[]⟩, ⟨#[49]⟩, ⟨#[50, 50]⟩]) (inner := [.string ⟨#[]⟩, .string ⟨#[49]⟩, .string ⟨#[50, 50]⟩]) (ok := fun _ => True) (okp := fun _ => False) ?hr (Kd.aX (enc := Value.string) [⟨#[]⟩, ⟨#[49]⟩, ⟨#[50, 50]⟩]) (fun _ h => h.elim) trivial (Below.refl _ _) (Nat.le_refl _) (by simp) ?_
              (case hr => first | (go_simp; done) | (go_simp; rfl))
              intro v1 w9 ho hb hg hn
              obtain ⟨A1, c1, rfl⟩ : ∃ A c, v1 = .slice A 3 c := Kd.av ho
              have aj : af (Cv w0 w w9 g s (m + 2) [[.box 29 b2 #[.slice none 0 0]], [.box 29 b3 #[.slice A pgs.length c]], aM (.slice A pgs.length c) pgs, [txt (.slice A1 3 c1) [⟨#[]⟩, ⟨#[49]⟩, ⟨#[50, 50]⟩]]]) := ⟨HC.out.lit hb ho⟩
              clear HC ho hb hg hn
              have HC := aj
              clear aj
              refine hK.out _ _ (HC.out.z 1 rfl) (fun hHeld => ?_)
              clear hK K
              refine eF 29 ?_
              exact dG (by first | (simp only [bz, Act.put, List.setIfInBounds_toArray, List.set_cons_zero, List.set_cons_succ]; done) | (simp only [bz, Act.put, List.setIfInBounds_toArray, List.set_cons_zero, List.set_cons_succ]; rfl)) (hJ2_4 (⟨kx, (.slice A1 3 c1)⟩) _ ⟨HC.out.z 1 rfl, ⟨⟨A1, c1, rfl⟩, HC.out⟩⟩)
             ·skip
              refine gV (by rfl) (N := 6) rfl (cs := #[.slice none 0 0]) (t := 29) ?hr ?_
              (case hr => first | (go_simp; done) | (go_simp; rfl))
              intro bx hg w9 aC hb
              have aj : af (Cv w0 w w9 g s (m + 2) [[.box 29 b2 #[.slice none 0 0]], [.box 29 b3 #[.slice A pgs.length c]], aM (.slice A pgs.length c) pgs, [.box 29 bx #[.slice none 0 0]]]) := ⟨HC.out.box hg aC hb⟩
              clear HC hg aC hb
              have HC := aj
              clear aj
              refine hK.out _ _ (HC.out.z 1 rfl) (fun hHeld => ?_)
              clear hK K
              refine eF 6 ?_
              exact dG (by first | (simp only [bz, Act.put, List.setIfInBounds_toArray, List.set_cons_zero, List.set_cons_succ]; done) | (simp only [bz, Act.put, List.setIfInBounds_toArray, List.set_cons_zero, List.set_cons_succ]; rfl)) (hJ2_10 (⟨kx, bx⟩) _ ⟨HC.out.z 1 rfl, HC.out⟩)
           ·skip
            rintro ⟨lv, bx⟩ wj ⟨hHeld, hF⟩
            obtain ⟨⟨A1, c1, rfl⟩, hc⟩ := hF
            have HC := A_ hc
            clear hc
            refine dG (a' := ?_) ?_ ?_
            rotate_left
            ·simp only [bz, Act.put, List.setIfInBounds_toArray, List.set_cons_zero, List.set_cons_succ]
             rfl
            refine jg 2 (some 27) 1055 (fun K hK => ?_)
            refine uj Try.func89 #[.pointer (some ⟨g, 0, none⟩)] ?_
            with_reducible refine (HC.out.Ip (by have := HM.out; omega)).mono ?_
            rintro e w9 ⟨kx, rfl, -, hc⟩
            refine ⟨_, rfl, ?_⟩
            have aj : af (Cv w0 w w9 g s (m + 2) [[.box 29 b2 #[.slice none 0 0]], [.box 29 b3 #[.slice A pgs.length c]], aM (.slice A pgs.length c) pgs, [txt (.slice A1 3 c1) [⟨#[]⟩, ⟨#[49]⟩, ⟨#[50, 50]⟩]], [.box 29 bx #[.slice none 0 0]]]) := ⟨hc⟩
            clear HC hc
            have HC := aj
            clear aj
            refine hK.out _ _ (HC.out.z 1 rfl) (fun hHeld => ?_)
            clear hK K
            refine eF 27 ?_
            exact dG (by first | (simp only [bz, Act.put, List.setIfInBounds_toArray, List.set_cons_zero, List.set_cons_succ]; done) | (simp only [bz, Act.put, List.setIfInBounds_toArray, List.set_cons_zero, List.set_cons_succ]; rfl)) (BJ (⟨kx, (.slice A1 3 c1), bx⟩) _ ⟨HC.out.z 1 rfl, ⟨⟨A1, c1, rfl⟩, HC.out⟩⟩)
          ·skip
           rintro ⟨kx, bx⟩ wj ⟨hHeld, hF⟩
           have hc := hF
           have HC := A_ hc
           clear hc
           clear hF
           refine dG (a' := ?_) ?_ ?_
           rotate_left
           ·simp only [bz, Act.put, List.setIfInBounds_toArray, List.set_cons_zero, List.set_cons_succ]
            rfl
           refine jg 4 (some 29) 1055 (fun K hK => ?_)
           refine Kd.bn Kd.string (w0 := _) (World.heap _).size 9 (by rfl) (N := 29) rfl (xs := [⟨#[]⟩, ⟨#[49]⟩, ⟨#[50, 50]⟩]) (inner := [.string ⟨#[]⟩, .string ⟨#[49]⟩, .string ⟨#[50, 50]⟩]) (ok := fun _ => True) (okp := fun _ => False) ?hr (Kd.aX (enc := Value.string) [⟨#[]⟩, ⟨#[49]⟩, ⟨#[50, 50]⟩]) (fun _ h => h.elim) trivial (Below.refl _ _) (Nat.le_refl _) (by simp) ?_
           (case hr => first | (go_simp; done) | (go_simp; rfl))
           intro v1 w9 ho hb hg hn
           obtain ⟨A1, c1, rfl⟩ : ∃ A c, v1 = .slice A 3 c := Kd.av ho
           have aj : af (Cv w0 w w9 g s (m + 2) [[.box 29 b2 #[.slice none 0 0]], [.box 29 b3 #[.slice A pgs.length c]], aM (.slice A pgs.length c) pgs, [txt (.slice A1 3 c1) [⟨#[]⟩, ⟨#[49]⟩, ⟨#[50, 50]⟩]], [.box 29 bx #[.slice none 0 0]]]) := ⟨(HC.out.lit hb ho).iN [0, 1, 2, 4, 3] (by decide)⟩
           clear HC ho hb hg hn
           have HC := aj
           clear aj
           refine hK.out _ _ (HC.out.z 1 rfl) (fun hHeld => ?_)
           clear hK K
           refine eF 29 ?_
           exact dG (by first | (simp only [bz, Act.put, List.setIfInBounds_toArray, List.set_cons_zero, List.set_cons_succ]; done) | (simp only [bz, Act.put, List.setIfInBounds_toArray, List.set_cons_zero, List.set_cons_succ]; rfl)) (BJ (⟨kx, (.slice A1 3 c1), bx⟩) _ ⟨HC.out.z 1 rfl, ⟨⟨A1, c1, rfl⟩, HC.out⟩⟩)
         ·skip
          rintro ⟨kx, lv⟩ wj ⟨hHeld, hF⟩
          obtain ⟨⟨A1, c1, rfl⟩, hc⟩ := hF
          have HC := A_ hc
          clear hc
          refine dG (a' := ?_) ?_ ?_
          rotate_left
          ·simp only [bz, Act.put, List.setIfInBounds_toArray, List.set_cons_zero, List.set_cons_succ]
           rfl
          refine DJ 5 10 (some 30) (some 6) 63 1055 (fun K hK => ?_) (fun K hK => ?_)
          ·skip
           refine uj Try.func88 #[.pointer (some ⟨g, 0, none⟩), .slice A1 3 c1] ?_
           with_reducible refine (HC.out.of (by have := HM.out; omega) 3 rfl (by decide)).mono ?_
           rintro e w9 ⟨vx, rfl, hc⟩
           refine ⟨_, rfl, ?_⟩
           have aj : af (Cv w0 w w9 g s (m + 4) [[.box 29 b2 #[.slice none 0 0]], [.box 29 b3 #[.slice A pgs.length c]], aM (.slice A pgs.length c) pgs, [txt (.slice A1 3 c1) [⟨#[]⟩, ⟨#[49]⟩, ⟨#[50, 50]⟩]]]) := ⟨hc.le (by omega)⟩
           clear HC hc
           have HC := aj
           clear aj
           refine hK.out _ _ (HC.out.z 1 rfl) (fun hHeld => ?_)
           clear hK K
           refine eF 30 ?_
           exact dG (by first | (simp only [bz, Act.put, List.setIfInBounds_toArray, List.set_cons_zero, List.set_cons_succ]; done) | (simp only [bz, Act.put, List.setIfInBounds_toArray, List.set_cons_zero, List.set_cons_succ]; rfl)) (hJ2_4_5 (⟨kx, (.slice A1 3 c1), vx⟩) _ ⟨HC.out.z 1 rfl, HC.out⟩)
          ·skip
           refine gV (by rfl) (N := 6) rfl (cs := #[.slice none 0 0]) (t := 29) ?hr ?_
           (case hr => first | (go_simp; done) | (go_simp; rfl))
           intro bx hg w9 aC hb
           have aj : af (Cv w0 w w9 g s (m + 2) [[.box 29 b2 #[.slice none 0 0]], [.box 29 b3 #[.slice A pgs.length c]], aM (.slice A pgs.length c) pgs, [txt (.slice A1 3 c1) [⟨#[]⟩, ⟨#[49]⟩, ⟨#[50, 50]⟩]], [.box 29 bx #[.slice none 0 0]]]) := ⟨HC.out.box hg aC hb⟩
           clear HC hg aC hb
           have HC := aj
           clear aj
           refine hK.out _ _ (HC.out.z 1 rfl) (fun hHeld => ?_)
           clear hK K
           refine eF 6 ?_
           exact dG (by first | (simp only [bz, Act.put, List.setIfInBounds_toArray, List.set_cons_zero, List.set_cons_succ]; done) | (simp only [bz, Act.put, List.setIfInBounds_toArray, List.set_cons_zero, List.set_cons_succ]; rfl)) (BJ (⟨kx, (.slice A1 3 c1), bx⟩) _ ⟨HC.out.z 1 rfl, ⟨⟨A1, c1, rfl⟩, HC.out⟩⟩)
        ·skip
         rintro ⟨kx, lv, bx⟩ wj ⟨hHeld, hF⟩
         obtain ⟨⟨A1, c1, rfl⟩, hc⟩ := hF
         have HC := A_ hc
         clear hc
         refine dG (a' := ?_) ?_ ?_
         rotate_left
         ·simp only [bz, Act.put, List.setIfInBounds_toArray, List.set_cons_zero, List.set_cons_succ]
          rfl
         refine jg 5 (some 30) 1087 (fun K hK => ?_)
         refine uj Try.func88 #[.pointer (some ⟨g, 0, none⟩), .slice A1 3 c1] ?_
         with_reducible refine (HC.out.of (by have := HM.out; omega) 3 rfl (by decide)).mono ?_
         rintro e w9 ⟨vx, rfl, hc⟩
         refine ⟨_, rfl, ?_⟩
         have aj : af (Cv w0 w w9 g s (m + 4) [[.box 29 b2 #[.slice none 0 0]], [.box 29 b3 #[.slice A pgs.length c]], aM (.slice A pgs.length c) pgs, [txt (.slice A1 3 c1) [⟨#[]⟩, ⟨#[49]⟩, ⟨#[50, 50]⟩]], [.box 29 bx #[.slice none 0 0]]]) := ⟨hc.le (by omega)⟩
         clear HC hc
         have HC := aj
         clear aj
         refine hK.out _ _ (HC.out.z 1 rfl) (fun hHeld => ?_)
         clear hK K
         refine eF 30 ?_
         exact dG (by first | (simp only [bz, Act.put, List.setIfInBounds_toArray, List.set_cons_zero, List.set_cons_succ]; done) | (simp only [bz, Act.put, List.setIfInBounds_toArray, List.set_cons_zero, List.set_cons_succ]; rfl)) (hJ2_4_5_10 (⟨kx, (.slice A1 3 c1), vx, bx⟩) _ ⟨HC.out.z 1 rfl, HC.out⟩)
       ·skip
        rintro ⟨kx, lv, vx⟩ wj ⟨hHeld, hF⟩
        have hc := hF
        have HC := A_ hc
        clear hc
        clear hF
        refine dG (a' := ?_) ?_ ?_
        rotate_left
        ·simp only [bz, Act.put, List.setIfInBounds_toArray, List.set_cons_zero, List.set_cons_succ]
         rfl
        refine DJ 6 10 (some 31) (some 6) 127 1087 (fun K hK => ?_) (fun K hK => ?_)
        ·skip
         refine uj Try.func36 #[.agg #[.slice A pgs.length c], .string kx, .string vx] ?_
         with_reducible refine (HC.out.putKey 2 rfl HN.out kx vx).mono ?_
         rintro e w9 ⟨A2, c2, di, ok, rfl, hn2, hc⟩
         refine ⟨_, rfl, ?_⟩
         have Hg := A_ hn2
         clear hn2
         have aj : af (Cv w0 w w9 g s (m + 4) [[.box 29 b2 #[.slice none 0 0]], [.box 29 b3 #[.slice A pgs.length c]], aM (.slice A pgs.length c) pgs, aM (.slice A2 di.length c2) di]) := ⟨hc.iN [0, 1, 2, 4] (by decide)⟩
         clear HC hc
         have HC := aj
         clear aj
         refine hK.out _ _ (HC.out.z 1 rfl) (fun hHeld => ?_)
         clear hK K
         refine eF 31 ?_
         refine aV 7 24 255 ?_
         refine aV 8 32 511 ?_
         refine aV 9 33 1023 ?_
         exact dG (by first | (simp only [bz, Act.put, List.setIfInBounds_toArray, List.set_cons_zero, List.set_cons_succ]; done) | (simp only [bz, Act.put, List.setIfInBounds_toArray, List.set_cons_zero, List.set_cons_succ]; rfl)) (hJ2_4_5_6 (⟨kx, lv, vx, (.slice A2 di.length c2), ok⟩) _ ⟨HC.out.z 1 rfl, ⟨A2, c2, di, rfl, Hg.out, HC.out⟩⟩)
        ·skip
         refine gV (by rfl) (N := 6) rfl (cs := #[.slice none 0 0]) (t := 29) ?hr ?_
         (case hr => first | (go_simp; done) | (go_simp; rfl))
         intro bx hg w9 aC hb
         have aj : af (Cv w0 w w9 g s (m + 4) [[.box 29 b2 #[.slice none 0 0]], [.box 29 b3 #[.slice A pgs.length c]], aM (.slice A pgs.length c) pgs, [txt lv [⟨#[]⟩, ⟨#[49]⟩, ⟨#[50, 50]⟩]], [.box 29 bx #[.slice none 0 0]]]) := ⟨HC.out.box hg aC hb⟩
         clear HC hg aC hb
         have HC := aj
         clear aj
         refine hK.out _ _ (HC.out.z 1 rfl) (fun hHeld => ?_)
         clear hK K
         refine eF 6 ?_
         exact dG (by first | (simp only [bz, Act.put, List.setIfInBounds_toArray, List.set_cons_zero, List.set_cons_succ]; done) | (simp only [bz, Act.put, List.setIfInBounds_toArray, List.set_cons_zero, List.set_cons_succ]; rfl)) (hJ2_4_5_10 (⟨kx, lv, vx, bx⟩) _ ⟨HC.out.z 1 rfl, HC.out⟩)
      ·skip
       rintro ⟨kx, lv, vx, bx⟩ wj ⟨hHeld, hF⟩
       have hc := hF
       have HC := A_ hc
       clear hc
       clear hF
       refine dG (a' := ?_) ?_ ?_
       rotate_left
       ·simp only [bz, Act.put, List.setIfInBounds_toArray, List.set_cons_zero, List.set_cons_succ]
        rfl
       refine jg 6 (some 31) 1151 (fun K hK => ?_)
       refine uj Try.func36 #[.agg #[.slice A pgs.length c], .string kx, .string vx] ?_
       with_reducible refine (HC.out.putKey 2 rfl HN.out kx vx).mono ?_
       rintro e w9 ⟨A2, c2, di, ok, rfl, hn2, hc⟩
       refine ⟨_, rfl, ?_⟩
       have Hg := A_ hn2
       clear hn2
       have aj : af (Cv w0 w w9 g s (m + 4) [[.box 29 b2 #[.slice none 0 0]], [.box 29 b3 #[.slice A pgs.length c]], aM (.slice A pgs.length c) pgs, [.box 29 bx #[.slice none 0 0]], aM (.slice A2 di.length c2) di]) := ⟨hc.iN [0, 1, 2, 4, 5] (by decide)⟩
       clear HC hc
       have HC := aj
       clear aj
       refine hK.out _ _ (HC.out.z 1 rfl) (fun hHeld => ?_)
       clear hK K
       refine eF 31 ?_
       refine aV 7 24 1279 ?_
       refine aV 8 32 1535 ?_
       refine aV 9 33 2047 ?_
       exact dG (by first | (simp only [bz, Act.put, List.setIfInBounds_toArray, List.set_cons_zero, List.set_cons_succ]; done) | (simp only [bz, Act.put, List.setIfInBounds_toArray, List.set_cons_zero, List.set_cons_succ]; rfl)) (hJ2_4_5_6_10 (⟨kx, lv, vx, (.slice A2 di.length c2), ok, bx⟩) _ ⟨HC.out.z 1 rfl, ⟨A2, c2, di, rfl, Hg.out, HC.out⟩⟩)
     ·skip
      rintro ⟨kx, lv, vx, rv, ok⟩ wj ⟨hHeld, hF⟩
      obtain ⟨A2, c2, di, rfl, hn2, hc⟩ := hF
      have Hg := A_ hn2
      clear hn2
      have HC := A_ hc
      clear hc
      refine dG (a' := ?_) ?_ ?_
      rotate_left
      ·simp only [bz, Act.put, List.setIfInBounds_toArray, List.set_cons_zero, List.set_cons_succ]
       rfl
      refine jg 10 (some 6) 2047 (fun K hK => ?_)
      refine gV (by rfl) (N := 6) rfl (cs := #[.slice none 0 0]) (t := 29) ?hr ?_
      (case hr => first | (go_simp; done) | (go_simp; rfl))
      intro bx hg w9 aC hb
      have aj : af (Cv w0 w w9 g s (m + 4) [[.box 29 b2 #[.slice none 0 0]], [.box 29 b3 #[.slice A pgs.length c]], aM (.slice A pgs.length c) pgs, [.box 29 bx #[.slice none 0 0]], aM (.slice A2 di.length c2) di]) := ⟨(HC.out.box hg aC hb).iN [0, 1, 2, 4, 3] (by decide)⟩
      clear HC hg aC hb
      have HC := aj
      clear aj
      refine hK.out _ _ (HC.out.z 1 rfl) (fun hHeld => ?_)
      clear hK K
      refine eF 6 ?_
      exact dG (by first | (simp only [bz, Act.put, List.setIfInBounds_toArray, List.set_cons_zero, List.set_cons_succ]; done) | (simp only [bz, Act.put, List.setIfInBounds_toArray, List.set_cons_zero, List.set_cons_succ]; rfl)) (hJ2_4_5_6_10 (⟨kx, lv, vx, (.slice A2 di.length c2), ok, bx⟩) _ ⟨HC.out.z 1 rfl, ⟨A2, c2, di, rfl, Hg.out, HC.out⟩⟩)
    rintro ⟨kx, lv, vx, rv, ok, bx⟩ wj ⟨hHeld, hF⟩
    obtain ⟨A2, c2, di, rfl, hn2, hc⟩ := hF
    have Hg := A_ hn2
    clear hn2
    have HC := A_ hc
    clear hc
    refine dG (a' := ?_) ?_ ?_
    rotate_left
    ·simp only [bz, Act.put, List.setIfInBounds_toArray, List.set_cons_zero, List.set_cons_succ]
     rfl
    refine wW 11 none 4095 (fun K hK => ?_)
    have hzx := HC.out.z 3 rfl
    have hfx := HC.out.f 3 rfl
    refine iU (w1 := ?_) (by rfl) rfl ?_ ?_
    rotate_left
    ·go_simp
     rfl
    clear hzx hfx
    refine hK.out _ _ ?_
    clear hK K
    refine aV 12 7 8191 ?_
    refine fu (by kernel_rfl) ?_
    have aj : af (Cv w0 w (World.setCell wj ⟨bx, 0, none⟩ (.slice A2 di.length c2)) g s (m + 4) [[.box 29 b2 #[.slice none 0 0]], [.box 29 b3 #[.slice A pgs.length c]], aM (.slice A pgs.length c) pgs, [.box 29 bx #[.slice A2 di.length c2]], aM (.slice A2 di.length c2) di]) := ⟨HC.out.put 3 rfl 0 _⟩
    generalize World.setCell wj ⟨bx, 0, none⟩ (.slice A2 di.length c2) = wa at aj ⊢
    clear HC hHeld
    have HC := aj
    clear aj
    go_upto_if 34 with fail
    go_cut [] (fun wc => ∃ (A : Option Addr) (c : Nat) (pgs : List Pg), af (um (pgs.map Pg.erase)) /\ af (Cv w0 w wc g s (m + 4) [[.box 29 b2 #[.slice none 0 0]], [.box 29 b3 #[.slice A pgs.length c]], aM (.slice A pgs.length c) pgs]))
    case first =>
     cases ok with
     | true =>
      have hzx := HC.out.z 3 rfl
      have hz3 := HC.out.z 1 rfl
      have hf3 := HC.out.f 1 rfl
      go_wp2
      go_meet
      case rel => exact ⟨A2, c2, di, ⟨Hg.out (by first | rfl | trivial)⟩, ⟨(HC.out.put 1 rfl 0 _).iN [0, 1, 4] (by decide)⟩⟩
     | false =>
      go_wp2
      go_meet
      case rel => exact ⟨A, c, pgs, HN, ⟨HC.out.iN [0, 1, 2] (by decide)⟩⟩
    case rest =>
     clear HC HN Hg
     obtain ⟨A, c, pgs, HN, HC⟩ := hcut
     go_upto_if 37 with (first | (go_at_call 91; (with_reducible refine (HC.out.one (by have := HM.out; omega) 4).mono ?_); rintro e PY ⟨o, rfl, hc⟩; have aj : af (Cv w0 w PY g s (m + 6) [[.box 29 b2 #[.slice none 0 0]], [.box 29 b3 #[.slice A pgs.length c]], aM (.slice A pgs.length c) pgs]) := ⟨hc.le (by omega)⟩; clear HC hc; have HC := aj; clear aj))
     obtain ⟨m1, hm1⟩ : ∃ m1 : Int, m1 = m + 6 := ⟨_, rfl⟩
     have aj : af (Cv w0 w PY g s m1 [[.box 29 b2 #[.slice none 0 0]], [.box 29 b3 #[.slice A pgs.length c]], aM (.slice A pgs.length c) pgs]) := ⟨by rw [hm1]; exact HC.out⟩
     have VP : af (m1 + 2 = (100006 + 8 * (40 - (i : Int))) + 8 /\ m1 <= 100500) := ⟨by have := HM.out; omega⟩
     clear HC HM hm1
     have HC := aj
     clear aj
     cases o with
     | false =>
      go_wp2
      go_roundg (i - 1)
      case measure => have := HI.out; have := HP.out; omega
      case rel => exact ⟨i - 1, A, c, pgs, by have := HI.out; have := HP.out; rw [Go.Proofs.Ytoddejmlcnbdmaa.Pure.eY (by omega) (by omega)]; congr 1; omega, ⟨by have := HI.out; omega⟩, HN, ⟨HC.out.le (by have := VP.out; have := HI.out; have := HP.out; omega)⟩⟩
     | true =>
      have HM : af (m1 <= 100500) := ⟨VP.out.2⟩
      obtain ⟨m, hm⟩ : ∃ m, m = m1 := ⟨_, rfl⟩
      rw [<- hm] at HC HM VP
      clear hm
      go_upto_region 11 with fail
      replace HC := A_ (HC.out.drew)
      refine dz (n := 10) (S := fun w' => w'.cell? ⟨b3, 0, none⟩ = some (.slice A pgs.length c)) (ds := [8]) (bt 10 0) (by kernel_rfl) rfl rfl (HC.out.z 1 rfl) (fun hHeld => ?_)
      generalize World.drew _ = wd at HC hHeld ⊢
      refine aV 1 40 2 ?_
      refine Co (i := 0) (N := some 39) (v := ?_) (a' := ?_) (bt 10 3) rfl rfl (by kernel_rfl) (fun _ _ _ h => h) (Or.inl ⟨by rfl, ?_⟩) hHeld ?_ ?_
      rotate_left
      ·intro w' s0
       go_simp
       with_reducible rfl
      rotate_left
      ·simp only [Act.put, X9, Ya]
       rfl
      refine kz (σ := ByteArray × Value × Bool × Nat) 2 (bt 10 255) (fun s_ => [(41, .string s_.1), (42, .tuple #[.agg #[s_.2.1], .bool s_.2.2.1]), (38, .tuple #[.agg #[s_.2.1], .bool s_.2.2.1]), (43, .agg #[s_.2.1]), (44, .bool s_.2.2.1), (8, .pointer (some ⟨s_.2.2.2, 0, none⟩))]) (fun s_ w' => (w'.cell? ⟨b3, 0, none⟩ = some (.slice A pgs.length c)) /\ (∃ A2 c2 di, s_.2.1 = .slice A2 (List.length di) c2 /\ (s_.2.2.1 = true -> um (di.map Pg.erase)) /\ Cv w0 w w' g s (m + 2) [[.box 29 b2 #[.slice none 0 0]], [.box 29 b3 #[.slice A pgs.length c]], aM (.slice A pgs.length c) pgs, [.box 29 s_.2.2.2 #[.slice none 0 0]], aM (.slice A2 di.length c2) di])) ?_ ?_
      rotate_left
      ·intro hJ2_3_7
       refine kz (σ := ByteArray × Value × Bool) 3 (bt 10 127) (fun s_ => [(41, .string s_.1), (42, .tuple #[.agg #[s_.2.1], .bool s_.2.2]), (38, .tuple #[.agg #[s_.2.1], .bool s_.2.2]), (43, .agg #[s_.2.1]), (44, .bool s_.2.2)]) (fun s_ w' => (w'.cell? ⟨b3, 0, none⟩ = some (.slice A pgs.length c)) /\ (∃ A2 c2 di, s_.2.1 = .slice A2 (List.length di) c2 /\ (s_.2.2 = true -> um (di.map Pg.erase)) /\ Cv w0 w w' g s (m + 2) [[.box 29 b2 #[.slice none 0 0]], [.box 29 b3 #[.slice A pgs.length c]], aM (.slice A pgs.length c) pgs, aM (.slice A2 di.length c2) di])) ?_ ?_
       rotate_left
       ·intro hJ2_3
        refine kz (σ := ByteArray × Nat) 6 (bt 10 135) (fun s_ => [(41, .string s_.1), (8, .pointer (some ⟨s_.2, 0, none⟩))]) (fun s_ w' => (w'.cell? ⟨b3, 0, none⟩ = some (.slice A pgs.length c)) /\ (Cv w0 w w' g s (m + 2) [[.box 29 b2 #[.slice none 0 0]], [.box 29 b3 #[.slice A pgs.length c]], aM (.slice A pgs.length c) pgs, [.box 29 s_.2 #[.slice none 0 0]]])) ?_ ?_
        rotate_left
        ·intro hJ2_7
         refine kz (σ := ByteArray) 7 (bt 10 7) (fun s_ => [(41, .string s_)]) (fun s_ w' => (w'.cell? ⟨b3, 0, none⟩ = some (.slice A pgs.length c)) /\ (Cv w0 w w' g s (m + 2) [[.box 29 b2 #[.slice none 0 0]], [.box 29 b3 #[.slice A pgs.length c]], aM (.slice A pgs.length c) pgs])) ?_ ?_
         rotate_left
         ·intro hJ2
          refine kz (σ := Nat) 7 (bt 10 131) (fun s_ => [(8, .pointer (some ⟨s_, 0, none⟩))]) (fun s_ w' => (w'.cell? ⟨b3, 0, none⟩ = some (.slice A pgs.length c)) /\ (Cv w0 w w' g s m [[.box 29 b2 #[.slice none 0 0]], [.box 29 b3 #[.slice A pgs.length c]], aM (.slice A pgs.length c) pgs, [.box 29 s_ #[.slice none 0 0]]])) ?_ ?_
          rotate_left
          ·intro hJ7
           refine DJ 2 7 (some 41) (some 8) 7 131 (fun K hK => ?_) (fun K hK => ?_)
           ·skip
            refine uj Try.func89 #[.pointer (some ⟨g, 0, none⟩)] ?_
            with_reducible refine (HC.out.Ip (by have := HM.out; omega)).mono ?_
            rintro e w9 ⟨kx, rfl, -, hc⟩
            refine ⟨_, rfl, ?_⟩
            have aj : af (Cv w0 w w9 g s (m + 2) [[.box 29 b2 #[.slice none 0 0]], [.box 29 b3 #[.slice A pgs.length c]], aM (.slice A pgs.length c) pgs]) := ⟨hc⟩
            clear HC hc
            have HC := aj
            clear aj
            refine hK.out _ _ (HC.out.z 1 rfl) (fun hHeld => ?_)
            clear hK K
            refine eF 41 ?_
            exact dG (by first | (simp only [bz, Act.put, List.setIfInBounds_toArray, List.set_cons_zero, List.set_cons_succ]; done) | (simp only [bz, Act.put, List.setIfInBounds_toArray, List.set_cons_zero, List.set_cons_succ]; rfl)) (hJ2 kx _ ⟨HC.out.z 1 rfl, HC.out⟩)
           ·skip
            refine gV (by rfl) (N := 8) rfl (cs := #[.slice none 0 0]) (t := 29) ?hr ?_
            (case hr => first | (go_simp; done) | (go_simp; rfl))
            intro bx hg w9 aC hb
            have aj : af (Cv w0 w w9 g s m [[.box 29 b2 #[.slice none 0 0]], [.box 29 b3 #[.slice A pgs.length c]], aM (.slice A pgs.length c) pgs, [.box 29 bx #[.slice none 0 0]]]) := ⟨HC.out.box hg aC hb⟩
            clear HC hg aC hb
            have HC := aj
            clear aj
            refine hK.out _ _ (HC.out.z 1 rfl) (fun hHeld => ?_)
            clear hK K
            refine eF 8 ?_
            exact dG (by first | (simp only [bz, Act.put, List.setIfInBounds_toArray, List.set_cons_zero, List.set_cons_succ]; done) | (simp only [bz, Act.put, List.setIfInBounds_toArray, List.set_cons_zero, List.set_cons_succ]; rfl)) (hJ7 bx _ ⟨HC.out.z 1 rfl, HC.out⟩)
          ·skip
           rintro bx wj ⟨hHeld, hF⟩
           have hc := hF
           have HC := A_ hc
           clear hc
           clear hF
           refine dG (a' := ?_) ?_ ?_
           rotate_left
           ·simp only [bz, Act.put, List.setIfInBounds_toArray, List.set_cons_zero, List.set_cons_succ]
            rfl
           refine jg 2 (some 41) 135 (fun K hK => ?_)
           refine uj Try.func89 #[.pointer (some ⟨g, 0, none⟩)] ?_
           with_reducible refine (HC.out.Ip (by have := HM.out; omega)).mono ?_
           rintro e w9 ⟨kx, rfl, -, hc⟩
           refine ⟨_, rfl, ?_⟩
           have aj : af (Cv w0 w w9 g s (m + 2) [[.box 29 b2 #[.slice none 0 0]], [.box 29 b3 #[.slice A pgs.length c]], aM (.slice A pgs.length c) pgs, [.box 29 bx #[.slice none 0 0]]]) := ⟨hc⟩
           clear HC hc
           have HC := aj
           clear aj
           refine hK.out _ _ (HC.out.z 1 rfl) (fun hHeld => ?_)
           clear hK K
           refine eF 41 ?_
           exact dG (by first | (simp only [bz, Act.put, List.setIfInBounds_toArray, List.set_cons_zero, List.set_cons_succ]; done) | (simp only [bz, Act.put, List.setIfInBounds_toArray, List.set_cons_zero, List.set_cons_succ]; rfl)) (hJ2_7 (⟨kx, bx⟩) _ ⟨HC.out.z 1 rfl, HC.out⟩)
         ·skip
          rintro kx wj ⟨hHeld, hF⟩
          have hc := hF
          have HC := A_ hc
          clear hc
          clear hF
          refine dG (a' := ?_) ?_ ?_
          rotate_left
          ·simp only [bz, Act.put, List.setIfInBounds_toArray, List.set_cons_zero, List.set_cons_succ]
           rfl
          refine DJ 3 7 (some 42) (some 8) 15 135 (fun K hK => ?_) (fun K hK => ?_)
          ·skip
           refine uj Try.func39 #[.agg #[.slice A pgs.length c], .string kx] ?_
           with_reducible refine (HC.out.dropKey 2 rfl HN.out kx).mono ?_
           rintro e w9 ⟨A2, c2, di, ok, rfl, hn2, hc⟩
           refine ⟨_, rfl, ?_⟩
           have Hg := A_ hn2
           clear hn2
           have aj : af (Cv w0 w w9 g s (m + 2) [[.box 29 b2 #[.slice none 0 0]], [.box 29 b3 #[.slice A pgs.length c]], aM (.slice A pgs.length c) pgs, aM (.slice A2 di.length c2) di]) := ⟨hc⟩
           clear HC hc
           have HC := aj
           clear aj
           refine hK.out _ _ (HC.out.z 1 rfl) (fun hHeld => ?_)
           clear hK K
           refine eF 42 ?_
           refine aV 4 38 31 ?_
           refine aV 5 43 63 ?_
           refine aV 6 44 127 ?_
           exact dG (by first | (simp only [bz, Act.put, List.setIfInBounds_toArray, List.set_cons_zero, List.set_cons_succ]; done) | (simp only [bz, Act.put, List.setIfInBounds_toArray, List.set_cons_zero, List.set_cons_succ]; rfl)) (hJ2_3 (⟨kx, (.slice A2 di.length c2), ok⟩) _ ⟨HC.out.z 1 rfl, ⟨A2, c2, di, rfl, Hg.out, HC.out⟩⟩)
          ·skip
           refine gV (by rfl) (N := 8) rfl (cs := #[.slice none 0 0]) (t := 29) ?hr ?_
           (case hr => first | (go_simp; done) | (go_simp; rfl))
           intro bx hg w9 aC hb
           have aj : af (Cv w0 w w9 g s (m + 2) [[.box 29 b2 #[.slice none 0 0]], [.box 29 b3 #[.slice A pgs.length c]], aM (.slice A pgs.length c) pgs, [.box 29 bx #[.slice none 0 0]]]) := ⟨HC.out.box hg aC hb⟩
           clear HC hg aC hb
           have HC := aj
           clear aj
           refine hK.out _ _ (HC.out.z 1 rfl) (fun hHeld => ?_)
           clear hK K
           refine eF 8 ?_
           exact dG (by first | (simp only [bz, Act.put, List.setIfInBounds_toArray, List.set_cons_zero, List.set_cons_succ]; done) | (simp only [bz, Act.put, List.setIfInBounds_toArray, List.set_cons_zero, List.set_cons_succ]; rfl)) (hJ2_7 (⟨kx, bx⟩) _ ⟨HC.out.z 1 rfl, HC.out⟩)
        ·skip
         rintro ⟨kx, bx⟩ wj ⟨hHeld, hF⟩
         have hc := hF
         have HC := A_ hc
         clear hc
         clear hF
         refine dG (a' := ?_) ?_ ?_
         rotate_left
         ·simp only [bz, Act.put, List.setIfInBounds_toArray, List.set_cons_zero, List.set_cons_succ]
          rfl
         refine jg 3 (some 42) 143 (fun K hK => ?_)
         refine uj Try.func39 #[.agg #[.slice A pgs.length c], .string kx] ?_
         with_reducible refine (HC.out.dropKey 2 rfl HN.out kx).mono ?_
         rintro e w9 ⟨A2, c2, di, ok, rfl, hn2, hc⟩
         refine ⟨_, rfl, ?_⟩
         have Hg := A_ hn2
         clear hn2
         have aj : af (Cv w0 w w9 g s (m + 2) [[.box 29 b2 #[.slice none 0 0]], [.box 29 b3 #[.slice A pgs.length c]], aM (.slice A pgs.length c) pgs, [.box 29 bx #[.slice none 0 0]], aM (.slice A2 di.length c2) di]) := ⟨hc⟩
         clear HC hc
         have HC := aj
         clear aj
         refine hK.out _ _ (HC.out.z 1 rfl) (fun hHeld => ?_)
         clear hK K
         refine eF 42 ?_
         refine aV 4 38 159 ?_
         refine aV 5 43 191 ?_
         refine aV 6 44 255 ?_
         exact dG (by first | (simp only [bz, Act.put, List.setIfInBounds_toArray, List.set_cons_zero, List.set_cons_succ]; done) | (simp only [bz, Act.put, List.setIfInBounds_toArray, List.set_cons_zero, List.set_cons_succ]; rfl)) (hJ2_3_7 (⟨kx, (.slice A2 di.length c2), ok, bx⟩) _ ⟨HC.out.z 1 rfl, ⟨A2, c2, di, rfl, Hg.out, HC.out⟩⟩)
       ·skip
        rintro ⟨kx, rv, ok⟩ wj ⟨hHeld, hF⟩
        obtain ⟨A2, c2, di, rfl, hn2, hc⟩ := hF
        have Hg := A_ hn2
        clear hn2
        have HC := A_ hc
        clear hc
        refine dG (a' := ?_) ?_ ?_
        rotate_left
        ·simp only [bz, Act.put, List.setIfInBounds_toArray, List.set_cons_zero, List.set_cons_succ]
         rfl
        refine jg 7 (some 8) 255 (fun K hK => ?_)
        refine gV (by rfl) (N := 8) rfl (cs := #[.slice none 0 0]) (t := 29) ?hr ?_
        (case hr => first | (go_simp; done) | (go_simp; rfl))
        intro bx hg w9 aC hb
        have aj : af (Cv w0 w w9 g s (m + 2) [[.box 29 b2 #[.slice none 0 0]], [.box 29 b3 #[.slice A pgs.length c]], aM (.slice A pgs.length c) pgs, [.box 29 bx #[.slice none 0 0]], aM (.slice A2 di.length c2) di]) := ⟨(HC.out.box hg aC hb).iN [0, 1, 2, 4, 3] (by decide)⟩
        clear HC hg aC hb
        have HC := aj
        clear aj
        refine hK.out _ _ (HC.out.z 1 rfl) (fun hHeld => ?_)
        clear hK K
        refine eF 8 ?_
        exact dG (by first | (simp only [bz, Act.put, List.setIfInBounds_toArray, List.set_cons_zero, List.set_cons_succ]; done) | (simp only [bz, Act.put, List.setIfInBounds_toArray, List.set_cons_zero, List.set_cons_succ]; rfl)) (hJ2_3_7 (⟨kx, (.slice A2 di.length c2), ok, bx⟩) _ ⟨HC.out.z 1 rfl, ⟨A2, c2, di, rfl, Hg.out, HC.out⟩⟩)
      rintro ⟨kx, rv, ok, bx⟩ wj ⟨hHeld, hF⟩
      obtain ⟨A2, c2, di, rfl, hn2, hc⟩ := hF
      have Hg := A_ hn2
      clear hn2
      have HC := A_ hc
      clear hc
      refine dG (a' := ?_) ?_ ?_
      rotate_left
      ·simp only [bz, Act.put, List.setIfInBounds_toArray, List.set_cons_zero, List.set_cons_succ]
       rfl
      refine wW 8 none 511 (fun K hK => ?_)
      have hzx := HC.out.z 3 rfl
      have hfx := HC.out.f 3 rfl
      refine iU (w1 := ?_) (by rfl) rfl ?_ ?_
      rotate_left
      ·go_simp
       rfl
      clear hzx hfx
      refine hK.out _ _ ?_
      clear hK K
      refine aV 9 9 1023 ?_
      refine fu (by kernel_rfl) ?_
      have aj : af (Cv w0 w (World.setCell wj ⟨bx, 0, none⟩ (.slice A2 di.length c2)) g s (m + 2) [[.box 29 b2 #[.slice none 0 0]], [.box 29 b3 #[.slice A pgs.length c]], aM (.slice A pgs.length c) pgs, [.box 29 bx #[.slice A2 di.length c2]], aM (.slice A2 di.length c2) di]) := ⟨HC.out.put 3 rfl 0 _⟩
      generalize World.setCell wj ⟨bx, 0, none⟩ (.slice A2 di.length c2) = wb at aj ⊢
      clear HC hHeld
      have HC := aj
      clear aj
      cases ok with
      | true =>
       have hzx := HC.out.z 3 rfl
       have hz3 := HC.out.z 1 rfl
       have hf3 := HC.out.f 1 rfl
       go_wp2
       go_roundg (i - 1)
       case measure => have := HI.out; have := HP.out; omega
       case rel => exact ⟨i - 1, A2, c2, di, by have := HI.out; have := HP.out; rw [Go.Proofs.Ytoddejmlcnbdmaa.Pure.eY (by omega) (by omega)]; congr 1; omega, ⟨by have := HI.out; omega⟩, ⟨Hg.out (by first | rfl | trivial)⟩, ⟨((HC.out.put 1 rfl 0 _).iN [0, 1, 4] (by decide)).le (by have := VP.out; have := HI.out; have := HP.out; omega)⟩⟩
      | false =>
       go_wp2
       go_roundg (i - 1)
       case measure => have := HI.out; have := HP.out; omega
       case rel => exact ⟨i - 1, A, c, pgs, by have := HI.out; have := HP.out; rw [Go.Proofs.Ytoddejmlcnbdmaa.Pure.eY (by omega) (by omega)]; congr 1; omega, ⟨by have := HI.out; omega⟩, HN, ⟨(HC.out.iN [0, 1, 2] (by decide)).le (by have := VP.out; have := HI.out; have := HP.out; omega)⟩⟩
   ·have c_ := kT (0 < (i : Int))
    have Hf : (0 < i) = False := eq_false hi
    have aj := A_ (HC.out.le (m1 := 100400) (by omega))
    clear HC hi HI
    have HC := aj
    clear aj
    go_upto_region 15 with (first | (go_at_call 92; (with_reducible refine (HC.out.pick (by omega) 30 (by omega)).mono ?_); rintro e Md ⟨x, rfl, hn, hc⟩; have aj : af (Cv w0 w Md g s 100402 [[.box 29 b2 #[.slice none 0 0]], [.box 29 b3 #[.slice A pgs.length c]], aM (.slice A pgs.length c) pgs]) := ⟨hc⟩; clear HC hc; have HC := aj; clear aj))
    have XO := A_ (show pgs ≠ [] from fun e => HN.out.1 (by rw [e]; rfl))
    have VQ : af (pgs.length <= 1000) := ⟨by have := HN.out.2.1; rw [List.length_map] at this; exact this⟩
    by_cases hx0 : x = 0
    ·subst hx0
     cases pgs with
     | nil => exact absurd rfl XO.out
     | cons pg B =>
      have oV := A_ HN.out.2.2
      have aj : af (Cv w0 w Md g s 100402 ([[.box 29 b2 #[.slice none 0 0]], [.box 29 b3 #[.slice A (pg :: B).length c]]] ++ [[l9 (.slice A (pg :: B).length c) (pg :: B)], [txt pg.kv pg.ks], [txt pg.vv pg.vs], [ints pg.cv pg.cs], gX B])) := ⟨Cv.pages (X := [[.box 29 b2 #[.slice none 0 0]], [.box 29 b3 #[.slice A (pg :: B).length c]]]) HC.out⟩
      clear HC HN
      have HC := aj
      clear aj XO
      obtain ⟨gr, rfl⟩ := qC (HC.out.S.rowOk 2 rfl) (Nat.succ_pos _)
      obtain ⟨kv, vv, cv, ks, vs, cs⟩ := pg
      obtain ⟨n, hn1⟩ : ∃ n, (Pg.mk kv vv cv ks vs cs :: B).length = n := ⟨_, rfl⟩
      have hn0 : 0 < n := by rw [<- hn1]; exact Nat.succ_pos _
      have LJ := HC.out.z 1 rfl
      rw [hn1] at LJ HC
      have ND := A_ hn1
      have cn_ := kZ ((0 : Int) < (n : Int))
      have cn2_ : (0 < n) = True := eq_true hn0
      clear hn0 hn1
      by_cases hk0 : 0 < ks.length
      ·have XP := kZ ((0 : Int) < (ks.length : Int))
       have TL : (0 < ks.length) = True := eq_true hk0
       obtain ⟨gk, ck, ek, _⟩ := Kd.q8 (HC.out.S.sr 3 rfl) hk0
       have ek : kv = .slice (some ⟨gk, 0, none⟩) ks.length ck := ek
       subst ek
       have IB := A_ hk0
       have XQ : Md.cell? ⟨gr, 0, none⟩ = some (.slice (some ⟨gk, 0, none⟩) ks.length ck) := Ah (A := []) (a := 0) HC.out.S 2 rfl rfl
       have zk_ := jF (HC.out.S.sr 3 rfl) ⟨hk0, rfl⟩
       have fk_ := iK (HC.out.S.sr 3 rfl) hk0 0
       clear hk0
       go_upto_region 20 with fail
       have aj : af (Cv w0 w (World.setCell Md ⟨gk, 0, none⟩ (.string ⟨#[122, 122]⟩)) g s 100402 ([[.box 29 b2 #[.slice none 0 0]], [.box 29 b3 #[.slice (some ⟨gr, 0, none⟩) n c]]] ++ [[l9 (.slice (some ⟨gr, 0, none⟩) n c) (⟨(.slice (some ⟨gk, 0, none⟩) ks.length ck), vv, cv, (ks.set 0 ⟨#[122, 122]⟩), vs, cs⟩ :: B)], [txt ((.slice (some ⟨gk, 0, none⟩) ks.length ck)) ((ks.set 0 ⟨#[122, 122]⟩))], [txt vv vs], [ints cv cs], gX B])) := ⟨HC.out.uG 3 rfl _ IB.out⟩
       generalize World.setCell Md ⟨gk, 0, none⟩ (.string ⟨#[122, 122]⟩) = XR at aj ⊢
       clear HC LJ XQ zk_ fk_
       have HC := A_ (Cv.whole aj.out)
       clear aj
       have LJ := HC.out.z 1 rfl
       have BS := HC.out.z 0 rfl
       have XT := HC.out.f 0 rfl
       go_wp2
       have HE : af (Cv w0 w (World.setCell XR ⟨b2, 0, none⟩ (Value.slice (some ⟨gr, 0, none⟩) n c)) g s 100402 [[.box 29 b2 #[Value.slice (some ⟨gr, 0, none⟩) n c]], [.box 29 b3 #[Value.slice (some ⟨gr, 0, none⟩) n c]], aM (Value.slice (some ⟨gr, 0, none⟩) n c) (Pg.mk (.slice (some ⟨gk, 0, none⟩) ks.length ck) vv cv (ks.set 0 ⟨#[122, 122]⟩) vs cs :: B)]) := ⟨HC.out.put 0 rfl 0 _⟩
       refine bodyPost_ret (results_cell_row rfl _ _ b2 29 #[Value.slice (some ⟨gr, 0, none⟩) n c] (0, 0) _ rfl (aa.blk HE.out.S 0 rfl) Try.underlying29 rfl (by kernel_rfl)) rfl ?_
       have e_ := ND.out
       subst e_
       exact AV (pgs := (Pg.mk (.slice (some ⟨gk, 0, none⟩) ks.length ck) vv cv (ks.set 0 ⟨#[122, 122]⟩) vs cs :: B)) HE.out 2 rfl (by decide) VQ.out (fun p hp => by
         rcases List.mem_cons.1 hp with rfl | hp
         ·have := oV.out _ List.mem_cons_self
          show (ks.set 0 _).length <= 4 /\ _
          rw [List.length_set]
          exact this
         ·exact oV.out p (List.mem_cons_of_mem _ hp))
      ·have XP := kT ((0 : Int) < (ks.length : Int))
       have TL : (0 < ks.length) = False := eq_false hk0
       obtain ⟨Ak, ck, ek⟩ := Kd.av (HC.out.S.sr 3 rfl)
       have ek : kv = .slice Ak ks.length ck := ek
       subst ek
       have XQ : Md.cell? ⟨gr, 0, none⟩ = some (.slice Ak ks.length ck) := Ah (A := []) (a := 0) HC.out.S 2 rfl rfl
       go_upto_region 20 with fail
       have aj := HC
       clear HC LJ XQ
       have HC := A_ (Cv.whole aj.out)
       clear aj
       have LJ := HC.out.z 1 rfl
       have BS := HC.out.z 0 rfl
       have XT := HC.out.f 0 rfl
       go_wp2
       have HE : af (Cv w0 w (World.setCell Md ⟨b2, 0, none⟩ (Value.slice (some ⟨gr, 0, none⟩) n c)) g s 100402 [[.box 29 b2 #[Value.slice (some ⟨gr, 0, none⟩) n c]], [.box 29 b3 #[Value.slice (some ⟨gr, 0, none⟩) n c]], aM (Value.slice (some ⟨gr, 0, none⟩) n c) (Pg.mk (.slice Ak ks.length ck) vv cv ks vs cs :: B)]) := ⟨HC.out.put 0 rfl 0 _⟩
       refine bodyPost_ret (results_cell_row rfl _ _ b2 29 #[Value.slice (some ⟨gr, 0, none⟩) n c] (0, 0) _ rfl (aa.blk HE.out.S 0 rfl) Try.underlying29 rfl (by kernel_rfl)) rfl ?_
       have e_ := ND.out
       subst e_
       exact AV HE.out 2 rfl (by decide) VQ.out oV.out
    have oV := A_ HN.out.2.2
    obtain ⟨n, hn1⟩ : ∃ n, pgs.length = n := ⟨_, rfl⟩
    have hn0 : 0 < n := by rw [<- hn1]; exact List.length_pos_iff.2 XO.out
    have hnc := (AU (v := .slice none 0 0) (HC.out.S.at 2 rfl)).2
    rw [List.length_map, hn1] at hnc
    rw [hn1] at HC
    have ND := A_ hn1
    have LJ := HC.out.z 1 rfl
    have hn2 : n <= 1000 := by rw [<- hn1]; exact VQ.out
    clear hn1
    have d0 : ((x : Int) == 0) = false := by simp; omega
    have d0b := kT ((x : Int) = 0)
    have d0c : (x = 0) = False := eq_false hx0
    by_cases hx1 : x = 1
    ·subst hx1
     have f3_ := HC.out.f 1 rfl
     have q_ : wrap64 ((n : Int) - 1) = (n : Int) - 1 := Go.Proofs.Ytoddejmlcnbdmaa.Pure.eY (by omega) (by omega)
     obtain ⟨P7, lX, _, o9, _⟩ := info_parts DK
     have hcut_ := nI (P := Try.prog) 27 110 .i64 Try.underlying27 lX A n c ((n : Int) - 1) (by omega) (by omega) hnc
     simp only [show ((n : Int) - 1).toNat = n - 1 from by omega] at hcut_
     clear lX o9
     go_upto_region 20 with fail
     have aj : af (Cv w0 w (World.setCell Md ⟨b3, 0, none⟩ (.slice A (n - 1) c)) g s 100402 [[.box 29 b2 #[.slice none 0 0]], [.box 29 b3 #[.slice A (n - 1) c]], aM (.slice A n c) pgs]) := ⟨HC.out.put 1 rfl 0 _⟩
     generalize World.setCell Md ⟨b3, 0, none⟩ (.slice A (n - 1) c) = XR at aj ⊢
     clear HC LJ f3_ hcut_ q_
     have HC := aj
     clear aj
     have LJ := HC.out.z 1 rfl
     have BS := HC.out.z 0 rfl
     have XT := HC.out.f 0 rfl
     go_wp2
     have HE : af (Cv w0 w (World.setCell XR ⟨b2, 0, none⟩ (Value.slice A (n - 1) c)) g s 100402 [[.box 29 b2 #[Value.slice A (n - 1) c]], [.box 29 b3 #[Value.slice A (n - 1) c]], aM (.slice A n c) pgs]) := ⟨HC.out.put 0 rfl 0 _⟩
     refine bodyPost_ret (results_cell_row rfl _ _ b2 29 #[Value.slice A (n - 1) c] (0, 0) _ rfl (aa.blk HE.out.S 0 rfl) Try.underlying29 rfl (by kernel_rfl)) rfl ?_
     have e_ := ND.out
     subst e_
     exact Na HE.out 2 rfl (by decide) VQ.out oV.out _ (Nat.sub_le _ _)
    ·have d1 : ((x : Int) == 1) = false := by simp; omega
     have d1b := kT ((x : Int) = 1)
     have d1c : (x = 1) = False := eq_false hx1
     go_upto_region 20 with fail
     clear LJ
     have LJ := HC.out.z 1 rfl
     have BS := HC.out.z 0 rfl
     have XT := HC.out.f 0 rfl
     go_wp2
     have HE : af (Cv w0 w (World.setCell Md ⟨b2, 0, none⟩ (Value.slice A n c)) g s 100402 [[.box 29 b2 #[Value.slice A n c]], [.box 29 b3 #[Value.slice A n c]], aM (.slice A n c) pgs]) := ⟨HC.out.put 0 rfl 0 _⟩
     refine bodyPost_ret (results_cell_row rfl _ _ b2 29 #[Value.slice A n c] (0, 0) _ rfl (aa.blk HE.out.S 0 rfl) Try.underlying29 rfl (by kernel_rfl)) rfl ?_
     have e_ := ND.out
     subst e_
     exact AV HE.out 2 rfl (by decide) VQ.out oV.out
open Go.Proofs.Ytoddejmlcnbdmaa.Pure (AO J2 yU)
set_option maxHeartbeats 8000000
set_option maxRecDepth 100000
section
variable {w0 w W W1 : World} {g : Nat} {s : List Int} {m : Int} {gs : List (List Ck)}
theorem Cv.start {w1 w2 : World} {A0 : Option Addr} {c0 : Nat} (hcd : Go.Proofs.Ytoddejmlcnbdmaa.Pure.Code s) (hr0 : Kd.C (Kd.int .u8) w A0 s.length s) (hb1 : Below w.heap.size w w1) (hg : g = w1.heap.size) (aC : w2.heap[g]? = some (.cells #[.slice A0 s.length c0, .int .i64 0, .int .u64 0] 105 (0, 0))) (hb : Below w1.heap.size w1 w2) : Cv w w2 w2 g s 0 [] :=
 ⟨hcd, 0, 0, Int.le_refl _, Int.le_refl _, ⟨A0, c0, aC, by rw [hg]; exact hb1.size, hr0⟩, au hb1 hb, bf.refl _ _ _, Sat.nil _ _, gF aC⟩
theorem Cv.tree (h : Cv w0 w W g s m gs) (hm : m <= 100000) : Calls Try.prog 87 #[.pointer (some ⟨g, 0, none⟩)] W fun e W1 => ∃ A c r, e = .returned (.agg #[.slice A (List.length r) c]) /\ r.length <= c /\ OT W1 W.heap.size A r /\ nJ r = true /\ Cv w0 w W1 g s 200000 gs := by
 obtain ⟨hc, p, q, h1, h2, h⟩ := h
 exact (yF.runs s hc g p q h1 (by omega) w0 W h.I h.B).mono fun e W1 ⟨A, c, r, e1, e2, e3, e4, p', q', b1, b2, i, b, k⟩ => ⟨A, c, r, e1, e2, e3, e4, hc, p', q', b1, b2, h.cur i b k⟩
theorem Cv.K (h : Cv w0 w W g s m gs) : bf w W g none := by
 obtain ⟨_, p, q, _, _, h⟩ := h
 exact h.K
theorem Cv.B (h : Cv w0 w W g s m gs) : Below w0.heap.size w0 W := by
 obtain ⟨_, p, q, _, _, h⟩ := h
 exact h.B
theorem Cv.blk (h : Cv w0 w W g s m gs) {b : Nat} {o : Obj} (hb : w.heap[b]? = some o) (hne : b ≠ g) : W.heap[b]? = some o := (h.K.2 b (gF hb) hne (by simp)).trans hb
theorem Cv.Ry (h : Cv w0 w W g s m gs) : Cv w0 w W g s m (gs ++ [[txt (.slice none 0 0) []]]) := h.to (h.S.tX 9)
theorem Cv.app (h : Cv w0 w W g s m gs) (i : Nat) {u u1 : Value} {x y : List ByteArray} (hi : gs[i]? = some [txt u x]) (ho : Kd.string.R 9 W1 w.heap.size (fun _ => True) u1 y) (hg : W.grownBy W1 u.ownBlock) (hat : u1.ownBlock = u.ownBlock ∨ ∃ b, u1.ownBlock = some b /\ W.heap.size <= b) : Cv w0 w W1 g s m (gs.set i [txt u1 y]) := by
 obtain ⟨hc, p, q, h1, h2, h⟩ := h
 have hge : ∀ k, u.ownBlock = some k -> w.heap.size <= k := fun k hk => (h.S.at i hi).ge ⟨_, List.mem_singleton_self _, hk⟩
 have hk : Kept W W1 (fun k => u.ownBlock = some k) := ⟨hg.size, fun k hk hn => hg.block k hk fun he => hn he.symm⟩
 have h0 : w0.heap.size <= w.heap.size := by have := h.I; obtain ⟨_, _, _, h5, _⟩ := this; exact Nat.le_trans h5 (Nat.le_of_lt h.lt)
 refine ⟨hc, p, q, h1, h2, h.I.kept hk (fun e => by have := hge g e; have := h.lt; omega), h.B.grown hg (Nat.le_trans h0 h.size) (fun k hk => Nat.le_trans h0 (hge k hk)), Kept.keep h.K hk hge, h.S.app i hi ho hg hat, h.lt⟩
end
def FY (w : World) (e : Ending) (w' : World) : Prop := ∃ A c r, e = .returned (.agg #[.slice A (List.length r) c]) /\ r.length <= c /\ OT w' w.heap.size A r /\ nJ r = true /\ Below w.heap.size w w'
theorem AX {P : List bH} (h : nJ P = true) : BQ P = true /\ P.length <= 1048576 := rz h
theorem wF.runs (A0 : Option Addr) (c0 : Nat) (l0 : List Int) (hcd : Go.Proofs.Ytoddejmlcnbdmaa.Pure.Code l0) (w : World) (hr0 : Kd.C (Kd.int .u8) w A0 l0.length l0) : Calls Try.prog 93 #[.slice A0 l0.length c0] w (FY w) := by
 have TM := A_ hcd
 have HR := A_ hr0
 clear hcd hr0
 go_enter Try.func93, Try.ntmps93
 go_wp2_with (first | (refine jf 2 #[.slice none 0 0] 29 ?_; intro b2 hg w1 aC hb; have HX := A_ aC; have HB := A_ hb; have HG := A_ hg; clear hg aC hb) | (refine jf 6 #[.slice A0 l0.length c0, .int .i64 0, .int .u64 0] 105 ?_; intro g hg w2 aC hb; have HC := A_ (Cv.start TM.out HR.out HB.out hg aC hb); have QW := A_ (aT HX.out hb); have HN : af (b2 ≠ g) := ⟨by have := gF HX.out; omega⟩; clear HX; have HX := QW; clear QW; have HL : af (b2 < w2.heap.size /\ w.heap.size <= w2.heap.size /\ w.heap.size <= b2) := ⟨gF HX.out, Nat.le_trans HB.out.size hb.size, by rw [HG.out]; exact Nat.le_refl _⟩; clear hg aC hb) | (go_at_call 87; (with_reducible refine (HC.out.tree (by decide)).mono ?_); rintro e w3 ⟨A, c, r, rfl, h1, h2, h3, hc⟩; have HO := A_ (And.intro h1 (And.intro h2 h3)); have QW := A_ (hc.blk HX.out HN.out); clear HC HX h1 h2 h3; have HC := A_ hc; have HX := QW; clear QW hc; have hz2 := (ak HX.out 0).trans rfl; have hf2 := aY HX.out 0))
 refine bodyPost_ret (results_cell_row rfl _ _ b2 29 #[.slice A r.length c] (0, 0) _ rfl (dH (cs := #[.slice none 0 0]) HX.out 0 _ rfl) Try.underlying29 rfl (by kernel_rfl)) rfl ?_
 obtain ⟨h1, h2, h3⟩ := HO.out
 obtain ⟨l1, l2, l3⟩ := HL.out
 exact ⟨A, c, r, rfl, h1, h2.step (by simp) l2 (fun k hk1 hk2 => Below.heap_setCell _ _ _ _ (fun e => by have e : k = b2 := e; omega)), h3, bM HC.out.B l3⟩
theorem yG.runs (A0 : Option Addr) (c0 : Nat) (l0 : List Int) (hcd : Go.Proofs.Ytoddejmlcnbdmaa.Pure.Code l0) (w : World) (hr0 : Kd.C (Kd.int .u8) w A0 l0.length l0) : Calls Try.prog 50 #[.slice A0 l0.length c0] w (FY w) := by
 have TM := A_ hcd
 have HR := A_ hr0
 clear hcd hr0
 go_enter Try.func50, Try.ntmps50
 go_wp2_with (first | (refine jf 2 #[.slice none 0 0] 29 ?_; intro b2 hg w1 aC hb; have HX := A_ aC; have HB := A_ hb; have HL : af (b2 < w1.heap.size /\ w.heap.size <= w1.heap.size /\ w.heap.size <= b2) := ⟨gF aC, hb.size, by rw [hg]; exact Nat.le_refl _⟩; clear hg aC hb) | (go_at_call 93; (with_reducible refine (wF.runs A0 c0 l0 TM.out w1 (Kd.ax HR.out HB.out)).mono ?_); rintro e w3 ⟨A, c, r, rfl, h1, h2, h3, hb⟩; have HO := A_ (And.intro h1 (And.intro h2 h3)); have QW := A_ (aT HX.out hb); have yo := A_ (au HB.out hb); clear HX HB h1 h2 h3 hb; have HX := QW; have HB := yo; clear QW yo; have hz2 := (ak HX.out 0).trans rfl; have hf2 := aY HX.out 0))
 refine bodyPost_ret (results_cell_row rfl _ _ b2 29 #[.slice A r.length c] (0, 0) _ rfl (dH (cs := #[.slice none 0 0]) HX.out 0 _ rfl) Try.underlying29 rfl (by kernel_rfl)) rfl ?_
 obtain ⟨h1, h2, h3⟩ := HO.out
 obtain ⟨l1, l2, l3⟩ := HL.out
 exact ⟨A, c, r, rfl, h1, h2.step (by simp) l2 (fun k hk1 hk2 => Below.heap_setCell _ _ _ _ (fun e => by have e : k = b2 := e; omega)), h3, bM HB.out l3⟩
def FZ (w : World) (e : Ending) (w' : World) : Prop := ∃ A1 c1 K A2 c2 V, e = .returned (.tuple #[.slice A1 (List.length K) c1, .slice A2 (List.length V) c2]) /\ (K.length <= c1 /\ Kd.C Kd.string w' A1 K.length K) /\ (V.length <= c2 /\ Kd.C Kd.string w' A2 V.length V) /\ K.length <= 40 /\ V.length <= 40 /\ Below w.heap.size w w'
theorem xD {w w2 W : World} {g : Nat} {s : List Int} {m : Int} {A1 A2 : Option Addr} {n1 n2 c1 c2 : Nat} {K V : List ByteArray} (h : Cv w w2 W g s m [xW A1 n1 c1 K, xW A2 n2 c2 V]) (h1 : K.length <= 40) (h2 : V.length <= 40) : FZ w (.returned (.tuple #[.slice A1 n1 c1, .slice A2 n2 c2])) W := by
 obtain ⟨e1, a1, b1⟩ := h.S.row 0 rfl
 obtain ⟨e2, a2, b2⟩ := h.S.row 1 rfl
 exact ⟨A1, c1, K, A2, c2, V, by rw [e1, e2], ⟨by omega, b1⟩, ⟨by omega, b2⟩, h1, h2, h.B⟩
theorem Nb {P : List bH} (h : P.length <= 1048576) : (AO P).1.length <= 40 := by
 unfold AO
 cases hof : pz P with
 | none => simp
 | some t => exact (yU h hof).few
theorem vz.runs (A0 : Option Addr) (c0 : Nat) (l0 : List Int) (hcd : Go.Proofs.Ytoddejmlcnbdmaa.Pure.Code l0) (w : World) (hr0 : Kd.C (Kd.int .u8) w A0 l0.length l0) : Calls Try.prog 52 #[.slice A0 l0.length c0] w (FZ w) := by
 have TM := A_ hcd
 have HR := A_ hr0
 clear hcd hr0
 go_enter Try.func52, Try.ntmps52
 go_upto_region 3 with (first | (refine jf 11 #[.slice A0 l0.length c0, .int .i64 0, .int .u64 0] 105 ?_; intro g hg w2 aC hb; have HC := A_ (Cv.start TM.out HR.out (Below.refl _ _) hg aC hb); clear hg aC hb) | (go_at_call 87; (with_reducible refine (HC.out.tree (by decide)).mono ?_); rintro e w3 ⟨A, c, r, rfl, h1, h2, h3, hc⟩; have HO := A_ (And.intro h1 (And.intro h2 h3)); clear HC h1 h2 h3; have HC := A_ hc; clear hc) | (refine jf 5 #[.slice none 0 0] 29 ?_; intro b5 hg w4 aC hb; have aj : af (Cv w w2 w4 g l0 200000 [[.box 29 b5 #[.slice none 0 0]]]) := ⟨HC.out.box hg aC hb⟩; have L9 := A_ (And.intro hg hb); clear HC hg aC hb; have HC := aj; clear aj; have Oh := HC.out.z 0 rfl; have Xi := HC.out.f 0 rfl))
 have aj : af (Cv w w2 (World.setCell w4 ⟨b5, 0, none⟩ (.slice A r.length c)) g l0 200000 [[.box 29 b5 #[.slice A r.length c]]]) := ⟨HC.out.put 0 rfl 0 _⟩
 have az : af (Kd.C jX (World.setCell w4 ⟨b5, 0, none⟩ (.slice A r.length c)) A r.length r) := ⟨HO.out.2.1 _ fun k _ hk => (Below.heap_setCell _ _ _ _ (fun e => by have e : k = b5 := e; have := L9.out.1; omega)).trans (L9.out.2.block k hk)⟩
 generalize World.setCell w4 ⟨b5, 0, none⟩ (.slice A r.length c) = w5 at aj az ⊢
 have EU := A_ (And.intro HO.out.1 (AX HO.out.2.2))
 clear HC Oh Xi HO L9
 have HC := aj
 have BF := az
 clear aj az
 obtain ⟨K, hK⟩ : ∃ K, K = (AO r).1 := ⟨_, rfl⟩
 have Qd : af (K.length <= 40) := ⟨by rw [hK]; exact Nb EU.out.2.2⟩
 have VM : af (gM.f r = some (K, (AO r).2)) := ⟨by rw [hK]; exact J2 EU.out.2.1⟩
 clear hK
 have Oh := HC.out.z 0 rfl
 go_upto_region 4 with (first | (go_at_call 24; (with_reducible refine (gM.calls A c r K _ _ BF.out EU.out.1 VM.out).mono ?_); rintro e w6 ⟨v0, rfl, ho, hb⟩; obtain ⟨A1, c1, rfl⟩ := Kd.av ho; have aj : af (Cv w w2 w6 g l0 200000 [iT A1 c1 K, [txt (.slice none 0 0) []]]) := ⟨(HC.out.lit hb ho).Ry.iN [1, 2] (by decide)⟩; clear HC ho hb Oh BF EU VM; have HC := aj; clear aj))
 go_wp2
 go_loopg [8, 21] K.length (fun kq v8 v21 w' => ∃ (i : Nat) (V : List ByteArray), v21 = .int .i64 (i : Int) /\ af (i <= K.length /\ kq + i = K.length /\ V.length = i) /\ af (Cv w w2 w' g l0 (200000 + 2 * (i : Int)) [iT A1 c1 K, [txt v8 V]]))
 case atStart => exact ⟨0, [], by first | rfl | (simp; done), ⟨Nat.zero_le _, by first | rfl | omega, rfl⟩, HC⟩
 case round =>
  clear HC
  obtain ⟨i, V, rfl, HI, HC⟩ := hrel
  have Qe : i <= 40 := by have := HI.out; have := Qd.out; omega
  by_cases hi : i < K.length
  ·have c_ := kZ ((i : Int) < (K.length : Int))
   have Hf : (i < K.length) = True := eq_true hi
   have HP := A_ (And.intro hi Qe)
   clear hi Qe
   go_wp2_with (first | ((with_reducible refine dN (N := 25) rfl ?_); refine Kd.kH Kd.string (w0 := wr) wr.heap.size 9 ?hg (N := 25) ?hd (xs := [⟨#[49]⟩, ⟨#[50]⟩]) (inner := [.string ⟨#[49]⟩, .string ⟨#[50]⟩]) (ok := fun _ => True) (okp := fun _ => False) ?hr (Kd.aX (enc := Value.string) [⟨#[49]⟩, ⟨#[50]⟩]) (fun _ h => h.elim) trivial (Below.refl _ _) (Nat.le_refl _) (by simp) ?_; (case hd => rfl); (case hg => rfl); (case hr => first | (go_simp; done) | (go_simp; rfl)); intro v1 w8 ho hb hg hn; obtain ⟨oo, mi, rfl⟩ : ∃ A c, v1 = .slice A 2 c := Kd.av ho; have aj : af (Cv w w2 w8 g l0 (200000 + 2 * (i : Int)) [iT A1 c1 K, [txt u8 V], [txt (.slice oo 2 mi) [⟨#[49]⟩, ⟨#[50]⟩]]]) := ⟨HC.out.lit hb ho⟩; clear HC ho hb hg hn; have HC := aj; clear aj) | (go_at_call 88; (with_reducible refine (HC.out.of (by have := HP.out; omega) 2 rfl (by decide)).mono ?_); rintro e w9 ⟨x, rfl, hc⟩; have aj : af (Cv w w2 w9 g l0 (200000 + 2 * (i : Int) + 2) [iT A1 c1 K, [txt u8 V], [txt (.slice oo 2 mi) [⟨#[49]⟩, ⟨#[50]⟩]]]) := ⟨hc.le (by omega)⟩; clear HC hc; have HC := aj; clear aj) | ((with_reducible refine dN (N := 27) rfl ?_); refine Kd.kH Kd.string (w0 := w9) w9.heap.size 9 ?hg (N := 27) ?hd (xs := [x]) (inner := [.string x]) (ok := fun _ => True) (okp := fun _ => False) ?hr (Kd.aX (enc := Value.string) [x]) (fun _ h => h.elim) trivial (Below.refl _ _) (Nat.le_refl _) (by simp) ?_; (case hd => rfl); (case hg => rfl); (case hr => first | (go_simp; done) | (go_simp; rfl)); intro v2 uK ho hb hg hn; obtain ⟨I8, Cn, rfl⟩ : ∃ A c, v2 = .slice A 1 c := Kd.av ho; have aj : af (Cv w w2 uK g l0 (200000 + 2 * (i : Int) + 2) [iT A1 c1 K, [txt u8 V], [txt (.slice oo 2 mi) [⟨#[49]⟩, ⟨#[50]⟩]], [txt (.slice I8 1 Cn) [x]]]) := ⟨HC.out.lit hb ho⟩; clear HC ho hb hg hn; have HC := aj; clear aj) | ((with_reducible refine bQ (b := .append) (xs := #[.tmp 23, .tmp 27]) rfl ?_); at_builtin; refine Kd.dV Kd.string (w0 := uK) w2.heap.size rfl (.tmp 23) (.tmp 27) 38 9 (.string ⟨#[]⟩) 16 rfl Try.underlying38 dh rfl (by decide) (by omega) u8 V [x] I8 1 Cn (fun _ => True) (fun _ => False) rfl rfl (aa.sr HC.out.S 1 rfl) (zV HC.out.S 3 rfl) (fun _ _ h => h) (fun _ h => h.elim) (fun _ _ => trivial) (Below.refl _ _) HC.out.size (by have := HI.out; have := HP.out; omega) ?_; intro u1 xM ho hb hg hat; have aj : af (Cv w w2 xM g l0 (200000 + 2 * (i : Int) + 2) [iT A1 c1 K, [txt u1 (V ++ [x])]]) := ⟨(HC.out.app 1 rfl ho hg hat).iN [0, 1] (by decide)⟩; clear HC ho hb hg hat; have HC := aj; clear aj))
   go_roundg (K.length - (i + 1))
   case measure => have := HI.out; have := HP.out; omega
   case rel => exact ⟨i + 1, V ++ [x], by have := HP.out; rw [Go.Proofs.Ytoddejmlcnbdmaa.Pure.eY (by omega) (by omega)]; congr 1, ⟨by have := HP.out; omega, by have := HP.out; omega, by have := HI.out; rw [List.length_append, List.length_singleton]; omega⟩, ⟨HC.out.le (by omega)⟩⟩
  ·have c_ := kT ((i : Int) < (K.length : Int))
   have Hf : (i < K.length) = False := eq_false hi
   obtain ⟨A2, c2, rfl⟩ := Kd.av (HC.out.S.sr 1 rfl)
   have TN : af (V.length <= 40) := ⟨by have := HI.out; omega⟩
   have HM := A_ Qe
   clear hi Qe
   by_cases hk0 : 0 < K.length
   ·have XP := kZ ((0 : Int) < (K.length : Int))
    have TL : (0 < K.length) = True := eq_true hk0
    have IB := A_ hk0
    clear hk0
    go_upto_if 36 with (first | (go_at_call 91; (with_reducible refine (HC.out.one (by have := HM.out; omega) 12).mono ?_); rintro e ym ⟨o, rfl, hc⟩; clear HC; have HC := A_ hc; clear hc))
    cases o with
    | true =>
     obtain ⟨gk, ck, ek, _⟩ := Kd.q8 (HC.out.S.sr 0 rfl) IB.out
     injection ek with e1 _ e3
     subst e1
     subst e3
     have zk_ := jF (HC.out.S.sr 0 rfl) ⟨IB.out, rfl⟩
     have fk_ := iK (HC.out.S.sr 0 rfl) IB.out 0
     go_wp2
     go_ret2
     have := xD (HC.out.uG 0 rfl ⟨#[122, 122, 122]⟩ IB.out) (by rw [List.length_set]; exact Qd.out) TN.out
     exact this
    | false =>
     go_wp2
     go_ret2
     exact xD HC.out Qd.out TN.out
   ·have XP := kT ((0 : Int) < (K.length : Int))
    have TL : (0 < K.length) = False := eq_false hk0
    clear hk0
    go_wp2
    go_ret2
    exact xD HC.out Qd.out TN.out
theorem xE.runs (A0 : Option Addr) (c0 : Nat) (l0 : List Int) (hcd : Go.Proofs.Ytoddejmlcnbdmaa.Pure.Code l0) (w : World) (hr0 : Kd.C (Kd.int .u8) w A0 l0.length l0) : Calls Try.prog 53 #[.slice A0 l0.length c0] w (fun e w' => ∃ x y, e = .returned (.tuple #[.string x, .string y]) /\ Below w.heap.size w w') := by
 have TM := A_ hcd
 have HR := A_ hr0
 clear hcd hr0
 go_enter Try.func53, Try.ntmps53
 go_wp2_with (first | (refine jf 7 #[.slice A0 l0.length c0, .int .i64 0, .int .u64 0] 105 ?_; intro g hg w2 aC hb; have HC := A_ (Cv.start TM.out HR.out (Below.refl _ _) hg aC hb); clear hg aC hb) | ((with_reducible refine dN (N := 9) rfl ?_); refine Kd.kH Kd.string (w0 := w2) w2.heap.size 9 ?hg (N := 9) ?hd (xs := [⟨#[97]⟩, ⟨#[]⟩, ⟨#[116, 119, 101, 108, 118, 101, 32, 98, 121, 116, 101, 115]⟩, ⟨#[116, 104, 105, 114, 116, 101, 101, 110, 32, 98, 121, 116, 101]⟩]) (inner := [.string ⟨#[97]⟩, .string ⟨#[]⟩, .string ⟨#[116, 119, 101, 108, 118, 101, 32, 98, 121, 116, 101, 115]⟩, .string ⟨#[116, 104, 105, 114, 116, 101, 101, 110, 32, 98, 121, 116, 101]⟩]) (ok := fun _ => True) (okp := fun _ => False) ?hr (Kd.aX (enc := Value.string) [⟨#[97]⟩, ⟨#[]⟩, ⟨#[116, 119, 101, 108, 118, 101, 32, 98, 121, 116, 101, 115]⟩, ⟨#[116, 104, 105, 114, 116, 101, 101, 110, 32, 98, 121, 116, 101]⟩]) (fun _ h => h.elim) trivial (Below.refl _ _) (Nat.le_refl _) (by simp) ?_; (case hd => rfl); (case hg => rfl); (case hr => first | (go_simp; done) | (go_simp; rfl)); intro v1 w4 ho hb hg hn; obtain ⟨oo, mi, rfl⟩ : ∃ A c, v1 = .slice A 4 c := Kd.av ho; have aj : af (Cv w w2 w4 g l0 0 [[txt (.slice oo 4 mi) [⟨#[97]⟩, ⟨#[]⟩, ⟨#[116, 119, 101, 108, 118, 101, 32, 98, 121, 116, 101, 115]⟩, ⟨#[116, 104, 105, 114, 116, 101, 101, 110, 32, 98, 121, 116, 101]⟩]]]) := ⟨HC.out.lit hb ho⟩; clear HC ho hb hg hn; have HC := aj; clear aj) | (go_at_call 88; (with_reducible refine (HC.out.of (by decide) 0 rfl (by decide)).mono ?_); rintro e w5 ⟨x, rfl, hc⟩; have aj : af (Cv w w2 w5 g l0 2 [[txt (.slice oo 4 mi) [⟨#[97]⟩, ⟨#[]⟩, ⟨#[116, 119, 101, 108, 118, 101, 32, 98, 121, 116, 101, 115]⟩, ⟨#[116, 104, 105, 114, 116, 101, 101, 110, 32, 98, 121, 116, 101]⟩]]]) := ⟨hc.le (by omega)⟩; clear HC hc; have HC := aj; clear aj) | ((with_reducible refine dN (N := 12) rfl ?_); refine Kd.kH Kd.string (w0 := w5) w5.heap.size 9 ?hg (N := 12) ?hd (xs := [⟨#[]⟩, ⟨#[118]⟩, ⟨#[116, 104, 105, 114, 116, 101, 101, 110, 32, 98, 121, 116, 101]⟩]) (inner := [.string ⟨#[]⟩, .string ⟨#[118]⟩, .string ⟨#[116, 104, 105, 114, 116, 101, 101, 110, 32, 98, 121, 116, 101]⟩]) (ok := fun _ => True) (okp := fun _ => False) ?hr (Kd.aX (enc := Value.string) [⟨#[]⟩, ⟨#[118]⟩, ⟨#[116, 104, 105, 114, 116, 101, 101, 110, 32, 98, 121, 116, 101]⟩]) (fun _ h => h.elim) trivial (Below.refl _ _) (Nat.le_refl _) (by simp) ?_; (case hd => rfl); (case hg => rfl); (case hr => first | (go_simp; done) | (go_simp; rfl)); intro v2 w6 ho hb hg hn; obtain ⟨I8, Cn, rfl⟩ : ∃ A c, v2 = .slice A 3 c := Kd.av ho; have aj : af (Cv w w2 w6 g l0 2 [[txt (.slice oo 4 mi) [⟨#[97]⟩, ⟨#[]⟩, ⟨#[116, 119, 101, 108, 118, 101, 32, 98, 121, 116, 101, 115]⟩, ⟨#[116, 104, 105, 114, 116, 101, 101, 110, 32, 98, 121, 116, 101]⟩]], [txt (.slice I8 3 Cn) [⟨#[]⟩, ⟨#[118]⟩, ⟨#[116, 104, 105, 114, 116, 101, 101, 110, 32, 98, 121, 116, 101]⟩]]]) := ⟨HC.out.lit hb ho⟩; clear HC ho hb hg hn; have HC := aj; clear aj) | (go_at_call 88; (with_reducible refine (HC.out.of (by decide) 1 rfl (by decide)).mono ?_); rintro e w7 ⟨y, rfl, hc⟩; have aj : af (Cv w w2 w7 g l0 4 [[txt (.slice oo 4 mi) [⟨#[97]⟩, ⟨#[]⟩, ⟨#[116, 119, 101, 108, 118, 101, 32, 98, 121, 116, 101, 115]⟩, ⟨#[116, 104, 105, 114, 116, 101, 101, 110, 32, 98, 121, 116, 101]⟩]], [txt (.slice I8 3 Cn) [⟨#[]⟩, ⟨#[118]⟩, ⟨#[116, 104, 105, 114, 116, 101, 101, 110, 32, 98, 121, 116, 101]⟩]]]) := ⟨hc.le (by omega)⟩; clear HC hc; have HC := aj; clear aj))
 go_ret2
 exact ⟨x, y, rfl, HC.out.B⟩
end Go.Proofs.Ytoddejmlcnbdmaa.Tree
namespace Go.Proofs.Ytoddejmlcnbdmaa.Fn
def cu.l0 : Nat -> List ByteArray -> List ByteArray -> Int -> Int -> Option (Bool)
 | 0, _, _, _, _ => none
 | k + 1, x0, x1, VR, I9 => if I9 < VR then (if 0 <= I9 then (if I9 < (x0.length : Int) then (if I9 < (x1.length : Int) then (if (bI ByteArray.empty x0 I9).toList = (bI ByteArray.empty x1 I9).toList then (cu.l0 k x0 x1 VR (wrap64 (I9 + 1))) else (some false)) else (none)) else (none)) else (none)) else (some true)
def cu.f (k : Nat) (l0 : List ByteArray) (l1 : List ByteArray) : Option (Bool) := if (l0.length : Int) = (l1.length : Int) then (cu.l0 k l0 l1 (l0.length : Int) 0) else (some false)
theorem cu.calls (k : Nat) (A0 : Option Addr) (c0 : Nat) (l0 : List ByteArray) (A1 : Option Addr) (c1 : Nat) (l1 : List ByteArray) (r : Bool) (w : World) (hr0 : Kd.C Kd.string w A0 l0.length l0) (hc0 : l0.length <= c0) (hr1 : Kd.C Kd.string w A1 l1.length l1) (hc1 : l1.length <= c1) (h : cu.f k l0 l1 = some r) :
  Calls Try.prog 51 #[.slice A0 l0.length c0, .slice A1 l1.length c1] w fun e w' => e = .returned (.bool r) /\ ay w w' := by
 have mV := A_ hr0
 have rG := A_ hc0
 clear hr0 hc0
 have HR1 := A_ hr1
 have Bi := A_ hc1
 clear hr1 hc1
 have H : (if (l0.length : Int) = (l1.length : Int) then (cu.l0 k l0 l1 (l0.length : Int) 0) else (some false)) = some r := h
 clear h
 by_cases c3 : (l0.length : Int) = (l1.length : Int)
 ·rw [if_pos c3] at H
  have sP : ((l0.length : Int) == (l1.length : Int)) = true := beq_iff_eq.mpr c3
  have EE : ((l0.length : Int) != (l1.length : Int)) = false := bne_eq_false_iff_eq.mpr c3
  have OL : (l0.length == l1.length) = true := by first | simpa using c3 | (simp at c3 ⊢; omega)
  clear c3
  have H' := A_ H
  clear H
  go_enter Try.func51, Try.ntmps51
  go_wp2
  repeat (go_quiet (fail); try go_wp2)
  go_loopg [13] k (fun kq v13 w' => ∃ (bU : Int), v13 = .int .i64 bU /\ af (cu.l0 kq l0 l1 (l0.length : Int) bU = some r) /\ af (kq <= k) /\ ay w w')
  case atStart => exact ⟨(0), (by first | rfl | (simp; done) | (simp [*]; done)), H', ⟨Nat.le_refl _⟩, by repeat (first | exact ay.refl _ | apply ay.step)⟩
  case round =>
   clear H'
   (try clear c1); (try clear p2); (try clear c3); (try clear sP); (try clear EE); (try clear OL)
   obtain ⟨bU, rfl, HA, yJ, ⟨m1, rfl⟩⟩ := hrel
   cases gk with
   | zero => exact absurd HA.out (by simp [cu.l0])
   | succ k1 =>
    have H := HA.out
    clear HA
    simp only [cu.l0] at H
    by_cases c4 : bU < (l0.length : Int)
    ·rw [if_pos c4] at H
     have rU : decide (bU < (l0.length : Int)) = true := decide_eq_true c4
     clear c4
     by_cases c5 : 0 <= bU
     ·rw [if_pos c5] at H
      have EC : decide (0 <= bU) = true := decide_eq_true c5
      clear c5
      by_cases c6 : bU < (l0.length : Int)
      ·rw [if_pos c6] at H
       have c6b0 : decide (bU < (l0.length : Int)) = true := decide_eq_true c6
       clear c6
       by_cases c7 : bU < (l1.length : Int)
       ·rw [if_pos c7] at H
        have Gh : decide (bU < (l1.length : Int)) = true := decide_eq_true c7
        clear c7
        by_cases c8 : (bI ByteArray.empty l0 bU).toList = (bI ByteArray.empty l1 bU).toList
        ·rw [if_pos c8] at H
         have IV : ((bI ByteArray.empty l0 bU).toList == (bI ByteArray.empty l1 bU).toList) = true := beq_iff_eq.mpr c8
         have N9 : ((bI ByteArray.empty l0 bU).toList != (bI ByteArray.empty l1 bU).toList) = false := bne_eq_false_iff_eq.mpr c8
         clear c8
         have H' := A_ H
         clear H
         have Ja : 0 <= (bU : Int) := of_decide_eq_true iL
         have Jb : bU < (l0.length : Int) := of_decide_eq_true iL
         obtain ⟨ad439, TP, hx439_0⟩ := Kd.bF mV.out bU Ja Jb
         cases TP
         replace Ja := eq_true Ja
         replace Jb := eq_true Jb
         have Jc : 0 <= (bU : Int) := of_decide_eq_true iL
         have Jd : bU < (l1.length : Int) := of_decide_eq_true iL
         obtain ⟨ad440, TQ, hx440_0⟩ := Kd.bF HR1.out bU Jc Jd
         cases TQ
         replace Jc := eq_true Jc
         replace Jd := eq_true Jd
         go_wp2
         repeat (go_quiet (fail); try go_wp2)
         go_roundg k1
         case measure => have := yJ.out; omega
         case rel => exact ⟨(wrap64 (bU + 1)), (by first | rfl | (simp; done) | (simp [*]; done)), H', ⟨by have := yJ.out; omega⟩, by repeat (first | exact ay.refl _ | apply ay.step)⟩
        ·rw [if_neg c8] at H
         have IV : ((bI ByteArray.empty l0 bU).toList == (bI ByteArray.empty l1 bU).toList) = false := beq_eq_false_iff_ne.mpr c8
         have N9 : ((bI ByteArray.empty l0 bU).toList != (bI ByteArray.empty l1 bU).toList) = true := bne_iff_ne.mpr c8
         obtain rfl := Option.some.inj H
         have Ja : 0 <= (bU : Int) := of_decide_eq_true iL
         have Jb : bU < (l0.length : Int) := of_decide_eq_true iL
         obtain ⟨ad439, TP, hx439_0⟩ := Kd.bF mV.out bU Ja Jb
         cases TP
         replace Ja := eq_true Ja
         replace Jb := eq_true Jb
         have Jc : 0 <= (bU : Int) := of_decide_eq_true iL
         have Jd : bU < (l1.length : Int) := of_decide_eq_true iL
         obtain ⟨ad440, TQ, hx440_0⟩ := Kd.bF HR1.out bU Jc Jd
         cases TQ
         replace Jc := eq_true Jc
         replace Jd := eq_true Jd
         go_wp2
         repeat (go_quiet (fail); try go_wp2)
         go_ret
         exact ⟨by first | rfl | (simp; done) | (simp [*]; done), by repeat (first | exact ay.refl _ | apply ay.step)⟩
       ·rw [if_neg c7] at H
        exact absurd H (by simp)
      ·rw [if_neg c6] at H
       exact absurd H (by simp)
     ·rw [if_neg c5] at H
      exact absurd H (by simp)
    ·rw [if_neg c4] at H
     have rU : decide (bU < (l0.length : Int)) = false := decide_eq_false c4
     clear c4
     obtain rfl := Option.some.inj H
     go_wp2
     repeat (go_quiet (fail); try go_wp2)
     go_ret
     exact ⟨by first | rfl | (simp; done) | (simp [*]; done), by repeat (first | exact ay.refl _ | apply ay.step)⟩
 ·rw [if_neg c3] at H
  have sP : ((l0.length : Int) == (l1.length : Int)) = false := beq_eq_false_iff_ne.mpr c3
  have EE : ((l0.length : Int) != (l1.length : Int)) = true := bne_iff_ne.mpr c3
  have OL : (l0.length == l1.length) = false := by first | simpa using c3 | (simp at c3 ⊢; omega)
  obtain rfl := Option.some.inj H
  go_enter Try.func51, Try.ntmps51
  go_wp2
  repeat (go_quiet (fail); try go_wp2)
  go_ret
  exact ⟨by first | rfl | (simp; done) | (simp [*]; done), by repeat (first | exact ay.refl _ | apply ay.step)⟩
def df.l0 : Nat -> List Int -> List Int -> Int -> Int -> Option (Bool)
 | 0, _, _, _, _ => none
 | k + 1, x0, x1, VR, I9 => if I9 < VR then (if 0 <= I9 then (if I9 < (x0.length : Int) then (if I9 < (x1.length : Int) then (if (rd x0 I9) = (rd x1 I9) then (df.l0 k x0 x1 VR (wrap64 (I9 + 1))) else (some false)) else (none)) else (none)) else (none)) else (some true)
def df.f (k : Nat) (l0 : List Int) (l1 : List Int) : Option (Bool) := if (l0.length : Int) = (l1.length : Int) then (df.l0 k l0 l1 (l0.length : Int) 0) else (some false)
theorem df.calls (k : Nat) (A0 : Option Addr) (c0 : Nat) (l0 : List Int) (A1 : Option Addr) (c1 : Nat) (l1 : List Int) (r : Bool) (w : World) (hr0 : Kd.C (Kd.int .i64) w A0 l0.length l0) (hc0 : l0.length <= c0) (hr1 : Kd.C (Kd.int .i64) w A1 l1.length l1) (hc1 : l1.length <= c1) (h : df.f k l0 l1 = some r) :
  Calls Try.prog 90 #[.slice A0 l0.length c0, .slice A1 l1.length c1] w fun e w' => e = .returned (.bool r) /\ ay w w' := by
 have mV := A_ hr0
 have rG := A_ hc0
 clear hr0 hc0
 have HR1 := A_ hr1
 have Bi := A_ hc1
 clear hr1 hc1
 have H : (if (l0.length : Int) = (l1.length : Int) then (df.l0 k l0 l1 (l0.length : Int) 0) else (some false)) = some r := h
 clear h
 by_cases c3 : (l0.length : Int) = (l1.length : Int)
 ·rw [if_pos c3] at H
  have sP : ((l0.length : Int) == (l1.length : Int)) = true := beq_iff_eq.mpr c3
  have EE : ((l0.length : Int) != (l1.length : Int)) = false := bne_eq_false_iff_eq.mpr c3
  have OL : (l0.length == l1.length) = true := by first | simpa using c3 | (simp at c3 ⊢; omega)
  clear c3
  have H' := A_ H
  clear H
  go_enter Try.func90, Try.ntmps90
  go_wp2
  repeat (go_quiet (fail); try go_wp2)
  go_loopg [13] k (fun kq v13 w' => ∃ (bU : Int), v13 = .int .i64 bU /\ af (df.l0 kq l0 l1 (l0.length : Int) bU = some r) /\ af (kq <= k) /\ ay w w')
  case atStart => exact ⟨(0), (by first | rfl | (simp; done) | (simp [*]; done)), H', ⟨Nat.le_refl _⟩, by repeat (first | exact ay.refl _ | apply ay.step)⟩
  case round =>
   clear H'
   (try clear c1); (try clear p2); (try clear c3); (try clear sP); (try clear EE); (try clear OL)
   obtain ⟨bU, rfl, HA, yJ, ⟨m1, rfl⟩⟩ := hrel
   cases gk with
   | zero => exact absurd HA.out (by simp [df.l0])
   | succ k1 =>
    have H := HA.out
    clear HA
    simp only [df.l0] at H
    by_cases c4 : bU < (l0.length : Int)
    ·rw [if_pos c4] at H
     have rU : decide (bU < (l0.length : Int)) = true := decide_eq_true c4
     clear c4
     by_cases c5 : 0 <= bU
     ·rw [if_pos c5] at H
      have EC : decide (0 <= bU) = true := decide_eq_true c5
      clear c5
      by_cases c6 : bU < (l0.length : Int)
      ·rw [if_pos c6] at H
       have c6b0 : decide (bU < (l0.length : Int)) = true := decide_eq_true c6
       clear c6
       by_cases c7 : bU < (l1.length : Int)
       ·rw [if_pos c7] at H
        have Gh : decide (bU < (l1.length : Int)) = true := decide_eq_true c7
        clear c7
        by_cases c8 : (rd l0 bU) = (rd l1 bU)
        ·rw [if_pos c8] at H
         have IV : ((rd l0 bU) == (rd l1 bU)) = true := beq_iff_eq.mpr c8
         have N9 : ((rd l0 bU) != (rd l1 bU)) = false := bne_eq_false_iff_eq.mpr c8
         clear c8
         have H' := A_ H
         clear H
         have Je : 0 <= (bU : Int) := of_decide_eq_true iL
         have Jf : bU < (l0.length : Int) := of_decide_eq_true iL
         obtain ⟨ad441, TR, hx441_0⟩ := Kd.pV mV.out bU Je Jf
         cases TR
         replace Je := eq_true Je
         replace Jf := eq_true Jf
         have Jg : 0 <= (bU : Int) := of_decide_eq_true iL
         have Jh : bU < (l1.length : Int) := of_decide_eq_true iL
         obtain ⟨ad442, TS, hx442_0⟩ := Kd.pV HR1.out bU Jg Jh
         cases TS
         replace Jg := eq_true Jg
         replace Jh := eq_true Jh
         go_wp2
         repeat (go_quiet (fail); try go_wp2)
         go_roundg k1
         case measure => have := yJ.out; omega
         case rel => exact ⟨(wrap64 (bU + 1)), (by first | rfl | (simp; done) | (simp [*]; done)), H', ⟨by have := yJ.out; omega⟩, by repeat (first | exact ay.refl _ | apply ay.step)⟩
        ·rw [if_neg c8] at H
         have IV : ((rd l0 bU) == (rd l1 bU)) = false := beq_eq_false_iff_ne.mpr c8
         have N9 : ((rd l0 bU) != (rd l1 bU)) = true := bne_iff_ne.mpr c8
         obtain rfl := Option.some.inj H
         have Je : 0 <= (bU : Int) := of_decide_eq_true iL
         have Jf : bU < (l0.length : Int) := of_decide_eq_true iL
         obtain ⟨ad441, TR, hx441_0⟩ := Kd.pV mV.out bU Je Jf
         cases TR
         replace Je := eq_true Je
         replace Jf := eq_true Jf
         have Jg : 0 <= (bU : Int) := of_decide_eq_true iL
         have Jh : bU < (l1.length : Int) := of_decide_eq_true iL
         obtain ⟨ad442, TS, hx442_0⟩ := Kd.pV HR1.out bU Jg Jh
         cases TS
         replace Jg := eq_true Jg
         replace Jh := eq_true Jh
         go_wp2
         repeat (go_quiet (fail); try go_wp2)
         go_ret
         exact ⟨by first | rfl | (simp; done) | (simp [*]; done), by repeat (first | exact ay.refl _ | apply ay.step)⟩
       ·rw [if_neg c7] at H
        exact absurd H (by simp)
      ·rw [if_neg c6] at H
       exact absurd H (by simp)
     ·rw [if_neg c5] at H
      exact absurd H (by simp)
    ·rw [if_neg c4] at H
     have rU : decide (bU < (l0.length : Int)) = false := decide_eq_false c4
     clear c4
     obtain rfl := Option.some.inj H
     go_wp2
     repeat (go_quiet (fail); try go_wp2)
     go_ret
     exact ⟨by first | rfl | (simp; done) | (simp [*]; done), by repeat (first | exact ay.refl _ | apply ay.step)⟩
 ·rw [if_neg c3] at H
  have sP : ((l0.length : Int) == (l1.length : Int)) = false := beq_eq_false_iff_ne.mpr c3
  have EE : ((l0.length : Int) != (l1.length : Int)) = true := bne_iff_ne.mpr c3
  have OL : (l0.length == l1.length) = false := by first | simpa using c3 | (simp at c3 ⊢; omega)
  obtain rfl := Option.some.inj H
  go_enter Try.func90, Try.ntmps90
  go_wp2
  repeat (go_quiet (fail); try go_wp2)
  go_ret
  exact ⟨by first | rfl | (simp; done) | (simp [*]; done), by repeat (first | exact ay.refl _ | apply ay.step)⟩
end Go.Proofs.Ytoddejmlcnbdmaa.Fn
namespace Go.Proofs.Ytoddejmlcnbdmaa.Pure
open Go.Proofs.Ytoddejmlcnbdmaa.Fn
theorem F3 (l : List Int) (hl : l.length <= 1048576) : Ev (fun k => df.f k l l) true := by
 have h := Mx (fun k i => df.l0 k l l l.length i) l.length true ?_ ?_
 ·simp only [df.f]
  (repeat (first | with_reducible refine Ev.jM ?_ | (with_reducible refine Ev.wQ ?_ ?_; (· exact ic)) | (with_reducible refine Ev.xe ?_ ?_; (· exact ic))))
  exact h
 ·intro k
  simp only [df.l0]
  rw [if_neg (by omega)]
 ·intro i hi
  refine ⟨0, fun k _ => ?_⟩
  simp only [df.l0]
  rw [if_pos (by omega), if_pos (by omega), if_pos (by omega), if_pos (by omega), if_pos trivial, ou (by omega)]
theorem En (l : List ByteArray) (hl : l.length <= 1048576) : Ev (fun k => cu.f k l l) true := by
 have h := Mx (fun k i => cu.l0 k l l l.length i) l.length true ?_ ?_
 ·simp only [cu.f]
  (repeat (first | with_reducible refine Ev.jM ?_ | (with_reducible refine Ev.wQ ?_ ?_; (· exact ic)) | (with_reducible refine Ev.xe ?_ ?_; (· exact ic))))
  exact h
 ·intro k
  simp only [cu.l0]
  rw [if_neg (by omega)]
 ·intro i hi
  refine ⟨0, fun k _ => ?_⟩
  simp only [cu.l0]
  rw [if_pos (by omega), if_pos (by omega), if_pos (by omega), if_pos (by omega), if_pos trivial, ou (by omega)]
end Go.Proofs.Ytoddejmlcnbdmaa.Pure
namespace Go.Proofs.Ytoddejmlcnbdmaa.Tree
set_option maxHeartbeats 8000000
set_option maxRecDepth 100000
theorem rE {A0 A1 : Option Addr} {c0 c1 : Nat} {l : List ByteArray} {w : World} (hl : l.length <= 1048576) (hr0 : Kd.C Kd.string w A0 l.length l) (hc0 : l.length <= c0) (hr1 : Kd.C Kd.string w A1 l.length l) (hc1 : l.length <= c1) : Calls Try.prog 51 #[.slice A0 l.length c0, .slice A1 l.length c1] w fun e w' => e = .returned (.bool true) /\ ay w w' := by
 obtain ⟨k, hk⟩ := Go.Proofs.Ytoddejmlcnbdmaa.Pure.En l hl
 exact cu.calls k A0 c0 l A1 c1 l true w hr0 hc0 hr1 hc1 (hk k (Nat.le_refl _))
theorem Lf {A0 A1 : Option Addr} {c0 c1 : Nat} {l : List Int} {w : World} (hl : l.length <= 1048576) (hr0 : Kd.C (Kd.int .i64) w A0 l.length l) (hc0 : l.length <= c0) (hr1 : Kd.C (Kd.int .i64) w A1 l.length l) (hc1 : l.length <= c1) : Calls Try.prog 90 #[.slice A0 l.length c0, .slice A1 l.length c1] w fun e w' => e = .returned (.bool true) /\ ay w w' := by
 obtain ⟨k, hk⟩ := Go.Proofs.Ytoddejmlcnbdmaa.Pure.F3 l hl
 exact df.calls k A0 c0 l A1 c1 l true w hr0 hc0 hr1 hc1 (hk k (Nat.le_refl _))
structure Eo (w : World) (ad : Addr) (i : Nat) (v0 v1 v2 : Value) (y : bH) : Prop where
 x0 : w.cell? (ad.add (i * 3)) = some v0
 x1 : w.cell? ⟨(ad.add (i * 3)).block, (ad.add (i * 3)).off + 1, none⟩ = some v1
 x2 : w.cell? ⟨(ad.add (i * 3)).block, (ad.add (i * 3)).off + 2, none⟩ = some v2
theorem J6 {w : World} {A : Option Addr} {xs : List bH} {i : Nat} {y : bH} (h : Kd.C jX w A xs.length xs) (hi : xs[i]? = some y) : ∃ ad A0 c0 A1 c1 A2 c2, A = some ad /\ Eo w ad i (.slice A0 y.f0.length c0) (.slice A1 y.f1.length c1) (.slice A2 y.f2.length c2) y /\ (y.f0.length <= c0 /\ Kd.string.C w A0 y.f0.length y.f0) /\ (y.f1.length <= c1 /\ Kd.string.C w A1 y.f1.length y.f1) /\ (y.f2.length <= c2 /\ (Kd.int .i64).C w A2 y.f2.length y.f2) := by
 have hlt := (List.getElem?_eq_some_iff.1 hi).1
 have hy : eO xs (i : Int) = y := by unfold eO; rw [Int.toNat_natCast, List.getD_eq_getElem?_getD, hi]; rfl
 obtain ⟨ad, A0, c0, A1, c1, A2, c2, e, x0, x1, x2, l0, i0, l1, i1, l2, i2⟩ := DL h (i : Int) (by omega) (by omega)
 rw [hy] at x0 x1 x2 l0 i0 l1 i1 l2 i2
 rw [Int.toNat_natCast] at x0 x1 x2
 exact ⟨ad, A0, c0, A1, c1, A2, c2, e, ⟨x0, x1, x2⟩, ⟨l0, i0⟩, ⟨l1, i1⟩, ⟨l2, i2⟩⟩
theorem Eo.below {w w1 : World} {ad : Addr} {i : Nat} {v0 v1 v2 : Value} {y : bH} (h : Eo w ad i v0 v1 v2 y) (hb : Below w.heap.size w w1) : Eo w1 ad i v0 v1 v2 y :=
 ⟨(hb.cell (World.block_lt_of_cell? w _ h.x0)).trans h.x0, (hb.cell (World.block_lt_of_cell? w _ h.x1)).trans h.x1, (hb.cell (World.block_lt_of_cell? w _ h.x2)).trans h.x2⟩
theorem Dx {w W : World} {g : Nat} (h : Below w.heap.size w W) (hg : w.heap.size <= g) (u0 u1 u2 : Value) : Below w.heap.size w (((W.setCell ⟨g, 0, none⟩ u0).setCell ⟨g, 1, none⟩ u1).setCell ⟨g, 2, none⟩ u2) := bM (bM (bM h hg) hg) hg
theorem AY (A0 A1 : Option Addr) (c0 c1 : Nat) (l : List bH) (w : World) (hl : l.length <= 1048576) (hs : ∀ p ∈ l, p.f0.length <= 1048576 /\ p.f1.length <= 1048576 /\ p.f2.length <= 1048576) (hr0 : Kd.C jX w A0 l.length l) (hc0 : l.length <= c0) (hr1 : Kd.C jX w A1 l.length l) (hc1 : l.length <= c1) :
  Calls Try.prog 46 #[.agg #[.slice A0 l.length c0], .agg #[.slice A1 l.length c1]] w fun e w' => e = .returned (.bool true) /\ Below w.heap.size w w' := by
 have HL := A_ hl
 have HM := A_ hs
 have mV := A_ hr0
 have HR1 := A_ hr1
 have HS : af (aa w w.heap.size []) := ⟨Sat.nil _ _⟩
 have HB := A_ (Below.refl w.heap.size w)
 clear hl hs hr0 hr1 hc0 hc1
 have cq : ((l.length : Int) != (l.length : Int)) = false := by simp
 go_enter Try.func46, Try.ntmps46
 go_wp2_with (first | (refine jf 2 #[.slice A0 l.length c0] 29 ?_; intro g2 hg w1 aC hb; have aj : af (aa w1 w.heap.size [[.box 29 g2 #[.slice A0 l.length c0]]]) := ⟨HS.out.gI hg aC hb HB.out.size⟩; have az := A_ (au HB.out hb); clear HS HB hg aC hb; have HS := aj; have HB := az; clear aj az) | (refine jf 3 #[.slice A1 l.length c1] 29 ?_; intro g3 hg w2 aC hb; have aj : af (aa w2 w.heap.size [[.box 29 g2 #[.slice A0 l.length c0]], [.box 29 g3 #[.slice A1 l.length c1]]]) := ⟨HS.out.gI hg aC hb HB.out.size⟩; have az := A_ (au HB.out hb); clear HS HB hg aC hb; have HS := aj; have HB := az; clear aj az; have hz2 := (HS.out.z 0 rfl 0).trans rfl; have hz3 := (HS.out.z 1 rfl 0).trans rfl))
 go_loopg [18] l.length (fun kq v18 w' => ∃ i : Nat, v18 = .int .i64 (i : Int) /\ af (i <= l.length /\ kq + i = l.length) /\ af (aa w' w.heap.size [[.box 29 g2 #[.slice A0 l.length c0]], [.box 29 g3 #[.slice A1 l.length c1]]]) /\ af (Below w.heap.size w w'))
 case atStart => exact ⟨0, by first | rfl | (simp; done), ⟨Nat.zero_le _, by first | rfl | omega⟩, HS, HB⟩
 case round =>
  clear HS HB hz2 hz3 cq
  obtain ⟨i, rfl, HI, HS, HB⟩ := hrel
  by_cases hi : i < l.length
  ·have c_ := kZ ((i : Int) < (l.length : Int))
   have Hf : (i < l.length) = True := eq_true hi
   have QD := dJ (0 <= (i : Int))
   have QE := dJ ((i : Int) < (l.length : Int))
   have HP := A_ hi
   have hx : l[i]? = some l[i] := List.getElem?_eq_getElem hi
   have HY := A_ (HM.out l[i] (List.getElem_mem hi))
   generalize l[i] = y at hx HY
   obtain ⟨ad, P0, d0, P1, d1, P2, d2, e, hp, hi0, hi1, hi2⟩ := J6 mV.out hx
   subst e
   obtain ⟨ae, Q0, e0, Q1, e1, Q2, e2, e, hq, hj0, hj1, hj2⟩ := J6 HR1.out hx
   subst e
   have HPG := A_ hp
   have HQG := A_ hq
   have HI0 := A_ (And.intro hi0 hj0)
   have HI1 := A_ (And.intro hi1 hj1)
   have HI2 := A_ (And.intro hi2 hj2)
   clear hi hx hp hq hi0 hi1 hi2 hj0 hj1 hj2
   obtain ⟨XU, XV, XW⟩ := HPG.out.below HB.out
   have hz2 := (HS.out.z 0 rfl 0).trans rfl
   go_upto_region 6 with (first | (refine jf 6 #[.slice none 0 0, .slice none 0 0, .slice none 0 0] 110 ?_; intro g6 hg w5 aC hb; have aj : af (aa w5 w.heap.size [[.box 29 g2 #[.slice (some ad) l.length c0]], [.box 29 g3 #[.slice (some ae) l.length c1]], mM 110 g6 none 0 0 none 0 0 none 0 0]) := ⟨HS.out.gI hg aC hb HB.out.size⟩; have az := A_ (au HB.out hb); clear HS HB hg aC hb; have HS := aj; have HB := az; clear aj az; have TT := aa.z0 HS.out 2 rfl; have TU := aa.z1 HS.out 2 rfl; have TV := aa.z2 HS.out 2 rfl; have TW := aa.f HS.out 2 rfl 0; have TY := aa.f HS.out 2 rfl 1; have TZ := aa.f HS.out 2 rfl 2))
   have aj : af (aa (World.setCell (World.setCell (World.setCell w5 ⟨g6, 0, none⟩ (.slice P0 y.f0.length d0)) ⟨g6, 1, none⟩ (.slice P1 y.f1.length d1)) ⟨g6, 2, none⟩ (.slice P2 y.f2.length d2)) w.heap.size [[.box 29 g2 #[.slice (some ad) l.length c0]], [.box 29 g3 #[.slice (some ae) l.length c1]], mM 110 g6 P0 y.f0.length d0 P1 y.f1.length d1 P2 y.f2.length d2]) := ⟨aa.vY (aa.yD (aa.yC HS.out 2 rfl (.slice P0 y.f0.length d0)) 2 rfl (.slice P1 y.f1.length d1)) 2 rfl (.slice P2 y.f2.length d2)⟩
   have az := A_ (Dx HB.out (aa.ge HS.out 2 rfl) (.slice P0 y.f0.length d0) (.slice P1 y.f1.length d1) (.slice P2 y.f2.length d2))
   generalize World.setCell (World.setCell (World.setCell w5 ⟨g6, 0, none⟩ (.slice P0 y.f0.length d0)) ⟨g6, 1, none⟩ (.slice P1 y.f1.length d1)) ⟨g6, 2, none⟩ (.slice P2 y.f2.length d2) = w6 at aj az ⊢
   clear HS HB TT TU TV TW TY TZ; have HS := aj; have HB := az; clear aj az
   clear XU XV XW hz2
   obtain ⟨XU, XV, XW⟩ := HQG.out.below HB.out
   have hz3 := (HS.out.z 1 rfl 0).trans rfl
   go_upto_region 7 with (first | (refine jf 7 #[.slice none 0 0, .slice none 0 0, .slice none 0 0] 110 ?_; intro g7 hg w7 aC hb; have aj : af (aa w7 w.heap.size [[.box 29 g2 #[.slice (some ad) l.length c0]], [.box 29 g3 #[.slice (some ae) l.length c1]], mM 110 g6 P0 y.f0.length d0 P1 y.f1.length d1 P2 y.f2.length d2, mM 110 g7 none 0 0 none 0 0 none 0 0]) := ⟨HS.out.gI hg aC hb HB.out.size⟩; have az := A_ (au HB.out hb); clear HS HB hg aC hb; have HS := aj; have HB := az; clear aj az; have TT := aa.z0 HS.out 3 rfl; have TU := aa.z1 HS.out 3 rfl; have TV := aa.z2 HS.out 3 rfl; have TW := aa.f HS.out 3 rfl 0; have TY := aa.f HS.out 3 rfl 1; have TZ := aa.f HS.out 3 rfl 2))
   have aj : af (aa (World.setCell (World.setCell (World.setCell w7 ⟨g7, 0, none⟩ (.slice Q0 y.f0.length e0)) ⟨g7, 1, none⟩ (.slice Q1 y.f1.length e1)) ⟨g7, 2, none⟩ (.slice Q2 y.f2.length e2)) w.heap.size [[.box 29 g2 #[.slice (some ad) l.length c0]], [.box 29 g3 #[.slice (some ae) l.length c1]], mM 110 g6 P0 y.f0.length d0 P1 y.f1.length d1 P2 y.f2.length d2, mM 110 g7 Q0 y.f0.length e0 Q1 y.f1.length e1 Q2 y.f2.length e2]) := ⟨aa.vY (aa.yD (aa.yC HS.out 3 rfl (.slice Q0 y.f0.length e0)) 3 rfl (.slice Q1 y.f1.length e1)) 3 rfl (.slice Q2 y.f2.length e2)⟩
   have az := A_ (Dx HB.out (aa.ge HS.out 3 rfl) (.slice Q0 y.f0.length e0) (.slice Q1 y.f1.length e1) (.slice Q2 y.f2.length e2))
   generalize World.setCell (World.setCell (World.setCell w7 ⟨g7, 0, none⟩ (.slice Q0 y.f0.length e0)) ⟨g7, 1, none⟩ (.slice Q1 y.f1.length e1)) ⟨g7, 2, none⟩ (.slice Q2 y.f2.length e2) = w8 at aj az ⊢
   clear HS HB TT TU TV TW TY TZ; have HS := aj; have HB := az; clear aj az
   clear XU XV XW hz3
   have zp0_ := aa.z0 HS.out 2 rfl
   have zp1_ := aa.z1 HS.out 2 rfl
   have zp2_ := aa.z2 HS.out 2 rfl
   have zq0_ := aa.z0 HS.out 3 rfl
   have zq1_ := aa.z1 HS.out 3 rfl
   have zq2_ := aa.z2 HS.out 3 rfl
   go_wp2_with (first | (go_at_call 51; (with_reducible refine (rE (l := y.f0) HY.out.1 ?s1 HI0.out.1.1 ?s2 HI0.out.2.1).mono ?_); (case s1 => repeat (first | exact Kd.ax HI0.out.1.2 HB.out | (with_reducible refine Kd.dC ?_ _))); (case s2 => repeat (first | exact Kd.ax HI0.out.2.2 HB.out | (with_reducible refine Kd.dC ?_ _))); rintro e w' ⟨rfl, ⟨nd, rfl⟩⟩) | (go_at_call 51; (with_reducible refine (rE (l := y.f1) HY.out.2.1 ?s1 HI1.out.1.1 ?s2 HI1.out.2.1).mono ?_); (case s1 => repeat (first | exact Kd.ax HI1.out.1.2 HB.out | (with_reducible refine Kd.dC ?_ _))); (case s2 => repeat (first | exact Kd.ax HI1.out.2.2 HB.out | (with_reducible refine Kd.dC ?_ _))); rintro e w' ⟨rfl, ⟨nd, rfl⟩⟩) | (go_at_call 90; (with_reducible refine (Lf (l := y.f2) HY.out.2.2 ?s1 HI2.out.1.1 ?s2 HI2.out.2.1).mono ?_); (case s1 => repeat (first | exact Kd.ax HI2.out.1.2 HB.out | (with_reducible refine Kd.dC ?_ _))); (case s2 => repeat (first | exact Kd.ax HI2.out.2.2 HB.out | (with_reducible refine Kd.dC ?_ _))); rintro e w' ⟨rfl, ⟨nd, rfl⟩⟩))
   go_roundg (l.length - (i + 1))
   case measure => have := HI.out; have := HP.out; omega
   case rel => exact ⟨i + 1, by have := HL.out; have := HP.out; rw [Go.Proofs.Ytoddejmlcnbdmaa.Pure.eY (by omega) (by omega)]; congr 1, ⟨by have := HP.out; omega, by have := HP.out; omega⟩, ⟨by (with_reducible repeat refine aa.drewN ?_ _); exact HS.out.iN [0, 1] (by decide)⟩, ⟨by (with_reducible repeat apply ah); exact HB.out⟩⟩
  ·have c_ := kT ((i : Int) < (l.length : Int))
   have Hf : (i < l.length) = False := eq_false hi
   clear hi
   go_wp2
   go_ret
   exact ⟨rfl, HB.out⟩
end Go.Proofs.Ytoddejmlcnbdmaa.Tree
namespace Go.Proofs.Ytoddejmlcnbdmaa.Fn
open Go.Proofs.Ytoddejmlcnbdmaa.Tree
theorem rF {p0 p1 q : Prop} (h0 : p0) (h1 : p1) (h : p0 -> p1 -> q := by intro p9 Qa; repeat (first | (with_reducible first | exact p9 | apply ah | apply bC | refine bM ?_ Qa) | exact p9)) : q := h h0 h1
theorem Ep {p0 q : Prop} (h0 : p0) (h : p0 -> q := by intro p9; repeat (first | exact p9 | (with_reducible refine Sat.drewN ?_ _) | (with_reducible refine Sat.drew ?_))) : q := h h0
open Go.Proofs.Ytoddejmlcnbdmaa.Pure (wm mR pK aW jk kI iE jv mY bJ mQ)
set_option maxHeartbeats 8000000
set_option maxRecDepth 100000
def iV : List ByteArray -> List ByteArray -> PT -> PT
 | k :: K, v :: V, t => iV K V (ni t k v)
 | _, _, t => t
def iR : PT := .mk [] [] []
theorem tZ {k v : ByteArray} : ∀ {i : Nat} {K V : List ByteArray} {t : PT}, K[i]? = some k -> V[i]? = some v -> iV (K.take (i + 1)) (V.take (i + 1)) t = ni (iV (K.take i) (V.take i) t) k v
 | 0, [], V, t, h, _ => by simp at h
 | 0, a :: K, [], t, _, h => by simp at h
 | 0, a :: K, b :: V, t, h1, h2 => by
  have e1 : a = k := by simpa using h1
  have e2 : b = v := by simpa using h2
  subst e1 e2
  rfl
 | i + 1, [], V, t, h, _ => by simp at h
 | i + 1, a :: K, [], t, _, h => by simp at h
 | i + 1, a :: K, b :: V, t, h1, h2 => by
  rw [List.getElem?_cons_succ] at h1 h2
  exact tZ (i := i) (K := K) (V := V) (t := ni t a b) h1 h2
theorem wG : wm iR := ⟨Go.Proofs.Ytoddejmlcnbdmaa.Tree.bL.2 ⟨⟨rfl, (by show 0 <= 4; omega), .inl rfl⟩, fun c hc => by cases hc⟩, List.Pairwise.nil, ⟨1, .inl ⟨rfl, rfl⟩⟩, fun e => absurd rfl e⟩
def lU (K V : List ByteArray) : List bH × Bool := if K.length = V.length /\ K.length <= 40 /\ lG K V none = true then (iF (iV K V iR) 0, true) else ([], false)
def gY.f (l0 l1 : List ByteArray) : Option (List bH × Bool) := if l0.length <= 2000000 /\ l1.length <= 2000000 then some (lU l0 l1) else none
def gZ.f (k : Nat) (l0 l1 : List ByteArray) : Option (List bH × Bool) := if l0.length <= 2000000 /\ l1.length <= 2000000 then (bR.f k l0 l1).bind fun b => some (if b = true then (iF (iV l0 l1 iR) 0, true) else ([], false)) else none
theorem Nc {K V : List ByteArray} {b : Bool} : ∀ {k m : Nat}, k <= m -> bR.f k K V = some b -> bR.f m K V = some b := by
 intro k m h e
 obtain ⟨d, rfl⟩ := Nat.exists_eq_add_of_le h
 clear h
 induction d with
 | zero => exact e
 | succ d ih => exact bR.mono K V (k + d) b ih
theorem Nf {K V : List ByteArray} {b : Bool} {k : Nat} (hK : K.length <= 2000000) (hV : V.length <= 2000000) (h : bR.f k K V = some b) : b = mQ K V := by
 obtain ⟨m, hm⟩ := Go.Proofs.Ytoddejmlcnbdmaa.Pure.sw K V (by omega) (by omega)
 have h1 := Nc (Nat.le_max_left k m) h
 have h2 : bR.f (max k m) K V = some (mQ K V) := hm _ (Nat.le_max_right k m)
 rw [h1] at h2
 exact Option.some.inj h2
theorem F4 {w : World} {base T E g : Nat} {L : List Ck} (h : Sat w base (.box T g #[.slice none 0 0, .slice none 0 0, .slice none 0 0] :: L)) : Sat w base ((NT.mk g (.slice none 0 0) (.slice none 0 0) (.slice none 0 0) [] [] []).dI T E ++ L) := by
 have hn : Ck.ok w base (txt (.slice none 0 0) []) := rX (Kd.vI _ _ _ _ _)
 have hq : Ck.ok w base (.jE E (.slice none 0 0) []) := xU (ps := []) (Kd.zI (Kd.vI _ _ _ _ _))
 have h3 := ((h.Ap hq rfl).Ap hn rfl).Ap hn rfl
 refine h3.perm ?_
 rw [NT.dI, NT.bE]
 show List.Perm (_ :: _ :: _ :: _ :: L) (_ :: _ :: _ :: _ :: L)
 refine (List.Perm.trans (l₂ := .box T g #[.slice none 0 0, .slice none 0 0, .slice none 0 0] :: txt (.slice none 0 0) [] :: txt (.slice none 0 0) [] :: .jE E (.slice none 0 0) [] :: L) ?_ (List.Perm.refl _))
 refine (((List.Perm.swap _ _ _).cons _).cons _).trans ?_
 refine ((List.Perm.swap _ _ _).cons _).trans ?_
 exact List.Perm.swap _ _ _
theorem gY.nK (A0 : Option Addr) (c0 : Nat) (l0 : List ByteArray) (A1 : Option Addr) (c1 : Nat) (l1 : List ByteArray) (r1 : List bH) (r2 : Bool) (w : World) (hr0 : Kd.C Kd.string w A0 l0.length l0) (hc0 : l0.length <= c0) (hr1 : Kd.C Kd.string w A1 l1.length l1) (hc1 : l1.length <= c1) (h : gY.f l0 l1 = some (r1, r2)) :
  Calls Try.prog 42 #[.slice A0 l0.length c0, .slice A1 l1.length c1] w fun e w' => ∃ iy : Value, e = .returned (.tuple #[.agg #[iy], .bool r2]) /\ fG w' w.heap.size iy r1 /\ Below w.heap.size w w' := by
 unfold gY.f at h
 have Ux := A_ hr0
 have Qc := A_ hr1
 have HD0 := A_ hc0
 have HD1 := A_ hc1
 clear hr0 hc0 hr1 hc1
 by_cases hok : l0.length <= 2000000 /\ l1.length <= 2000000
 ·rw [if_pos hok] at h
  obtain ⟨hm0, hm1⟩ := hok
  have h := Option.some.inj h
  unfold lU at h
  by_cases hll : l0.length = l1.length
  ·skip
   have n1 : ((l0.length : Int) != (l1.length : Int)) = false := Hu hll
   have n2 : (l0.length != l1.length) = false := uB hll
   by_cases Oo : l0.length <= 40
   ·have c40 := kT ((40 : Int) < (l0.length : Int))
    obtain ⟨B, hB⟩ : ∃ B, B = lG l0 l1 none := ⟨_, rfl⟩
    have Gl := A_ (show B = lG (l0.drop 0) (l1.drop 0) (jw l0 0) from hB)
    have XX : af ((if B = true then (iF (iV l0 l1 iR) 0, true) else (([] : List bH), false)) = (r1, r2)) := ⟨by
     rw [<- h]
     by_cases hb : lG l0 l1 none = true
     ·rw [if_pos (by rw [hB]; exact hb), if_pos ⟨hll, Oo, hb⟩]
     ·rw [if_neg (by rw [hB]; exact hb), if_neg (fun c => hb c.2.2)]⟩
    have VS := A_ hll
    clear h hB hll
    go_enter Try.func42, Try.ntmps42
    go_upto_region 4 with (first | (refine jf 4 #[.slice none 0 0] 29 ?_; intro g6 hg w1 aC hb; have HB := A_ (Below.refl w.heap.size w); have o8 := A_ (show w.heap.size <= g6 from by rw [hg]; exact Below.size HB.out); have aj := A_ (au HB.out hb); clear HB; have HB := aj; have eP := A_ aC; clear aj hg aC hb) | (refine jf 21 #[.slice none 0 0, .slice none 0 0, .slice none 0 0] 96 ?_; intro g7 hg w2 aC hb; have HS := A_ (F4 (E := 70) (Sat.gI (Sat.one (c := .box 29 g6 #[.slice none 0 0]) ⟨o8.out, eP.out⟩) hg aC hb (Below.size HB.out))); have aj := A_ (au HB.out hb); clear HB eP; have HB := aj; clear aj hg aC hb))
    go_wp2_with fail
    go_loopg [6, 24] l0.length (fun kq u6 u24 w' => ∃ (i : Nat) (t1 : NT), u6 = bG t1.p /\ u24 = .int .i64 (i : Int) /\ af (i <= l0.length /\ kq + i = l0.length) /\ af (t1.erase = iV (l0.take i) (l1.take i) iR /\ wm t1.erase /\ (aW t1.erase).length <= i) /\ af (B = lG (l0.drop i) (l1.drop i) (jw l0 i)) /\ af (Sat w' w.heap.size (t1.dI 96 70 ++ [.box 29 g6 #[.slice none 0 0]])) /\ af (Below w.heap.size w w'))
    case atStart => exact ⟨0, NT.mk g7 (.slice none 0 0) (.slice none 0 0) (.slice none 0 0) [] [] [], by first | rfl | (simp; done), by first | rfl | (simp; done), ⟨by omega⟩, ⟨rfl, wG, Nat.le_refl _⟩, Gl, HS, HB⟩
    case round =>
     clear HB HS Gl
     obtain ⟨i, t1, rfl, rfl, HK, HT1, Gl, HS, HB⟩ := hrel
     have ci := dJ (0 <= (i : Int))
     by_cases hi : i < l0.length
     ·have ce := kZ ((i : Int) < (l0.length : Int))
      have xL : (i < l0.length) = True := eq_true hi
      have LF : i < l1.length := by have := VS.out; omega
      have WX := dJ ((i : Int) < (l1.length : Int))
      have WY : (i < l1.length) = True := eq_true LF
      have HI := A_ hi
      have hil : i < 2000000 := by omega
      obtain ⟨PM, hA1, hk0⟩ := Kd.bF (Kd.ax Ux.out HB.out) (i : Int) (by omega) (by omega)
      obtain ⟨IA, hA2, hv0⟩ := Kd.bF (Kd.ax Qc.out HB.out) (i : Int) (by omega) (by omega)
      rw [Int.toNat_natCast] at hk0 hv0
      have hks : l0[i]? = some (bI ByteArray.empty l0 (i : Int)) := by unfold bI; rw [Int.toNat_natCast, List.getD_eq_getElem?_getD, List.getElem?_eq_getElem hi]; rfl
      have hvs : l1[i]? = some (bI ByteArray.empty l1 (i : Int)) := by unfold bI; rw [Int.toNat_natCast, List.getD_eq_getElem?_getD, List.getElem?_eq_getElem LF]; rfl
      generalize bI ByteArray.empty l0 (i : Int) = kx at hk0 hks
      generalize bI ByteArray.empty l1 (i : Int) = vx at hv0 hvs
      have kD := A_ hks
      have NM := A_ hvs
      have HA1 := A_ hA1
      subst hA1
      subst hA2
      obtain ⟨XY, tq⟩ : ∃ p, t1.p = p := ⟨_, rfl⟩
      have HC := A_ (fun (W : World) (hs : Sat W w.heap.size (t1.dI 96 70 ++ [.box 29 g6 #[.slice none 0 0]])) (hb : w.heap.size <= W.heap.size) => Au.calls t1 kx vx HT1.out.2.1.bnd w.heap.size _ W hs hb)
      rw [tq] at HC ⊢
      clear hks hvs hi LF tq
      cases hpr : pq kx vx with
      | false =>
       have EG := A_ ((nV kx vx).trans (by rw [hpr]))
       have hbf := Fp Gl.out kD.out NM.out hpr
       clear hpr
       have h := XX.out
       rw [hbf] at h
       have h : (([] : List bH), false) = (r1, r2) := h
       injection h with e1 e2
       subst e1
       subst e2
       have eP := A_ (HS.out.cell (T := 29) (p := g6) (cs := #[.slice none 0 0]) (List.mem_append_right _ List.mem_cons_self))
       have wT := (ak eP.out 0).trans rfl; have wU := aY eP.out 0
       clear hbf
       go_wp2_with (first | (go_at_call 75; (with_reducible refine (cK.calls kx vx false _ EG.out).mono ?_); rintro e w' ⟨rfl, ⟨nd, rfl⟩⟩))
       refine bodyPost_ret (cZ rfl _ _ g6 29 #[.slice none 0 0] (0, 0) _ rfl (by (with_reducible repeat (first | refine bS ?_ _ | refine cz ?_ )); refine dH (cs := #[.slice none 0 0]) ?_ 0 _ rfl; (with_reducible repeat (first | refine bS ?_ _ | refine cz ?_)); exact eP.out) Try.underlying29 rfl (by kernel_rfl)) rfl ?_
       exact ⟨_, rfl, fG.nil _ _, (rF HB.out o8.out)⟩
      | true =>
       have EG := A_ ((nV kx vx).trans (by rw [hpr]))
       have NN := A_ hpr
       clear hpr
       by_cases hi0 : 0 < i
       ·have t0 := kZ (0 < (i : Int))
        have WZ : (0 < i) = True := eq_true hi0
        obtain ⟨ji, hji⟩ : ∃ j : Int, j = (i : Int) - 1 := ⟨_, rfl⟩
        have hjw : IntKind.i64.wrap ((i : Int) - 1) = ji := by rw [IntWalk.i64_in _ (by omega)]; exact hji.symm
        obtain ⟨W9, hA3, hp0⟩ := Kd.bF (Kd.ax Ux.out HB.out) ji (by omega) (by have := HI.out; omega)
        obtain rfl : PM = W9 := Option.some.inj hA3
        have hps : jw l0 i = some (bI ByteArray.empty l0 ji) := by
         obtain ⟨j, rfl⟩ : ∃ j, i = j + 1 := ⟨i - 1, by omega⟩
         have e : ji.toNat = j := by omega
         show l0[j]? = _
         unfold bI
         rw [e, List.getD_eq_getElem?_getD, List.getElem?_eq_getElem (by have := HI.out; omega)]
         rfl
        generalize bI ByteArray.empty l0 ji = px at hp0 hps
        have cj0 := dJ (0 <= ji)
        have cj1 : (ji < (l0.length : Int)) = True := eq_true (by have := HI.out; omega)
        have cj2 := kZ (0 <= ji)
        have cj3 : decide (ji < (l0.length : Int)) = true := decide_eq_true (by have := HI.out; omega)
        have PR := A_ hps
        clear hps hi0 hji
        cases hlt : wP px kx with
        | true =>
         have R8 := A_ (DW Gl.out kD.out NM.out NN.out (fun p hp => by rw [PR.out] at hp; injection hp with hp; rw [<- hp]; exact hlt))
         have hl' : Op.bytesLess px.toList kx.toList = true := hlt
         clear hlt
         go_wp2_with (first | (go_at_call 75; (with_reducible refine (cK.calls kx vx true _ EG.out).mono ?_); rintro e w' ⟨rfl, ⟨nd, rfl⟩⟩) | (go_at_call 76; (with_reducible refine (HC.out _ ?s1 ?s2).mono ?_); (case s1 => exact Ep HS.out); (case s2 => first | exact Below.size HB.out | exact Below.size (ah HB.out _)); rintro e w9 ⟨t2, rfl, ht1, ht2, ht3⟩; have HB2 : af (Below w.heap.size w w9) := ⟨Below.trans (by first | exact HB.out | exact ah HB.out _) ht3⟩; have HS2 := A_ ht2; have HT2 : af (t2.erase = iV (l0.take (i + 1)) (l1.take (i + 1)) iR /\ wm t2.erase /\ (aW t2.erase).length <= i + 1) := ⟨by obtain ⟨q1, q2⟩ := mR HT1.out.2.1 kx vx; rw [ht1]; exact ⟨by rw [tZ kD.out NM.out, HT1.out.1], q1, by rw [q2]; have := jv (k := kx) (v := vx) (aW t1.erase); have := HT1.out.2.2; omega⟩⟩; clear HC ht1 ht2 ht3))
         go_roundg (l0.length - (i + 1))
         case measure => have := HK.out; have := HI.out; omega
         case rel => exact ⟨i + 1, t2, by first | rfl | (simp; done), by first | rfl | go_num | (simp; done), ⟨by have := HK.out; have := HI.out; omega⟩, HT2, R8, HS2, HB2⟩
        | false =>
         have hbf := Fq Gl.out kD.out PR.out hlt
         have hl' : Op.bytesLess px.toList kx.toList = false := hlt
         clear hlt
         have h := XX.out
         rw [hbf] at h
         have h : (([] : List bH), false) = (r1, r2) := h
         injection h with e1 e2
         subst e1
         subst e2
         have eP := A_ (HS.out.cell (T := 29) (p := g6) (cs := #[.slice none 0 0]) (List.mem_append_right _ List.mem_cons_self))
         have wT := (ak eP.out 0).trans rfl; have wU := aY eP.out 0
         clear hbf
         go_wp2_with (first | (go_at_call 75; (with_reducible refine (cK.calls kx vx true _ EG.out).mono ?_); rintro e w' ⟨rfl, ⟨nd, rfl⟩⟩))
         refine bodyPost_ret (cZ rfl _ _ g6 29 #[.slice none 0 0] (0, 0) _ rfl (by (with_reducible repeat (first | refine bS ?_ _ | refine cz ?_ )); refine dH (cs := #[.slice none 0 0]) ?_ 0 _ rfl; (with_reducible repeat (first | refine bS ?_ _ | refine cz ?_)); exact eP.out) Try.underlying29 rfl (by kernel_rfl)) rfl ?_
         exact ⟨_, rfl, fG.nil _ _, (rF HB.out o8.out)⟩
       ·have t0 := kT (0 < (i : Int))
        have WZ : (0 < i) = False := eq_false hi0
        have R8 := A_ (DW Gl.out kD.out NM.out NN.out (fun p hp => by have h_ : i = 0 := (by omega); rw [h_] at hp; cases hp))
        clear hi0
        go_wp2_with (first | (go_at_call 75; (with_reducible refine (cK.calls kx vx true _ EG.out).mono ?_); rintro e w' ⟨rfl, ⟨nd, rfl⟩⟩) | (go_at_call 76; (with_reducible refine (HC.out _ ?s1 ?s2).mono ?_); (case s1 => exact Ep HS.out); (case s2 => first | exact Below.size HB.out | exact Below.size (ah HB.out _)); rintro e w9 ⟨t2, rfl, ht1, ht2, ht3⟩; have HB2 : af (Below w.heap.size w w9) := ⟨Below.trans (by first | exact HB.out | exact ah HB.out _) ht3⟩; have HS2 := A_ ht2; have HT2 : af (t2.erase = iV (l0.take (i + 1)) (l1.take (i + 1)) iR /\ wm t2.erase /\ (aW t2.erase).length <= i + 1) := ⟨by obtain ⟨q1, q2⟩ := mR HT1.out.2.1 kx vx; rw [ht1]; exact ⟨by rw [tZ kD.out NM.out, HT1.out.1], q1, by rw [q2]; have := jv (k := kx) (v := vx) (aW t1.erase); have := HT1.out.2.2; omega⟩⟩; clear HC ht1 ht2 ht3))
        go_roundg (l0.length - (i + 1))
        case measure => have := HK.out; have := HI.out; omega
        case rel => exact ⟨i + 1, t2, by first | rfl | (simp; done), by first | rfl | go_num | (simp; done), ⟨by have := HK.out; have := HI.out; omega⟩, HT2, R8, HS2, HB2⟩
     ·have ce := kT ((i : Int) < (l0.length : Int))
      have xL : (i < l0.length) = False := eq_false hi
      have hin : i = l0.length := by have := HK.out; omega
      have XZ : af (t1.erase = iV l0 l1 iR) := ⟨by rw [HT1.out.1, hin, List.take_length, VS.out, List.take_length]⟩
      obtain ⟨XY, tq⟩ : ∃ p, t1.p = p := ⟨_, rfl⟩
      have rV := A_ (nD.calls t1 HT1.out.2.1.bnd (by have := HT1.out.2.1.small; have := HT1.out.2.2; omega) w.heap.size _ _ HS.out (Below.size HB.out))
      rw [tq] at rV ⊢
      have hbt := Jt Gl.out (by omega)
      have h := XX.out
      rw [if_pos hbt] at h
      injection h with e1 e2
      subst e1
      subst e2
      clear hi hin tq
      go_wp2_with (first | (go_at_call 77; (with_reducible refine (rV.out).mono ?_); rintro e w7 ⟨vo, pgs, rfl, he, hs3, hb3⟩; obtain ⟨Ao, co, rfl⟩ := fZ (hs3.ok (l9 vo pgs) (List.mem_append_right _ List.mem_cons_self)); have eP := A_ (hs3.cell (T := 29) (p := g6) (cs := #[.slice none 0 0]) (List.mem_append_right _ (List.mem_append_right _ List.mem_cons_self))); have yh := A_ hs3; have HE := A_ he; have aj := A_ (HB.out.trans hb3); clear HB; have HB := aj; clear aj hs3 hb3 he; have wT := (ak eP.out 0).trans rfl; have wU := aY eP.out 0))
      refine bodyPost_ret (cZ rfl _ _ g6 29 #[.slice Ao pgs.length co] (0, 0) _ rfl (dH (cs := #[.slice none 0 0]) eP.out 0 _ rfl) Try.underlying29 rfl (by kernel_rfl)) rfl ?_
      refine ⟨_, rfl, ?_, (rF HB.out o8.out)⟩
      exact ⟨Ao, co, pgs, rfl, by rw [HE.out, XZ.out], mF yh.out⟩
   ·have c40 := kZ ((40 : Int) < (l0.length : Int))
    rw [if_neg (fun c => Oo c.2.1)] at h
    injection h with e1 e2
    subst e1
    subst e2
    clear Oo hll
    go_enter Try.func42, Try.ntmps42
    go_wp2_with (first | (refine jf 4 #[.slice none 0 0] 29 ?_; intro g6 hg w1 aC hb; have HB := A_ (Below.refl w.heap.size w); have o8 := A_ (show w.heap.size <= g6 from by rw [hg]; exact Below.size HB.out); have aj := A_ (au HB.out hb); clear HB; have HB := aj; have eP := A_ aC; clear aj hg aC hb; have wT := (ak eP.out 0).trans rfl; have wU := aY eP.out 0))
    refine bodyPost_ret (cZ rfl _ _ g6 29 #[.slice none 0 0] (0, 0) _ rfl (by (with_reducible repeat (first | refine bS ?_ _ | refine cz ?_ )); refine dH (cs := #[.slice none 0 0]) ?_ 0 _ rfl; (with_reducible repeat (first | refine bS ?_ _ | refine cz ?_)); exact eP.out) Try.underlying29 rfl (by kernel_rfl)) rfl ?_
    exact ⟨_, rfl, fG.nil _ _, (rF HB.out o8.out)⟩
  ·skip
   have n1 : ((l0.length : Int) != (l1.length : Int)) = true := Mm hll
   have n2 : (l0.length != l1.length) = true := vL hll
   rw [if_neg (fun c => hll c.1)] at h
   injection h with e1 e2
   subst e1
   subst e2
   clear hll
   go_enter Try.func42, Try.ntmps42
   go_wp2_with (first | (refine jf 4 #[.slice none 0 0] 29 ?_; intro g6 hg w1 aC hb; have HB := A_ (Below.refl w.heap.size w); have o8 := A_ (show w.heap.size <= g6 from by rw [hg]; exact Below.size HB.out); have aj := A_ (au HB.out hb); clear HB; have HB := aj; have eP := A_ aC; clear aj hg aC hb; have wT := (ak eP.out 0).trans rfl; have wU := aY eP.out 0))
   refine bodyPost_ret (cZ rfl _ _ g6 29 #[.slice none 0 0] (0, 0) _ rfl (by (with_reducible repeat (first | refine bS ?_ _ | refine cz ?_ )); refine dH (cs := #[.slice none 0 0]) ?_ 0 _ rfl; (with_reducible repeat (first | refine bS ?_ _ | refine cz ?_)); exact eP.out) Try.underlying29 rfl (by kernel_rfl)) rfl ?_
   exact ⟨_, rfl, fG.nil _ _, (rF HB.out o8.out)⟩
 ·rw [if_neg hok] at h
  cases h
theorem gZ.nK (k : Nat) (A0 : Option Addr) (c0 : Nat) (l0 : List ByteArray) (A1 : Option Addr) (c1 : Nat) (l1 : List ByteArray) (r1 : List bH) (r2 : Bool) (w : World) (hr0 : Kd.C Kd.string w A0 l0.length l0) (hc0 : l0.length <= c0) (hr1 : Kd.C Kd.string w A1 l1.length l1) (hc1 : l1.length <= c1) (h : gZ.f k l0 l1 = some (r1, r2)) :
  Calls Try.prog 44 #[.slice A0 l0.length c0, .slice A1 l1.length c1] w fun e w' => ∃ iy : Value, e = .returned (.tuple #[.agg #[iy], .bool r2]) /\ fG w' w.heap.size iy r1 /\ Below w.heap.size w w' := by
 unfold gZ.f at h
 have Ux := A_ hr0
 have Qc := A_ hr1
 have HD0 := A_ hc0
 have HD1 := A_ hc1
 clear hr0 hc0 hr1 hc1
 by_cases hok : l0.length <= 2000000 /\ l1.length <= 2000000
 ·rw [if_pos hok] at h
  obtain ⟨hm0, hm1⟩ := hok
  obtain ⟨b, hb0, h⟩ := Option.bind_eq_some_iff.mp h
  have h := Option.some.inj h
  have hbq := Nf hm0 hm1 hb0
  have U8 := A_ hb0
  clear hb0
  cases b with
  | false =>
   have h : (([] : List bH), false) = (r1, r2) := h
   injection h with e1 e2
   subst e1
   subst e2
   clear hbq
   go_enter Try.func44, Try.ntmps44
   go_wp2_with (first | (refine jf 4 #[.slice none 0 0] 29 ?_; intro g6 hg w1 aC hb; have HB := A_ (Below.refl w.heap.size w); have o8 := A_ (show w.heap.size <= g6 from by rw [hg]; exact Below.size HB.out); have aj := A_ (au HB.out hb); clear HB; have HB := aj; have eP := A_ aC; clear aj hg aC hb; have wT := (ak eP.out 0).trans rfl; have wU := aY eP.out 0) | (go_at_call 86; (with_reducible refine (bR.calls k _ _ l0 _ _ l1 false _ ?s1 HD0.out ?s2 HD1.out U8.out).mono ?_); (case s1 => exact Kd.ax Ux.out HB.out); (case s2 => exact Kd.ax Qc.out HB.out); rintro e w' ⟨rfl, ⟨nd, rfl⟩⟩))
   refine bodyPost_ret (cZ rfl _ _ g6 29 #[.slice none 0 0] (0, 0) _ rfl (by (with_reducible repeat (first | refine bS ?_ _ | refine cz ?_ )); refine dH (cs := #[.slice none 0 0]) ?_ 0 _ rfl; (with_reducible repeat (first | refine bS ?_ _ | refine cz ?_)); exact eP.out) Try.underlying29 rfl (by kernel_rfl)) rfl ?_
   exact ⟨_, rfl, fG.nil _ _, (rF HB.out o8.out)⟩
  | true =>
   have h : (iF (iV l0 l1 iR) 0, true) = (r1, r2) := h
   injection h with e1 e2
   subst e1
   subst e2
   have hll : l0.length = l1.length /\ l0.length <= 40 := by
    unfold mQ at hbq
    have hbq := hbq.symm
    simp only [Bool.and_eq_true, decide_eq_true_eq] at hbq
    exact ⟨hbq.2.1.symm, hbq.1⟩
   obtain ⟨hll, Oo⟩ := hll
   have VS := A_ hll
   clear hbq hll
   go_enter Try.func44, Try.ntmps44
   go_upto_region 3 with (first | (refine jf 4 #[.slice none 0 0] 29 ?_; intro g6 hg w1 aC hb; have HB := A_ (Below.refl w.heap.size w); have o8 := A_ (show w.heap.size <= g6 from by rw [hg]; exact Below.size HB.out); have aj := A_ (au HB.out hb); clear HB; have HB := aj; have eP := A_ aC; clear aj hg aC hb) | (go_at_call 86; (with_reducible refine (bR.calls k _ _ l0 _ _ l1 true _ ?s1 HD0.out ?s2 HD1.out U8.out).mono ?_); (case s1 => exact Kd.ax Ux.out HB.out); (case s2 => exact Kd.ax Qc.out HB.out); rintro e w' ⟨rfl, ⟨nd, rfl⟩⟩))
   generalize hW : World.drewN w1 _ = w1b
   have aj := A_ (show Below w.heap.size w w1b by rw [<- hW]; exact ah HB.out _)
   have az := A_ (show w1b.heap[g6]? = some (.cells #[.slice none 0 0] 29 (0, 0)) by rw [<- hW]; exact bS eP.out _)
   clear HB eP hW
   have HB := aj
   have eP := az
   clear aj az
   go_upto_region 4 with (first | (refine jf 15 #[.slice none 0 0, .slice none 0 0, .slice none 0 0] 101 ?_; intro g7 hg w2 aC hb; have HS := A_ (F4 (E := 74) (Sat.gI (Sat.one (c := .box 29 g6 #[.slice none 0 0]) ⟨o8.out, eP.out⟩) hg aC hb (Below.size HB.out))); have aj := A_ (au HB.out hb); clear HB eP; have HB := aj; clear aj hg aC hb))
   go_wp2_with fail
   go_loopg [6, 18] l0.length (fun kq u6 u18 w' => ∃ (i : Nat) (t1 : NT), u6 = bG t1.p /\ u18 = .int .i64 (i : Int) /\ af (i <= l0.length /\ kq + i = l0.length) /\ af (t1.erase = iV (l0.take i) (l1.take i) iR /\ wm t1.erase /\ (aW t1.erase).length <= i) /\ af (Sat w' w.heap.size (t1.dI 101 74 ++ [.box 29 g6 #[.slice none 0 0]])) /\ af (Below w.heap.size w w'))
   case atStart => exact ⟨0, NT.mk g7 (.slice none 0 0) (.slice none 0 0) (.slice none 0 0) [] [] [], by first | rfl | (simp; done), by first | rfl | (simp; done), ⟨by omega⟩, ⟨rfl, wG, Nat.le_refl _⟩, HS, HB⟩
   case round =>
    clear HB HS
    obtain ⟨i, t1, rfl, rfl, HK, HT1, HS, HB⟩ := hrel
    have ci := dJ (0 <= (i : Int))
    by_cases hi : i < l0.length
    ·have ce := kZ ((i : Int) < (l0.length : Int))
     have xL : (i < l0.length) = True := eq_true hi
     have LF : i < l1.length := by have := VS.out; omega
     have WX := dJ ((i : Int) < (l1.length : Int))
     have WY : (i < l1.length) = True := eq_true LF
     have HI := A_ hi
     have hil : i < 2000000 := by omega
     obtain ⟨PM, hA1, hk0⟩ := Kd.bF (Kd.ax Ux.out HB.out) (i : Int) (by omega) (by omega)
     obtain ⟨IA, hA2, hv0⟩ := Kd.bF (Kd.ax Qc.out HB.out) (i : Int) (by omega) (by omega)
     rw [Int.toNat_natCast] at hk0 hv0
     have hks : l0[i]? = some (bI ByteArray.empty l0 (i : Int)) := by unfold bI; rw [Int.toNat_natCast, List.getD_eq_getElem?_getD, List.getElem?_eq_getElem hi]; rfl
     have hvs : l1[i]? = some (bI ByteArray.empty l1 (i : Int)) := by unfold bI; rw [Int.toNat_natCast, List.getD_eq_getElem?_getD, List.getElem?_eq_getElem LF]; rfl
     generalize bI ByteArray.empty l0 (i : Int) = kx at hk0 hks
     generalize bI ByteArray.empty l1 (i : Int) = vx at hv0 hvs
     have kD := A_ hks
     have NM := A_ hvs
     have HA1 := A_ hA1
     subst hA1
     subst hA2
     obtain ⟨XY, tq⟩ : ∃ p, t1.p = p := ⟨_, rfl⟩
     have HC := A_ (fun (W : World) (hs : Sat W w.heap.size (t1.dI 101 74 ++ [.box 29 g6 #[.slice none 0 0]])) (hb : w.heap.size <= W.heap.size) => KX.calls t1 kx vx HT1.out.2.1.bnd HT1.out.2.1.Ic w.heap.size _ W hs hb)
     rw [tq] at HC ⊢
     clear hks hvs hi LF tq
     go_wp2_with (first | (go_at_call 80; (with_reducible refine (HC.out _ ?s1 ?s2).mono ?_); (case s1 => exact Ep HS.out); (case s2 => first | exact Below.size HB.out | exact Below.size (ah HB.out _)); rintro e w9 ⟨t2, rfl, ht1, ht2, ht3⟩; have HB2 : af (Below w.heap.size w w9) := ⟨Below.trans (by first | exact HB.out | exact ah HB.out _) ht3⟩; have HS2 := A_ ht2; have HT2 : af (t2.erase = iV (l0.take (i + 1)) (l1.take (i + 1)) iR /\ wm t2.erase /\ (aW t2.erase).length <= i + 1) := ⟨by obtain ⟨q1, q2⟩ := mR HT1.out.2.1 kx vx; rw [ht1]; exact ⟨by rw [tZ kD.out NM.out, HT1.out.1], q1, by rw [q2]; have := jv (k := kx) (v := vx) (aW t1.erase); have := HT1.out.2.2; omega⟩⟩; clear HC ht1 ht2 ht3))
     go_roundg (l0.length - (i + 1))
     case measure => have := HK.out; have := HI.out; omega
     case rel => exact ⟨i + 1, t2, by first | rfl | (simp; done), by first | rfl | go_num | (simp; done), ⟨by have := HK.out; have := HI.out; omega⟩, HT2, HS2, HB2⟩
    ·have ce := kT ((i : Int) < (l0.length : Int))
     have xL : (i < l0.length) = False := eq_false hi
     have hin : i = l0.length := by have := HK.out; omega
     have XZ : af (t1.erase = iV l0 l1 iR) := ⟨by rw [HT1.out.1, hin, List.take_length, VS.out, List.take_length]⟩
     obtain ⟨XY, tq⟩ : ∃ p, t1.p = p := ⟨_, rfl⟩
     have rV := A_ (KW.calls t1 HT1.out.2.1.bnd (by have := HT1.out.2.1.small; have := HT1.out.2.2; omega) w.heap.size _ _ HS.out (Below.size HB.out))
     rw [tq] at rV ⊢
     clear hi hin tq
     go_wp2_with (first | (go_at_call 81; (with_reducible refine (rV.out).mono ?_); rintro e w7 ⟨vo, pgs, rfl, he, hs3, hb3⟩; obtain ⟨Ao, co, rfl⟩ := fZ (hs3.ok (l9 vo pgs) (List.mem_append_right _ List.mem_cons_self)); have eP := A_ (hs3.cell (T := 29) (p := g6) (cs := #[.slice none 0 0]) (List.mem_append_right _ (List.mem_append_right _ List.mem_cons_self))); have yh := A_ hs3; have HE := A_ he; have aj := A_ (HB.out.trans hb3); clear HB; have HB := aj; clear aj hs3 hb3 he; have wT := (ak eP.out 0).trans rfl; have wU := aY eP.out 0))
     refine bodyPost_ret (cZ rfl _ _ g6 29 #[.slice Ao pgs.length co] (0, 0) _ rfl (dH (cs := #[.slice none 0 0]) eP.out 0 _ rfl) Try.underlying29 rfl (by kernel_rfl)) rfl ?_
     refine ⟨_, rfl, ?_, (rF HB.out o8.out)⟩
     exact ⟨Ao, co, pgs, rfl, by rw [HE.out, XZ.out], mF yh.out⟩
 ·rw [if_neg hok] at h
  cases h
end Go.Proofs.Ytoddejmlcnbdmaa.Fn
namespace Go.Proofs.Ytoddejmlcnbdmaa.Pure
open Go.Proofs.Ytoddejmlcnbdmaa.Fn Go.Proofs.Ytoddejmlcnbdmaa.Tree
theorem Lg {α : Type} {P A Z : List α} {a n : Nat} (h : P.drop a = A ++ Z) (hn : A.length = n) : P.drop (a + n) = Z := by
 have := congrArg (List.drop n) h
 rw [List.drop_drop, List.drop_left' hn] at this
 exact this
theorem Dy {P : List bH} : ∀ (h f a : Nat) (t : PT) (Z : List bH), h <= f -> pW h t -> kC t -> P.drop a = iF t a ++ Z -> bX P f a = some (t, a + t.big)
 | 0, f, a, t, Z, _, hl, _, _ => hl.elim
 | h + 1, 0, a, t, Z, hf, _, _, _ => by omega
 | h + 1, f + 1, a, .mk ks vs cs, Z, hf, hl, hb, hd => by
  obtain ⟨⟨h1, h2, h3⟩, h4⟩ := bL.1 hb
  rw [iF, List.cons_append] at hd
  obtain ⟨p1, p2, p3⟩ := drop_cons hd
  have hg : P.getD a lF = ⟨ks, vs, starts cs (a + 1)⟩ := by rw [List.getD_eq_getElem?_getD, p2]; rfl
  have hk : ∀ s ∈ cs, pW h s := fun s hs => by
   rcases hl with ⟨e, _⟩ | ⟨_, e⟩
   ·have e : cs = [] := e
    rw [e] at hs
    cases hs
   ·exact (e s hs).1
  have key : ∀ (l : List PT) (next : Nat) (acc : List PT) (Z : List bH), (∀ s ∈ l, pW h s /\ kC s) -> P.drop next = nC l next ++ Z -> dQ (bX P f) (starts l next) next acc = some (acc ++ l, next + PT.iH l) := by
   intro l
   induction l with
   | nil =>
    intro next acc Z _ _
    rw [starts, dQ, List.append_nil]
    rfl
   | cons c l ih =>
    intro next acc Z hq hd
    rw [nC, List.append_assoc] at hd
    obtain ⟨q1, q2⟩ := hq c List.mem_cons_self
    rw [starts, dQ, if_neg (by simp), Dy h f next c _ (by omega) q1 q2 hd]
    show dQ (bX P f) (starts l (next + c.big)) (next + c.big) (acc ++ [c]) = _
    rw [ih (next + c.big) (acc ++ [c]) Z (fun s hs => hq s (List.mem_cons_of_mem _ hs)) (Lg hd (sJ c next)), List.append_assoc, PT.iH, Nat.add_assoc]
    rfl
  have h1 : vs.length = ks.length := h1
  have h2 : ks.length <= 4 := h2
  have h3 : cs.length = 0 ∨ cs.length = ks.length + 1 := h3
  refine ry (by omega) ?_ (by rw [hg]; rfl) (by rw [hg]; rfl) ?_
  ·rw [hg]
   unfold pR
   simp only [oN, Bool.or_eq_false_iff, Bool.and_eq_false_iff, decide_eq_false_iff_not, bne_eq_false_iff_eq]
   refine ⟨⟨by omega, h1⟩, ?_⟩
   rcases h3 with e | e
   ·exact .inl e
   ·exact .inr e
  ·rw [hg]
   show dQ (bX P f) (starts cs (a + 1)) (a + 1) [] = _
   rw [key cs (a + 1) [] Z (fun s hs => ⟨hk s hs, h4 s hs⟩) p3, PT.big, List.nil_append]
   simp only [PT.kids, Nat.add_assoc]
theorem J7 {g : Nat} {t : PT} (hs : mJ t) (hl : pW g t) (h : (bB t).length <= 40) : g <= 4 := by
 cases g with
 | zero => omega
 | succ g =>
  have h1 := yT g t hs hl
  rcases Nat.lt_or_ge g 4 with h2 | h2
  ·omega
  ·have h3 : 3 ^ 4 <= 3 ^ g := Nat.pow_le_pow_right (by omega) h2
   have h4 : 1 * 3 ^ g <= (t.keys.length + 1) * 3 ^ g := Nat.mul_le_mul_right _ (by omega)
   omega
theorem F5 {t : PT} (h : wm t) (hl : (bB t).length <= 40) (hc : lG (bB t) (dL t) none = true) : pz (iF t 0) = some t := by
 obtain ⟨g, hg⟩ := h.Ri
 have hsh := bJ h.bnd
 have h4 := J7 hsh hg hl
 have hsm := h.small
 rw [mY hsh] at hsm
 unfold pz
 rw [Dy g 10 0 t [] (by omega) hg h.bnd (by rw [List.drop_zero, List.append_nil])]
 simp only [sJ, Nat.zero_add, ne_eq, not_true, if_false, hc]
 rw [if_neg (by decide), if_neg]
 rintro (e | ⟨e1, e2⟩ | e)
 ·rcases vX _ t (Nat.le_refl _) (by omega) with ⟨_, _, e3⟩ | ⟨e3, _⟩
  ·omega
  ·exact e3 g hg
 ·have := h.root fun e => e1 (by rw [e]; rfl)
  omega
 ·omega
theorem F6 : ∀ (K V : List ByteArray) (t : PT), wm t -> K.length = V.length -> kJ (aW t ++ K.zip V) -> wm (iV K V t) /\ aW (iV K V t) = aW t ++ K.zip V
 | [], V, t, h, _, _ => by
  rw [show iV [] V t = t by cases V <;> rfl, List.zip_nil_left, List.append_nil]
  exact ⟨h, rfl⟩
 | k :: K, [], t, h, e, _ => by simp at e
 | k :: K, v :: V, t, h, e, hs => by
  obtain ⟨q1, q2⟩ := mR h k v
  rw [List.zip_cons_cons] at hs ⊢
  have hlt : ∀ x ∈ aW t, qd x.1 k := fun x hx => (List.pairwise_append.1 hs).2.2 x hx _ List.mem_cons_self
  have e2 : iE k v (aW t) = aW t ++ [(k, v)] := by
   have := sD (v := v) (l2 := []) hlt
   rw [List.append_nil] at this
   exact this
  rw [e2] at q2
  have e3 : aW t ++ (k, v) :: K.zip V = (aW t ++ [(k, v)]) ++ K.zip V := by rw [List.append_assoc]; rfl
  rw [e3, <- q2] at hs ⊢
  exact F6 K V _ q1 (by simpa using e) hs
theorem Iq {K V : List ByteArray} (h : (lU K V).2 = true) : pz (lU K V).1 = some (iV K V iR) /\ bB (iV K V iR) = K := by
 unfold lU at h ⊢
 split at h
 ·rename_i hc
  rw [if_pos hc]
  obtain ⟨c1, c2, c3⟩ := hc
  have h2 := c3
  rw [tQ _ _ _ c1, Bool.and_eq_true] at h2
  have hs : kJ (aW iR ++ K.zip V) := by
   have h3 := (zK _ _ h2.1).1
   rw [<- List.map_fst_zip (l₁ := K) (l₂ := V) (by omega)] at h3
   exact List.pairwise_map.1 h3
  obtain ⟨q1, q2⟩ := F6 K V iR wG c1 hs
  have q2 : aW (iV K V iR) = K.zip V := q2
  have hsh := bJ q1.bnd
  have ek : bB (iV K V iR) = K := by rw [xg hsh, q2, List.map_fst_zip (by omega)]
  have ev : dL (iV K V iR) = V := by rw [KH hsh, q2, List.map_snd_zip (by omega)]
  exact ⟨F5 q1 (by rw [ek]; exact c2) (by rw [ek, ev]; exact c3), ek⟩
 ·cases h
theorem Ng {key val : ByteArray} (h : (vw key val).2 = true) : (pz (vw key val).1).isSome = true := by
 unfold vw at h ⊢
 split at h
 ·rename_i hc
  rw [if_pos hc]
  have e : iF (.mk [key] [val] []) 0 = [⟨[key], [val], []⟩] := rfl
  have hok : wm (.mk [key] [val] []) := ⟨bL.2 ⟨⟨rfl, (by show 1 <= 4; omega), .inl rfl⟩, fun c hc => by cases hc⟩, List.pairwise_singleton _ _, ⟨1, .inl ⟨rfl, rfl⟩⟩, fun e => absurd rfl e⟩
  have ek : bB (.mk [key] [val] []) = [key] := rfl
  have ev : dL (.mk [key] [val] []) = [val] := rfl
  have := F5 hok (by rw [ek]; simp) (by rw [ek, ev]; simp [lG, si, hc])
  rw [e] at this
  rw [this]
  rfl
 ·cases h
theorem Nh {P : List bH} {t : PT} (hP : P.length <= 1048576) (h : pz P = some t) :
  ∃ g : Nat, gG t = ((g : Int), true) /\ fP t = (g : Int) /\ 1 <= g /\ g <= 4 /\ (1 < g -> 2 * 3 ^ (g - 1) <= (bB t).length + 1) /\ BZ (bB t) /\ (bB t).length <= 40 := by
 have hg := yU hP h
 obtain ⟨g, hl, he, hd⟩ := hg.Ri
 refine ⟨g, hd, he, vW hl, J7 hg.yB hl hg.few, fun h1 => ?_, hg.Ic, hg.few⟩
 obtain ⟨m, rfl⟩ : ∃ m, g = m + 1 := ⟨g - 1, by omega⟩
 have h2 := yT m t hg.yB hl
 have hk : t.kids ≠ [] := by
  rcases hl with ⟨_, e⟩ | ⟨e, _⟩
  ·omega
  ·exact e
 have h3 := (pK hP h).1.root hk
 have h4 : 2 * 3 ^ m <= (t.keys.length + 1) * 3 ^ m := Nat.mul_le_mul_right _ (by omega)
 rw [Nat.add_sub_cancel]
 omega
open Go.Proofs.Ytoddejmlcnbdmaa.Fn Go.Proofs.Ytoddejmlcnbdmaa.Tree
theorem Nl {P : List bH} (hok : BQ P = true) (hP : P.length <= 1048576) : ∃ (K : List ByteArray) (B : Bool) (d : Int) (k : Nat),
  gN.f k P = some (K, B) /\ gM.f P = some (K, B) /\ j5.f k P = some (d, B) /\ j4.f P = some (d, B) /\ K.length <= 40 /\
  (B = true -> ∃ g : Nat, d = (g : Int) /\ 1 <= g /\ g <= 4 /\ (1 < g -> 2 * 3 ^ (g - 1) <= K.length + 1) /\ BZ K) := by
 obtain ⟨k, hk⟩ := JN P hP
 have hk := hk k (Nat.le_refl _)
 dsimp only at hk
 unfold gN.f gM.f j5.f j4.f
 simp only [if_pos hok]
 cases hof : pz P with
 | none =>
  rw [hof] at hk
  exact ⟨[], false, 0, k, by rw [hk]; rfl, rfl, by rw [hk]; rfl, rfl, Nat.zero_le _, fun h => by cases h⟩
 | some t =>
  rw [hof] at hk
  obtain ⟨g, h1, h2, h3, h4, h5, h6, h7⟩ := Nh hP hof
  exact ⟨bB t, true, (g : Int), k, by rw [hk]; rfl, rfl, by rw [hk]; show some (gG t) = _; rw [h1], by show some (fP t, true) = _; rw [h2], h7, fun _ => ⟨g, rfl, h3, h4, h5, h6⟩⟩
theorem J8 {P : List bH} {t : PT} (hl : P.length <= 1000) (hs : ∀ p ∈ P, p.f0.length <= 4 /\ p.f1.length <= 4 /\ p.f2.length <= 5) (h : pz P = some t) : Ev (fun k => gN.f k P) (bB t, true) /\ Ev (fun k => fJ.f k P) true := by
 have hok : BQ P = true := by
  unfold BQ
  simp only [Bool.and_eq_true, decide_eq_true_eq, List.all_eq_true]
  exact ⟨by omega, fun p hp => by have := hs p hp; omega⟩
 have hr := JN P (by omega)
 rw [h] at hr
 simp only [gN.f, fJ.f, if_pos hok]
 exact ⟨Ev.bind hr (Ev.val rfl), Ev.bind hr (Ev.val rfl)⟩
theorem J9 : ∀ (K V : List ByteArray) (t : PT) (n : Nat), wm t -> (aW t).length <= n -> wm (iV K V t) /\ (aW (iV K V t)).length <= n + K.length
 | [], V, t, n, h, hn => by
  rw [show iV [] V t = t by cases V <;> rfl]
  exact ⟨h, by omega⟩
 | k :: K, [], t, n, h, hn => ⟨h, by show (aW t).length <= _; omega⟩
 | k :: K, v :: V, t, n, h, hn => by
  obtain ⟨q1, q2⟩ := mR h k v
  have := jv (k := k) (v := v) (aW t)
  obtain ⟨a, b⟩ := J9 K V (ni t k v) (n + 1) q1 (by rw [q2]; omega)
  refine ⟨a, ?_⟩
  rw [List.length_cons]
  have b : (aW (iV (k :: K) (v :: V) t)).length <= _ := b
  omega
theorem F7 (K V : List ByteArray) : (lU K V).1.length <= 1000 /\ ∀ p ∈ (lU K V).1, p.f0.length <= 4 /\ p.f1.length <= 4 /\ p.f2.length <= 5 := by
 unfold lU
 split
 ·rename_i h
  obtain ⟨a, b⟩ := J9 K V iR 0 wG (Nat.le_refl _)
  exact J3 a (by omega)
 ·exact ⟨by simp, fun p hp => by cases hp⟩
theorem Lh (K V : List ByteArray) (hK : K.length <= 40) (hV : V.length <= 40) : ∃ (r : List bH) (b : Bool) (k : Nat),
  gZ.f k K V = some (r, b) /\ gY.f K V = some (r, b) /\ r.length <= 1000 /\ (∀ p ∈ r, p.f0.length <= 4 /\ p.f1.length <= 4 /\ p.f2.length <= 5) /\ (b = true -> gN.f k r = some (K, true) /\ fJ.f k r = some true) := by
 have hi : Ev (fun k => gZ.f k K V) ((lU K V).1, (lU K V).2) := by
  simp only [gZ.f, if_pos (show K.length <= 2000000 /\ V.length <= 2000000 from ⟨by omega, by omega⟩)]
  refine Ev.bind (sw K V (by omega) (by omega)) (Ev.val ?_)
  unfold lU
  by_cases hl : K.length = V.length
  ·rw [CP K V hl.symm]
   cases hc : lG K V none with
   | true => rw [if_pos (by simp [hK]), if_pos ⟨hl, hK, rfl⟩]
   | false => rw [if_neg (by simp), if_neg (by rintro ⟨_, _, c⟩; cases c)]
  ·rw [if_neg (by unfold mQ; simp; intro _ e; exact absurd e.symm hl), if_neg (fun c => hl c.1)]
 have hs : gY.f K V = some ((lU K V).1, (lU K V).2) := by
  unfold gY.f
  rw [if_pos ⟨by omega, by omega⟩]
 obtain ⟨q1, q2⟩ := F7 K V
 obtain ⟨k1, h1⟩ := hi
 cases hb : (lU K V).2 with
 | false =>
  rw [hb] at hs h1
  exact ⟨_, false, k1, h1 k1 (Nat.le_refl _), hs, q1, q2, fun h => by cases h⟩
 | true =>
  obtain ⟨e1, e2⟩ := Iq hb
  obtain ⟨⟨k2, h2⟩, ⟨k3, h3⟩⟩ := J8 q1 q2 e1
  rw [hb] at hs h1
  rw [e2] at h2
  exact ⟨_, true, k1 + k2 + k3, h1 _ (by omega), hs, q1, q2, fun _ => ⟨h2 _ (by omega), h3 _ (by omega)⟩⟩
theorem Pz (x y : ByteArray) : ∃ (r : List bH) (b : Bool) (k : Nat), vw x y = (r, b) /\ r.length <= 1000 /\ (∀ p ∈ r, p.f0.length <= 4 /\ p.f1.length <= 4 /\ p.f2.length <= 5) /\ (b = true -> fJ.f k r = some true) := by
 have hs : (vw x y).1.length <= 1000 /\ ∀ p ∈ (vw x y).1, p.f0.length <= 4 /\ p.f1.length <= 4 /\ p.f2.length <= 5 := by
  unfold vw
  split
  ·exact ⟨by simp, fun p hp => by rw [List.mem_singleton.1 hp]; simp⟩
  ·exact ⟨by simp, fun p hp => by cases hp⟩
 cases hb : (vw x y).2 with
 | false => exact ⟨_, false, 0, by rw [<- hb], hs.1, hs.2, fun h => by cases h⟩
 | true =>
  have h1 := Ng hb
  obtain ⟨t, ht⟩ := Option.isSome_iff_exists.1 h1
  obtain ⟨_, ⟨k, hk⟩⟩ := J8 hs.1 hs.2 ht
  exact ⟨_, true, k, by rw [<- hb], hs.1, hs.2, fun _ => hk k (Nat.le_refl _)⟩
end Go.Proofs.Ytoddejmlcnbdmaa.Pure
namespace Go.Proofs.Ytoddejmlcnbdmaa.Fn
open Go.Proofs.Ytoddejmlcnbdmaa.Tree
set_option maxHeartbeats 8000000
set_option maxRecDepth 100000
theorem fG.C {w : World} {base : Nat} {v : Value} {r : List bH} (h : fG w base v r) : ∃ A c, v = .slice A r.length c /\ r.length <= c /\ Kd.C jX w A r.length r := by
 obtain ⟨A, c, pgs, rfl, rfl, h3⟩ := h
 obtain ⟨q1, q2⟩ := AU (v := .slice none 0 0) h3
 exact ⟨A, c, by rw [List.length_map], q2, q1⟩
theorem yc {w w' : World} (h : ay w w') : Below w.heap.size w w' := by
 obtain ⟨n, rfl⟩ := h
 exact ah (Below.refl _ _) n
theorem wH {w w1 : World} {b : Nat} {v : Value} (hg : b = w.heap.size) (aC : w1.heap[b]? = some (.cells #[.slice none 0 0] 29 (0, 0))) (hb : Below w.heap.size w w1) : Below w.heap.size w (w1.setCell ⟨b, 0, none⟩ v) /\ (w1.setCell ⟨b, 0, none⟩ v).heap[b]? = some (.cells #[v] 29 (0, 0)) :=
 ⟨bM hb (by rw [hg]; exact Nat.le_refl _), dH (cs := #[.slice none 0 0]) aC 0 v rfl⟩
theorem AZ {r : List bH} (h : ∀ p ∈ r, p.f0.length <= 4 /\ p.f1.length <= 4 /\ p.f2.length <= 5) : ∀ p ∈ r, p.f0.length <= 1048576 /\ p.f1.length <= 1048576 /\ p.f2.length <= 1048576 := fun p hp => by
 have := h p hp
 omega
def om.UU (k : Nat) (l0 l1 : List Int) : Prop := Go.Proofs.Ytoddejmlcnbdmaa.Pure.Code l0 /\ Go.Proofs.Ytoddejmlcnbdmaa.Pure.Code l1
theorem om.calls (k : Nat) (A0 : Option Addr) (c0 : Nat) (l0 : List Int) (A1 : Option Addr) (c1 : Nat) (l1 : List Int) (r0 : Bool) (w : World) (hr0 : Kd.C (Kd.int .u8) w A0 l0.length l0) (hc0 : l0.length <= c0) (hr1 : Kd.C (Kd.int .u8) w A1 l1.length l1) (hc1 : l1.length <= c1) (h : om.UU k l0 l1) (ht : r0 = true) :
  Calls Try.prog 14 #[.slice A0 l0.length c0, .slice A1 l1.length c1] w fun e w' => e = .returned (.bool r0) /\ Below w.heap.size w w' := by
 subst ht
 obtain ⟨hcd0, hcd1⟩ := h
 have mV := A_ hr0
 have HR1 := A_ hr1
 have HD0 := A_ hcd0
 have HD1 := A_ hcd1
 have HB := A_ (Below.refl w.heap.size w)
 clear hr0 hr1 hc0 hc1 hcd0 hcd1
 by_cases hg : (1048576 : Int) < wrap64 ((l0.length : Int) + (l1.length : Int))
 ·have c_ : decide ((1048576 : Int) < wrap64 ((l0.length : Int) + (l1.length : Int))) = true := decide_eq_true hg
  go_enter Try.func14, Try.ntmps14
  go_wp2
  go_ret
  exact ⟨by first | rfl | (simp; done), HB.out⟩
 have c_ : decide ((1048576 : Int) < wrap64 ((l0.length : Int) + (l1.length : Int))) = false := decide_eq_false hg
 clear hg
 go_enter Try.func14, Try.ntmps14
 go_upto_region 4 with (first | (go_at_call 50; (with_reducible refine (yG.runs A0 c0 l0 HD0.out _ mV.out).mono ?_); rintro e w1_ ⟨A, c, r, rfl, h1, h2, h3, hb⟩; have HP := A_ h2.C; have HT := A_ (And.intro h1 (AX h3)); clear h1 h2 h3; replace HB := A_ (au HB.out hb); clear hb) | (refine jf 5 #[.slice none 0 0] 29 ?_; intro b5 hg w2_ aC hb; have HX := A_ (And.intro hg (And.intro aC hb)); have Qf := (ak aC 0).trans rfl; have Qg := aY aC 0; clear hg aC hb))
 obtain ⟨hb, hx⟩ := wH (v := .slice A r.length c) HX.out.1 HX.out.2.1 HX.out.2.2
 generalize World.setCell w2_ ⟨b5, 0, none⟩ (.slice A r.length c) = w3_ at hb hx ⊢
 have BP := A_ hx
 clear hx HX Qf Qg
 have tH := A_ (Kd.ax HP.out hb)
 have eZ := A_ (au HB.out hb)
 clear HP HB
 have HP := tH
 have HB := eZ
 clear tH eZ
 clear hb
 have BK := (ak BP.out 0).trans rfl
 clear c_
 obtain ⟨K, B, d, k1, h1, h2, h3, h4, h5, h6⟩ := Go.Proofs.Ytoddejmlcnbdmaa.Pure.Nl HT.out.2.1 HT.out.2.2
 have E1 := A_ h1
 have E2 := A_ h2
 have E3 := A_ h3
 have E4 := A_ h4
 have E5 := A_ h5
 have E6 := A_ h6
 clear h1 h2 h3 h4 h5 h6
 have X0 : (B != B) = false := by simp
 have X3 : (d != d) = false := by simp
 go_upto_if 77 with (first | (go_at_call 25; (with_reducible refine (gN.calls k1 A c r K B _ HP.out HT.out.1 E1.out).mono ?_); rintro e w4_ ⟨vk, rfl, ho, hb⟩; obtain ⟨A6, c6, rfl⟩ := Kd.av ho; have HK := A_ (Kd.dW ho).2.2; have HK6 := A_ (Kd.dW ho).2.1; clear ho; have tH := A_ (Kd.ax HP.out hb); have wO := A_ (aT BP.out hb); have eZ := A_ (au HB.out hb); clear HP BP HB BK; have HP := tH; have BP := wO; have HB := eZ; clear tH wO eZ; have BK := (ak BP.out 0).trans rfl; clear hb) | (go_at_call 24; (with_reducible refine (gM.calls A c r K B _ HP.out HT.out.1 E2.out).mono ?_); rintro e w5_ ⟨vk, rfl, ho, hb⟩; obtain ⟨A8, c8, rfl⟩ := Kd.av ho; have HW := A_ (Kd.dW ho).2.2; have HK8 := A_ (Kd.dW ho).2.1; clear ho; have tH := A_ (Kd.ax HP.out hb); have wO := A_ (aT BP.out hb); have BL := A_ (Kd.ax HK.out hb); have eZ := A_ (au HB.out hb); clear HP BP HK HB BK; have HP := tH; have BP := wO; have HK := BL; have HB := eZ; clear tH wO BL eZ; have BK := (ak BP.out 0).trans rfl; clear hb) | (go_at_call 21; (with_reducible refine (j5.calls k1 A c r d B _ HP.out HT.out.1 E3.out).mono ?_); rintro e w6_ ⟨rfl, hb⟩; have tH := A_ (Kd.ax HP.out hb); have wO := A_ (aT BP.out hb); have BL := A_ (Kd.ax HK.out hb); have G8 := A_ (Kd.ax HW.out hb); have eZ := A_ (au HB.out hb); clear HP BP HK HW HB BK; have HP := tH; have BP := wO; have HK := BL; have HW := G8; have HB := eZ; clear tH wO BL G8 eZ; have BK := (ak BP.out 0).trans rfl; clear hb) | (go_at_call 20; (with_reducible refine (j4.calls A c r d B _ HP.out HT.out.1 E4.out).mono ?_); rintro e w7_ ⟨rfl, hb⟩; have tH := A_ (Kd.ax HP.out hb); have wO := A_ (aT BP.out hb); have BL := A_ (Kd.ax HK.out hb); have G8 := A_ (Kd.ax HW.out hb); have eZ := A_ (au HB.out hb); clear HP BP HK HW HB BK; have HP := tH; have BP := wO; have HK := BL; have HW := G8; have HB := eZ; clear tH wO BL G8 eZ; have BK := (ak BP.out 0).trans rfl; clear hb) | (go_at_call 51; (with_reducible refine (rE (l := K) (A0 := A6) (A1 := A8) (c0 := c6) (c1 := c8) (by have := E5.out; omega) HK.out HK6.out HW.out HK8.out).mono ?_); rintro e w8_ ⟨rfl, hb⟩; replace hb := yc hb; have tH := A_ (Kd.ax HP.out hb); have wO := A_ (aT BP.out hb); have BL := A_ (Kd.ax HK.out hb); have G8 := A_ (Kd.ax HW.out hb); have eZ := A_ (au HB.out hb); clear HP BP HK HW HB BK; have HP := tH; have BP := wO; have HK := BL; have HW := G8; have HB := eZ; clear tH wO BL G8 eZ; have BK := (ak BP.out 0).trans rfl; clear hb))
 clear HW HP BP BK HT E1 E2 E3 E4 X0 X3 HK8
 go_upto_if 78 with fail
 go_cut [] (fun wc => af (Below w.heap.size w wc))
 case first =>
  cases B with
  | false =>
   go_wp2
   go_meet
   case rel => exact HB
  | true =>
   obtain ⟨g, rfl, hg1, hg4, hg3, QK⟩ := E6.out rfl
   have HG := A_ (And.intro hg1 (And.intro hg4 hg3))
   have Uw := A_ QK
   clear hg3 QK E6
   go_upto_if 80 with fail
   go_cut [14] (fun v14 wc => ∃ m : Nat, v14 = .int .i64 (m : Int) /\ af (m <= K.length) /\ wc = w8_)
   case first =>
    by_cases hg2 : 1 < g
    ·have TA := kZ ((1 : Int) < (g : Int))
     have Hf : (1 < g) = True := eq_true hg2
     have HG2 := A_ hg2
     clear hg1 hg4 hg2
     (first | rw [TA] | simp only [Hf])
     go_wp2
     go_loopg [14, 15] (g - 1) (fun kq v14 v15 w' => ∃ i x : Nat, v14 = .int .i64 (x : Int) /\ v15 = .int .i64 (i : Int) /\ af (1 <= i /\ i <= g /\ kq + i = g) /\ af (x = 3 ^ (i - 1) /\ x <= 27) /\ w' = w8_)
     case atStart => exact ⟨1, 1, by first | rfl | (simp; done), by first | rfl | (simp; done), ⟨Nat.le_refl _, by have := HG2.out; omega, by have := HG2.out; omega⟩, ⟨rfl, by decide⟩, rfl⟩
     case round =>
      obtain ⟨i, x, rfl, rfl, HI, HX, rfl⟩ := hrel
      by_cases hi : i < g
      ·have X4 := kZ ((i : Int) < (g : Int))
       have X5 : (i < g) = True := eq_true hi
       have HP := A_ hi
       clear hi
       go_wp2
       go_roundg (g - (i + 1))
       case measure => have := HI.out; have := HP.out; omega
       case rel =>
        have hx3 : x * 3 = 3 ^ (i + 1 - 1) := by
         obtain ⟨j, hj⟩ : ∃ j, i = j + 1 := ⟨i - 1, by have := HI.out; omega⟩
         rw [HX.out.1, hj, Nat.add_sub_cancel, Nat.add_sub_cancel, Nat.pow_succ]
        have hx9 : x <= 9 := by
         rw [HX.out.1]
         exact Nat.le_trans (Nat.pow_le_pow_right (by omega) (show i - 1 <= 2 by have := HG.out; have := HP.out; omega)) (by decide)
        exact ⟨i + 1, x * 3, by rw [Go.Proofs.Ytoddejmlcnbdmaa.Pure.eY (by omega) (by omega)]; congr 1, by have := HP.out; have := HG.out; rw [Go.Proofs.Ytoddejmlcnbdmaa.Pure.eY (by omega) (by omega)]; congr 1, ⟨by omega, by have := HP.out; omega, by have := HP.out; omega⟩, ⟨hx3, by omega⟩, rfl⟩
      ·have X4 := kT ((i : Int) < (g : Int))
       have X5 : (i < g) = False := eq_false hi
       have HP := A_ hi
       clear hi
       go_wp2
       go_meet
       case rel =>
        have h1 := HX.out
        have hig : i = g := by have := HI.out; have := HP.out; omega
        have h2 := HG.out.2.2 HG2.out
        rw [<- hig, <- h1.1] at h2
        have h3 : 1 <= x := by rw [h1.1]; exact Nat.pos_of_ne_zero (by simp)
        exact ⟨2 * x - 1, by rw [Go.Proofs.Ytoddejmlcnbdmaa.Pure.eY (n := 2 * (x : Int)) (by omega) (by omega), Go.Proofs.Ytoddejmlcnbdmaa.Pure.eY (by omega) (by omega)]; congr 1; omega, ⟨by omega⟩, rfl⟩
    ·have TA := kT ((1 : Int) < (g : Int))
     have Hf : (1 < g) = False := eq_false hg2
     clear hg1 hg4 hg2
     (first | rw [TA] | simp only [Hf])
     go_wp2
     go_meet
     case rel => exact ⟨0, rfl, ⟨Nat.zero_le _⟩, rfl⟩
   case rest =>
    obtain ⟨m, rfl, HM, rfl⟩ := hcut
    have TA := kT ((g : Int) < 1)
    have Hf : (g < 1) = False := eq_false (by omega)
    have X4 : (g = 0) = False := eq_false (by omega)
    have X5 : decide ((K.length : Int) < (m : Int)) = false := decide_eq_false (by have := HM.out; omega)
    have c5_ : (K.length < m) = False := eq_false (by have := HM.out; omega)
    clear hg1 hg4
    go_upto_if 102 with fail
    go_wp2
    go_loopg [16] K.length (fun kq v16 w' => ∃ i : Nat, v16 = .int .i64 (i : Int) /\ af (1 <= i /\ kq + i = K.length + 1) /\ af (Below w.heap.size w w') /\ af (Kd.C Kd.string w' A6 K.length K))
    case atStart => exact ⟨1, by first | rfl | (simp; done), ⟨Nat.le_refl _, rfl⟩, HB, HK⟩
    case round =>
     clear HB HK TA Hf X4 X5 c5_
     obtain ⟨i, rfl, HI, HB, HK⟩ := hrel
     by_cases hi : i < K.length
     ·have c_ := kZ ((i : Int) < (K.length : Int))
      have Hf : (i < K.length) = True := eq_true hi
      have HP := A_ hi
      have hi1 := HI.out.1
      obtain ⟨ji, hji⟩ : ∃ j : Int, j = (i : Int) - 1 := ⟨_, rfl⟩
      have hk40 := E5.out
      have hjw : wrap64 ((i : Int) - 1) = ji := by rw [Go.Proofs.Ytoddejmlcnbdmaa.Pure.eY (by omega) (by omega)]; exact hji.symm
      have hjx : IntKind.i64.wrap ((i : Int) - 1) = ji := by rw [IntWalk.i64_in _ (by omega)]; exact hji.symm
      obtain ⟨ad, hA1, hy0⟩ := Kd.bF HK.out (i : Int) (by omega) (by omega)
      obtain ⟨ae, hA2, hx0⟩ := Kd.bF HK.out ji (by omega) (by omega)
      subst hA1
      obtain rfl : ad = ae := Option.some.inj hA2
      clear hA2
      rw [Int.toNat_natCast] at hy0
      have hlt : Op.bytesLess (bI ByteArray.empty K ji).toList (bI ByteArray.empty K (i : Int)).toList = true := by
       have h := List.pairwise_iff_getElem.1 Uw.out (i - 1) i (by omega) hi (by omega)
       have e1 : bI ByteArray.empty K ji = K[i - 1] := by unfold bI; rw [show ji.toNat = i - 1 by omega, List.getD_eq_getElem?_getD, List.getElem?_eq_getElem (by omega)]; rfl
       have e2 : bI ByteArray.empty K (i : Int) = K[i] := by unfold bI; rw [Int.toNat_natCast, List.getD_eq_getElem?_getD, List.getElem?_eq_getElem hi]; rfl
       rw [e1, e2]
       exact (Go.Proofs.Ytoddejmlcnbdmaa.Pure.j6 _ _).2 h
      generalize bI ByteArray.empty K ji = x at hx0 hlt
      generalize bI ByteArray.empty K (i : Int) = y at hy0 hlt
      have QD := dJ (0 <= (i : Int))
      have QE := dJ ((i : Int) < (K.length : Int))
      have cj0 := dJ (0 <= ji)
      have cj1 := dJ (ji < (K.length : Int))
      have cj2 := kZ (0 <= ji)
      have cj3 := kZ (ji < (K.length : Int))
      clear hi hi1 hji hk40
      go_upto_region 24 with fail
      refine dz (n := 10) (S := fun w' => w'.cell? (ad.add ji.toNat) = some (.string x) /\ w'.cell? (ad.add i) = some (.string y)) (ds := []) (bt 10 0) (by kernel_rfl) rfl rfl ⟨((aH (Below.refl _ _)).cell (World.block_lt_of_cell? _ _ hx0)).trans hx0, ((aH (Below.refl _ _)).cell (World.block_lt_of_cell? _ _ hy0)).trans hy0⟩ (fun hHeld => ?_)
      refine aV 0 109 1 ?_
      refine aV 1 110 3 ?_
      refine aV 2 111 7 ?_
      refine aV 3 112 15 ?_
      refine aV 5 114 47 ?_
      refine aV 6 115 111 ?_
      refine aV 7 116 239 ?_
      refine ik 4 113 255 hHeld ?_
      refine ik 8 117 511 hHeld ?_
      refine aV 9 118 1023 ?_
      refine fu (by kernel_rfl) ?_
      go_wp2
      go_roundg (K.length - i)
      case measure => have := HI.out; have := HP.out; omega
      case rel => exact ⟨i + 1, by have := HP.out; have := E5.out; rw [Go.Proofs.Ytoddejmlcnbdmaa.Pure.eY (by omega) (by omega)]; congr 1, ⟨by omega, by have := HP.out; omega⟩, ⟨by repeat (first | (with_reducible first | exact HB.out | apply bC | apply ah) | exact HB.out)⟩, ⟨by (with_reducible repeat (first | refine Kd.gm ?_ _ | refine Kd.gm ?_ | refine Kd.dC ?_ _)); exact HK.out⟩⟩
     ·have c_ := kT ((i : Int) < (K.length : Int))
      have Hf : (i < K.length) = False := eq_false hi
      clear hi
      go_wp2
      go_meet
      case rel => exact HB
 case rest =>
  clear HB HK
  have HB := hcut
  clear hcut
  go_upto_region 27 with (first | (go_at_call 52; (with_reducible refine (vz.runs A1 c1 l1 HD1.out _ (Kd.ax HR1.out HB.out)).mono ?_); rintro e w9_ ⟨Aa, ca, K2, Av, cv, V2, rfl, ⟨h1, h2⟩, ⟨h3, h4⟩, h5, h6, hb⟩; have HA := A_ h2; have HV := A_ h4; have HL := A_ (And.intro h1 (And.intro h3 (And.intro h5 h6))); clear h1 h2 h3 h4 h5 h6; replace HB := A_ (au HB.out hb); clear hb))
  obtain ⟨r2, b2, kb, e1, e2, e3, e4, e5⟩ := Go.Proofs.Ytoddejmlcnbdmaa.Pure.Lh K2 V2 HL.out.2.2.1 HL.out.2.2.2
  have G1 := A_ e1
  have G2 := A_ e2
  have G3 := A_ e3
  have G4 := A_ e4
  have G5 := A_ e5
  clear e1 e2 e3 e4 e5
  go_upto_region 28 with (first | (go_at_call 44; (with_reducible refine (gZ.nK kb Aa ca K2 Av cv V2 r2 b2 _ HA.out HL.out.1 HV.out HL.out.2.1 G1.out).mono ?_); rintro e w10_ ⟨v, rfl, ho, hb⟩; obtain ⟨Ab, cb, rfl, hl, hc⟩ := ho.C; have qc := A_ hc; have T9 := A_ hl; clear ho hl hc; replace HA := A_ (Kd.ax HA.out hb); replace HV := A_ (Kd.ax HV.out hb); replace HB := A_ (au HB.out hb); clear hb) | (refine jf 19 #[.slice none 0 0] 29 ?_; intro b19 hg w11_ aC hb; have HX := A_ (And.intro hg (And.intro aC hb)); have Qf := (ak aC 0).trans rfl; have Qg := aY aC 0; clear hg aC hb))
  obtain ⟨hb, hx⟩ := wH (v := .slice Ab r2.length cb) HX.out.1 HX.out.2.1 HX.out.2.2
  generalize World.setCell w11_ ⟨b19, 0, none⟩ (.slice Ab r2.length cb) = w12_ at hb hx ⊢
  have BB := A_ hx
  clear hx HX Qf Qg
  have jq := A_ (Kd.ax HA.out hb)
  have G9 := A_ (Kd.ax HV.out hb)
  have fA := A_ (Kd.ax qc.out hb)
  have eZ := A_ (au HB.out hb)
  clear HA HV qc HB
  have HA := jq
  have HV := G9
  have qc := fA
  have HB := eZ
  clear jq G9 fA eZ
  clear hb
  have nN := (ak BB.out 0).trans rfl
  go_upto_region 29 with (first | (go_at_call 42; (with_reducible refine (gY.nK Aa ca K2 Av cv V2 r2 b2 _ HA.out HL.out.1 HV.out HL.out.2.1 G2.out).mono ?_); rintro e w13_ ⟨v, rfl, ho, hb⟩; obtain ⟨Ac, cc, rfl, hl, hc⟩ := ho.C; have yw := A_ hc; have HRcl := A_ hl; clear ho hl hc; have jq := A_ (Kd.ax HA.out hb); have G9 := A_ (Kd.ax HV.out hb); have fA := A_ (Kd.ax qc.out hb); have jT := A_ (aT BB.out hb); have eZ := A_ (au HB.out hb); clear HA HV qc BB HB nN; have HA := jq; have HV := G9; have qc := fA; have BB := jT; have HB := eZ; clear jq G9 fA jT eZ; have nN := (ak BB.out 0).trans rfl; clear hb) | (refine jf 21 #[.slice none 0 0] 29 ?_; intro b21 hg w14_ aC hb; have HX := A_ (And.intro hg (And.intro aC hb)); have Qf := (ak aC 0).trans rfl; have Qg := aY aC 0; clear hg aC hb))
  obtain ⟨hb, hx⟩ := wH (v := .slice Ac r2.length cc) HX.out.1 HX.out.2.1 HX.out.2.2
  generalize World.setCell w14_ ⟨b21, 0, none⟩ (.slice Ac r2.length cc) = w15_ at hb hx ⊢
  have BC := A_ hx
  clear hx HX Qf Qg
  have jq := A_ (Kd.ax HA.out hb)
  have G9 := A_ (Kd.ax HV.out hb)
  have fA := A_ (Kd.ax qc.out hb)
  have jT := A_ (aT BB.out hb)
  have jU := A_ (Kd.ax yw.out hb)
  have eZ := A_ (au HB.out hb)
  clear HA HV qc BB yw HB nN
  have HA := jq
  have HV := G9
  have qc := fA
  have BB := jT
  have yw := jU
  have HB := eZ
  clear jq G9 fA jT jU eZ
  have nN := (ak BB.out 0).trans rfl
  clear hb
  have vG := (ak BC.out 0).trans rfl
  clear HV
  go_upto_region 30 with (first | (go_at_call 53; (with_reducible refine (xE.runs A1 c1 l1 HD1.out _ (Kd.ax HR1.out HB.out)).mono ?_); rintro e w16_ ⟨x, y, rfl, hb⟩; have jq := A_ (Kd.ax HA.out hb); have fA := A_ (Kd.ax qc.out hb); have jT := A_ (aT BB.out hb); have jU := A_ (Kd.ax yw.out hb); have qI := A_ (aT BC.out hb); have eZ := A_ (au HB.out hb); clear HA qc BB yw BC HB nN vG; have HA := jq; have qc := fA; have BB := jT; have yw := jU; have BC := qI; have HB := eZ; clear jq fA jT jU qI eZ; have nN := (ak BB.out 0).trans rfl; have vG := (ak BC.out 0).trans rfl; clear hb))
  obtain ⟨r4, b4, kn, e1, e2, e3, e4⟩ := Go.Proofs.Ytoddejmlcnbdmaa.Pure.Pz x y
  have N1 : af (∀ W, Calls Try.prog 54 #[.string x, .string y] W fun e w' => ∃ iy : Value, e = .returned (.tuple #[.agg #[iy], .bool b4]) /\ fG w' W.heap.size iy r4 /\ Below W.heap.size W w') := ⟨fun W => by have := Em.nK x y W; rw [e1] at this; exact this⟩
  have N2 : af (∀ W, Calls Try.prog 55 #[.string x, .string y] W fun e w' => ∃ iy : Value, e = .returned (.tuple #[.agg #[iy], .bool b4]) /\ fG w' W.heap.size iy r4 /\ Below W.heap.size W w') := ⟨fun W => by have := wD.nK x y W; rw [e1] at this; exact this⟩
  have N3 := A_ e2
  have N4 := A_ e3
  have N5 := A_ e4
  clear e1 e2 e3 e4
  go_upto_region 31 with (first | (go_at_call 54; (with_reducible refine (N1.out _).mono ?_); rintro e w17_ ⟨v, rfl, ho, hb⟩; obtain ⟨Ad, cd, rfl, hl, hc⟩ := ho.C; have uz := A_ hc; have HRdl := A_ hl; clear ho hl hc; have jq := A_ (Kd.ax HA.out hb); have fA := A_ (Kd.ax qc.out hb); have jT := A_ (aT BB.out hb); have jU := A_ (Kd.ax yw.out hb); have qI := A_ (aT BC.out hb); have eZ := A_ (au HB.out hb); clear HA qc BB yw BC HB nN vG; have HA := jq; have qc := fA; have BB := jT; have yw := jU; have BC := qI; have HB := eZ; clear jq fA jT jU qI eZ; have nN := (ak BB.out 0).trans rfl; have vG := (ak BC.out 0).trans rfl; clear hb) | (refine jf 25 #[.slice none 0 0] 29 ?_; intro Wj hg w18_ aC hb; have HX := A_ (And.intro hg (And.intro aC hb)); have Qf := (ak aC 0).trans rfl; have Qg := aY aC 0; clear hg aC hb))
  obtain ⟨hb, hx⟩ := wH (v := .slice Ad r4.length cd) HX.out.1 HX.out.2.1 HX.out.2.2
  generalize World.setCell w18_ ⟨Wj, 0, none⟩ (.slice Ad r4.length cd) = w19_ at hb hx ⊢
  have BD := A_ hx
  clear hx HX Qf Qg
  have jq := A_ (Kd.ax HA.out hb)
  have fA := A_ (Kd.ax qc.out hb)
  have jT := A_ (aT BB.out hb)
  have jU := A_ (Kd.ax yw.out hb)
  have qI := A_ (aT BC.out hb)
  have iW := A_ (Kd.ax uz.out hb)
  have eZ := A_ (au HB.out hb)
  clear HA qc BB yw BC uz HB nN vG
  have HA := jq
  have qc := fA
  have BB := jT
  have yw := jU
  have BC := qI
  have uz := iW
  have HB := eZ
  clear jq fA jT jU qI iW eZ
  have nN := (ak BB.out 0).trans rfl
  have vG := (ak BC.out 0).trans rfl
  clear hb
  have rW := (ak BD.out 0).trans rfl
  go_upto_region 32 with (first | (go_at_call 55; (with_reducible refine (N2.out _).mono ?_); rintro e w20_ ⟨v, rfl, ho, hb⟩; obtain ⟨Ae, ce, rfl, hl, hc⟩ := ho.C; have OM := A_ hc; have HRel := A_ hl; clear ho hl hc; have jq := A_ (Kd.ax HA.out hb); have fA := A_ (Kd.ax qc.out hb); have jT := A_ (aT BB.out hb); have jU := A_ (Kd.ax yw.out hb); have qI := A_ (aT BC.out hb); have iW := A_ (Kd.ax uz.out hb); have o6 := A_ (aT BD.out hb); have eZ := A_ (au HB.out hb); clear HA qc BB yw BC uz BD HB nN vG rW; have HA := jq; have qc := fA; have BB := jT; have yw := jU; have BC := qI; have uz := iW; have BD := o6; have HB := eZ; clear jq fA jT jU qI iW o6 eZ; have nN := (ak BB.out 0).trans rfl; have vG := (ak BC.out 0).trans rfl; have rW := (ak BD.out 0).trans rfl; clear hb) | (refine jf 27 #[.slice none 0 0] 29 ?_; intro b27 hg w21_ aC hb; have HX := A_ (And.intro hg (And.intro aC hb)); have Qf := (ak aC 0).trans rfl; have Qg := aY aC 0; clear hg aC hb))
  obtain ⟨hb, hx⟩ := wH (v := .slice Ae r4.length ce) HX.out.1 HX.out.2.1 HX.out.2.2
  generalize World.setCell w21_ ⟨b27, 0, none⟩ (.slice Ae r4.length ce) = w22_ at hb hx ⊢
  have BE := A_ hx
  clear hx HX Qf Qg
  have jq := A_ (Kd.ax HA.out hb)
  have fA := A_ (Kd.ax qc.out hb)
  have jT := A_ (aT BB.out hb)
  have jU := A_ (Kd.ax yw.out hb)
  have qI := A_ (aT BC.out hb)
  have iW := A_ (Kd.ax uz.out hb)
  have o6 := A_ (aT BD.out hb)
  have yA := A_ (Kd.ax OM.out hb)
  have eZ := A_ (au HB.out hb)
  clear HA qc BB yw BC uz BD OM HB nN vG rW
  have HA := jq
  have qc := fA
  have BB := jT
  have yw := jU
  have BC := qI
  have uz := iW
  have BD := o6
  have OM := yA
  have HB := eZ
  clear jq fA jT jU qI iW o6 yA eZ
  have nN := (ak BB.out 0).trans rfl
  have vG := (ak BC.out 0).trans rfl
  have rW := (ak BD.out 0).trans rfl
  clear hb
  have OO := (ak BE.out 0).trans rfl
  have X0 : (b2 != b2) = false := by simp
  have X3 : (b4 != b4) = false := by simp
  go_upto_if 172 with (first | (go_at_call 46; (with_reducible refine (AY Ab Ac cb cc r2 _ (by have := G3.out; omega) (AZ G4.out) qc.out T9.out yw.out HRcl.out).mono ?_); rintro e w23_ ⟨rfl, hb⟩; have jq := A_ (Kd.ax HA.out hb); have fA := A_ (Kd.ax qc.out hb); have jT := A_ (aT BB.out hb); have jU := A_ (Kd.ax yw.out hb); have qI := A_ (aT BC.out hb); have iW := A_ (Kd.ax uz.out hb); have o6 := A_ (aT BD.out hb); have yA := A_ (Kd.ax OM.out hb); have OP := A_ (aT BE.out hb); have eZ := A_ (au HB.out hb); clear HA qc BB yw BC uz BD OM BE HB nN vG rW OO; have HA := jq; have qc := fA; have BB := jT; have yw := jU; have BC := qI; have uz := iW; have BD := o6; have OM := yA; have BE := OP; have HB := eZ; clear jq fA jT jU qI iW o6 yA OP eZ; have nN := (ak BB.out 0).trans rfl; have vG := (ak BC.out 0).trans rfl; have rW := (ak BD.out 0).trans rfl; have OO := (ak BE.out 0).trans rfl; clear hb) | (go_at_call 46; (with_reducible refine (AY Ad Ae cd ce r4 _ (by have := N3.out; omega) (AZ N4.out) uz.out HRdl.out OM.out HRel.out).mono ?_); rintro e w24_ ⟨rfl, hb⟩; have jq := A_ (Kd.ax HA.out hb); have fA := A_ (Kd.ax qc.out hb); have jT := A_ (aT BB.out hb); have jU := A_ (Kd.ax yw.out hb); have qI := A_ (aT BC.out hb); have iW := A_ (Kd.ax uz.out hb); have o6 := A_ (aT BD.out hb); have yA := A_ (Kd.ax OM.out hb); have OP := A_ (aT BE.out hb); have eZ := A_ (au HB.out hb); clear HA qc BB yw BC uz BD OM BE HB nN vG rW OO; have HA := jq; have qc := fA; have BB := jT; have yw := jU; have BC := qI; have uz := iW; have BD := o6; have OM := yA; have BE := OP; have HB := eZ; clear jq fA jT jU qI iW o6 yA OP eZ; have nN := (ak BB.out 0).trans rfl; have vG := (ak BC.out 0).trans rfl; have rW := (ak BD.out 0).trans rfl; have OO := (ak BE.out 0).trans rfl; clear hb))
  clear yw OM BC BE vG OO X0 X3
  go_upto_if 173 with fail
  go_cut [] (fun wc => af (Kd.C jX wc Ad r4.length r4) /\ af (wc.heap[Wj]? = some (.cells #[.slice Ad r4.length cd] 29 (0, 0))) /\ af (Below w.heap.size w wc))
  case first =>
   cases b2 with
   | false =>
    go_wp2
    go_meet
    case rel => exact ⟨uz, BD, HB⟩
   | true =>
    obtain ⟨e1, e2⟩ := G5.out rfl
    have G6 := A_ e1
    have G7 := A_ e2
    clear e1 e2 G5
    go_wp2_with (first | (go_at_call 25; (with_reducible refine (gN.calls kb Ab cb r2 K2 true _ qc.out T9.out G6.out).mono ?_); rintro e w25_ ⟨vk, rfl, ho, hb⟩; obtain ⟨A9, c9, rfl⟩ := Kd.av ho; have Ua := A_ (Kd.dW ho).2.2; have HKl := A_ (Kd.dW ho).2.1; clear ho; have jq := A_ (Kd.ax HA.out hb); have fA := A_ (Kd.ax qc.out hb); have jT := A_ (aT BB.out hb); have iW := A_ (Kd.ax uz.out hb); have o6 := A_ (aT BD.out hb); have eZ := A_ (au HB.out hb); clear HA qc BB uz BD HB nN rW; have HA := jq; have qc := fA; have BB := jT; have uz := iW; have BD := o6; have HB := eZ; clear jq fA jT iW o6 eZ; have nN := (ak BB.out 0).trans rfl; have rW := (ak BD.out 0).trans rfl; clear hb) | (go_at_call 18; (with_reducible refine (fJ.calls kb Ab cb r2 true _ qc.out T9.out G7.out).mono ?_); rintro e w26_ ⟨rfl, hb⟩; have jq := A_ (Kd.ax HA.out hb); have fA := A_ (Kd.ax qc.out hb); have jT := A_ (aT BB.out hb); have iW := A_ (Kd.ax uz.out hb); have o6 := A_ (aT BD.out hb); have Ha := A_ (Kd.ax Ua.out hb); have eZ := A_ (au HB.out hb); clear HA qc BB uz BD Ua HB nN rW; have HA := jq; have qc := fA; have BB := jT; have uz := iW; have BD := o6; have Ua := Ha; have HB := eZ; clear jq fA jT iW o6 Ha eZ; have nN := (ak BB.out 0).trans rfl; have rW := (ak BD.out 0).trans rfl; clear hb) | (go_at_call 51; (with_reducible refine (rE (l := K2) (A0 := A9) (A1 := Aa) (c0 := c9) (c1 := ca) (by have := HL.out.2.2.1; omega) Ua.out HKl.out HA.out HL.out.1).mono ?_); rintro e w27_ ⟨rfl, hb⟩; replace hb := yc hb; have jq := A_ (Kd.ax HA.out hb); have fA := A_ (Kd.ax qc.out hb); have jT := A_ (aT BB.out hb); have iW := A_ (Kd.ax uz.out hb); have o6 := A_ (aT BD.out hb); have Ha := A_ (Kd.ax Ua.out hb); have eZ := A_ (au HB.out hb); clear HA qc BB uz BD Ua HB nN rW; have HA := jq; have qc := fA; have BB := jT; have uz := iW; have BD := o6; have Ua := Ha; have HB := eZ; clear jq fA jT iW o6 Ha eZ; have nN := (ak BB.out 0).trans rfl; have rW := (ak BD.out 0).trans rfl; clear hb))
    go_meet
    case rel => exact ⟨uz, BD, HB⟩
  case rest =>
   clear HA qc uz BB BD HB nN rW
   obtain ⟨uz, BD, HB⟩ := hcut
   have rW := (ak BD.out 0).trans rfl
   cases b4 with
   | false =>
    go_wp2
    go_ret
    exact ⟨by first | rfl | (simp; done), HB.out⟩
   | true =>
    have N6 := A_ (N5.out rfl)
    go_wp2_with (first | (go_at_call 18; (with_reducible refine (fJ.calls kn Ad cd r4 true _ uz.out HRdl.out N6.out).mono ?_); rintro e w28_ ⟨rfl, hb⟩; have iW := A_ (Kd.ax uz.out hb); have o6 := A_ (aT BD.out hb); have eZ := A_ (au HB.out hb); clear uz BD HB rW; have uz := iW; have BD := o6; have HB := eZ; clear iW o6 eZ; have rW := (ak BD.out 0).trans rfl; clear hb))
    go_ret
    exact ⟨by first | rfl | (simp; done), HB.out⟩
end Go.Proofs.Ytoddejmlcnbdmaa.Fn
namespace Go.Proofs.Ytoddejmlcnbdmaa.Pure
open Go.Proofs.Ytoddejmlcnbdmaa.Fn
theorem Ka {l : List Int} (h : ∀ y ∈ l, (Lit.int .u8 y).wf = true) : Code l := fun y hy => bounds_u8 (h y hy)
theorem FnTrees : ∀ (l0 : List Int) (l1 : List Int), (l0.length <= maxLen /\ ∀ y68 ∈ l0, (Lit.int .u8 y68).wf = true) -> (l1.length <= maxLen /\ ∀ y69 ∈ l1, (Lit.int .u8 y69).wf = true) -> ∃ k, om.UU k l0 l1 := fun l0 l1 h0 h1 => ⟨0, Ka h0.2, Ka h1.2⟩
end Go.Proofs.Ytoddejmlcnbdmaa.Pure
namespace Go.Proofs.Ytoddejmlcnbdmaa.Qw
open Go.Deep Go.ChangeShapes Go.Joins Go.Proofs.YtoddejmlcnbdmaaW
def Op (P : Program) (t : TypeId) {α : Type} (d : Kd α) (Wf : α -> Prop) : Prop :=
 ∀ {H : Type} {enc : TypeId × Value -> H} {w : World} {base : Nat} {spare : Nat -> Bool} {held : Bool} {fuel : Nat} {cs : List Value} {x : DataW H × List MemPlace},
  DataW.trod enc P w base spare held fuel t cs = some x -> ∃ a : α, d.K w a cs /\ Wf a
variable {P : Program} {t e : TypeId}
theorem Nn {k : IntKind} (hu : P.underlying t = some (.int k)) : Op P t (Kd.int k) (fun n => (Lit.int k n).wf = true) := by
 intro H enc w base spare held fuel cs x h
 obtain ⟨n, rfl, _, hw⟩ := DataW.trod_int hu h
 exact ⟨n, rfl, hw⟩
theorem Np {w : World} {base : Nat} {a : Addr} {n : Nat} {cs : List Value} (h : w.cells? base a n = some cs) : cs.length = n /\ ∀ j u, cs[j]? = some u -> w.cell? (a.add j) = some u := by
 unfold World.cells? at h
 split at h
 ·have hl := mapM_some_length h
  refine ⟨by simpa using hl, fun j u hj => ?_⟩
  have hlt : j < n := by
   have := (List.getElem?_eq_some_iff.1 hj).1
   have : cs.length = n := by simpa using hl
   omega
  have := mapM_some_get h j j (by simp [hlt])
  rw [hj] at this
  exact this
 ·simp at h
theorem F8 {α : Type} {d : Kd α} {Wf : α -> Prop} (hu : P.underlying t = some (.slice e)) (hc : P.cellsOf e = d.sz) (h : Op P e d Wf) :
  Op P t (Kd.slice e d) (fun xs => xs.length <= maxLen /\ ∀ x ∈ xs, Wf x) := by
 intro H enc w base spare held fuel cs x hf
 rcases open_slice hu hf with ⟨rfl, _⟩ | ⟨a, len, cap, m, n, D, Pl, rfl, _, hl, hm, hmm, hxe, hall⟩
 ·exact ⟨[], ⟨none, 0, rfl, Nat.le_refl _, rfl, by simp, fun h => absurd h (by simp)⟩, by simp, by simp⟩
 ·have hlm : len <= m := by rw [hmm]; split <;> omega
  have hx : ∀ i, i < len -> ∃ y : α × List Value, w.cells? base (a.add (i * P.cellsOf e)) (P.cellsOf e) = some y.2 /\ d.K w y.1 y.2 /\ Wf y.1 := by
   intro i hi
   obtain ⟨cs', h1, h2⟩ := hall i (by omega)
   obtain ⟨y, h3, h4⟩ := h h2
   exact ⟨⟨y, cs'⟩, h1, h3, h4⟩
  have hx' : ∃ ys : List (α × List Value), ys.length = len /\ ∀ i y, ys[i]? = some y -> w.cells? base (a.add (i * P.cellsOf e)) (P.cellsOf e) = some y.2 /\ d.K w y.1 y.2 /\ Wf y.1 := by
   clear hall hf hmm hlm hl hm hxe
   induction len with
   | zero => exact ⟨[], rfl, by simp⟩
   | succ len ih =>
    obtain ⟨ys, h1, h2⟩ := ih (fun i hi => hx i (by omega))
    obtain ⟨y, hy⟩ := hx len (by omega)
    refine ⟨ys ++ [y], by simp [h1], fun i z hz => ?_⟩
    rcases Nat.lt_or_ge i ys.length with hi | hi
    ·rw [List.getElem?_append_left hi] at hz
     exact h2 i z hz
    ·rw [List.getElem?_append_right hi] at hz
     have h0 : i - ys.length = 0 := by
      rcases Nat.eq_zero_or_pos (i - ys.length) with h0 | h0
      ·exact h0
      ·rw [List.getElem?_eq_none (by simp; omega)] at hz
       cases hz
     rw [h0] at hz
     have hz' : y = z := by simpa using hz
     have : i = len := by omega
     subst this
     subst hz'
     exact hy
  obtain ⟨ys, hl2, hys⟩ := hx'
  have hlen : (ys.map (·.1)).length = len := by simp [hl2]
  refine ⟨ys.map (·.1), ⟨some a, cap, by rw [hlen], by omega, ?_⟩, by simp only [maxLen] at *; omega, ?_⟩
  ·refine ⟨rfl, by rw [hlen]; simp only [maxLen] at hm; omega, fun _ => ⟨a, rfl, fun j p hj => ?_⟩⟩
   rw [List.getElem?_map] at hj
   obtain ⟨y, hy, rfl⟩ := Option.map_eq_some_iff.1 hj
   obtain ⟨h1, h2, _⟩ := hys j y hy
   obtain ⟨h3, h4⟩ := Np h1
   refine ⟨y.2, by rw [h3, hc], h2, fun i u hu => ?_⟩
   have := h4 i u hu
   rw [PrintWords.add_add, hc] at this
   exact this
  ·intro x hx
   obtain ⟨y, hy, rfl⟩ := List.mem_map.1 hx
   obtain ⟨i, hi⟩ := List.mem_iff_getElem?.1 hy
   exact (hys i y hi).2.2
theorem UL {l : List Value} (h : l.length = 1) : ∃ a, l = [a] := by
 match l, h with
 | [a], _ => exact ⟨a, rfl⟩
theorem Ww {l : List Value} (h : l.length = 2) : ∃ a b, l = [a, b] := by
 match l, h with
 | [a, b], _ => exact ⟨a, b, rfl⟩
end Go.Proofs.Ytoddejmlcnbdmaa.Qw
namespace Go.Proofs.Ytoddejmlcnbdmaa.fnTrees
open Go.ChangeShapes Go.WideShapes Go.ChangeAt Go.Proofs.Ytoddejmlcnbdmaa.Fn Go.Proofs.Ytoddejmlcnbdmaa.Qw
open Go.ChangeMaps (open_string shut_string)
theorem own : ownKnob Try.prog.godebug = none := by kernel_rfl
theorem laidOut : laidOutB Try.prog = true := by kernel_rfl
theorem lifted (os : Os) (started : os.Started) (H : Type) (enc : TypeId × Value -> H) :
    ReturnsInHanded {} Try.checked os 14 .any (Rows.fnTreesSpec.pre6 enc Try.prog Try.f14 Rows.fnTreesRow.domain false) (Rows.fnTreesSpec.post enc Try.prog Try.f14 false true false false) := by
  refine returnsInHanded_of_change_sized (C := Try.checked) own started (by kernel_rfl) Try.func14
    (ChangeSpec.witness6 (enc := enc) (C := Try.checked) false ⟨#[], #[.slice none 0 0, .slice none 0 0], []⟩ 8 (by kernel_rfl) (by kernel_rfl) (by kernel_rfl) (by kernel_rfl)) ?_
  intro W base args ds gs before hval0 hW hcnd hsz0 _
  have hsz : (DataW.weightsEach Try.prog (Try.f14.params.toList ++ Rows.fnTreesSpec.plain.varTypes Try.prog) (ds ++ gs)).all (· <= reachBytes) = true := hsz0
  have hval : ∀ (j : Nat) t v, Try.f14.params[j]? = some t -> args[j]? = some v -> Value.okWide Try.prog W .any base t v := hval0
  have hW' := hW
  obtain ⟨p, q, hA0, hV, rfl, hfz, hnd⟩ := hW
  have hA : DataW.TrodAll enc Try.prog W 0 (fun _ => true) true Try.f14.params.toList args.toList ds p := hA0
  rw [Try.params14] at hA hval hsz
  obtain ⟨v0, vs0, d0, ds0, p0, q0, hargs, rfl, rfl, h0, r0⟩ := trodAll_cons hA
  obtain ⟨v1, vs1, d1, ds1, p1, q1, rfl, rfl, rfl, h1, r1⟩ := trodAll_cons r0
  obtain ⟨rfl, rfl, rfl⟩ := trodAll_nil r1
  obtain rfl : args = #[v0, v1] := by cases args; simp_all
  obtain ⟨rfl, rfl⟩ := trodVars_none hV
  obtain ⟨a0, LG, cap0, rfl⟩ := okWide_slice Try.underlying56 (hval 0 56 v0 rfl rfl)
  have k0 := h0
  have lt0 : ∀ x ∈ p0, x.block < W.heap.size := by obtain ⟨m, hm⟩ := k0; exact DataW.trod_lt m _ _ _ hm
  obtain ⟨fuel0, hf0⟩ := h0
  obtain ⟨l0, hK0, hw0⟩ := (F8 Try.underlying56 (by kernel_rfl) (Nn Try.underlying5)) hf0
  obtain ⟨A0, c0, e0, hc0, hr0⟩ := hK0
  simp [Value.cells] at e0
  obtain ⟨rfl, rfl, rfl⟩ := e0
  obtain ⟨a1, UL, cap1, rfl⟩ := okWide_slice Try.underlying56 (hval 1 56 v1 rfl rfl)
  have k1 := h1
  have lt1 : ∀ x ∈ p1, x.block < W.heap.size := by obtain ⟨m, hm⟩ := k1; exact DataW.trod_lt m _ _ _ hm
  obtain ⟨fuel1, hf1⟩ := h1
  obtain ⟨l1, hK1, hw1⟩ := (F8 Try.underlying56 (by kernel_rfl) (Nn Try.underlying5)) hf1
  obtain ⟨A1, c1, e1, hc1, hr1⟩ := hK1
  simp [Value.cells] at e1
  obtain ⟨rfl, rfl, rfl⟩ := e1
  clear hA0 hval0 hsz0 hsz
  obtain ⟨k, h⟩ := Pure.FnTrees l0 l1 hw0 hw1
  refine (om.calls k _ _ l0 _ _ l1 true W hr0 hc0 hr1 hc1 h rfl).mono fun e W' ⟨he, bel0⟩ => ?_
  have X6 : Below W.heap.size W W' := bel0
  subst he
  exact ⟨_, rfl, _, _, _, [], _, [], hW', trodAll_mk1 (shut_bool Try.underlying4 _), (trodAll_cons_mk (Below.trod laidOut (by kernel_rfl) (of_decide_eq_true (by kernel_rfl)) k0 X6 lt0) (trodAll_cons_mk (Below.trod laidOut (by kernel_rfl) (of_decide_eq_true (by kernel_rfl)) k1 X6 lt1) trodAll_mk0)), rfl, X6.frame _, fun h => by cases h⟩
theorem over : Rows.fnTreesRow.holds Try.pinned (OpenSpec.ofChange Rows.fnTreesSpec) :=
  OpenClaim.holds_of_wide 14 Try.f14 rfl rfl rfl rfl rfl rfl rfl ⟨rfl, rfl, rfl, rfl, rfl⟩ rfl rfl rfl rfl rfl (by kernel_rfl) Try.func14 (by kernel_rfl)
    (of_decide_eq_true (by kernel_rfl)) (by unfold Func.isWrapper; first | (rw [if_pos (by decide +kernel)]; kernel_rfl) | (rw [if_neg (by decide +kernel)]; exact ⟨rfl, rfl⟩))
    (fun os started H enc _ => lifted os started H enc)
theorem proved : Rows.FnTreesSaid := over
#print axioms proved
end Go.Proofs.Ytoddejmlcnbdmaa.fnTrees
namespace Go.Proofs.Ytoddejmlcnbdmaa
/-- The row, under a short name, for the claim. -/
theorem fnTrees_holds : Rows.FnTreesSaid := fnTrees.proved
end Go.Proofs.Ytoddejmlcnbdmaa

