/- The law FnPages holds of the given program: at every input it answers true and leaves its arguments as they were; no condition. -/
import Derived.Deep.QuietTactic
import Derived.BigQuiet
import Derived.Test.YtoddejmlcnbdmaaQWWords
import Derived.ChangeArms
import Derived.ChangeSame
import Derived.Deep.Slices
import Derived.Deep.Strs
import Derived.Deep.Fields
import Derived.Lib.SmallJoins
import Derived.WideShapes
import Derived.Test.YtoddejmlcnbdmaaRows
import Derived.WalkKit
import Derived.ProofKit
import Derived.OpenShut
import Derived.ShutString
import Derived.ChangeOld
import Derived.Below
import Derived.SizedLaws
import Derived.Carry
import Derived.Test.YtoddejmlcnbdmaaCFPagesA
import Derived.Test.YtoddejmlcnbdmaaCFPagesB
import Derived.Test.YtoddejmlcnbdmaaCFPagesC
import Derived.Test.YtoddejmlcnbdmaaCFPagesD
import Derived.Test.YtoddejmlcnbdmaaCFPagesE
set_option maxHeartbeats 8000000
set_option maxRecDepth 100000
set_option linter.unusedSimpArgs false
set_option linter.unusedVariables false
open Go.RowKit Go.Proofs.YtoddejmlcnbdmaaW.PrintWords Go.Proofs.YtoddejmlcnbdmaaW.PrintLast Go.Proofs.YtoddejmlcnbdmaaW.PrintMore Go.Proofs.Ytoddejmlcnbdmaa.Gen Go.Proofs.Ytoddejmlcnbdmaa.Fn Go.Proofs.Ytoddejmlcnbdmaa.Tree
namespace Go.Proofs.Ytoddejmlcnbdmaa.Pure
theorem NB {α : Type} {P A Z : List α} {a n : Nat} (h : P.drop a = A ++ Z) (hn : A.length = n) : P.drop (a + n) = Z := by
 have := congrArg (List.drop n) h;rw [List.drop_drop, List.drop_left' hn] at this;exact this
theorem Fj {P : List bC} : ∀ (h f a : Nat) (t : PT) (Z : List bC), h <= f -> q9 h t -> kV t -> P.drop a = iM t a ++ Z -> bZ P f a = some (t, a + t.big)
 | 0, f, a, t, Z, _, hl, _, _ => hl.elim
 | h + 1, 0, a, t, Z, hf, _, _, _ => by omega
 | h + 1, f + 1, a, .mk ks vs cs, Z, hf, hl, hb, hd => by
  obtain ⟨⟨h1, h2, h3⟩, h4⟩ := bJ.1 hb;rw [iM, List.cons_append] at hd;obtain ⟨p1, p2, p3⟩ := drop_cons hd;have hg : P.getD a mQ = ⟨ks, vs, starts cs (a + 1)⟩ := by rw [List.getD_eq_getElem?_getD, p2]; rfl
  have hk : ∀ s ∈ cs, q9 h s := fun s hs => by
   rcases hl with ⟨e, _⟩ | ⟨_, e⟩
   ·have e : cs = [] := e
    rw [e] at hs
    cases hs
   ·exact (e s hs).1
  have key : ∀ (l : List PT) (next : Nat) (acc : List PT) (Z : List bC), (∀ s ∈ l, q9 h s /\ kV s) -> P.drop next = oM l next ++ Z -> fu (bZ P f) (starts l next) next acc = some (acc ++ l, next + PT.jA l) := by
   intro l
   induction l with
   | nil =>
    intro next acc Z _ _;rw [starts, fu, List.append_nil];rfl
   | cons c l ih =>
    intro next acc Z hq hd;rw [oM, List.append_assoc] at hd;obtain ⟨q1, q2⟩ := hq c List.mem_cons_self;rw [starts, fu, if_neg (by simp), Fj h f next c _ (by omega) q1 q2 hd];show fu (bZ P f) (starts l (next + c.big)) (next + c.big) (acc ++ [c]) = _;rw [ih (next + c.big) (acc ++ [c]) Z (fun s hs => hq s (List.mem_cons_of_mem _ hs)) (NB hd (uK c next)), List.append_assoc, PT.jA, Nat.add_assoc];rfl
  have h1 : vs.length = ks.length := h1;have h2 : ks.length <= 4 := h2;have h3 : cs.length = 0 \/ cs.length = ks.length + 1 := h3;refine tF (by omega) ?_ (by rw [hg]; rfl) (by rw [hg]; rfl) ?_
  ·rw [hg]
   unfold qX;simp only [ql, Bool.or_eq_false_iff, Bool.and_eq_false_iff, decide_eq_false_iff_not, bne_eq_false_iff_eq];refine ⟨⟨by omega, h1⟩, ?_⟩
   rcases h3 with e | e
   ·exact .inl e
   ·exact .inr e
  ·rw [hg]
   show fu (bZ P f) (starts cs (a + 1)) (a + 1) [] = _;rw [key cs (a + 1) [] Z (fun s hs => ⟨hk s hs, h4 s hs⟩) p3, PT.big, List.nil_append];simp only [PT.kids, Nat.add_assoc]
theorem Sd {g : Nat} {t : PT} (hs : om t) (hl : q9 g t) (h : (bB t).length <= 40) : g <= 4 := by
 cases g with
 | zero => omega
 | succ g =>
  have h1 := F6 g t hs hl
  rcases Nat.lt_or_ge g 4 with h2 | h2
  ·omega
  ·have h3 : 3 ^ 4 <= 3 ^ g := Nat.pow_le_pow_right (by omega) h2
   have h4 : 1 * 3 ^ g <= (t.keys.length + 1) * 3 ^ g := Nat.mul_le_mul_right _ (by omega);omega
theorem PM {t : PT} (h : EG t) (hl : (bB t).length <= 40) (hc : pJ (bB t) (eD t) none = true) : mq (iM t 0) = some t := by
 obtain ⟨g, hg⟩ := h.Wn;have hsh := bA h.bnd;have h4 := Sd hsh hg hl;have hsm := h.small;rw [ko hsh] at hsm;unfold mq;rw [Fj g 10 0 t [] (by omega) hg h.bnd (by rw [List.drop_zero, List.append_nil])];simp only [uK, Nat.zero_add, ne_eq, not_true, if_false, hc];rw [if_neg (by decide), if_neg];rintro (e | ⟨e1, e2⟩ | e)
 ·rcases xR _ t (Nat.le_refl _) (by omega) with ⟨_, _, e3⟩ | ⟨e3, _⟩
  ·omega
  ·exact e3 g hg
 ·have := h.root fun e => e1 (by rw [e]; rfl)
  omega
 ·omega
theorem jr {k : ByteArray} {x : KV} {l : List KV} (h : (x.1.toList == k.toList) = false) : dQ k (x :: l) = dQ k l := by
 unfold dQ;rw [List.find?_cons, h]
theorem CB {k v : ByteArray} : ∀ l : List KV, dQ k (fD k v l) = (v, true)
 | [] => nV (by simp)
 | x :: l => by
  rw [fD]
  split
  ·rename_i h
   rw [jr (xY ((jT _ _).1 h))];exact CB l
  ·split
   ·rename_i h
    exact nV h
   ·exact nV (by simp)
theorem zC {k v q : ByteArray} (hq : (q.toList == k.toList) = false) : ∀ l : List KV, dQ q (fD k v l) = dQ q l
 | [] => jr (by rw [Bool.beq_comm]; exact hq)
 | x :: l => by
  have hk : (k.toList == q.toList) = false := by rw [Bool.beq_comm]; exact hq
  rw [fD]
  split
  ·cases h : (x.1.toList == q.toList) with
   | true => rw [nV h, nV h]
   | false => rw [jr h, jr h, zC hq l]
  ·split
   ·rename_i h
    have e := eq_of_beq h;have hx : (x.1.toList == q.toList) = false := by rw [e]; exact hk
    rw [jr hx];exact jr hx
   ·exact jr hk
theorem IV {k : ByteArray} {l : List KV} (h : ∀ x ∈ l, (x.1.toList == k.toList) = false) : (dQ k l).2 = false := by rw [EU h]
theorem Mo {k v : ByteArray} : ∀ l : List KV, kK l -> (fD k v l).length = l.length + (if (dQ k l).2 = true then 0 else 1)
 | [], _ => rfl
 | x :: l, hs => by
  obtain ⟨h1, h2⟩ := List.pairwise_cons.1 hs;rw [fD]
  split
  ·rename_i h
   rw [jr (xY ((jT _ _).1 h)), List.length_cons, Mo l h2, List.length_cons];omega
  ·rename_i hn
   split
   ·rename_i h
    rw [nV h];rfl
   ·rename_i h
    have hlt : qZ k x.1 := LP (by simpa using hn) (by simpa using h);rw [IV]
    ·rfl
    ·intro y hy
     rcases List.mem_cons.1 hy with rfl | hy
     ·exact xP hlt
     ·exact xP (lt_trans hlt (h1 y hy))
theorem Mq {k v : ByteArray} (l : List KV) : Has k (fD k v l) := l9.1 (by rw [CB])
theorem Mr {k : ByteArray} {l : List KV} (hs : kK l) (h : Has k l) : (kz k l).length + 1 = l.length := by
 obtain ⟨x, hx, he⟩ := h;obtain ⟨A, B, rfl⟩ := List.append_of_mem hx;rw [vH hs he, List.length_append, List.length_append, List.length_cons];omega
theorem AX {k : ByteArray} {l : List KV} {x : KV} (h : x ∈ kz k l) : x ∈ l /\ (x.1.toList == k.toList) = false := by
 unfold kz at h;obtain ⟨h1, h2⟩ := List.mem_filter.1 h;exact ⟨h1, by simpa using h2⟩
structure Held (P : List bC) (l : List KV) : Prop where
 tree : ∃ t, mq P = some t /\ aX t = l
 AL : kK l
 few : l.length <= 40
 keys : ∃ k, ic.f k P = some (l.map Prod.fst, true)
 good : ∃ k, fo.f k P = some true
 get : ∀ x, ∃ k, fC.f k P x = some (dQ x l)
theorem Ms {P : List bC} (hok : zP P = true) (hP : P.length <= 1048576) (x : ByteArray) : ∃ (g : ByteArray × Bool) (k : Nat), fC.f k P x = some g /\ mM.f P x = some g /\ ∀ t, mq P = some t -> g = dQ x (aX t) := by
 obtain ⟨k, hk⟩ := vJ P hP;dsimp only at hk;unfold fC.f mM.f;simp only [if_pos hok]
 cases hof : mq P with
 | none =>
  rw [hof] at hk;exact ⟨(⟨#[]⟩, false), k, by rw [hk k (Nat.le_refl _)]; rfl, rfl, fun t h => by cases h⟩
 | some t =>
  rw [hof] at hk;obtain ⟨h1, _⟩ := jX hP hof;obtain ⟨K, hK⟩ := FT t.big t x (Nat.le_refl _) (bA h1.bnd) ((ku (bA h1.bnd)).2 h1.AL);refine ⟨xH t.big t x, k + K + t.big, by rw [hk _ (by omega)]; exact hK _ (by omega) _ (by omega), rfl, fun t' h => ?_⟩
  injection h with h
  subst h;exact uN t.big t x (Nat.le_refl _) h1.bnd h1.AL
theorem Gp {P : List bC} {t : PT} (hok : zP P = true) (hP : P.length <= 1048576) (h : mq P = some t) : Held P (aX t) := by
 obtain ⟨h1, h2⟩ := jX hP h;have hr := vJ P hP;rw [h] at hr;refine ⟨⟨t, h, rfl⟩, h1.AL, h2, ?_, ?_, fun x => ?_⟩
 ·have : Ev (fun k => ic.f k P) (bB t, true) := by
   simp only [ic.f, if_pos hok];exact Ev.bind hr (Ev.val rfl)
  obtain ⟨k, hk⟩ := this;exact ⟨k, by rw [<- rQ (bA h1.bnd)]; exact hk k (Nat.le_refl _)⟩
 ·have : Ev (fun k => fo.f k P) true := by
   simp only [fo.f, if_pos hok];exact Ev.bind hr (Ev.val rfl)
  obtain ⟨k, hk⟩ := this;exact ⟨k, hk k (Nat.le_refl _)⟩
 ·obtain ⟨g, k, e1, _, e3⟩ := Ms hok hP x
  exact ⟨k, by rw [e1, e3 t h]⟩
theorem Held.uniq {P : List bC} {l l' : List KV} (h : Held P l) (h' : Held P l') : l = l' := by
 obtain ⟨t, a, rfl⟩ := h.tree;obtain ⟨t', a', rfl⟩ := h'.tree;rw [a] at a'
 injection a' with e
 rw [e]
theorem Sg {P : List bC} (hok : zP P = true) (hP : P.length <= 1048576) : ∃ (b : Bool) (k : Nat), fo.f k P = some b /\ kH.f P = some b := by
 obtain ⟨k, hk⟩ := vJ P hP;have hk := hk k (Nat.le_refl _);dsimp only at hk;exact ⟨(mq P).isSome, k, by unfold fo.f; rw [if_pos hok, hk]; rfl, by unfold kH.f; rw [if_pos hok]⟩
theorem IW : ∀ (K : List ByteArray) (prev : Option ByteArray), DC K -> (∀ p, prev = some p -> ∀ k ∈ K, qZ p k) -> K.all jJ = true -> qI K prev = true
 | [], _, _, _, _ => rfl
 | k :: K, prev, hs, hp, ha => by
  obtain ⟨h1, h2⟩ := List.pairwise_cons.1 hs;rw [List.all_cons, Bool.and_eq_true] at ha;rw [qI, ha.1, IW K (some k) h2 (fun p e => by injection e with e; subst e; exact h1) ha.2, Bool.and_true, Bool.true_and]
  cases prev with
  | none => rfl
  | some p => exact (jT p k).2 (hp p rfl k List.mem_cons_self)
def AY (l : List KV) : Prop := ∀ x ∈ l, jJ x.1 = true /\ lM x.2 = true
theorem IX {P : List bC} {t : PT} (hP : P.length <= 1048576) (h : mq P = some t) : AY (aX t) := by
 have hg := AO hP h;obtain ⟨h1, _⟩ := jX hP h;have hk := hg.keys;have hv := hg.vals;rw [rQ (bA h1.bnd)] at hk;rw [Ep (bA h1.bnd)] at hv;intro x hx;exact ⟨List.all_eq_true.1 hk _ (List.mem_map_of_mem hx), List.all_eq_true.1 hv _ (List.mem_map_of_mem hx)⟩
theorem Fp {t : PT} (h : EG t) (hl : (aX t).length <= 40) (hp : AY (aX t)) : Held (iM t 0) (aX t) /\ (iM t 0).length <= 1000 /\ ∀ p ∈ iM t 0, p.f0.length <= 4 /\ p.f1.length <= 4 /\ p.f2.length <= 5 := by
 have hsh := bA h.bnd;have hs := (ku hsh).2 h.AL
 have hc : pJ (bB t) (eD t) none = true := by
  rw [vC _ _ _ (iW hsh).symm, Bool.and_eq_true];refine ⟨IW _ _ hs (fun p e => by cases e) ?_, ?_⟩
  ·rw [rQ hsh, List.all_eq_true]
   intro x hx;obtain ⟨y, hy, rfl⟩ := List.mem_map.1 hx;exact (hp y hy).1
  ·rw [Ep hsh, List.all_eq_true]
   intro x hx;obtain ⟨y, hy, rfl⟩ := List.mem_map.1 hx;exact (hp y hy).2
 have hb := PM h (by rw [<- ko hsh]; exact hl) hc;obtain ⟨q1, q2⟩ := Mj h (by omega);have ht : kM (iM t 0) = true := pV q1 q2;obtain ⟨t1, t2⟩ := jo ht;exact ⟨Gp t1 t2 hb, q1, q2⟩
theorem kI : ([] : List bC).length <= 1000 /\ ∀ p ∈ ([] : List bC), p.f0.length <= 4 /\ p.f1.length <= 4 /\ p.f2.length <= 5 := ⟨by simp, fun p hp => by cases hp⟩
theorem Si {P : List bC} (ht : kM P = true) (key val : ByteArray) : ∃ (r : List bC) (b : Bool) (k : Nat),
  lD.f k P key val = some (r, b) /\ iN.f P key val = some (r, b) /\ r.length <= 1000 /\ (∀ p ∈ r, p.f0.length <= 4 /\ p.f1.length <= 4 /\ p.f2.length <= 5) /\ (b = true -> ∃ l, Held P l /\ Held r (fD key val l)) := by
 obtain ⟨hok, hP⟩ := jo ht;obtain ⟨k, hk⟩ := vJ P hP;have hk := hk k (Nat.le_refl _);dsimp only at hk
 have h1 : lD.f k P key val = some ((zS (mq P) key val).1, (zS (mq P) key val).2) := by
  unfold lD.f;rw [if_pos ht, hk];rfl
 have h2 : iN.f P key val = some ((zS (mq P) key val).1, (zS (mq P) key val).2) := by
  unfold iN.f;rw [if_pos ht]
 refine ⟨_, _, k, h1, h2, ?_⟩
 cases hof : mq P with
 | none => exact ⟨kI.1, kI.2, fun h => by cases h⟩
 | some t =>
  obtain ⟨o1, o2⟩ := jX hP hof;obtain ⟨q1, q2⟩ := tH o1 key val;unfold zS;simp only
  split
  ·rename_i hp
   split
   ·exact ⟨kI.1, kI.2, fun h => by cases h⟩
   ·rename_i Ot
    rw [<- ko (bA q1.bnd)] at Ot;rw [rP, Bool.and_eq_true] at hp
    have hpo : AY (aX (pz t key val)) := by
     rw [q2];intro x hx;have h0 := IX hP hof
     rcases yN hx with rfl | hx | ⟨y, hy, rfl⟩
     ·exact hp
     ·exact h0 x hx
     ·exact ⟨(h0 y hy).1, hp.2⟩
    obtain ⟨g1, g2, g3⟩ := Fp q1 (by omega) hpo;rw [q2] at g1;exact ⟨g2, g3, fun _ => ⟨aX t, Gp hok hP hof, g1⟩⟩
  ·exact ⟨kI.1, kI.2, fun h => by cases h⟩
theorem IY {P : List bC} (ht : kM P = true) (key : ByteArray) : ∃ (r : List bC) (b : Bool) (k : Nat),
  jq.f k P key = some (r, b) /\ gY.f P key = some (r, b) /\ r.length <= 1000 /\ (∀ p ∈ r, p.f0.length <= 4 /\ p.f1.length <= 4 /\ p.f2.length <= 5) /\ (∀ l, Held P l -> Has key l -> b = true) /\ (b = true -> ∃ l, Held P l /\ Has key l /\ Held r (kz key l)) := by
 obtain ⟨hok, hP⟩ := jo ht
 have h2 : gY.f P key = some ((uj (mq P) key).1, (uj (mq P) key).2) := by
  unfold gY.f;rw [if_pos ht]
 have h1 : Ev (fun k => jq.f k P key) ((uj (mq P) key).1, (uj (mq P) key).2) := by
  simp only [jq.f, if_pos ht];refine Ev.bind (vJ P hP) ?_
  cases ho : mq P with
  | none => exact Ev.val rfl
  | some t =>
   obtain ⟨h1, _⟩ := jX hP ho;obtain ⟨K, hK⟩ := FT t.big t key (Nat.le_refl _) (bA h1.bnd) ((ku (bA h1.bnd)).2 h1.AL);exact Ev.bind (a := xH t.big t key) ⟨max K t.big, fun k hk => hK k (by omega) k (by omega)⟩ (Ev.val rfl)
 obtain ⟨k, h1⟩ := h1;refine ⟨_, _, k, h1 k (Nat.le_refl _), h2, ?_⟩
 cases hof : mq P with
 | none =>
  refine ⟨kI.1, kI.2, fun l hl _ => ?_, fun h => by cases h⟩;obtain ⟨t, e, _⟩ := hl.tree;rw [hof] at e
  cases e
 | some t =>
  obtain ⟨o1, o2⟩ := jX hP hof
  have hin : ∀ l, Held P l -> Has key l -> (dQ key (aX t)).2 = true := fun l hl hh => by
   obtain ⟨t', e, rfl⟩ := hl.tree;rw [hof] at e
   injection e with e
   subst e;exact l9.2 hh
  unfold uj;simp only
  split
  ·rename_i hc
   obtain ⟨r, e1, q1, q2⟩ := uJ o1 (l9.1 hc);rw [e1]
   have hpo : AY (aX (lq r)) := by
    rw [q2];intro x hx;exact IX hP hof x (AX hx).1
   have hl : (kz key (aX t)).length <= (aX t).length := List.length_filter_le _ _;obtain ⟨g1, g2, g3⟩ := Fp q1 (by rw [q2]; omega) hpo;rw [q2] at g1;exact ⟨g2, g3, fun _ _ _ => rfl, fun _ => ⟨aX t, Gp hok hP hof, l9.1 hc, g1⟩⟩
  ·rename_i hc
   exact ⟨kI.1, kI.2, fun l hl hh => absurd (hin l hl hh) hc, fun h => by cases h⟩
end Go.Proofs.Ytoddejmlcnbdmaa.Pure
namespace Go.Proofs.Ytoddejmlcnbdmaa.Tree
open Go.Proofs.Ytoddejmlcnbdmaa.Pure (pV Cq Gl)
def Gq (w : World) (A : Option Addr) (c n : Nat) (r : List bC) : Prop := r.length = n /\ n <= c /\ Kd.C j4 w A r.length r /\ kM r = true
theorem Cv.cut {w0 w W : World} {g b : Nat} {s : List Int} {m : Int} {gs : List (List Ck)} {A : Option Addr} {c n : Nat} {pgs : List Pg} {v : Value} (h : Cv w0 w W g s m gs) (i : Nat) (hi : gs[i]? = some (bK (.slice A pgs.length c) pgs)) (hn : n <= pgs.length) (h1 : pgs.length <= 1000) (h2 : ∀ p ∈ pgs.map Pg.erase, p.f0.length <= 4 /\ p.f1.length <= 4 /\ p.f2.length <= 5) (hb : b < w.heap.size) : Gq (W.setCell ⟨b, 0, none⟩ v) A c n ((pgs.map Pg.erase).take n) := by
 have hS := h.S.at i hi;have q2 := (Cw (v := .slice none 0 0) hS).2;rw [List.length_map] at q2;have e : ((pgs.map Pg.erase).take n).length = n := by rw [List.length_take, List.length_map]; omega
 exact ⟨e, by omega, Ml hS hn _ (fun k hk _ => Below.heap_setCell _ _ _ _ (fun e => by have e : k = b := e; omega)), pV (by omega) (fun p hp => h2 p (List.mem_of_mem_take hp))⟩
theorem Cv.J3 {w0 w W : World} {g : Nat} {s : List Int} {m : Int} {gs : List (List Ck)} {A : Option Addr} {c n : Nat} {pgs : List Pg} (h : Cv w0 w W g s m gs) (i : Nat) (hi : gs[i]? = some (bK (.slice A pgs.length c) pgs)) (hn : n <= pgs.length) (h1 : pgs.length <= 1000) (h2 : ∀ p ∈ pgs.map Pg.erase, p.f0.length <= 4 /\ p.f1.length <= 4 /\ p.f2.length <= 5) : Gq W A c n ((pgs.map Pg.erase).take n) := by
 have hS := h.S.at i hi;have q2 := (Cw (v := .slice none 0 0) hS).2;rw [List.length_map] at q2;have e : ((pgs.map Pg.erase).take n).length = n := by rw [List.length_take, List.length_map]; omega
 exact ⟨e, by omega, (Ml hS hn).C, pV (by omega) (fun p hp => h2 p (List.mem_of_mem_take hp))⟩
abbrev t2 (A : Option Addr) (c : Nat) (pgs : List Pg) (b n : Nat) (X : List (List Ck)) : List (List Ck) := bK (.slice A pgs.length c) pgs :: [.box 29 b #[.slice A n c]] :: X
abbrev t5 (v : Value) (x y z : ByteArray) : List Ck := [txt v [x, y, z, ⟨#[]⟩, ⟨#[116, 104, 105, 114, 116, 101, 101, 110, 32, 98, 121, 116, 101]⟩]]
abbrev t4 (v : Value) : List Ck := [txt v [⟨#[110, 101, 119]⟩, ⟨#[]⟩]]
def Mt (w : World) (e : Ending) (w' : World) : Prop := ∃ A c n r x, e = .returned (.tuple #[.agg #[.slice A n c], .string x]) /\ Gq w' A c n r /\ Below w.heap.size w w'
def PN (w : World) (e : Ending) (w' : World) : Prop := ∃ A c n r x y, e = .returned (.tuple #[.agg #[.slice A n c], .string x, .string y]) /\ Gq w' A c n r /\ Below w.heap.size w w'
theorem zV.runs (A0 : Option Addr) (c0 : Nat) (l0 : List Int) (hcd : Pure.Code l0) (w : World) (hr0 : Kd.C (Kd.int .u8) w A0 l0.length l0) : Calls Try.prog 48 #[.slice A0 l0.length c0] w (Mt w) := by
 have Yf := A_ hcd;have HR := A_ hr0;clear hcd hr0;go_enter Try.func48, Try.ntmps48
 go_wp2_with (first | (refine jl 2 #[.slice none 0 0] 29 ?_; intro b2 hg w1 aA hb; have HX := A_ aA; have HB := A_ hb; have HG : af (w.heap.size <= b2) := ⟨by rw [hg]; exact Nat.le_refl _⟩; clear hg aA hb) | (refine jl 7 #[.slice A0 l0.length c0, .int .i64 0, .int .u64 0] 105 ?_; intro g hg w2 aA hb; have HC := A_ (Cv.start Yf.out HR.out HB.out hg aA hb); have Ra := A_ (bG HX.out hb); have HN : af (b2 ≠ g /\ b2 < w2.heap.size) := ⟨by have := gU HX.out; omega, gU Ra.out⟩; clear HX HB; have HX := Ra; clear Ra; clear hg aA hb) | (go_at_call 87; (with_reducible refine (HC.out.PK (by decide)).mono ?_); rintro e w3 ⟨A, c, pgs, n, rfl, h1, h2, h3, hc⟩; have HO := A_ (And.intro h1 (And.intro h2 h3)); clear HC h1 h2 h3; have HC := A_ hc; clear hc) | (go_at_call 89; (with_reducible refine (HC.out.uO (by decide)).mono ?_); rintro e w4 ⟨x, rfl, -, hc⟩; have ah : af (Cv w w2 w4 g l0 200002 [bK (.slice A pgs.length c) pgs]) := ⟨hc.le (by decide)⟩; clear HC hc; have HC := ah; clear ah; have xm := A_ (HC.out.blk HX.out HN.out.1); have hz2 := (au xm.out 0).trans rfl; have hf2 := aV xm.out 0))
 refine bodyPost_ret (df rfl _ _ b2 29 #[.slice A n c] (0, 0) _ rfl (dP (cs := #[.slice none 0 0]) xm.out 0 _ rfl) Try.underlying29 rfl (by kernel_rfl)) rfl ?_;exact ⟨A, c, n, _, x, rfl, HC.out.cut 0 rfl HO.out.1 HO.out.2.1 HO.out.2.2 HN.out.2, bF HC.out.B HG.out⟩
theorem zW.runs (A0 : Option Addr) (c0 : Nat) (l0 : List Int) (hcd : Pure.Code l0) (w : World) (hr0 : Kd.C (Kd.int .u8) w A0 l0.length l0) : Calls Try.prog 45 #[.slice A0 l0.length c0] w (PN w) := by
 have Yf := A_ hcd;have HR := A_ hr0;clear hcd hr0;go_enter Try.func45, Try.ntmps45
 go_upto_region 3 with (first | (refine jl 2 #[.slice none 0 0] 29 ?_; intro b2 hg w1 aA hb; have HX := A_ aA; have HB := A_ hb; have HG : af (w.heap.size <= b2) := ⟨by rw [hg]; exact Nat.le_refl _⟩; clear hg aA hb) | (refine jl 9 #[.slice A0 l0.length c0, .int .i64 0, .int .u64 0] 105 ?_; intro g hg w2 aA hb; have HC := A_ (Cv.start Yf.out HR.out HB.out hg aA hb); have Ra := A_ (bG HX.out hb); have HN : af (b2 ≠ g /\ b2 < w2.heap.size) := ⟨by have := gU HX.out; omega, gU Ra.out⟩; clear HX HB; have HX := Ra; clear Ra; clear hg aA hb) | (go_at_call 87; (with_reducible refine (HC.out.PK (by decide)).mono ?_); rintro e w3 ⟨A, c, pgs, n, rfl, h1, h2, h3, hc⟩; have HO := A_ (And.intro h1 (And.intro h2 h3)); clear HC h1 h2 h3; have HC := A_ hc; clear hc) | (refine jl 6 #[.slice none 0 0] 29 ?_; intro b6 hg w4 aA hb; have ah : af (Cv w w2 w4 g l0 200000 [bK (.slice A pgs.length c) pgs, [.box 29 b6 #[.slice none 0 0]]]) := ⟨HC.out.box hg aA hb⟩; clear HC hg aA hb; have HC := ah; clear ah; have vR := HC.out.z 1 rfl; have wH := HC.out.f 1 rfl))
 have ah : af (Cv w w2 (World.setCell w4 ⟨b6, 0, none⟩ (.slice A n c)) g l0 200000 (t2 A c pgs b6 n [])) := ⟨HC.out.put 1 rfl 0 _⟩
 generalize World.setCell w4 ⟨b6, 0, none⟩ (.slice A n c) = w5 at ah ⊢;clear HC vR wH;have HC := ah;clear ah;replace HC := A_ HC.out.drew;refine bS (n := 16) (S := fun w' => w'.cell? ⟨b6, 0, none⟩ = some (.slice A n c)) (ds := [13]) (bt 16 0) (by kernel_rfl) rfl rfl (HC.out.z 1 rfl) (fun hHeld => ?_);generalize World.drew _ = wd at HC hHeld ⊢;refine aH 1 13 2 ?_;refine aH 2 14 6 ?_;refine aH 4 16 22 ?_;refine aH 6 18 86 ?_;refine aH 10 22 1110 ?_;refine fq 0 12 1111 hHeld ?_;refine gQ (σ := ByteArray × ByteArray × ByteArray × Value × ByteArray × Value) 4 (bt 16 4095) (fun s_ => [(15, .string s_.1), (17, .string s_.2.1), (19, .string s_.2.2.1), (20, s_.2.2.2.1), (21, .string s_.2.2.2.2.1), (23, s_.2.2.2.2.2)]) (fun s_ w' => (∃ A4 c4, s_.2.2.2.2.2 = .slice A4 2 c4) /\ Cv w w2 w' g l0 (200000 + 2 + 2 + 2 + 2) (t2 A c pgs b6 n [t5 s_.2.2.2.1 s_.1 s_.2.1 s_.2.2.1, t4 s_.2.2.2.2.2])) ?_ ?_;rotate_left
 ·intro hJ3_5_7_8_9_11
  refine gQ (σ := ByteArray × ByteArray × ByteArray × Value × ByteArray) 5 (bt 16 2047) (fun s_ => [(15, .string s_.1), (17, .string s_.2.1), (19, .string s_.2.2.1), (20, s_.2.2.2.1), (21, .string s_.2.2.2.2)]) (fun s_ w' => Cv w w2 w' g l0 (200000 + 2 + 2 + 2 + 2) (t2 A c pgs b6 n [t5 s_.2.2.2.1 s_.1 s_.2.1 s_.2.2.1])) ?_ ?_;rotate_left
  ·intro hJ3_5_7_8_9
   refine gQ (σ := ByteArray × ByteArray × ByteArray × Value × Value) 5 (bt 16 3583) (fun s_ => [(15, .string s_.1), (17, .string s_.2.1), (19, .string s_.2.2.1), (20, s_.2.2.2.1), (23, s_.2.2.2.2)]) (fun s_ w' => (∃ A5 c5, s_.2.2.2.1 = .slice A5 5 c5) /\ (∃ A4 c4, s_.2.2.2.2 = .slice A4 2 c4) /\ Cv w w2 w' g l0 (200000 + 2 + 2 + 2) (t2 A c pgs b6 n [t5 s_.2.2.2.1 s_.1 s_.2.1 s_.2.2.1, t4 s_.2.2.2.2])) ?_ ?_;rotate_left
   ·intro hJ3_5_7_8_11
    refine gQ (σ := ByteArray × ByteArray × ByteArray × Value) 6 (bt 16 1535) (fun s_ => [(15, .string s_.1), (17, .string s_.2.1), (19, .string s_.2.2.1), (20, s_.2.2.2)]) (fun s_ w' => (∃ A5 c5, s_.2.2.2 = .slice A5 5 c5) /\ Cv w w2 w' g l0 (200000 + 2 + 2 + 2) (t2 A c pgs b6 n [t5 s_.2.2.2 s_.1 s_.2.1 s_.2.2.1])) ?_ ?_;rotate_left
    ·intro hJ3_5_7_8
     refine gQ (σ := ByteArray × ByteArray × ByteArray × Value) 6 (bt 16 3327) (fun s_ => [(15, .string s_.1), (17, .string s_.2.1), (19, .string s_.2.2.1), (23, s_.2.2.2)]) (fun s_ w' => (∃ A4 c4, s_.2.2.2 = .slice A4 2 c4) /\ Cv w w2 w' g l0 (200000 + 2 + 2 + 2) (t2 A c pgs b6 n [t4 s_.2.2.2])) ?_ ?_;rotate_left
     ·intro hJ3_5_7_11
      refine gQ (σ := ByteArray × ByteArray × ByteArray) 7 (bt 16 1279) (fun s_ => [(15, .string s_.1), (17, .string s_.2.1), (19, .string s_.2.2)]) (fun s_ w' => Cv w w2 w' g l0 (200000 + 2 + 2 + 2) (t2 A c pgs b6 n [])) ?_ ?_;rotate_left
      ·intro hJ3_5_7
       refine gQ (σ := ByteArray × ByteArray × Value) 7 (bt 16 3199) (fun s_ => [(15, .string s_.1), (17, .string s_.2.1), (23, s_.2.2)]) (fun s_ w' => (∃ A4 c4, s_.2.2 = .slice A4 2 c4) /\ Cv w w2 w' g l0 (200000 + 2 + 2) (t2 A c pgs b6 n [t4 s_.2.2])) ?_ ?_;rotate_left
       ·intro hJ3_5_11
        refine gQ (σ := ByteArray × ByteArray) 8 (bt 16 1151) (fun s_ => [(15, .string s_.1), (17, .string s_.2)]) (fun s_ w' => Cv w w2 w' g l0 (200000 + 2 + 2) (t2 A c pgs b6 n [])) ?_ ?_;rotate_left
        ·intro hJ3_5
         refine gQ (σ := ByteArray × Value) 8 (bt 16 3167) (fun s_ => [(15, .string s_.1), (23, s_.2)]) (fun s_ w' => (∃ A4 c4, s_.2 = .slice A4 2 c4) /\ Cv w w2 w' g l0 (200000 + 2) (t2 A c pgs b6 n [t4 s_.2])) ?_ ?_;rotate_left
         ·intro hJ3_11
          refine gQ (σ := ByteArray) 9 (bt 16 1119) (fun s_ => [(15, .string s_)]) (fun s_ w' => Cv w w2 w' g l0 (200000 + 2) (t2 A c pgs b6 n [])) ?_ ?_;rotate_left
          ·intro hJ3
           refine gQ (σ := Value) 9 (bt 16 3159) (fun s_ => [(23, s_)]) (fun s_ w' => (∃ A4 c4, s_ = .slice A4 2 c4) /\ Cv w w2 w' g l0 200000 (t2 A c pgs b6 n [t4 s_])) ?_ ?_;rotate_left
           ·intro hJ11
            refine ve 3 11 (some 15) (some 23) 1119 3159 (fun K hK => ?_) (fun K hK => ?_)
            ·skip
             refine lI Try.func89 #[.pointer (some ⟨g, 0, none⟩)] ?_
             with_reducible refine (HC.out.uO (by decide)).mono ?_
             rintro e w9 ⟨k1, rfl, -, hc⟩;refine ⟨_, rfl, ?_⟩;replace HC := A_ hc;clear hc;refine dh 15 hK (HC.out.z 1 rfl) (fun hHeld => ?_);exact qC (hJ3 k1 _ HC.out)
            ·skip
             refine zT 23 2 [⟨#[110, 101, 119]⟩, ⟨#[]⟩] ?_;intro A4 c4 w9 ho hb;replace HC := A_ (HC.out.lit hb ho);clear ho hb;refine dh 23 hK (HC.out.z 1 rfl) (fun hHeld => ?_);exact qC (hJ11 (.slice A4 2 c4) _ ⟨⟨A4, c4, rfl⟩, HC.out⟩)
           ·skip
            rintro lu wj ⟨⟨A4, c4, rfl⟩, hc⟩;have HC := A_ hc;have hHeld := hc.z 1 rfl;clear hc;refine uq ?_;refine gG 3 (some 15) 3167 (fun K hK => ?_);refine lI Try.func89 #[.pointer (some ⟨g, 0, none⟩)] ?_
            with_reducible refine (HC.out.uO (by decide)).mono ?_
            rintro e w9 ⟨k1, rfl, -, hc⟩;refine ⟨_, rfl, ?_⟩;replace HC := A_ hc;clear hc;refine dh 15 hK (HC.out.z 1 rfl) (fun hHeld => ?_);exact qC (hJ3_11 (⟨k1, (.slice A4 2 c4)⟩) _ ⟨⟨A4, c4, rfl⟩, HC.out⟩)
          ·skip
           rintro k1 wj hc;have HC := A_ hc;have hHeld := hc.z 1 rfl;clear hc;refine uq ?_;refine ve 5 11 (some 17) (some 23) 1151 3167 (fun K hK => ?_) (fun K hK => ?_)
           ·skip
            refine lI Try.func89 #[.pointer (some ⟨g, 0, none⟩)] ?_
            with_reducible refine (HC.out.uO (by decide)).mono ?_
            rintro e w9 ⟨k2, rfl, -, hc⟩;refine ⟨_, rfl, ?_⟩;replace HC := A_ hc;clear hc;refine dh 17 hK (HC.out.z 1 rfl) (fun hHeld => ?_);exact qC (hJ3_5 (⟨k1, k2⟩) _ HC.out)
           ·skip
            refine zT 23 2 [⟨#[110, 101, 119]⟩, ⟨#[]⟩] ?_;intro A4 c4 w9 ho hb;replace HC := A_ (HC.out.lit hb ho);clear ho hb;refine dh 23 hK (HC.out.z 1 rfl) (fun hHeld => ?_);exact qC (hJ3_11 (⟨k1, (.slice A4 2 c4)⟩) _ ⟨⟨A4, c4, rfl⟩, HC.out⟩)
         ·skip
          rintro ⟨k1, lu⟩ wj ⟨⟨A4, c4, rfl⟩, hc⟩;have HC := A_ hc;have hHeld := hc.z 1 rfl;clear hc;refine uq ?_;refine gG 5 (some 17) 3199 (fun K hK => ?_);refine lI Try.func89 #[.pointer (some ⟨g, 0, none⟩)] ?_
          with_reducible refine (HC.out.uO (by decide)).mono ?_
          rintro e w9 ⟨k2, rfl, -, hc⟩;refine ⟨_, rfl, ?_⟩;replace HC := A_ hc;clear hc;refine dh 17 hK (HC.out.z 1 rfl) (fun hHeld => ?_);exact qC (hJ3_5_11 (⟨k1, k2, (.slice A4 2 c4)⟩) _ ⟨⟨A4, c4, rfl⟩, HC.out⟩)
        ·skip
         rintro ⟨k1, k2⟩ wj hc;have HC := A_ hc;have hHeld := hc.z 1 rfl;clear hc;refine uq ?_;refine ve 7 11 (some 19) (some 23) 1279 3199 (fun K hK => ?_) (fun K hK => ?_)
         ·skip
          refine lI Try.func89 #[.pointer (some ⟨g, 0, none⟩)] ?_
          with_reducible refine (HC.out.uO (by decide)).mono ?_
          rintro e w9 ⟨k3, rfl, -, hc⟩;refine ⟨_, rfl, ?_⟩;replace HC := A_ hc;clear hc;refine dh 19 hK (HC.out.z 1 rfl) (fun hHeld => ?_);exact qC (hJ3_5_7 (⟨k1, k2, k3⟩) _ HC.out)
         ·skip
          refine zT 23 2 [⟨#[110, 101, 119]⟩, ⟨#[]⟩] ?_;intro A4 c4 w9 ho hb;replace HC := A_ (HC.out.lit hb ho);clear ho hb;refine dh 23 hK (HC.out.z 1 rfl) (fun hHeld => ?_);exact qC (hJ3_5_11 (⟨k1, k2, (.slice A4 2 c4)⟩) _ ⟨⟨A4, c4, rfl⟩, HC.out⟩)
       ·skip
        rintro ⟨k1, k2, lu⟩ wj ⟨⟨A4, c4, rfl⟩, hc⟩;have HC := A_ hc;have hHeld := hc.z 1 rfl;clear hc;refine uq ?_;refine gG 7 (some 19) 3327 (fun K hK => ?_);refine lI Try.func89 #[.pointer (some ⟨g, 0, none⟩)] ?_
        with_reducible refine (HC.out.uO (by decide)).mono ?_
        rintro e w9 ⟨k3, rfl, -, hc⟩;refine ⟨_, rfl, ?_⟩;replace HC := A_ hc;clear hc;refine dh 19 hK (HC.out.z 1 rfl) (fun hHeld => ?_);exact qC (hJ3_5_7_11 (⟨k1, k2, k3, (.slice A4 2 c4)⟩) _ ⟨⟨A4, c4, rfl⟩, HC.out⟩)
      ·skip
       rintro ⟨k1, k2, k3⟩ wj hc;have HC := A_ hc;have hHeld := hc.z 1 rfl;clear hc;refine uq ?_;refine ve 8 11 (some 20) (some 23) 1535 3327 (fun K hK => ?_) (fun K hK => ?_)
       ·skip
        refine zT 20 5 [k1, k2, k3, ⟨#[]⟩, ⟨#[116, 104, 105, 114, 116, 101, 101, 110, 32, 98, 121, 116, 101]⟩] ?_;intro A5 c5 w9 ho hb;replace HC := A_ (HC.out.lit hb ho);clear ho hb;refine dh 20 hK (HC.out.z 1 rfl) (fun hHeld => ?_);exact qC (hJ3_5_7_8 (⟨k1, k2, k3, (.slice A5 5 c5)⟩) _ ⟨⟨A5, c5, rfl⟩, HC.out⟩)
       ·skip
        refine zT 23 2 [⟨#[110, 101, 119]⟩, ⟨#[]⟩] ?_;intro A4 c4 w9 ho hb;replace HC := A_ (HC.out.lit hb ho);clear ho hb;refine dh 23 hK (HC.out.z 1 rfl) (fun hHeld => ?_);exact qC (hJ3_5_7_11 (⟨k1, k2, k3, (.slice A4 2 c4)⟩) _ ⟨⟨A4, c4, rfl⟩, HC.out⟩)
     ·skip
      rintro ⟨k1, k2, k3, lu⟩ wj ⟨⟨A4, c4, rfl⟩, hc⟩;have HC := A_ hc;have hHeld := hc.z 1 rfl;clear hc;refine uq ?_;refine gG 8 (some 20) 3583 (fun K hK => ?_);refine zT 20 5 [k1, k2, k3, ⟨#[]⟩, ⟨#[116, 104, 105, 114, 116, 101, 101, 110, 32, 98, 121, 116, 101]⟩] ?_;intro A5 c5 w9 ho hb;replace HC := A_ ((HC.out.lit hb ho).gJ [0, 1, 3, 2] (by decide));clear ho hb;refine dh 20 hK (HC.out.z 1 rfl) (fun hHeld => ?_);exact qC (hJ3_5_7_8_11 (⟨k1, k2, k3, (.slice A5 5 c5), (.slice A4 2 c4)⟩) _ ⟨⟨A5, c5, rfl⟩, ⟨A4, c4, rfl⟩, HC.out⟩)
    ·skip
     rintro ⟨k1, k2, k3, lv⟩ wj ⟨⟨A5, c5, rfl⟩, hc⟩;have HC := A_ hc;have hHeld := hc.z 1 rfl;clear hc;refine uq ?_;refine ve 9 11 (some 21) (some 23) 2047 3583 (fun K hK => ?_) (fun K hK => ?_)
     ·skip
      refine lI Try.func88 #[.pointer (some ⟨g, 0, none⟩), .slice A5 5 c5] ?_
      with_reducible refine (HC.out.of (by decide) 2 rfl (by simp)).mono ?_
      rintro e w9 ⟨x, rfl, hc⟩;refine ⟨_, rfl, ?_⟩;replace HC := A_ hc;clear hc;refine dh 21 hK (HC.out.z 1 rfl) (fun hHeld => ?_);exact qC (hJ3_5_7_8_9 (⟨k1, k2, k3, (.slice A5 5 c5), x⟩) _ HC.out)
     ·skip
      refine zT 23 2 [⟨#[110, 101, 119]⟩, ⟨#[]⟩] ?_;intro A4 c4 w9 ho hb;replace HC := A_ (HC.out.lit hb ho);clear ho hb;refine dh 23 hK (HC.out.z 1 rfl) (fun hHeld => ?_);exact qC (hJ3_5_7_8_11 (⟨k1, k2, k3, (.slice A5 5 c5), (.slice A4 2 c4)⟩) _ ⟨⟨A5, c5, rfl⟩, ⟨A4, c4, rfl⟩, HC.out⟩)
   ·skip
    rintro ⟨k1, k2, k3, lv, lu⟩ wj ⟨⟨A5, c5, rfl⟩, ⟨A4, c4, rfl⟩, hc⟩;have HC := A_ hc;have hHeld := hc.z 1 rfl;clear hc;refine uq ?_;refine gG 9 (some 21) 4095 (fun K hK => ?_);refine lI Try.func88 #[.pointer (some ⟨g, 0, none⟩), .slice A5 5 c5] ?_
    with_reducible refine (HC.out.of (by decide) 2 rfl (by simp)).mono ?_
    rintro e w9 ⟨x, rfl, hc⟩;refine ⟨_, rfl, ?_⟩;replace HC := A_ hc;clear hc;refine dh 21 hK (HC.out.z 1 rfl) (fun hHeld => ?_);exact qC (hJ3_5_7_8_9_11 (⟨k1, k2, k3, (.slice A5 5 c5), x, (.slice A4 2 c4)⟩) _ ⟨⟨A4, c4, rfl⟩, HC.out⟩)
  ·skip
   rintro ⟨k1, k2, k3, lv, x⟩ wj hc;have HC := A_ hc;have hHeld := hc.z 1 rfl;clear hc;refine uq ?_;refine gG 11 (some 23) 4095 (fun K hK => ?_);refine zT 23 2 [⟨#[110, 101, 119]⟩, ⟨#[]⟩] ?_;intro A4 c4 w9 ho hb;replace HC := A_ (HC.out.lit hb ho);clear ho hb;refine dh 23 hK (HC.out.z 1 rfl) (fun hHeld => ?_);exact qC (hJ3_5_7_8_9_11 (⟨k1, k2, k3, lv, x, (.slice A4 2 c4)⟩) _ ⟨⟨A4, c4, rfl⟩, HC.out⟩)
 rintro ⟨k1, k2, k3, lv, x, lu⟩ wj ⟨⟨A4, c4, rfl⟩, hc⟩;have HC := A_ hc;have hHeld := hc.z 1 rfl;clear hc;refine uq ?_;refine gG 12 (some 24) 8191 (fun K hK => ?_);refine lI Try.func88 #[.pointer (some ⟨g, 0, none⟩), .slice A4 2 c4] ?_
 with_reducible refine (HC.out.of (by decide) 3 rfl (by simp)).mono ?_
 rintro e w9 ⟨y, rfl, hc⟩;refine ⟨_, rfl, ?_⟩;clear HC;have HC := A_ hc;clear hc;have xm := A_ (HC.out.blk HX.out HN.out.1);have hz2 := (au xm.out 0).trans rfl;have hf2 := aV xm.out 0;refine dh 24 hK (HC.out.z 1 rfl) (fun hHeld => ?_);refine qz 13 none 16383 (fun K hK => ?_);refine fA (w1 := ?_) (by rfl) rfl ?_ ?_;rotate_left
 ·go_simp
  rfl
 refine hK.out _ _ ?_;clear hK K;refine aH 14 3 32767 ?_;refine aH 15 4 65535 ?_;refine dL (by kernel_rfl) ?_;go_wp2;refine bodyPost_ret (IZ rfl _ _ b2 29 #[.slice A n c] (0, 0) _ rfl (dP (cs := #[.slice none 0 0]) xm.out 0 _ rfl) Try.underlying29 rfl (by kernel_rfl)) rfl ?_;exact ⟨A, c, n, _, x, y, rfl, HC.out.cut 0 rfl HO.out.1 HO.out.2.1 HO.out.2.2 HN.out.2, bF HC.out.B HG.out⟩
theorem y8.runs (A0 : Option Addr) (c0 : Nat) (l0 : List Int) (hcd : Pure.Code l0) (w : World) (hr0 : Kd.C (Kd.int .u8) w A0 l0.length l0) : Calls Try.prog 47 #[.slice A0 l0.length c0] w (Mt w) := by
 have Yf := A_ hcd;have HR := A_ hr0;clear hcd hr0;go_enter Try.func47, Try.ntmps47
 go_upto_region 3 with (first | (refine jl 2 #[.slice none 0 0] 29 ?_; intro b2 hg w1 aA hb; have HX := A_ aA; have HB := A_ hb; have HG : af (w.heap.size <= b2) := ⟨by rw [hg]; exact Nat.le_refl _⟩; clear hg aA hb) | (refine jl 10 #[.slice A0 l0.length c0, .int .i64 0, .int .u64 0] 105 ?_; intro g hg w2 aA hb; have HC := A_ (Cv.start Yf.out HR.out HB.out hg aA hb); have Ra := A_ (bG HX.out hb); have HN : af (b2 ≠ g /\ b2 < w2.heap.size) := ⟨by have := gU HX.out; omega, gU Ra.out⟩; clear HX HB; have HX := Ra; clear Ra; clear hg aA hb) | (go_at_call 87; (with_reducible refine (HC.out.PK (by decide)).mono ?_); rintro e w3 ⟨A, c, pgs, n, rfl, h1, h2, h3, hc⟩; have HO := A_ (And.intro h1 (And.intro h2 h3)); clear HC h1 h2 h3; have HC := A_ hc; clear hc) | (refine jl 5 #[.slice none 0 0] 29 ?_; intro b6 hg w4 aA hb; have ah : af (Cv w w2 w4 g l0 200000 [bK (.slice A pgs.length c) pgs, [.box 29 b6 #[.slice none 0 0]]]) := ⟨HC.out.box hg aA hb⟩; clear HC hg aA hb; have HC := ah; clear ah; have vR := HC.out.z 1 rfl; have wH := HC.out.f 1 rfl))
 have ah : af (Cv w w2 (World.setCell w4 ⟨b6, 0, none⟩ (.slice A n c)) g l0 200000 (t2 A c pgs b6 n [])) := ⟨HC.out.put 1 rfl 0 _⟩
 generalize World.setCell w4 ⟨b6, 0, none⟩ (.slice A n c) = w5 at ah ⊢;clear HC vR wH;have HC := ah;clear ah;obtain ⟨e1, e2, e3, e4⟩ := HC.out.J3 0 rfl HO.out.1 HO.out.2.1 HO.out.2.2;obtain ⟨hok, hlen⟩ := tQ e4
 obtain ⟨⟨KL, B⟩, Z7⟩ : ∃ x, x = Cq ((pgs.map Pg.erase).take n) := ⟨_, rfl⟩
 have hK40 : KL.length <= 40 := by
  have := PL hlen;rw [<- Z7] at this;exact this
 have hC := mO.calls A c _ KL B w5 e3 (by omega) (by rw [Z7]; exact Gl hok);rw [e1] at hC;have HKC := A_ hC;have HK40 := A_ hK40;clear e1 e2 e3 e4 hok hlen Z7 hK40 hC;have vR := HC.out.z 1 rfl
 go_upto_region 4 with (first | (go_at_call 24; (with_reducible refine HKC.out.mono ?_); rintro e w6 ⟨v0, rfl, ho, hb⟩; obtain ⟨A6, c6, rfl⟩ := Kd.ak ho; have ah : af (Cv w w2 w6 g l0 200000 (t2 A c pgs b6 n [gK A6 c6 KL])) := ⟨HC.out.lit hb ho⟩; clear HC ho hb vR HKC; have HC := ah; clear ah))
 cases B with
 | false =>
  go_upto_region 6 with fail
  replace HC : af (Cv w w2 w6.drew g l0 200000 (t2 A c pgs b6 n [])) := ⟨(HC.out.gJ [0, 1] (by decide)).drew⟩
  refine bS (n := 5) (S := fun w' => w'.cell? ⟨b6, 0, none⟩ = some (.slice A n c)) (ds := [3]) (bt 5 0) (by kernel_rfl) rfl rfl (HC.out.z 1 rfl) (fun hHeld => ?_);generalize World.drew _ = wd at HC hHeld ⊢;refine aH 1 38 2 ?_;refine fq 0 37 3 hHeld ?_;refine gG 2 (some 39) 7 (fun K hK => ?_);refine lI Try.func89 #[.pointer (some ⟨g, 0, none⟩)] ?_
  with_reducible refine (HC.out.uO (by decide)).mono ?_
  rintro e w9 ⟨x, rfl, -, hc⟩;refine ⟨_, rfl, ?_⟩;clear HC;have HC := A_ hc;clear hc;have xm := A_ (HC.out.blk HX.out HN.out.1);have hz2 := (au xm.out 0).trans rfl;have hf2 := aV xm.out 0;refine dh 39 hK (HC.out.z 1 rfl) (fun hHeld => ?_);refine qz 3 none 15 (fun K hK => ?_);refine fA (w1 := ?_) (by rfl) rfl ?_ ?_;rotate_left
  ·go_simp
   rfl
  refine hK.out _ _ ?_;clear hK K;refine aH 4 3 31 ?_;refine dL (by kernel_rfl) ?_;go_wp2;refine bodyPost_ret (df rfl _ _ b2 29 #[.slice A n c] (0, 0) _ rfl (dP (cs := #[.slice none 0 0]) xm.out 0 _ rfl) Try.underlying29 rfl (by kernel_rfl)) rfl ?_;exact ⟨A, c, n, _, x, rfl, HC.out.cut 0 rfl HO.out.1 HO.out.2.1 HO.out.2.2 HN.out.2, bF HC.out.B HG.out⟩
 | true =>
  by_cases hk0 : 0 < KL.length
  ·have ZX := lQ ((0 : Int) < (KL.length : Int))
   have VY : (0 < KL.length) = True := eq_true hk0;have GG := A_ hk0;clear hk0
   go_upto_if 28 with (first | (go_at_call 91; (with_reducible refine (HC.out.one (by decide) 4).mono ?_); rintro e w7 ⟨o, rfl, hc⟩; have ah : af (Cv w w2 w7 g l0 200002 (t2 A c pgs b6 n [gK A6 c6 KL])) := ⟨hc.le (by decide)⟩; clear HC hc; have HC := ah; clear ah))
   cases o with
   | true =>
    go_upto_region 6 with fail
    replace HC : af (Cv w w2 w7.drew g l0 200002 (t2 A c pgs b6 n [])) := ⟨(HC.out.gJ [0, 1] (by decide)).drew⟩
    refine bS (n := 5) (S := fun w' => w'.cell? ⟨b6, 0, none⟩ = some (.slice A n c)) (ds := [3]) (bt 5 0) (by kernel_rfl) rfl rfl (HC.out.z 1 rfl) (fun hHeld => ?_);generalize World.drew _ = wd at HC hHeld ⊢;refine aH 1 38 2 ?_;refine fq 0 37 3 hHeld ?_;refine gG 2 (some 39) 7 (fun K hK => ?_);refine lI Try.func89 #[.pointer (some ⟨g, 0, none⟩)] ?_
    with_reducible refine (HC.out.uO (by decide)).mono ?_
    rintro e w9 ⟨x, rfl, -, hc⟩;refine ⟨_, rfl, ?_⟩;clear HC;have HC := A_ hc;clear hc;have xm := A_ (HC.out.blk HX.out HN.out.1);have hz2 := (au xm.out 0).trans rfl;have hf2 := aV xm.out 0;refine dh 39 hK (HC.out.z 1 rfl) (fun hHeld => ?_);refine qz 3 none 15 (fun K hK => ?_);refine fA (w1 := ?_) (by rfl) rfl ?_ ?_;rotate_left
    ·go_simp
     rfl
    refine hK.out _ _ ?_;clear hK K;refine aH 4 3 31 ?_;refine dL (by kernel_rfl) ?_;go_wp2;refine bodyPost_ret (df rfl _ _ b2 29 #[.slice A n c] (0, 0) _ rfl (dP (cs := #[.slice none 0 0]) xm.out 0 _ rfl) Try.underlying29 rfl (by kernel_rfl)) rfl ?_;exact ⟨A, c, n, _, x, rfl, HC.out.cut 0 rfl HO.out.1 HO.out.2.1 HO.out.2.2 HN.out.2, bF HC.out.B HG.out⟩
   | false =>
    go_upto_region 5 with fail
    obtain ⟨gk, ck, ek, -⟩ := Kd.rq (HC.out.S.sr 2 rfl) GG.out
    injection ek with e1 _ e3
    subst e1;subst e3
    replace HC : af (Cv w w2 w7.drew g l0 200002 (t2 A c pgs b6 n [gK (iX gk) c6 KL])) := ⟨HC.out.drew⟩
    refine bS (n := 10) (S := fun w' => w'.cell? ⟨b6, 0, none⟩ = some (.slice A n c)) (ds := []) (bt 10 0) (by kernel_rfl) rfl rfl (HC.out.z 1 rfl) (fun hHeld => ?_);generalize World.drew _ = wd at HC hHeld ⊢;refine aH 1 30 2 ?_;refine aH 2 31 6 ?_;refine aH 3 32 14 ?_;refine aH 4 33 30 ?_;refine fq 0 29 31 hHeld ?_;refine gG 5 (some 34) 63 (fun K hK => ?_);refine lI Try.func92 #[.pointer (some ⟨g, 0, none⟩), .int .i64 (KL.length : Int)] ?_
    with_reducible refine (HC.out.pick (by decide) (KL.length : Int) (by have := GG.out; omega)).mono ?_
    rintro e w9 ⟨x, rfl, hx, hc⟩;refine ⟨_, rfl, ?_⟩;have hxk : x < KL.length := by omega
    have um := A_ hc;clear HC hx hc;have HC := um;clear um;have xm := A_ (HC.out.blk HX.out HN.out.1)
    have hb6 : b6 ≠ b2 := (by have h1 := aa.ge HC.out.S 1 rfl; have h2 := HN.out.2; omega)
    have hk9 : ∃ cs : Array Value, w9.heap[gk]? = some (.cells cs 9 (0, 0)) := (by obtain ⟨g', c', e, _, _, cells, hc⟩ := Kd.rq (HC.out.S.sr 2 rfl) GG.out; injection e with e1 _ _; injection e1 with e1; injection e1 with e1; subst e1; exact ⟨_, hc⟩)
    obtain ⟨cs, hcs⟩ := hk9
    have hgb : gk ≠ b2 := (by have h1 := rX HC.out.S 2 rfl ⟨GG.out, rfl⟩; have h2 := HN.out.2; omega)
    have P6 := iH (HC.out.S.sr 2 rfl) ⟨hxk, rfl⟩
    have HR5 : af (w9.cell? ⟨gk, x, none⟩ = some (.string (bq KL x)) /\ (World.setCell w9 ⟨b2, 0, none⟩ (.slice A n c)).cell? ⟨gk, x, none⟩ = some (.string (bq KL x))) := ⟨P6, (au ((Below.heap_setCell _ _ _ _ hgb).trans hcs) x).trans ((au hcs x).symm.trans P6)⟩
    have HZ : af (w9.cell? ⟨b6, 0, none⟩ = some (.slice A n c) /\ (World.setCell w9 ⟨b2, 0, none⟩ (.slice A n c)).cell? ⟨b6, 0, none⟩ = some (.slice A n c)) := ⟨HC.out.z 1 rfl, (au ((Below.heap_setCell _ _ _ _ hb6).trans (aa.blk HC.out.S 1 rfl)) 0).trans rfl⟩
    have H2 := A_ (And.intro ((au xm.out 0).trans rfl) (aV xm.out 0));clear P6 hgb hcs hb6;have cx0 := bV ((x : Int) < (KL.length : Int));have cx1 : (x < KL.length) = True := eq_true hxk;have cx2 := bV (0 <= (x : Int));clear hxk;refine dh 34 hK (HZ.out.1) (fun hHeld => ?_);refine aH 6 35 127 ?_;refine gQ (σ := Unit) 1 (bt 10 511) (fun _ => [(36, .string (bq KL x))]) (fun _ w' => (w'.cell? ⟨b6, 0, none⟩ = some (.slice A n c)) /\ w' = World.setCell w9 ⟨b2, 0, none⟩ (.slice A n c)) ?_ ?_;rotate_left
    ·intro hJ7_8
     refine gQ (σ := Unit) 2 (bt 10 255) (fun _ => [(36, .string (bq KL x))]) (fun _ w' => (w'.cell? ⟨b6, 0, none⟩ = some (.slice A n c)) /\ w' = w9) ?_ ?_;rotate_left
     ·intro ZV
      refine gQ (σ := Unit) 2 (bt 10 383) (fun _ => []) (fun _ w' => (w'.cell? ⟨b6, 0, none⟩ = some (.slice A n c)) /\ w' = World.setCell w9 ⟨b2, 0, none⟩ (.slice A n c)) ?_ ?_;rotate_left
      ·intro hJ8
       refine ve 7 8 (some 36) none 255 383 (fun K hK => ?_) (fun K hK => ?_)
       ·skip
        have X6 := HR5.out.1;refine Km (w1 := ?_) (v := ?_) (by rfl) rfl ?_ ?_;rotate_left 2
        ·go_simp
         constructor
         ·rfl
         ·rfl
        clear X6;refine dh 36 hK (HZ.out.1) (fun hHeld => ?_);exact qC (ZV () _ ⟨HZ.out.1, rfl⟩)
       ·skip
        have hz2 := H2.out.1;have hf2 := H2.out.2;refine fA (w1 := ?_) (by rfl) rfl ?_ ?_;rotate_left
        ·go_simp
         rfl
        refine hK.out _ _ (HZ.out.2) (fun hHeld => ?_);clear hK K;exact qC (hJ8 () _ ⟨HZ.out.2, rfl⟩)
      ·skip
       rintro _ wj ⟨hHeld, rfl⟩;refine uq ?_;refine gG 7 (some 36) 511 (fun K hK => ?_);have X6 := HR5.out.2;refine Km (w1 := ?_) (v := ?_) (by rfl) rfl ?_ ?_;rotate_left 2
       ·go_simp
        constructor
        ·rfl
        ·rfl
       clear X6;refine dh 36 hK (HZ.out.2) (fun hHeld => ?_);exact qC (hJ7_8 () _ ⟨HZ.out.2, rfl⟩)
     ·skip
      rintro _ wj ⟨hHeld, rfl⟩;refine uq ?_;refine gG 8 none 511 (fun K hK => ?_);have hz2 := H2.out.1;have hf2 := H2.out.2;refine fA (w1 := ?_) (by rfl) rfl ?_ ?_;rotate_left
      ·go_simp
       rfl
      refine hK.out _ _ (HZ.out.2) (fun hHeld => ?_);clear hK K;exact qC (hJ7_8 () _ ⟨HZ.out.2, rfl⟩)
    rintro _ wj ⟨hHeld, rfl⟩;refine uq ?_;refine aH 9 3 1023 ?_;refine dL (by kernel_rfl) ?_;go_wp2;refine bodyPost_ret (df rfl _ _ b2 29 #[.slice A n c] (0, 0) _ rfl (dP (cs := #[.slice none 0 0]) xm.out 0 _ rfl) Try.underlying29 rfl (by kernel_rfl)) rfl ?_;exact ⟨A, c, n, _, bq KL x, rfl, HC.out.cut 0 rfl HO.out.1 HO.out.2.1 HO.out.2.2 HN.out.2, bF HC.out.B HG.out⟩
  ·have ZX := kS ((0 : Int) < (KL.length : Int))
   have VY : (0 < KL.length) = False := eq_false hk0;clear hk0
   go_upto_region 6 with fail
   replace HC : af (Cv w w2 w6.drew g l0 200000 (t2 A c pgs b6 n [])) := ⟨(HC.out.gJ [0, 1] (by decide)).drew⟩
   refine bS (n := 5) (S := fun w' => w'.cell? ⟨b6, 0, none⟩ = some (.slice A n c)) (ds := [3]) (bt 5 0) (by kernel_rfl) rfl rfl (HC.out.z 1 rfl) (fun hHeld => ?_);generalize World.drew _ = wd at HC hHeld ⊢;refine aH 1 38 2 ?_;refine fq 0 37 3 hHeld ?_;refine gG 2 (some 39) 7 (fun K hK => ?_);refine lI Try.func89 #[.pointer (some ⟨g, 0, none⟩)] ?_
   with_reducible refine (HC.out.uO (by decide)).mono ?_
   rintro e w9 ⟨x, rfl, -, hc⟩;refine ⟨_, rfl, ?_⟩;clear HC;have HC := A_ hc;clear hc;have xm := A_ (HC.out.blk HX.out HN.out.1);have hz2 := (au xm.out 0).trans rfl;have hf2 := aV xm.out 0;refine dh 39 hK (HC.out.z 1 rfl) (fun hHeld => ?_);refine qz 3 none 15 (fun K hK => ?_);refine fA (w1 := ?_) (by rfl) rfl ?_ ?_;rotate_left
   ·go_simp
    rfl
   refine hK.out _ _ ?_;clear hK K;refine aH 4 3 31 ?_;refine dL (by kernel_rfl) ?_;go_wp2;refine bodyPost_ret (df rfl _ _ b2 29 #[.slice A n c] (0, 0) _ rfl (dP (cs := #[.slice none 0 0]) xm.out 0 _ rfl) Try.underlying29 rfl (by kernel_rfl)) rfl ?_;exact ⟨A, c, n, _, x, rfl, HC.out.cut 0 rfl HO.out.1 HO.out.2.1 HO.out.2.2 HN.out.2, bF HC.out.B HG.out⟩
end Go.Proofs.Ytoddejmlcnbdmaa.Tree
namespace Go.Proofs.Ytoddejmlcnbdmaa.Fn
def dR.l0 : Nat -> ByteArray -> List ByteArray -> Int -> Int -> Option (Bool)
 | 0, _, _, _, _ => none
 | k + 1, x1, x7, x8, x9 => if x9 < x8 then (if 0 <= x9 then (if x9 < (x7.length : Int) then (if (bO ByteArray.empty x7 x9).toList = x1.toList then (some true) else (dR.l0 k x1 x7 x8 (wrap64 (x9 + 1)))) else (none)) else (none)) else (some false)
def dR.f (k : Nat) (l0 : List ByteArray) (a1 : ByteArray) : Option (Bool) := dR.l0 k a1 l0 (l0.length : Int) 0
theorem dR.calls (k : Nat) (A0 : Option Addr) (c0 : Nat) (l0 : List ByteArray) (a1 : ByteArray) (r : Bool) (w : World) (hr0 : Kd.C Kd.string w A0 l0.length l0) (hc0 : l0.length <= c0) (h : dR.f k l0 a1 = some r) :
  Calls Try.prog 49 #[.slice A0 l0.length c0, .string a1] w fun e w' => e = .returned (.bool r) /\ av w w' := by
 have nJ := A_ hr0;have qP := A_ hc0;clear hr0 hc0;have H : (dR.l0 k a1 l0 (l0.length : Int) 0) = some r := h;clear h;have H' := A_ H;clear H;go_enter Try.func49, Try.ntmps49;go_wp2
 go_loopg [9] k (fun kq v9 w' => ∃ (qE : Int), v9 = .int .i64 qE /\ af (dR.l0 kq a1 l0 (l0.length : Int) qE = some r) /\ af (kq <= k) /\ av w w')
 case atStart => exact ⟨(0), (by first | rfl | (simp; done) | (simp [*]; done)), H', ⟨Nat.le_refl _⟩, by repeat (first | exact av.refl _ | apply av.step)⟩
 case round =>
  clear H';(try clear p2);obtain ⟨qE, rfl, HA, wE, ⟨m1, rfl⟩⟩ := hrel
  cases gk with
  | zero => exact absurd HA.out (by simp [dR.l0])
  | succ k1 =>
   have H := HA.out;clear HA;simp only [dR.l0] at H
   by_cases c3 : qE < (l0.length : Int)
   ·rw [if_pos c3] at H
    have tT : decide (qE < (l0.length : Int)) = true := decide_eq_true c3;clear c3
    by_cases c4 : 0 <= qE
    ·rw [if_pos c4] at H
     have tV : decide (0 <= qE) = true := decide_eq_true c4;clear c4
     by_cases c5 : qE < (l0.length : Int)
     ·rw [if_pos c5] at H
      have DY : decide (qE < (l0.length : Int)) = true := decide_eq_true c5;clear c5
      by_cases c6 : (bO ByteArray.empty l0 qE).toList = a1.toList
      ·rw [if_pos c6] at H
       have Sv : ((bO ByteArray.empty l0 qE).toList == a1.toList) = true := beq_iff_eq.mpr c6;have c6b1 : ((bO ByteArray.empty l0 qE).toList != a1.toList) = false := bne_eq_false_iff_eq.mpr c6;clear c6;obtain rfl := Option.some.inj H;have Lj : 0 <= (qE : Int) := of_decide_eq_true jh;have Ll : qE < (l0.length : Int) := of_decide_eq_true jh;obtain ⟨ad456, Wh, hx456_0⟩ := Kd.bH nJ.out qE Lj Ll
       cases Wh
       replace Lj := eq_true Lj;replace Ll := eq_true Ll;go_wp2;go_ret;exact ⟨by first | rfl | (simp; done) | (simp [*]; done), by repeat (first | exact av.refl _ | apply av.step)⟩
      ·rw [if_neg c6] at H
       have Sv : ((bO ByteArray.empty l0 qE).toList == a1.toList) = false := beq_eq_false_iff_ne.mpr c6;have c6b1 : ((bO ByteArray.empty l0 qE).toList != a1.toList) = true := bne_iff_ne.mpr c6;have H' := A_ H;clear H;have Lj : 0 <= (qE : Int) := of_decide_eq_true jh;have Ll : qE < (l0.length : Int) := of_decide_eq_true jh;obtain ⟨ad456, Wh, hx456_0⟩ := Kd.bH nJ.out qE Lj Ll
       cases Wh
       replace Lj := eq_true Lj;replace Ll := eq_true Ll;go_wp2
       go_roundg k1
       case measure => have := wE.out; omega
       case rel => exact ⟨(wrap64 (qE + 1)), (by first | rfl | (simp; done) | (simp [*]; done)), H', ⟨by have := wE.out; omega⟩, by repeat (first | exact av.refl _ | apply av.step)⟩
     ·rw [if_neg c5] at H
      exact absurd H (by simp)
    ·rw [if_neg c4] at H
     exact absurd H (by simp)
   ·rw [if_neg c3] at H
    have tT : decide (qE < (l0.length : Int)) = false := decide_eq_false c3;clear c3;obtain rfl := Option.some.inj H;go_wp2;go_ret;exact ⟨by first | rfl | (simp; done) | (simp [*]; done), by repeat (first | exact av.refl _ | apply av.step)⟩
end Go.Proofs.Ytoddejmlcnbdmaa.Fn
namespace Go.Proofs.Ytoddejmlcnbdmaa.Pure
theorem Kq (l : List ByteArray) (a : ByteArray) (hl : l.length <= 1048576) : Ev (fun k => dR.f k l a) (l.any fun x => x.toList == a.toList) := by
 have key : ∀ (t : List ByteArray) (i : Nat), l.drop i = t -> i <= l.length -> Ev (fun k => dR.l0 k a l (l.length : Int) (i : Int)) (t.any fun x => x.toList == a.toList) := by
  intro t
  induction t with
  | nil =>
   intro i h hi;have h2 := drop_nil h
   (refine Ev.up ?_; simp only [dR.l0, zQ])
   (repeat (first | with_reducible refine Ev.jO ?_ | (with_reducible refine Ev.wT ?_ ?_; (· exact iy)) | (with_reducible refine Ev.xw ?_ ?_; (· exact iy))))
   exact Ev.val rfl
  | cons x t ih =>
   intro i h hi;obtain ⟨p1, p2, p3⟩ := drop_cons h;have ih := ih (i + 1) p3 (by omega)
   (refine Ev.up ?_; simp only [dR.l0, zQ])
   rw [ow p2, nP (by omega)]
   cases hx : (x.toList == a.toList) with
   | true =>
    have e := eq_of_beq hx
    (repeat (first | with_reducible refine Ev.jO ?_ | (with_reducible refine Ev.wT ?_ ?_; (· exact iy)) | (with_reducible refine Ev.xw ?_ ?_; (· exact iy))))
    exact Ev.val (by rw [List.any_cons, hx, Bool.true_or])
   | false =>
    have e : ¬ x.toList = a.toList := fun e => by rw [e] at hx; simp at hx
    rw [List.any_cons, hx, Bool.false_or]
    (repeat (first | with_reducible refine Ev.jO ?_ | (with_reducible refine Ev.wT ?_ ?_; (· exact iy)) | (with_reducible refine Ev.xw ?_ ?_; (· exact iy))))
    exact ih
 have h := key l 0 rfl (Nat.zero_le _);simp only [dR.f];exact h
theorem I1 {A : Option Addr} {c : Nat} {l : List ByteArray} {a : ByteArray} {b : Bool} {w : World} (hl : l.length <= 1048576) (hr : Kd.C Kd.string w A l.length l) (hc : l.length <= c) (hb : (l.any fun x => x.toList == a.toList) = b) : Calls Try.prog 49 #[.slice A l.length c, .string a] w fun e w' => e = .returned (.bool b) /\ av w w' := by
 obtain ⟨k, hk⟩ := Kq l a hl;exact dR.calls k A c l a b w hr hc (by rw [<- hb]; exact hk k (Nat.le_refl _))
end Go.Proofs.Ytoddejmlcnbdmaa.Pure
namespace Go.Proofs.Ytoddejmlcnbdmaa.Fn
open Go.Proofs.Ytoddejmlcnbdmaa.Pure (Held dQ fD kz Has)
theorem iZ.C {w : World} {base : Nat} {v : Value} {r : List bC} (h : iZ w base v r) : ∃ A c, v = .slice A r.length c /\ r.length <= c /\ Kd.C j4 w A r.length r := by
 obtain ⟨A, c, pgs, rfl, rfl, h3⟩ := h;obtain ⟨q1, q2⟩ := Cw (v := .slice none 0 0) h3;exact ⟨A, c, by rw [List.length_map], q2, q1⟩
theorem zD {w w' : World} (h : av w w') : Below w.heap.size w w' := by
 obtain ⟨n, rfl⟩ := h;exact aj (Below.refl _ _) n
theorem qO {w w1 : World} {b : Nat} {v : Value} (hg : b = w.heap.size) (aA : w1.heap[b]? = some (.cells #[.slice none 0 0] 29 (0, 0))) (hb : Below w.heap.size w w1) : Below w.heap.size w (w1.setCell ⟨b, 0, none⟩ v) /\ (w1.setCell ⟨b, 0, none⟩ v).heap[b]? = some (.cells #[v] 29 (0, 0)) :=
 ⟨bF hb (by rw [hg]; exact Nat.le_refl _), dP (cs := #[.slice none 0 0]) aA 0 v rfl⟩
theorem CE {r : List bC} (h : ∀ p ∈ r, p.f0.length <= 4 /\ p.f1.length <= 4 /\ p.f2.length <= 5) : ∀ p ∈ r, p.f0.length <= 1048576 /\ p.f1.length <= 1048576 /\ p.f2.length <= 1048576 := fun p hp => by
 have := h p hp;omega
inductive Fa where
 | t (A : Option Addr) (r : List bC)
 | s (A : Option Addr) (l : List ByteArray)
 | b (g : Nat) (v : Value)
def Fa.ok (W : World) : Fa -> Prop
 | .t A r => Kd.C j4 W A r.length r
 | .s A l => Kd.C Kd.string W A l.length l
 | .b g v => W.heap[g]? = some (.cells #[v] 29 (0, 0))
structure Lw (w W : World) (l : List Fa) : Prop where
 B : Below w.heap.size w W
 F : ∀ f ∈ l, f.ok W
section
variable {w W W1 : World} {l : List Fa}
theorem Lw.on (h : Lw w W l) (hb : Below W.heap.size W W1) : Lw w W1 l := ⟨ay h.B hb, fun f hf => by
 have := h.F f hf
 cases f with
 | t A r => exact Kd.aN this hb
 | s A l => exact Kd.aN this hb
 | b g v => exact bG this hb⟩
theorem Lw.add (h : Lw w W l) (f : Fa) (hf : f.ok W) : Lw w W (l ++ [f]) := ⟨h.B, fun x hx => by
 rcases List.mem_append.1 hx with hx | hx
 ·exact h.F x hx
 ·rw [List.mem_singleton.1 hx]
  exact hf⟩
theorem Lw.t (h : Lw w W l) (i : Nat) {A : Option Addr} {r : List bC} (hi : l[i]? = some (.t A r)) : Kd.C j4 W A r.length r := h.F _ (List.mem_of_getElem? hi)
theorem Lw.s (h : Lw w W l) (i : Nat) {A : Option Addr} {r : List ByteArray} (hi : l[i]? = some (.s A r)) : Kd.C Kd.string W A r.length r := h.F _ (List.mem_of_getElem? hi)
theorem Lw.z (h : Lw w W l) (i : Nat) {g : Nat} {v : Value} (hi : l[i]? = some (.b g v)) : W.cell? ⟨g, 0, none⟩ = some v := (au (h.F _ (List.mem_of_getElem? hi)) 0).trans rfl
end
def pW.Xj (k : Nat) (l0 l1 : List Int) : Prop := Pure.Code l0 /\ Pure.Code l1
theorem pW.calls (k : Nat) (A0 : Option Addr) (c0 : Nat) (l0 : List Int) (A1 : Option Addr) (c1 : Nat) (l1 : List Int) (r0 : Bool) (w : World) (hr0 : Kd.C (Kd.int .u8) w A0 l0.length l0) (hc0 : l0.length <= c0) (hr1 : Kd.C (Kd.int .u8) w A1 l1.length l1) (hc1 : l1.length <= c1) (h : pW.Xj k l0 l1) (ht : r0 = true) :
  Calls Try.prog 13 #[.slice A0 l0.length c0, .slice A1 l1.length c1] w fun e w' => e = .returned (.bool r0) /\ Below w.heap.size w w' := by
 subst ht;obtain ⟨hcd0, hcd1⟩ := h;have nJ := A_ hr0;have HR1 := A_ hr1;have HD0 := A_ hcd0;have HD1 := A_ hcd1
 have HW : af (Lw w w []) := ⟨⟨Below.refl _ _, fun _ h => by cases h⟩⟩
 clear hr0 hr1 hc0 hc1 hcd0 hcd1
 by_cases hg : (1048576 : Int) < wrap64 ((l0.length : Int) + (l1.length : Int))
 ·have c_ : decide ((1048576 : Int) < wrap64 ((l0.length : Int) + (l1.length : Int))) = true := decide_eq_true hg
  go_enter Try.func13, Try.ntmps13;go_wp2;go_ret;exact ⟨by first | rfl | (simp; done), HW.out.B⟩
 have c_ : decide ((1048576 : Int) < wrap64 ((l0.length : Int) + (l1.length : Int))) = false := decide_eq_false hg;clear hg;go_enter Try.func13, Try.ntmps13
 go_upto_region 4 with (first | (go_at_call 45; (with_reducible refine (zW.runs A0 c0 l0 HD0.out _ nJ.out).mono ?_); rintro e w1_ ⟨A, c, n, r, key, val, rfl, ht, hb⟩; replace HW := A_ (HW.out.on hb); obtain ⟨rfl, h1, h2, h3⟩ := ht; replace HW := A_ (HW.out.add (.t A r) h2); have HT := A_ (And.intro h1 (And.intro h3 (tQ h3))); clear h1 h2 h3; clear hb) | (refine jl 5 #[.slice none 0 0] 29 ?_; intro b5 hg w2_ aA hb; have HX := A_ (And.intro hg (And.intro aA hb)); have Lm := (au aA 0).trans rfl; have Lp := aV aA 0; clear hg aA hb))
 obtain ⟨hb, hx⟩ := qO (v := .slice A r.length c) HX.out.1 HX.out.2.1 HX.out.2.2;generalize World.setCell w2_ ⟨b5, 0, none⟩ (.slice A r.length c) = w3_ at hb hx ⊢;replace HW := A_ (HW.out.on hb);replace HW := A_ (HW.out.add (.b b5 (.slice A r.length c)) hx);clear hx hb HX Lm Lp;have tX := HW.out.z 1 rfl;clear c_;obtain ⟨r1, b1, k1, e1, e2, e3, e4, e5⟩ := Pure.Si HT.out.2.1 key val;have E1 := A_ e1;have E2 := A_ e2;have E3 := A_ e3;have E4 := A_ e4;have E5 := A_ e5;obtain ⟨gb, kg, e6, e7⟩ := Pure.Sg HT.out.2.2.1 HT.out.2.2.2;have E6 := A_ e6;have E7 := A_ e7;clear e1 e2 e3 e4 e5 e6 e7
 go_upto_region 5 with (first | (go_at_call 37; (with_reducible refine (lD.oZ k1 A c r key val r1 b1 _ (HW.out.t 0 rfl) HT.out.1 E1.out).mono ?_); rintro e w4_ ⟨v, rfl, ho, hb⟩; replace HW := A_ (HW.out.on hb); replace tX := HW.out.z 1 rfl; obtain ⟨Ax, cx, rfl, hl, hc⟩ := ho.C; replace HW := A_ (HW.out.add (.t Ax r1) hc); have JK := A_ hl; clear ho hl hc; clear hb) | (refine jl 8 #[.slice none 0 0] 29 ?_; intro b8 hg w5_ aA hb; have HX := A_ (And.intro hg (And.intro aA hb)); have Lm := (au aA 0).trans rfl; have Lp := aV aA 0; clear hg aA hb))
 obtain ⟨hb, hx⟩ := qO (v := .slice Ax r1.length cx) HX.out.1 HX.out.2.1 HX.out.2.2;generalize World.setCell w5_ ⟨b8, 0, none⟩ (.slice Ax r1.length cx) = w6_ at hb hx ⊢;replace HW := A_ (HW.out.on hb);replace tX := HW.out.z 1 rfl;replace HW := A_ (HW.out.add (.b b8 (.slice Ax r1.length cx)) hx);clear hx hb HX Lm Lp;have rC := HW.out.z 3 rfl
 go_upto_region 6 with (first | (go_at_call 36; (with_reducible refine (iN.oZ A c r key val r1 b1 _ (HW.out.t 0 rfl) HT.out.1 E2.out).mono ?_); rintro e w7_ ⟨v, rfl, ho, hb⟩; replace HW := A_ (HW.out.on hb); replace tX := HW.out.z 1 rfl; replace rC := HW.out.z 3 rfl; obtain ⟨Aw, cw, rfl, hl, hc⟩ := ho.C; replace HW := A_ (HW.out.add (.t Aw r1) hc); have HW1l := A_ hl; clear ho hl hc; clear hb) | (refine jl 10 #[.slice none 0 0] 29 ?_; intro b10 hg w8_ aA hb; have HX := A_ (And.intro hg (And.intro aA hb)); have Lm := (au aA 0).trans rfl; have Lp := aV aA 0; clear hg aA hb))
 obtain ⟨hb, hx⟩ := qO (v := .slice Aw r1.length cw) HX.out.1 HX.out.2.1 HX.out.2.2;generalize World.setCell w8_ ⟨b10, 0, none⟩ (.slice Aw r1.length cw) = Z8 at hb hx ⊢;replace HW := A_ (HW.out.on hb);replace tX := HW.out.z 1 rfl;replace rC := HW.out.z 3 rfl;replace HW := A_ (HW.out.add (.b b10 (.slice Aw r1.length cw)) hx);clear hx hb HX Lm Lp;have z_BW := HW.out.z 5 rfl;have Z9 : (b1 != b1) = false := by simp
 have dd_ : (gb != gb) = false := by simp
 have hb : Below Z8.heap.size Z8 Z8.drew := aG (Below.refl _ _);clear tX rC z_BW;replace HW := A_ (HW.out.on hb);clear hb;refine bS (n := 16) (S := fun w' => w'.cell? ⟨b8, 0, none⟩ = some (.slice Ax r1.length cx) /\ w'.cell? ⟨b10, 0, none⟩ = some (.slice Aw r1.length cw) /\ w'.cell? ⟨b5, 0, none⟩ = some (.slice A r.length c)) (ds := []) (bt 16 0) (by kernel_rfl) rfl rfl ⟨HW.out.z 3 rfl, HW.out.z 5 rfl, HW.out.z 1 rfl⟩ (fun hHeld => ?_);generalize World.drew _ = wd at HW hHeld ⊢;refine aH 0 77 1 ?_;refine aH 1 78 3 ?_;refine aH 2 79 7 ?_;refine aH 3 80 15 ?_;refine fq 4 81 31 hHeld ?_;refine fq 5 82 63 hHeld ?_;refine gG 6 (some 83) 127 (fun K hK => ?_);refine lI Try.func46 #[.agg #[.slice Ax r1.length cx], .agg #[.slice Aw r1.length cw]] ?_
 with_reducible refine (Cz Ax Aw cx cw r1 _ (by have := E3.out; omega) (CE E4.out) (HW.out.t 2 rfl) JK.out (HW.out.t 4 rfl) HW1l.out).mono ?_
 rintro e w9 ⟨rfl, hb⟩;refine ⟨_, rfl, ?_⟩;replace HW := A_ (HW.out.on hb);clear hb;refine dh 83 hK ⟨HW.out.z 3 rfl, HW.out.z 5 rfl, HW.out.z 1 rfl⟩ (fun hHeld => ?_);refine aH 7 84 255 ?_;refine aH 8 85 511 ?_;refine aH 9 86 1023 ?_;refine fq 10 87 2047 hHeld ?_;refine fq 12 89 6143 hHeld ?_;refine gG 11 (some 88) 8191 (fun K hK => ?_);refine lI Try.func18 #[.agg #[.slice A r.length c]] ?_
 with_reducible refine (fo.calls kg A c r gb _ (HW.out.t 0 rfl) HT.out.1 E6.out).mono ?_
 rintro e w9 ⟨rfl, hb⟩;refine ⟨_, rfl, ?_⟩;replace HW := A_ (HW.out.on hb);clear hb;refine dh 88 hK ⟨HW.out.z 3 rfl, HW.out.z 5 rfl, HW.out.z 1 rfl⟩ (fun hHeld => ?_);refine gG 13 (some 90) 16383 (fun K hK => ?_);refine lI Try.func16 #[.agg #[.slice A r.length c]] ?_
 with_reducible refine (kH.calls A c r gb _ (HW.out.t 0 rfl) HT.out.1 E7.out).mono ?_
 rintro e w9 ⟨rfl, hb⟩;refine ⟨_, rfl, ?_⟩;replace HW := A_ (HW.out.on hb);clear hb;refine dh 90 hK ⟨HW.out.z 3 rfl, HW.out.z 5 rfl, HW.out.z 1 rfl⟩ (fun hHeld => ?_);refine aH 14 91 32767 ?_;refine aH 15 92 65535 ?_;refine dL (by kernel_rfl) ?_;clear Z9 dd_ hHeld;have tX := HW.out.z 1 rfl;have rC := HW.out.z 3 rfl
 go_upto_if 93 with fail
 go_cut [] (fun wc => af (Below w.heap.size w wc))
 case first =>
  as_aux_lemma =>
  cases b1 with
  | false =>
   go_wp2
   go_meet
   case rel => exact ⟨HW.out.B⟩
  | true =>
   obtain ⟨l, hP, hX⟩ := E5.out rfl;have X9 := A_ hP;have HX0 := A_ hX;obtain ⟨k2, f1⟩ := hX.get key;rw [Pure.CB] at f1;obtain ⟨k3, f2⟩ := hP.keys;obtain ⟨k4, f3⟩ := hX.keys;obtain ⟨k5, f4⟩ := hP.get key;obtain ⟨k6, f5⟩ := hX.good;have hin := Pure.Mo (k := key) (v := val) l hP.AL
   obtain ⟨⟨pv, pb⟩, hpb⟩ : ∃ x, x = dQ key l := ⟨_, rfl⟩
   rw [<- hpb] at f4 hin;have hf := hP.few
   obtain ⟨K1, hK1⟩ : ∃ K, K = l.map Prod.fst := ⟨_, rfl⟩
   obtain ⟨K2, hK2⟩ : ∃ K, K = (fD key val l).map Prod.fst := ⟨_, rfl⟩
   rw [<- hK1] at f2;rw [<- hK2] at f3;have hlen : K2.length = K1.length + (if pb = true then 0 else 1) /\ K1.length <= 40 := by rw [hK1, hK2, List.length_map, List.length_map]; exact ⟨hin, hf⟩
   have HK := A_ (And.intro hK1 hK2);have HL := A_ hlen;have F1 := A_ f1;have F2 := A_ f2;have F3 := A_ f3;have F4 := A_ f4;have F5 := A_ f5;clear hP hX f1 f2 f3 f4 f5 hin hpb hf hK1 hK2 hlen E5
   go_upto_if 116 with (first | (go_at_call 23; (with_reducible refine (fC.calls k2 Ax cx r1 key val true _ (HW.out.t 2 rfl) JK.out F1.out).mono ?_); rintro e w10_ ⟨rfl, hb⟩; replace HW := A_ (HW.out.on hb); replace tX := HW.out.z 1 rfl; replace rC := HW.out.z 3 rfl; clear hb) | (go_at_call 25; (with_reducible refine (ic.calls k3 A c r K1 true _ (HW.out.t 0 rfl) HT.out.1 F2.out).mono ?_); rintro e w11_ ⟨vk, rfl, ho, hb⟩; replace HW := A_ (HW.out.on hb); replace tX := HW.out.z 1 rfl; replace rC := HW.out.z 3 rfl; obtain ⟨JN, c14, rfl⟩ := Kd.ak ho; replace HW := A_ (HW.out.add (.s JN K1) (Kd.dS ho).2.2); have HKal := A_ (Kd.dS ho).2.1; clear ho; clear hb) | (go_at_call 25; (with_reducible refine (ic.calls k4 Ax cx r1 K2 true _ (HW.out.t 2 rfl) JK.out F3.out).mono ?_); rintro e w12_ ⟨vk, rfl, ho, hb⟩; replace HW := A_ (HW.out.on hb); replace tX := HW.out.z 1 rfl; replace rC := HW.out.z 3 rfl; obtain ⟨TA, c16, rfl⟩ := Kd.ak ho; replace HW := A_ (HW.out.add (.s TA K2) (Kd.dS ho).2.2); have HKbl := A_ (Kd.dS ho).2.1; clear ho; clear hb) | (go_at_call 23; (with_reducible refine (fC.calls k5 A c r key pv pb _ (HW.out.t 0 rfl) HT.out.1 F4.out).mono ?_); rintro e w13_ ⟨rfl, hb⟩; replace HW := A_ (HW.out.on hb); replace tX := HW.out.z 1 rfl; replace rC := HW.out.z 3 rfl; clear hb))
   clear F1 F2 F3 F4;go_cut [20] (fun v20 wc => ∃ m : Nat, v20 = .int .i64 (m : Int) /\ af (K2.length = K1.length + m /\ m <= 1) /\ wc = w13_)
   case first =>
    cases pb with
    | true =>
     go_wp2
     go_meet
     case rel => exact ⟨0, rfl, ⟨HL.out.1, Nat.zero_le _⟩, rfl⟩
    | false =>
     go_wp2
     go_meet
     case rel => exact ⟨1, rfl, ⟨HL.out.1, Nat.le_refl _⟩, rfl⟩
   case rest =>
    as_aux_lemma =>
    obtain ⟨m, rfl, HM, rfl⟩ := hcut
    have q_ : wrap64 ((K1.length : Int) + (m : Int)) = (K2.length : Int) := by
     have := HM.out;have := HL.out.2;rw [Pure.gP (by omega) (by omega)];omega
    have v_ : (val.toList != val.toList) = false := by simp
    have u_ : ((K2.length : Int) != (K2.length : Int)) = false := by simp
    go_upto_if 145 with (first | (go_at_call 18; (with_reducible refine (fo.calls k6 Ax cx r1 true _ (HW.out.t 2 rfl) JK.out F5.out).mono ?_); rintro e w14_ ⟨rfl, hb⟩; replace HW := A_ (HW.out.on hb); replace tX := HW.out.z 1 rfl; replace rC := HW.out.z 3 rfl; clear hb))
    clear q_ v_ u_;go_wp2
    go_loopg [148] K1.length (fun kq v148 w' => ∃ i : Nat, v148 = .int .i64 (i : Int) /\ af (i <= K1.length /\ kq + i = K1.length) /\ af (Lw w w' [.t A r, .b b5 (.slice A r.length c), .t Ax r1, .b b8 (.slice Ax r1.length cx), .t Aw r1, .b b10 (.slice Aw r1.length cw), .s JN K1, .s TA K2]))
    case atStart => exact ⟨0, by first | rfl | (simp; done), ⟨Nat.zero_le _, by first | rfl | omega⟩, HW⟩
    case round =>
     clear HW tX rC;obtain ⟨i, rfl, HI, HW⟩ := hrel;have tX := HW.out.z 1 rfl;have rC := HW.out.z 3 rfl
     by_cases hi : i < K1.length
     ·have c_ := lQ ((i : Int) < (K1.length : Int))
      have K4 : (i < K1.length) = True := eq_true hi;have QB := bV (0 <= (i : Int));have QC := bV ((i : Int) < (K1.length : Int));have HI1 := A_ hi;obtain ⟨ad, hA1, hx0⟩ := Kd.bH (HW.out.s 6 rfl) (i : Int) (by omega) (by omega);subst hA1;rw [Int.toNat_natCast] at hx0
      have hxm : bO ByteArray.empty K1 (i : Int) ∈ K1 := by
       unfold bO;rw [Int.toNat_natCast, List.getD_eq_getElem?_getD, List.getElem?_eq_getElem hi];exact List.getElem_mem hi
      generalize bO ByteArray.empty K1 (i : Int) = x at hx0 hxm;clear hi;rw [HK.out.1] at hxm;obtain ⟨y, hy, hyx⟩ := List.mem_map.1 hxm;have hl1 : (dQ x l).2 = true := Pure.l9.2 ⟨y, hy, by rw [hyx]; simp⟩
      have hne : (x.toList == key.toList) = false -> dQ x (fD key val l) = dQ x l := fun h => Pure.zC h l
      have hl2 : (dQ x (fD key val l)).2 = true := by
       cases h : (x.toList == key.toList) with
       | false => rw [hne h]; exact hl1
       | true =>
        obtain ⟨z, hz, he⟩ := Pure.Mq (k := key) (v := val) l;exact Pure.l9.2 ⟨z, hz, by rw [eq_of_beq he, eq_of_beq h]; simp⟩
      obtain ⟨kp, g1⟩ := X9.out.get x;obtain ⟨kq, g2⟩ := HX0.out.get x
      obtain ⟨⟨pv1, pb1⟩, hp1⟩ : ∃ z, z = dQ x l := ⟨_, rfl⟩
      obtain ⟨⟨WI, qb1⟩, hq1⟩ : ∃ z, z = dQ x (fD key val l) := ⟨_, rfl⟩
      rw [<- hp1] at g1 hl1 hne;rw [<- hq1] at g2 hl2 hne;have hl1 : pb1 = true := hl1;have hl2 : qb1 = true := hl2;subst hl1 hl2;have G1 := A_ g1;have G2 := A_ g2;clear hxm hy hyx hp1 hq1 g1 g2
      cases hxk : (x.toList == key.toList) with
      | true =>
       have hnk : (x.toList != key.toList) = false := by simp [bne, hxk]
       clear hne
       go_wp2_with (first | (go_at_call 23; (with_reducible refine (fC.calls kp A c r x pv1 true _ (HW.out.t 0 rfl) HT.out.1 G1.out).mono ?_); rintro e w15_ ⟨rfl, hb⟩; replace HW := A_ (HW.out.on hb); replace tX := HW.out.z 1 rfl; replace rC := HW.out.z 3 rfl; clear hb) | (go_at_call 23; (with_reducible refine (fC.calls kq Ax cx r1 x WI true _ (HW.out.t 2 rfl) JK.out G2.out).mono ?_); rintro e w16_ ⟨rfl, hb⟩; replace HW := A_ (HW.out.on hb); replace tX := HW.out.z 1 rfl; replace rC := HW.out.z 3 rfl; clear hb))
       go_roundg (K1.length - (i + 1))
       case measure => have := HI.out; have := HI1.out; omega
       case rel => exact ⟨i + 1, by have := HI1.out; have := HL.out.2; rw [Pure.gP (by omega) (by omega)]; congr 1, ⟨by have := HI1.out; omega, by have := HI1.out; omega⟩, HW⟩
      | false =>
       have hnk : (x.toList != key.toList) = true := by simp [bne, hxk]
       have hpq : WI = pv1 := congrArg Prod.fst (hne hxk);subst hpq;have hpp : (WI.toList != WI.toList) = false := by simp
       clear hne
       go_wp2_with (first | (go_at_call 23; (with_reducible refine (fC.calls kp A c r x WI true _ (HW.out.t 0 rfl) HT.out.1 G1.out).mono ?_); rintro e w17_ ⟨rfl, hb⟩; replace HW := A_ (HW.out.on hb); replace tX := HW.out.z 1 rfl; replace rC := HW.out.z 3 rfl; clear hb) | (go_at_call 23; (with_reducible refine (fC.calls kq Ax cx r1 x WI true _ (HW.out.t 2 rfl) JK.out G2.out).mono ?_); rintro e w18_ ⟨rfl, hb⟩; replace HW := A_ (HW.out.on hb); replace tX := HW.out.z 1 rfl; replace rC := HW.out.z 3 rfl; clear hb))
       go_roundg (K1.length - (i + 1))
       case measure => have := HI.out; have := HI1.out; omega
       case rel => exact ⟨i + 1, by have := HI1.out; have := HL.out.2; rw [Pure.gP (by omega) (by omega)]; congr 1, ⟨by have := HI1.out; omega, by have := HI1.out; omega⟩, HW⟩
     ·have c_ := kS ((i : Int) < (K1.length : Int))
      have K4 : (i < K1.length) = False := eq_false hi;clear hi HI;clear tX;have htk : kM r1 = true := Pure.pV E3.out E4.out;obtain ⟨r3, b3, k7, e1, _, e3, e4, e5, e6⟩ := Pure.IY htk key;have hb3 := e5 _ HX0.out (Pure.Mq l);subst hb3;obtain ⟨l', hl1, hl2, hY⟩ := e6 rfl;obtain rfl := hl1.uniq HX0.out;obtain ⟨k8, f1⟩ := hY.keys;obtain ⟨k9, f2⟩ := hY.get key;obtain ⟨k10, f3⟩ := hY.good
      have hnk : (dQ key (kz key (fD key val l))).2 = false := Pure.IV fun x hx => (Pure.AX hx).2
      obtain ⟨⟨pv, pn⟩, hpn⟩ : ∃ x, x = dQ key (kz key (fD key val l)) := ⟨_, rfl⟩
      rw [<- hpn] at f2 hnk;have hnk : pn = false := hnk;subst hnk;have hdl := Pure.Mr hl1.AL hl2
      obtain ⟨K3, hK3⟩ : ∃ K, K = (kz key (fD key val l)).map Prod.fst := ⟨_, rfl⟩
      rw [<- hK3] at f1
      have hlen : K3.length + 1 = K2.length /\ K2.length <= 40 := by
       rw [hK3, HK.out.2, List.length_map, List.length_map];exact ⟨hdl, hl1.few⟩
      have Y1 := A_ e1;have Y3 := A_ e3;have Y4 := A_ e4;have F1 := A_ f1;have F2 := A_ f2;have F3 := A_ f3;have HL3 := A_ hlen;have q_ : wrap64 ((K2.length : Int) - 1) = (K3.length : Int) := by rw [Pure.gP (by omega) (by omega)]; omega
      have u_ : ((K3.length : Int) != (K3.length : Int)) = false := by simp
      clear htk e1 e3 e4 e5 e6 hl1 hl2 hY f1 f2 f3 hpn hdl hK3 hlen
      go_upto_region 27 with (first | (go_at_call 40; (with_reducible refine (jq.oZ k7 Ax cx r1 key r3 true _ (HW.out.t 2 rfl) JK.out Y1.out).mono ?_); rintro e w19_ ⟨v, rfl, ho, hb⟩; replace HW := A_ (HW.out.on hb); replace rC := HW.out.z 3 rfl; obtain ⟨Ay, cy, rfl, hl, hc⟩ := ho.C; replace HW := A_ (HW.out.add (.t Ay r3) hc); have Wi := A_ hl; clear ho hl hc; clear hb) | (refine jl 27 #[.slice none 0 0] 29 ?_; intro ZE hg w20_ aA hb; have HX := A_ (And.intro hg (And.intro aA hb)); have Lm := (au aA 0).trans rfl; have Lp := aV aA 0; clear hg aA hb))
      obtain ⟨hb, hx⟩ := qO (v := .slice Ay r3.length cy) HX.out.1 HX.out.2.1 HX.out.2.2;generalize World.setCell w20_ ⟨ZE, 0, none⟩ (.slice Ay r3.length cy) = w21_ at hb hx ⊢;replace HW := A_ (HW.out.on hb);replace rC := HW.out.z 3 rfl;replace HW := A_ (HW.out.add (.b ZE (.slice Ay r3.length cy)) hx);clear hx hb HX Lm Lp;have wm := HW.out.z 9 rfl
      go_wp2_with (first | (go_at_call 25; (with_reducible refine (ic.calls k8 Ay cy r3 K3 true _ (HW.out.t 8 rfl) Wi.out F1.out).mono ?_); rintro e w22_ ⟨vk, rfl, ho, hb⟩; replace HW := A_ (HW.out.on hb); replace rC := HW.out.z 3 rfl; replace wm := HW.out.z 9 rfl; obtain ⟨A29, SK, rfl⟩ := Kd.ak ho; replace HW := A_ (HW.out.add (.s A29 K3) (Kd.dS ho).2.2); have HKcl := A_ (Kd.dS ho).2.1; clear ho; clear hb) | (go_at_call 23; (with_reducible refine (fC.calls k9 Ay cy r3 key pv false _ (HW.out.t 8 rfl) Wi.out F2.out).mono ?_); rintro e w23_ ⟨rfl, hb⟩; replace HW := A_ (HW.out.on hb); replace rC := HW.out.z 3 rfl; replace wm := HW.out.z 9 rfl; clear hb) | (go_at_call 18; (with_reducible refine (fo.calls k10 Ay cy r3 true _ (HW.out.t 8 rfl) Wi.out F3.out).mono ?_); rintro e w24_ ⟨rfl, hb⟩; replace HW := A_ (HW.out.on hb); replace rC := HW.out.z 3 rfl; replace wm := HW.out.z 9 rfl; clear hb))
      go_meet
      case rel => exact ⟨HW.out.B⟩
 case rest =>
  as_aux_lemma =>
  clear HW tX rC HT E1 E2 E3 E4 E5 E6 E7 JK HW1l
  have HW : af (Lw w _ []) := ⟨⟨hcut.out, fun _ h => by cases h⟩⟩
  clear hcut
  go_upto_region 32 with (first | (go_at_call 47; (with_reducible refine (y8.runs A1 c1 l1 HD1.out _ (Kd.aN HR1.out HW.out.B)).mono ?_); rintro e w25_ ⟨Au, cu, n5, r5, KR, rfl, ht, hb⟩; replace HW := A_ (HW.out.on hb); obtain ⟨rfl, h1, h2, h3⟩ := ht; replace HW := A_ (HW.out.add (.t Au r5) h2); have YI := A_ (And.intro h1 (And.intro h3 (tQ h3))); clear h1 h2 h3; clear hb) | (refine jl 33 #[.slice none 0 0] 29 ?_; intro XV hg w26_ aA hb; have HX := A_ (And.intro hg (And.intro aA hb)); have Lm := (au aA 0).trans rfl; have Lp := aV aA 0; clear hg aA hb))
  obtain ⟨hb, hx⟩ := qO (v := .slice Au r5.length cu) HX.out.1 HX.out.2.1 HX.out.2.2;generalize World.setCell w26_ ⟨XV, 0, none⟩ (.slice Au r5.length cu) = w27_ at hb hx ⊢;replace HW := A_ (HW.out.on hb);replace HW := A_ (HW.out.add (.b XV (.slice Au r5.length cu)) hx);clear hx hb HX Lm Lp;have yw := HW.out.z 1 rfl;obtain ⟨r6, b6, k1, e1, e2, e3, e4, _, e6⟩ := Pure.IY YI.out.2.1 KR;have E1 := A_ e1;have E2 := A_ e2;have E3 := A_ e3;have E4 := A_ e4;have E6 := A_ e6;clear e1 e2 e3 e4 e6
  go_upto_region 33 with (first | (go_at_call 40; (with_reducible refine (jq.oZ k1 Au cu r5 KR r6 b6 _ (HW.out.t 0 rfl) YI.out.1 E1.out).mono ?_); rintro e w28_ ⟨v, rfl, ho, hb⟩; replace HW := A_ (HW.out.on hb); replace yw := HW.out.z 1 rfl; obtain ⟨Ay, cy, rfl, hl, hc⟩ := ho.C; replace HW := A_ (HW.out.add (.t Ay r6) hc); have Wi := A_ hl; clear ho hl hc; clear hb) | (refine jl 35 #[.slice none 0 0] 29 ?_; intro XW hg w29_ aA hb; have HX := A_ (And.intro hg (And.intro aA hb)); have Lm := (au aA 0).trans rfl; have Lp := aV aA 0; clear hg aA hb))
  obtain ⟨hb, hx⟩ := qO (v := .slice Ay r6.length cy) HX.out.1 HX.out.2.1 HX.out.2.2;generalize World.setCell w29_ ⟨XW, 0, none⟩ (.slice Ay r6.length cy) = w30_ at hb hx ⊢;replace HW := A_ (HW.out.on hb);replace yw := HW.out.z 1 rfl;replace HW := A_ (HW.out.add (.b XW (.slice Ay r6.length cy)) hx);clear hx hb HX Lm Lp;have wm := HW.out.z 3 rfl
  go_upto_region 34 with (first | (go_at_call 39; (with_reducible refine (gY.oZ Au cu r5 KR r6 b6 _ (HW.out.t 0 rfl) YI.out.1 E2.out).mono ?_); rintro e w31_ ⟨v, rfl, ho, hb⟩; replace HW := A_ (HW.out.on hb); replace yw := HW.out.z 1 rfl; replace wm := HW.out.z 3 rfl; obtain ⟨Av, cv, rfl, hl, hc⟩ := ho.C; replace HW := A_ (HW.out.add (.t Av r6) hc); have HVl := A_ hl; clear ho hl hc; clear hb) | (refine jl 37 #[.slice none 0 0] 29 ?_; intro b37 hg w32_ aA hb; have HX := A_ (And.intro hg (And.intro aA hb)); have Lm := (au aA 0).trans rfl; have Lp := aV aA 0; clear hg aA hb))
  obtain ⟨hb, hx⟩ := qO (v := .slice Av r6.length cv) HX.out.1 HX.out.2.1 HX.out.2.2;generalize World.setCell w32_ ⟨b37, 0, none⟩ (.slice Av r6.length cv) = w33_ at hb hx ⊢;replace HW := A_ (HW.out.on hb);replace yw := HW.out.z 1 rfl;replace wm := HW.out.z 3 rfl;replace HW := A_ (HW.out.add (.b b37 (.slice Av r6.length cv)) hx);clear hx hb HX Lm Lp;have Oi := HW.out.z 5 rfl
  go_upto_region 35 with (first | (go_at_call 48; (with_reducible refine (zV.runs A1 c1 l1 HD1.out _ (Kd.aN HR1.out HW.out.B)).mono ?_); rintro e w34_ ⟨Ag, cg, n7, r7, Wj, rfl, ht, hb⟩; replace HW := A_ (HW.out.on hb); replace yw := HW.out.z 1 rfl; replace wm := HW.out.z 3 rfl; replace Oi := HW.out.z 5 rfl; obtain ⟨rfl, h1, h2, h3⟩ := ht; replace HW := A_ (HW.out.add (.t Ag r7) h2); have YJ := A_ (And.intro h1 (And.intro h3 (tQ h3))); clear h1 h2 h3; clear hb) | (refine jl 39 #[.slice none 0 0] 29 ?_; intro YA hg w35_ aA hb; have HX := A_ (And.intro hg (And.intro aA hb)); have Lm := (au aA 0).trans rfl; have Lp := aV aA 0; clear hg aA hb))
  obtain ⟨hb, hx⟩ := qO (v := .slice Ag r7.length cg) HX.out.1 HX.out.2.1 HX.out.2.2;generalize World.setCell w35_ ⟨YA, 0, none⟩ (.slice Ag r7.length cg) = w36_ at hb hx ⊢;replace HW := A_ (HW.out.on hb);replace yw := HW.out.z 1 rfl;replace wm := HW.out.z 3 rfl;replace Oi := HW.out.z 5 rfl;replace HW := A_ (HW.out.add (.b YA (.slice Ag r7.length cg)) hx);clear hx hb HX Lm Lp;have SY := HW.out.z 7 rfl;obtain ⟨⟨gv, gb⟩, kg, e1, e2, _⟩ := Pure.Ms YJ.out.2.2.1 YJ.out.2.2.2 Wj;have G1 := A_ e1;have G2 := A_ e2;clear e1 e2;have Z9 : (b6 != b6) = false := by simp
  have dd_ : (gb != gb) = false := by simp
  have vv_ : (gv.toList != gv.toList) = false := by simp
  go_upto_if 273 with (first | (go_at_call 23; (with_reducible refine (fC.calls kg Ag cg r7 Wj gv gb _ (HW.out.t 6 rfl) YJ.out.1 G1.out).mono ?_); rintro e w37_ ⟨rfl, hb⟩; replace HW := A_ (HW.out.on hb); replace yw := HW.out.z 1 rfl; replace wm := HW.out.z 3 rfl; replace Oi := HW.out.z 5 rfl; replace SY := HW.out.z 7 rfl; clear hb) | (go_at_call 22; (with_reducible refine (mM.calls Ag cg r7 Wj gv gb _ (HW.out.t 6 rfl) YJ.out.1 G2.out).mono ?_); rintro e w38_ ⟨rfl, hb⟩; replace HW := A_ (HW.out.on hb); replace yw := HW.out.z 1 rfl; replace wm := HW.out.z 3 rfl; replace Oi := HW.out.z 5 rfl; replace SY := HW.out.z 7 rfl; clear hb) | (go_at_call 46; (with_reducible refine (Cz Ay Av cy cv r6 _ (by have := E3.out; omega) (CE E4.out) (HW.out.t 2 rfl) Wi.out (HW.out.t 4 rfl) HVl.out).mono ?_); rintro e w39_ ⟨rfl, hb⟩; replace HW := A_ (HW.out.on hb); replace yw := HW.out.z 1 rfl; replace wm := HW.out.z 3 rfl; replace Oi := HW.out.z 5 rfl; replace SY := HW.out.z 7 rfl; clear hb))
  clear Oi SY Z9 dd_ vv_ G1 G2
  cases b6 with
  | false =>
   go_wp2;go_ret;exact ⟨by first | rfl | (simp; done), HW.out.B⟩
  | true =>
   obtain ⟨l, hU, hk, hY⟩ := E6.out rfl;obtain ⟨k2, f1⟩ := hU.keys;obtain ⟨k3, f2⟩ := hY.keys;obtain ⟨k4, f3⟩ := hY.good;have hdl := Pure.Mr hU.AL hk;have hf := hU.few
   obtain ⟨K1, hK1⟩ : ∃ K, K = l.map Prod.fst := ⟨_, rfl⟩
   obtain ⟨K2, hK2⟩ : ∃ K, K = (kz KR l).map Prod.fst := ⟨_, rfl⟩
   rw [<- hK1] at f1;rw [<- hK2] at f2;have hlen : K2.length + 1 = K1.length /\ K1.length <= 40 := by rw [hK1, hK2, List.length_map, List.length_map]; exact ⟨hdl, hf⟩
   have hno : (K2.any fun x => x.toList == KR.toList) = false := by
    rw [List.any_eq_false];intro x hx;rw [hK2] at hx;obtain ⟨y, hy, rfl⟩ := List.mem_map.1 hx;rw [(Pure.AX hy).2];decide
   have hall : ∀ x ∈ K2, (K1.any fun z => z.toList == x.toList) = true := by
    intro x hx;rw [hK2] at hx;obtain ⟨y, hy, rfl⟩ := List.mem_map.1 hx;rw [List.any_eq_true];exact ⟨y.1, by rw [hK1]; exact List.mem_map_of_mem (Pure.AX hy).1, by simp⟩
   have HL := A_ hlen;have OA := A_ hno;have zZ := A_ hall;have F1 := A_ f1;have F2 := A_ f2;have F3 := A_ f3;have q_ : wrap64 ((K1.length : Int) - 1) = (K2.length : Int) := by rw [Pure.gP (by omega) (by omega)]; omega
   have u_ : ((K2.length : Int) != (K2.length : Int)) = false := by simp
   clear hU hk hY f1 f2 f3 hdl hf hK1 hK2 hlen hno hall E6
   go_upto_if 307 with (first | (go_at_call 25; (with_reducible refine (ic.calls k2 Au cu r5 K1 true _ (HW.out.t 0 rfl) YI.out.1 F1.out).mono ?_); rintro e w40_ ⟨vk, rfl, ho, hb⟩; replace HW := A_ (HW.out.on hb); replace yw := HW.out.z 1 rfl; replace wm := HW.out.z 3 rfl; obtain ⟨A45, WB, rfl⟩ := Kd.ak ho; replace HW := A_ (HW.out.add (.s A45 K1) (Kd.dS ho).2.2); have HKal := A_ (Kd.dS ho).2.1; clear ho; clear hb) | (go_at_call 25; (with_reducible refine (ic.calls k3 Ay cy r6 K2 true _ (HW.out.t 2 rfl) Wi.out F2.out).mono ?_); rintro e w41_ ⟨vk, rfl, ho, hb⟩; replace HW := A_ (HW.out.on hb); replace yw := HW.out.z 1 rfl; replace wm := HW.out.z 3 rfl; obtain ⟨A47, WE, rfl⟩ := Kd.ak ho; replace HW := A_ (HW.out.add (.s A47 K2) (Kd.dS ho).2.2); have HKbl := A_ (Kd.dS ho).2.1; clear ho; clear hb) | (go_at_call 18; (with_reducible refine (fo.calls k4 Ay cy r6 true _ (HW.out.t 2 rfl) Wi.out F3.out).mono ?_); rintro e w42_ ⟨rfl, hb⟩; replace HW := A_ (HW.out.on hb); replace yw := HW.out.z 1 rfl; replace wm := HW.out.z 3 rfl; clear hb) | (go_at_call 49; (with_reducible refine (Pure.I1 (l := K2) (b := false) (by have := HL.out; omega) (HW.out.s 9 rfl) HKbl.out OA.out).mono ?_); rintro e w43_ ⟨rfl, hb⟩; replace hb := zD hb; replace HW := A_ (HW.out.on hb); replace yw := HW.out.z 1 rfl; replace wm := HW.out.z 3 rfl; clear hb))
   clear yw wm q_ u_ F1 F2 F3;go_wp2
   go_loopg [310] K2.length (fun kq v310 w' => ∃ i : Nat, v310 = .int .i64 (i : Int) /\ af (i <= K2.length /\ kq + i = K2.length) /\ af (Lw w w' [.t Au r5, .b XV (.slice Au r5.length cu), .t Ay r6, .b XW (.slice Ay r6.length cy), .t Av r6, .b b37 (.slice Av r6.length cv), .t Ag r7, .b YA (.slice Ag r7.length cg), .s A45 K1, .s A47 K2]))
   case atStart => exact ⟨0, by first | rfl | (simp; done), ⟨Nat.zero_le _, by first | rfl | omega⟩, HW⟩
   case round =>
    clear HW;obtain ⟨i, rfl, HI, HW⟩ := hrel
    by_cases hi : i < K2.length
    ·have c_ := lQ ((i : Int) < (K2.length : Int))
     have K4 : (i < K2.length) = True := eq_true hi;have QB := bV (0 <= (i : Int));have QC := bV ((i : Int) < (K2.length : Int));have HI1 := A_ hi;obtain ⟨ad, hA1, hx0⟩ := Kd.bH (HW.out.s 9 rfl) (i : Int) (by omega) (by omega);subst hA1;rw [Int.toNat_natCast] at hx0
     have hxm : bO ByteArray.empty K2 (i : Int) ∈ K2 := by
      unfold bO;rw [Int.toNat_natCast, List.getD_eq_getElem?_getD, List.getElem?_eq_getElem hi];exact List.getElem_mem hi
     generalize bO ByteArray.empty K2 (i : Int) = x at hx0 hxm;clear hi;have HXM := A_ (zZ.out x hxm);clear hxm
     go_wp2_with (first | (go_at_call 49; (with_reducible refine (Pure.I1 (l := K1) (b := true) (by have := HL.out; omega) (HW.out.s 8 rfl) HKal.out HXM.out).mono ?_); rintro e w44_ ⟨rfl, hb⟩; replace hb := zD hb; replace HW := A_ (HW.out.on hb); clear hb))
     go_roundg (K2.length - (i + 1))
     case measure => have := HI.out; have := HI1.out; omega
     case rel => exact ⟨i + 1, by have := HI1.out; have := HL.out; rw [Pure.gP (by omega) (by omega)]; congr 1, ⟨by have := HI1.out; omega, by have := HI1.out; omega⟩, HW⟩
    ·have c_ := kS ((i : Int) < (K2.length : Int))
     have K4 : (i < K2.length) = False := eq_false hi;clear hi;go_wp2;go_ret;exact ⟨by first | rfl | (simp; done), HW.out.B⟩
end Go.Proofs.Ytoddejmlcnbdmaa.Fn
namespace Go.Proofs.Ytoddejmlcnbdmaa.Pure
theorem Mv {l : List Int} (h : ∀ y ∈ l, (Lit.int .u8 y).wf = true) : Code l := fun y hy => bounds_u8 (h y hy)
theorem FnPages : ∀ (l0 : List Int) (l1 : List Int), (l0.length <= maxLen /\ ∀ y68 ∈ l0, (Lit.int .u8 y68).wf = true) -> (l1.length <= maxLen /\ ∀ y69 ∈ l1, (Lit.int .u8 y69).wf = true) -> ∃ k, pW.Xj k l0 l1 := fun l0 l1 h0 h1 => ⟨0, Mv h0.2, Mv h1.2⟩
end Go.Proofs.Ytoddejmlcnbdmaa.Pure
namespace Go.Proofs.Ytoddejmlcnbdmaa.Tq
open Go.Deep Go.ChangeShapes Go.Joins Go.Proofs.YtoddejmlcnbdmaaW
def Op (P : Program) (t : TypeId) {α : Type} (d : Kd α) (Wf : α -> Prop) : Prop :=
 ∀ {H : Type} {enc : TypeId × Value -> H} {w : World} {base : Nat} {spare : Nat -> Bool} {held : Bool} {fuel : Nat} {cs : List Value} {x : DataW H × List MemPlace},
  DataW.trod enc P w base spare held fuel t cs = some x -> ∃ a : α, d.K w a cs /\ Wf a
variable {P : Program} {t e : TypeId}
theorem PO {k : IntKind} (hu : P.underlying t = some (.int k)) : Op P t (Kd.int k) (fun n => (Lit.int k n).wf = true) := by
 intro H enc w base spare held fuel cs x h;obtain ⟨n, rfl, _, hw⟩ := DataW.trod_int hu h;exact ⟨n, rfl, hw⟩
theorem PR {w : World} {base : Nat} {a : Addr} {n : Nat} {cs : List Value} (h : w.cells? base a n = some cs) : cs.length = n /\ ∀ j u, cs[j]? = some u -> w.cell? (a.add j) = some u := by
 unfold World.cells? at h
 split at h
 ·have hl := mapM_some_length h
  refine ⟨by simpa using hl, fun j u hj => ?_⟩
  have hlt : j < n := by
   have := (List.getElem?_eq_some_iff.1 hj).1;have : cs.length = n := by simpa using hl
   omega
  have := mapM_some_get h j j (by simp [hlt]);rw [hj] at this;exact this
 ·simp at h
theorem I4 {α : Type} {d : Kd α} {Wf : α -> Prop} (hu : P.underlying t = some (.slice e)) (hc : P.cellsOf e = d.sz) (h : Op P e d Wf) :
  Op P t (Kd.slice e d) (fun xs => xs.length <= maxLen /\ ∀ x ∈ xs, Wf x) := by
 intro H enc w base spare held fuel cs x hf
 rcases open_slice hu hf with ⟨rfl, _⟩ | ⟨a, len, cap, m, n, D, Pl, rfl, _, hl, hm, hmm, hxe, hall⟩
 ·exact ⟨[], ⟨none, 0, rfl, Nat.le_refl _, rfl, by simp, fun h => absurd h (by simp)⟩, by simp, by simp⟩
 ·have hlm : len <= m := by rw [hmm]; split <;> omega
  have hx : ∀ i, i < len -> ∃ y : α × List Value, w.cells? base (a.add (i * P.cellsOf e)) (P.cellsOf e) = some y.2 /\ d.K w y.1 y.2 /\ Wf y.1 := by
   intro i hi;obtain ⟨cs', h1, h2⟩ := hall i (by omega);obtain ⟨y, h3, h4⟩ := h h2;exact ⟨⟨y, cs'⟩, h1, h3, h4⟩
  have hx' : ∃ ys : List (α × List Value), ys.length = len /\ ∀ i y, ys[i]? = some y -> w.cells? base (a.add (i * P.cellsOf e)) (P.cellsOf e) = some y.2 /\ d.K w y.1 y.2 /\ Wf y.1 := by
   clear hall hf hmm hlm hl hm hxe
   induction len with
   | zero => exact ⟨[], rfl, by simp⟩
   | succ len ih =>
    obtain ⟨ys, h1, h2⟩ := ih (fun i hi => hx i (by omega));obtain ⟨y, hy⟩ := hx len (by omega);refine ⟨ys ++ [y], by simp [h1], fun i z hz => ?_⟩
    rcases Nat.lt_or_ge i ys.length with hi | hi
    ·rw [List.getElem?_append_left hi] at hz
     exact h2 i z hz
    ·rw [List.getElem?_append_right hi] at hz
     have h0 : i - ys.length = 0 := by
      rcases Nat.eq_zero_or_pos (i - ys.length) with h0 | h0
      ·exact h0
      ·rw [List.getElem?_eq_none (by simp; omega)] at hz
       cases hz
     rw [h0] at hz;have hz' : y = z := by simpa using hz
     have : i = len := by omega
     subst this;subst hz';exact hy
  obtain ⟨ys, hl2, hys⟩ := hx';have hlen : (ys.map (·.1)).length = len := by simp [hl2]
  refine ⟨ys.map (·.1), ⟨some a, cap, by rw [hlen], by omega, ?_⟩, by simp only [maxLen] at *; omega, ?_⟩
  ·refine ⟨rfl, by rw [hlen]; simp only [maxLen] at hm; omega, fun _ => ⟨a, rfl, fun j p hj => ?_⟩⟩
   rw [List.getElem?_map] at hj;obtain ⟨y, hy, rfl⟩ := Option.map_eq_some_iff.1 hj;obtain ⟨h1, h2, _⟩ := hys j y hy;obtain ⟨h3, h4⟩ := PR h1;refine ⟨y.2, by rw [h3, hc], h2, fun i u hu => ?_⟩;have := h4 i u hu;rw [PrintWords.add_add, hc] at this;exact this
  ·intro x hx
   obtain ⟨y, hy, rfl⟩ := List.mem_map.1 hx;obtain ⟨i, hi⟩ := List.mem_iff_getElem?.1 hy;exact (hys i y hi).2.2
theorem WZ {l : List Value} (h : l.length = 1) : ∃ a, l = [a] := by
 match l, h with
 | [a], _ => exact ⟨a, rfl⟩
theorem YO {l : List Value} (h : l.length = 2) : ∃ a b, l = [a, b] := by
 match l, h with
 | [a, b], _ => exact ⟨a, b, rfl⟩
end Go.Proofs.Ytoddejmlcnbdmaa.Tq
namespace Go.Proofs.Ytoddejmlcnbdmaa.fnPages
open Go.ChangeShapes Go.WideShapes Go.ChangeAt Go.Proofs.Ytoddejmlcnbdmaa.Tq
open Go.ChangeMaps (open_string shut_string)
theorem own : ownKnob Try.prog.godebug = none := by kernel_rfl
theorem laidOut : laidOutB Try.prog = true := by kernel_rfl
theorem lifted (os : Os) (started : os.Started) (H : Type) (enc : TypeId × Value -> H) :
    ReturnsInHanded {} Try.checked os 13 .any (Rows.fnPagesSpec.pre6 enc Try.prog Try.f13 Rows.fnPagesRow.domain false) (Rows.fnPagesSpec.post enc Try.prog Try.f13 false true false false) := by
  refine returnsInHanded_of_change_sized (C := Try.checked) own started (by kernel_rfl) Try.func13
    (ChangeSpec.witness6 (enc := enc) (C := Try.checked) false ⟨#[], #[.slice none 0 0, .slice none 0 0], []⟩ 8 (by kernel_rfl) (by kernel_rfl) (by kernel_rfl) (by kernel_rfl)) ?_
  intro W base args ds gs before hval0 hW hcnd hsz0 _
  have hsz : (DataW.weightsEach Try.prog (Try.f13.params.toList ++ Rows.fnPagesSpec.plain.varTypes Try.prog) (ds ++ gs)).all (· <= reachBytes) = true := hsz0
  have hval : ∀ (j : Nat) t v, Try.f13.params[j]? = some t -> args[j]? = some v -> Value.okWide Try.prog W .any base t v := hval0
  have hW' := hW
  obtain ⟨p, q, hA0, hV, rfl, hfz, hnd⟩ := hW
  have hA : DataW.TrodAll enc Try.prog W 0 (fun _ => true) true Try.f13.params.toList args.toList ds p := hA0
  rw [Try.params13] at hA hval hsz
  obtain ⟨v0, vs0, d0, ds0, p0, q0, hargs, rfl, rfl, h0, r0⟩ := trodAll_cons hA
  obtain ⟨v1, vs1, d1, ds1, p1, q1, rfl, rfl, rfl, h1, r1⟩ := trodAll_cons r0
  obtain ⟨rfl, rfl, rfl⟩ := trodAll_nil r1
  obtain rfl : args = #[v0, v1] := by cases args; simp_all
  obtain ⟨rfl, rfl⟩ := trodVars_none hV
  obtain ⟨a0, NW, cap0, rfl⟩ := okWide_slice Try.underlying56 (hval 0 56 v0 rfl rfl)
  have k0 := h0
  have lt0 : ∀ x ∈ p0, x.block < W.heap.size := by obtain ⟨m, hm⟩ := k0; exact DataW.trod_lt m _ _ _ hm
  obtain ⟨fuel0, hf0⟩ := h0
  obtain ⟨l0, hK0, hw0⟩ := (I4 Try.underlying56 (by kernel_rfl) (PO Try.underlying5)) hf0
  obtain ⟨A0, c0, e0, hc0, hr0⟩ := hK0
  simp [Value.cells] at e0
  obtain ⟨rfl, rfl, rfl⟩ := e0
  obtain ⟨a1, WZ, cap1, rfl⟩ := okWide_slice Try.underlying56 (hval 1 56 v1 rfl rfl)
  have k1 := h1
  have lt1 : ∀ x ∈ p1, x.block < W.heap.size := by obtain ⟨m, hm⟩ := k1; exact DataW.trod_lt m _ _ _ hm
  obtain ⟨fuel1, hf1⟩ := h1
  obtain ⟨l1, hK1, hw1⟩ := (I4 Try.underlying56 (by kernel_rfl) (PO Try.underlying5)) hf1
  obtain ⟨A1, c1, e1, hc1, hr1⟩ := hK1
  simp [Value.cells] at e1
  obtain ⟨rfl, rfl, rfl⟩ := e1
  clear hA0 hval0 hsz0 hsz
  obtain ⟨k, h⟩ := Pure.FnPages l0 l1 hw0 hw1
  refine (pW.calls k _ _ l0 _ _ l1 true W hr0 hc0 hr1 hc1 h rfl).mono fun e W' ⟨he, bel0⟩ => ?_
  have bel : Below W.heap.size W W' := bel0
  subst he
  exact ⟨_, rfl, _, _, _, [], _, [], hW', trodAll_mk1 (shut_bool Try.underlying4 _), (trodAll_cons_mk (Below.trod laidOut (by kernel_rfl) (of_decide_eq_true (by kernel_rfl)) k0 bel lt0) (trodAll_cons_mk (Below.trod laidOut (by kernel_rfl) (of_decide_eq_true (by kernel_rfl)) k1 bel lt1) trodAll_mk0)), rfl, bel.frame _, fun h => by cases h⟩
theorem over : Rows.fnPagesRow.holds Try.pinned (OpenSpec.ofChange Rows.fnPagesSpec) :=
  OpenClaim.holds_of_wide 13 Try.f13 rfl rfl rfl rfl rfl rfl rfl ⟨rfl, rfl, rfl, rfl, rfl⟩ rfl rfl rfl rfl rfl (by kernel_rfl) Try.func13 (by kernel_rfl)
    (of_decide_eq_true (by kernel_rfl)) (by unfold Func.isWrapper; first | (rw [if_pos (by decide +kernel)]; kernel_rfl) | (rw [if_neg (by decide +kernel)]; exact ⟨rfl, rfl⟩))
    (fun os started H enc _ => lifted os started H enc)
theorem proved : Rows.FnPagesSaid := over
#print axioms proved
end Go.Proofs.Ytoddejmlcnbdmaa.fnPages
namespace Go.Proofs.Ytoddejmlcnbdmaa
/-- The row, under a short name, for the claim. -/
theorem fnPages_holds : Rows.FnPagesSaid := fnPages.proved
end Go.Proofs.Ytoddejmlcnbdmaa

