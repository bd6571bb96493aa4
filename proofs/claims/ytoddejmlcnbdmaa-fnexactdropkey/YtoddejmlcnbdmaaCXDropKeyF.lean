/- The law FnExactDropKey holds of the given program: at every input it answers true and leaves its arguments as they were; no condition. -/
import Derived.Test.YtoddejmlcnbdmaaQWWords
import Derived.ChangeArms
import Derived.ChangeSame
import Derived.Deep.Slices
import Derived.Deep.Strs
import Derived.Deep.Fields
import Derived.Lib.SmallJoins
import Derived.WideShapes
import Derived.Test.YtoddejmlcnbdmaaRows
import Derived.WalkKit
import Derived.ProofKit
import Derived.OpenShut
import Derived.ShutString
import Derived.ChangeOld
import Derived.Below
import Derived.SizedLaws
import Derived.Carry
import Derived.Test.YtoddejmlcnbdmaaCXDropKeyA
import Derived.Test.YtoddejmlcnbdmaaCXDropKeyB
import Derived.Test.YtoddejmlcnbdmaaCXDropKeyC
import Derived.Test.YtoddejmlcnbdmaaCXDropKeyD
import Derived.Test.YtoddejmlcnbdmaaCXDropKeyE
set_option maxHeartbeats 8000000
set_option maxRecDepth 100000
open Go.RowKit Go.Proofs.YtoddejmlcnbdmaaW.PrintWords Go.Proofs.YtoddejmlcnbdmaaW.PrintLast Go.Proofs.YtoddejmlcnbdmaaW.PrintMore Go.Proofs.Ytoddejmlcnbdmaa.Gen
namespace Go.Proofs.Ytoddejmlcnbdmaa.Pure
open Go.Proofs.Ytoddejmlcnbdmaa.Fn Go.Proofs.Ytoddejmlcnbdmaa.Tree
set_option linter.unusedSimpArgs false
set_option linter.unusedVariables false
theorem JG (l : List Int) (hl : l.length <= 1048576) (c : Int) (h0 : 0 <= c) (h1 : c <= 1000000000) :
  ∃ l' : List Int, l'.length = l.length /\ Ev (fun k => bK.f k l c) (c + l.length, l') /\ Ev (fun k => bW.f k l' c) (c + l.length) := by
 refine ⟨l.mapIdx fun i _ => c + (i : Int), by simp, ?_, ?_⟩
 ·have h := zg (fun k x a i => bK.l0 k x a i) (fun i => c + (i : Int)) (fun i _ => c + (i : Int)) l ?_ ?_
  ·simp only [bK.f]
   rw [show c + ((0 : Nat) : Int) = c by omega] at h
   exact h
  ·intro k x hx
   simp only [bK.l0]
   rw [if_neg (by omega)]
  ·intro i y hy
   have hlt := (List.getElem?_eq_some_iff.1 hy).1
   refine ⟨0, fun k x hk hx _ => ?_⟩
   have e1 : wrap64 (c + (i : Int) + 1) = c + ((i + 1 : Nat) : Int) := by rw [jD (by omega) (by omega)]; omega
   simp only [bK.l0]
   rw [if_pos (by omega), if_pos (by omega), eT (by omega), e1, Int.toNat_natCast]
 ·have key : ∀ (t : List Int) (i : Nat), (l.mapIdx fun i _ => c + (i : Int)).drop i = t -> i <= l.length -> Ev (fun k => bW.l0 k (l.mapIdx fun i _ => c + (i : Int)) (c + i) i) (c + l.length) := by
   intro t
   induction t with
   | nil =>
    intro i h hi
    have h2 := drop_nil h
    simp only [List.length_mapIdx] at h2
    have e : i = l.length := by omega
    (refine Ev.up ?_; simp only [bW.l0, qd])
    rw [List.length_mapIdx]
    (repeat (first | with_reducible refine Ev.dw ?_ | (with_reducible refine Ev.kU ?_ ?_; (· exact bS)) | (with_reducible refine Ev.lF ?_ ?_; (· exact bS))))
    exact Ev.val (by rw [e])
   | cons x t ih =>
    intro i h hi
    obtain ⟨p1, p2, p3⟩ := drop_cons h
    rw [List.length_mapIdx] at p1
    have ih := ih (i + 1) p3 (by omega)
    have hx : x = c + (i : Int) := by
     rw [List.getElem?_mapIdx] at p2
     obtain ⟨y, _, hy⟩ := Option.map_eq_some_iff.1 p2
     exact hy.symm
    have e1 : wrap64 (c + (i : Int) + 1) = c + ((i + 1 : Nat) : Int) := by rw [jD (by omega) (by omega)]; omega
    (refine Ev.up ?_; simp only [bW.l0, qd])
    rw [List.length_mapIdx, WV p2, e1, eT (by omega)]
    (repeat (first | with_reducible refine Ev.dw ?_ | (with_reducible refine Ev.kU ?_ ?_; (· exact bS)) | (with_reducible refine Ev.lF ?_ ?_; (· exact bS))))
    exact ih
  have h := key _ 0 rfl (by omega)
  simp only [bW.f]
  rw [show c + ((0 : Nat) : Int) = c by omega] at h
  exact h
structure JH (p q : bE) (c : Int) : Prop where
 m0 : Ev (fun k => aY.f k p.f0 c) (c + p.f0.length, q.f0)
 m1 : Ev (fun k => aY.f k p.f1 (c + p.f0.length)) (c + p.f0.length + p.f1.length, q.f1)
 m2 : Ev (fun k => bK.f k p.f2 (c + p.f0.length + p.f1.length)) (c + ((EB p : Nat) : Int), q.f2)
 h0 : Ev (fun k => bf.f k q.f0 c) (c + p.f0.length)
 h1 : Ev (fun k => bf.f k q.f1 (c + p.f0.length)) (c + p.f0.length + p.f1.length)
 h2 : Ev (fun k => bW.f k q.f2 (c + p.f0.length + p.f1.length)) (c + ((EB p : Nat) : Int))
theorem JI (p : bE) (hp : EB p <= 1048576) (c : Int) (h0 : 0 <= c) (h1 : c <= 900000000) : ∃ q : bE, JH p q c := by
 have hw : EB p = p.f0.length + p.f1.length + p.f2.length := rfl
 obtain ⟨l0, _, a0, b0⟩ := sF p.f0 (by omega) c h0 (by omega)
 obtain ⟨l1, _, a1, b1⟩ := sF p.f1 (by omega) (c + p.f0.length) (by omega) (by omega)
 obtain ⟨l2, _, a2, b2⟩ := JG p.f2 (by omega) (c + p.f0.length + p.f1.length) (by omega) (by omega)
 have e : c + p.f0.length + p.f1.length + (p.f2.length : Int) = c + ((EB p : Nat) : Int) := by rw [hw]; omega
 rw [e] at a2 b2
 exact ⟨⟨l0, l1, l2⟩, a0, a1, a2, b0, b1, b2⟩
theorem Gb (P : List bE) (hl : P.length <= 1048576) (ht : tot P <= 1048576) :
  ∃ u : List bE, Ev (fun k => bJ.f k P 1) (1 + ((tot P : Nat) : Int), u) /\ Ev (fun k => iG.f k u 1) (1 + ((tot P : Nat) : Int)) := by
 have hw : ∀ {i : Nat} {y : bE}, P[i]? = some y -> tot (P.take i) + EB y <= 1048576 := fun {i y} h => by
  have := mi h
  have := wM P (i + 1)
  omega
 have ex : ∀ (i : Nat) (y : bE), ∃ q : bE, P[i]? = some y -> JH y q (1 + ((tot (P.take i) : Nat) : Int)) := by
  intro i y
  by_cases h : P[i]? = some y
  ·have := hw h
   obtain ⟨q, hq⟩ := JI y (by omega) (1 + ((tot (P.take i) : Nat) : Int)) (by omega) (by omega)
   exact ⟨q, fun _ => hq⟩
  ·exact ⟨y, fun h2 => absurd h2 h⟩
 obtain ⟨g, hg⟩ : ∃ g : Nat -> bE -> bE, ∀ (i : Nat) (y : bE), P[i]? = some y -> JH y (g i y) (1 + ((tot (P.take i) : Nat) : Int)) := ⟨fun i y => Classical.choose (ex i y), fun i y => Classical.choose_spec (ex i y)⟩
 refine ⟨P.mapIdx g, ?_, ?_⟩
 ·have h := zg (fun k x a i => bJ.l0 k x a i) (fun i => 1 + (((tot (P.take i) : Nat) : Int) : Int)) g P ?_ ?_
  ·simp only [bJ.f]
   rw [show (1 : Int) + ((tot (P.take 0) : Nat) : Int) = 1 by simp [tot], List.take_length] at h
   exact h
  ·intro k x hx
   simp only [bJ.l0]
   rw [if_neg (by omega)]
  ·intro i y hy
   have hlt := (List.getElem?_eq_some_iff.1 hy).1
   obtain ⟨⟨K0, m0⟩, ⟨K1, m1⟩, ⟨K2, m2⟩, _, _, _⟩ := hg i y hy
   refine ⟨max K0 (max K1 K2), fun k x hk hx hxy => ?_⟩
   have a := m0 k (by omega)
   have b := m1 k (by omega)
   have c := m2 k (by omega)
   dsimp only at a b c
   have hrd : aJ x (i : Int) = y := iB (z := jG) hxy
   have hs := mi hy
   simp only [bJ.l0]
   rw [if_pos (by omega), if_pos (by omega), hrd, a, Option.bind_some]
   dsimp only
   rw [b, Option.bind_some]
   dsimp only
   rw [c, Option.bind_some, eT (by omega), Int.toNat_natCast, hs]
   dsimp only
   rw [show (1 : Int) + ((tot (P.take i) : Nat) : Int) + ((EB y : Nat) : Int) = 1 + ((tot (P.take i) + EB y : Nat) : Int) by omega]
 ·have key : ∀ (t : List bE) (i : Nat), (P.mapIdx g).drop i = t -> i <= P.length -> Ev (fun k => bT.l0 k (P.mapIdx g) (1 + ((tot (P.take i) : Nat) : Int)) i) (1 + ((tot P : Nat) : Int)) := by
   intro t
   induction t with
   | nil =>
    intro i h hi
    have h2 := drop_nil h
    simp only [List.length_mapIdx] at h2
    have e : i = P.length := by omega
    (refine Ev.up ?_; simp only [bT.l0, qd])
    rw [List.length_mapIdx]
    (repeat (first | with_reducible refine Ev.dw ?_ | (with_reducible refine Ev.kU ?_ ?_; (· exact bS)) | (with_reducible refine Ev.lF ?_ ?_; (· exact bS))))
    exact Ev.val (by rw [e, List.take_length])
   | cons x t ih =>
    intro i h hi
    obtain ⟨p1, p2, p3⟩ := drop_cons h
    rw [List.length_mapIdx] at p1
    have ih := ih (i + 1) p3 (by omega)
    obtain ⟨y, hy, hx⟩ : ∃ y, P[i]? = some y /\ x = g i y := by
     rw [List.getElem?_mapIdx] at p2
     obtain ⟨y, h1, h2⟩ := Option.map_eq_some_iff.1 p2
     exact ⟨y, h1, h2.symm⟩
    obtain ⟨_, _, _, q0, q1, q2⟩ := hg i y hy
    have hrd : aJ (P.mapIdx g) (i : Int) = g i y := (iB (z := jG) p2).trans hx
    have hs := mi hy
    have hwy : EB y = y.f0.length + y.f1.length + y.f2.length := rfl
    rw [show (1 : Int) + ((tot (P.take (i + 1)) : Nat) : Int) = 1 + ((tot (P.take i) : Nat) : Int) + ((EB y : Nat) : Int) by omega] at ih
    (refine Ev.up ?_; simp only [bT.l0, qd])
    rw [List.length_mapIdx, hrd, eT (by omega)]
    (repeat (first | with_reducible refine Ev.dw ?_ | (with_reducible refine Ev.kU ?_ ?_; (· exact bS)) | (with_reducible refine Ev.lF ?_ ?_; (· exact bS))))
    refine Ev.bind q0 ?_
    (repeat (first | with_reducible refine Ev.dw ?_ | (with_reducible refine Ev.kU ?_ ?_; (· exact bS)) | (with_reducible refine Ev.lF ?_ ?_; (· exact bS))))
    refine Ev.bind q1 ?_
    (repeat (first | with_reducible refine Ev.dw ?_ | (with_reducible refine Ev.kU ?_ ?_; (· exact bS)) | (with_reducible refine Ev.lF ?_ ?_; (· exact bS))))
    refine Ev.bind q2 ?_
    (repeat (first | with_reducible refine Ev.dw ?_ | (with_reducible refine Ev.kU ?_ ?_; (· exact bS)) | (with_reducible refine Ev.lF ?_ ?_; (· exact bS))))
    exact ih
  have h := key _ 0 rfl (by omega)
  rw [show (1 : Int) + ((tot (P.take 0) : Nat) : Int) = 1 by simp [tot]] at h
  simp only [iG.f]
  refine Ev.bind (a := 1 + ((tot P : Nat) : Int)) (by simp only [bT.f]; exact h) ?_
  (repeat (first | with_reducible refine Ev.dw ?_ | (with_reducible refine Ev.kU ?_ ?_; (· exact bS)) | (with_reducible refine Ev.lF ?_ ?_; (· exact bS))))
  exact Ev.val rfl
mutual
theorem EC : ∀ (t : PT) (a : Nat), mG t -> ∀ p ∈ mh t a, p.f0.length <= 4 /\ p.f1.length <= 4 /\ p.f2.length <= 5
 | .mk ks vs cs, a, hb, p, hp => by
  obtain ⟨⟨h1, h2, h3⟩, h4⟩ := cz.1 hb
  rw [mh] at hp
  rcases List.mem_cons.1 hp with rfl | hp
  ·have h1 : vs.length = ks.length := h1
   have h2 : ks.length <= 4 := h2
   have h3 : cs.length = 0 ∨ cs.length = ks.length + 1 := h3
   exact ⟨h2, by show vs.length <= 4; omega, by show (starts cs (a + 1)).length <= 5; rw [uY]; omega⟩
  ·exact Cu cs (a + 1) h4 p hp
theorem Cu : ∀ (l : List PT) (a : Nat), (∀ s ∈ l, mG s) -> ∀ p ∈ rP l a, p.f0.length <= 4 /\ p.f1.length <= 4 /\ p.f2.length <= 5
 | [], _, _, p, hp => by cases hp
 | c :: cs, a, hb, p, hp => by
  rw [rP] at hp
  rcases List.mem_append.1 hp with hp | hp
  ·exact EC c a (hb c List.mem_cons_self) p hp
  ·exact Cu cs (a + c.big) (fun s hs => hb s (List.mem_cons_of_mem _ hs)) p hp
end
theorem Ir : ∀ P : List bE, (∀ p ∈ P, p.f0.length <= 4 /\ p.f1.length <= 4 /\ p.f2.length <= 5) -> tot P <= 13 * P.length
 | [], _ => by simp [tot]
 | p :: P, h => by
  have h1 := Ir P fun q hq => h q (List.mem_cons_of_mem _ hq)
  have h2 := h p List.mem_cons_self
  unfold tot EB at *
  rw [List.map_cons, List.sum_cons, List.length_cons]
  omega
theorem Wh (r : List bE) (hl : r.length <= 1000) (hs : ∀ p ∈ r, p.f0.length <= 4 /\ p.f1.length <= 4 /\ p.f2.length <= 5) :
  Ev (fun k => gB.f k r r) true /\ ∃ (m : Int) (u : List bE), 0 <= m /\ Ev (fun k => bJ.f k r 1) (m, u) /\ Ev (fun k => iG.f k u 1) m := by
 have ht := Ir r hs
 refine ⟨Hu r (by omega) (fun p hp => by have := hs p hp; unfold XR; omega), ?_⟩
 obtain ⟨u, h1, h2⟩ := Gb r (by omega) (by omega)
 exact ⟨_, u, by omega, h1, h2⟩
theorem Wi {t : PT} (h : Qq t) (hl : (bD t).length <= 41) : (mh t 0).length <= 1000 /\ ∀ p ∈ mh t 0, p.f0.length <= 4 /\ p.f1.length <= 4 /\ p.f2.length <= 5 := by
 refine ⟨?_, EC t 0 h.bnd⟩
 rw [Lu]
 have := h.small
 omega
open Go.Proofs.Ytoddejmlcnbdmaa.Fn Go.Proofs.Ytoddejmlcnbdmaa.Tree
set_option linter.unusedSimpArgs false
set_option linter.unusedVariables false
theorem Wj (P : List bE) (a : ByteArray) (h : tu P = true) : jZ.f P a = some ((zH (FQ P) a).1, (zH (FQ P) a).2) := by
 unfold jZ.f
 rw [if_pos h]
theorem Wl (P : List bE) (a : ByteArray) (h : tu P = true) (hP : P.length <= 1048576) : Ev (fun k => je.f k P a) ((zH (FQ P) a).1, (zH (FQ P) a).2) := by
 simp only [je.f, if_pos h]
 refine Ev.bind (Qp P hP) ?_
 cases ho : FQ P with
 | none => exact Ev.val rfl
 | some t =>
  obtain ⟨h1, _⟩ := xx hP ho
  obtain ⟨K, hK⟩ := NI t.big t a (Nat.le_refl _) (bZ h1.bnd) ((nM (bZ h1.bnd)).2 h1.NM)
  exact Ev.bind (a := CO t.big t a) ⟨max K t.big, fun k hk => hK k (by omega) k (by omega)⟩ (Ev.val rfl)
theorem TL (P : List bE) (a : ByteArray) (hP : P.length <= 1048576) : (zH (FQ P) a).1.length <= 1000 /\ ∀ p ∈ (zH (FQ P) a).1, p.f0.length <= 4 /\ p.f1.length <= 4 /\ p.f2.length <= 5 := by
 have hn : ([] : List bE).length <= 1000 /\ ∀ p ∈ ([] : List bE), p.f0.length <= 4 /\ p.f1.length <= 4 /\ p.f2.length <= 5 := ⟨by simp, fun p hp => by cases hp⟩
 cases ho : FQ P with
 | none => exact hn
 | some t =>
  obtain ⟨h1, h2⟩ := xx hP ho
  unfold zH
  simp only
  split
  ·rename_i hh
   obtain ⟨r, e, q1, q2⟩ := zw h1 (zF.1 hh)
   rw [e]
   simp only
   refine Wi q1 ?_
   rw [q2]
   have := BM (key := a) (l := bD t)
   omega
  ·exact hn
theorem FnExactDropKey : ∀ (l : List (mJ)) (a : ByteArray), (l.length <= maxLen /\ ∀ y4 ∈ l, ((y4.f0.length <= maxLen /\ ∀ y5 ∈ y4.f0, y5.size <= maxLen) /\ (y4.f1.length <= maxLen /\ ∀ y6 ∈ y4.f1, y6.size <= maxLen) /\ (y4.f2.length <= maxLen /\ ∀ y7 ∈ y4.f2, (Lit.int .i64 y7).wf = true))) -> a.size <= 140737488351232 -> ∃ k, iq.X5 k l a := by
 intro l a h _
 by_cases ha : 1048576 < (a.size : Int)
 ·exact ⟨0, .inl ha⟩
 obtain ⟨r, ⟨Kr, hr⟩, hb⟩ := Ob l h.1 fun p hp => ⟨(h.2 p hp).1, (h.2 p hp).2.1, (h.2 p hp).2.2.1⟩
 by_cases c : r < 0
 ·exact ⟨Kr, .inr ⟨by omega, r, hr Kr (Nat.le_refl _), .inl c⟩⟩
 obtain ⟨hl, ht, hs⟩ := hb (by omega)
 obtain ⟨hok, hlen, ⟨K1, hto⟩, ⟨K5, heq⟩⟩ := Tw l hl hs
 obtain ⟨u, ⟨K6, h6⟩⟩ := JF (l.map F6) hlen ht
 have htr : tu (l.map F6) = true := by unfold tu; rw [hok]; simpa using hlen
 obtain ⟨K3, h3⟩ := Wl (l.map F6) a htr hlen
 have e2 := Wj (l.map F6) a htr
 obtain ⟨q1, q2⟩ := TL (l.map F6) a hlen
 obtain ⟨⟨K4, h4⟩, m, z, hm0, ⟨K7, h7⟩, ⟨K8, h8⟩⟩ := Wh _ q1 q2
 refine ⟨Kr + K1 + K3 + K4 + K5 + K6 + K7 + K8, .inr ⟨by omega, r, hr _ (by omega), .inr ⟨by omega, l.map F6, _, _, _, u, m, z, hto _ (by omega), e2, h3 _ (by omega), h4 _ (by omega), heq _ (by omega), h6 _ (by omega), h7 _ (by omega), h8 _ (by omega), by omega, hm0⟩⟩⟩
end Go.Proofs.Ytoddejmlcnbdmaa.Pure
namespace Go.Proofs.Ytoddejmlcnbdmaa.TM
open Go.Deep Go.ChangeShapes Go.Joins Go.Proofs.YtoddejmlcnbdmaaW
def Op (P : Program) (t : TypeId) {α : Type} (d : Kd α) (Wf : α -> Prop) : Prop :=
 ∀ {H : Type} {enc : TypeId × Value -> H} {w : World} {base : Nat} {spare : Nat -> Bool} {held : Bool} {fuel : Nat} {cs : List Value} {x : DataW H × List MemPlace},
  DataW.trod enc P w base spare held fuel t cs = some x -> ∃ a : α, d.K w a cs /\ Wf a
variable {P : Program} {t e : TypeId}
theorem X6 {k : IntKind} (hu : P.underlying t = some (.int k)) : Op P t (Kd.int k) (fun n => (Lit.int k n).wf = true) := by
 intro H enc w base spare held fuel cs x h
 obtain ⟨n, rfl, _, hw⟩ := DataW.trod_int hu h
 exact ⟨n, rfl, hw⟩
theorem Iu (hu : P.underlying t = some .string) : Op P t Kd.string (fun s => s.size <= maxLen) := by
 intro H enc w base spare held fuel cs x h
 obtain ⟨s, rfl, _, hs⟩ := DataW.trod_string hu h
 exact ⟨s, rfl, hs⟩
theorem TN {w : World} {base : Nat} {a : Addr} {n : Nat} {cs : List Value} (h : w.cells? base a n = some cs) : cs.length = n /\ ∀ j u, cs[j]? = some u -> w.cell? (a.add j) = some u := by
 unfold World.cells? at h
 split at h
 ·have hl := mapM_some_length h
  refine ⟨by simpa using hl, fun j u hj => ?_⟩
  have hlt : j < n := by
   have := (List.getElem?_eq_some_iff.1 hj).1
   have : cs.length = n := by simpa using hl
   omega
  have := mapM_some_get h j j (by simp [hlt])
  rw [hj] at this
  exact this
 ·simp at h
theorem zI {α : Type} {d : Kd α} {Wf : α -> Prop} (hu : P.underlying t = some (.slice e)) (hc : P.cellsOf e = d.sz) (h : Op P e d Wf) :
  Op P t (Kd.slice e d) (fun xs => xs.length <= maxLen /\ ∀ x ∈ xs, Wf x) := by
 intro H enc w base spare held fuel cs x hf
 rcases open_slice hu hf with ⟨rfl, _⟩ | ⟨a, len, cap, m, n, D, Pl, rfl, _, hl, hm, hmm, hxe, hall⟩
 ·exact ⟨[], ⟨none, 0, rfl, Nat.le_refl _, rfl, by simp, fun h => absurd h (by simp)⟩, by simp, by simp⟩
 ·have hlm : len <= m := by rw [hmm]; split <;> omega
  have hx : ∀ i, i < len -> ∃ y : α × List Value, w.cells? base (a.add (i * P.cellsOf e)) (P.cellsOf e) = some y.2 /\ d.K w y.1 y.2 /\ Wf y.1 := by
   intro i hi
   obtain ⟨cs', h1, h2⟩ := hall i (by omega)
   obtain ⟨y, h3, h4⟩ := h h2
   exact ⟨⟨y, cs'⟩, h1, h3, h4⟩
  have hx' : ∃ ys : List (α × List Value), ys.length = len /\ ∀ i y, ys[i]? = some y -> w.cells? base (a.add (i * P.cellsOf e)) (P.cellsOf e) = some y.2 /\ d.K w y.1 y.2 /\ Wf y.1 := by
   clear hall hf hmm hlm hl hm hxe
   induction len with
   | zero => exact ⟨[], rfl, by simp⟩
   | succ len ih =>
    obtain ⟨ys, h1, h2⟩ := ih (fun i hi => hx i (by omega))
    obtain ⟨y, hy⟩ := hx len (by omega)
    refine ⟨ys ++ [y], by simp [h1], fun i z hz => ?_⟩
    rcases Nat.lt_or_ge i ys.length with hi | hi
    ·rw [List.getElem?_append_left hi] at hz
     exact h2 i z hz
    ·rw [List.getElem?_append_right hi] at hz
     have h0 : i - ys.length = 0 := by
      rcases Nat.eq_zero_or_pos (i - ys.length) with h0 | h0
      ·exact h0
      ·rw [List.getElem?_eq_none (by simp; omega)] at hz
       cases hz
     rw [h0] at hz
     have hz' : y = z := by simpa using hz
     have : i = len := by omega
     subst this
     subst hz'
     exact hy
  obtain ⟨ys, hl2, hys⟩ := hx'
  have hlen : (ys.map (·.1)).length = len := by simp [hl2]
  refine ⟨ys.map (·.1), ⟨some a, cap, by rw [hlen], by omega, ?_⟩, by simp only [maxLen] at *; omega, ?_⟩
  ·refine ⟨rfl, by rw [hlen]; simp only [maxLen] at hm; omega, fun _ => ⟨a, rfl, fun j p hj => ?_⟩⟩
   rw [List.getElem?_map] at hj
   obtain ⟨y, hy, rfl⟩ := Option.map_eq_some_iff.1 hj
   obtain ⟨h1, h2, _⟩ := hys j y hy
   obtain ⟨h3, h4⟩ := TN h1
   refine ⟨y.2, by rw [h3, hc], h2, fun i u hu => ?_⟩
   have := h4 i u hu
   rw [PrintWords.add_add, hc] at this
   exact this
  ·intro x hx
   obtain ⟨y, hy, rfl⟩ := List.mem_map.1 hx
   obtain ⟨i, hi⟩ := List.mem_iff_getElem?.1 hy
   exact (hys i y hi).2.2
theorem aam {l : List Value} (h : l.length = 1) : ∃ a, l = [a] := by
 match l, h with
 | [a], _ => exact ⟨a, rfl⟩
theorem ab1 {l : List Value} (h : l.length = 2) : ∃ a b, l = [a, b] := by
 match l, h with
 | [a, b], _ => exact ⟨a, b, rfl⟩
theorem ab3 {l : List Value} (h : l.length = 3) : ∃ a b c, l = [a, b, c] := by
 match l, h with
 | [a, b, c], _ => exact ⟨a, b, c, rfl⟩
theorem fields_of {H : Type} {enc : TypeId × Value -> H} {w : World} {base : Nat} {spare : Nat -> Bool} {held : Bool} {fuel : Nat} {cs : List Value} {x : DataW H × List MemPlace} {fs : Array Field}
  (hs : P.underlying t = some (.struct fs)) (hone : oneCellFields P fs = true) (hC : P.cellsOf t = fs.size) (h : DataW.trod enc P w base spare held fuel t cs = some x) :
  cs.length = fs.size /\ ∃ n, ∀ (i : Nat) (f : Field) (v : Value), fs[i]? = some f -> cs[i]? = some v -> ∃ y, DataW.trod enc P w base spare held n f.type [v] = some y := by
 obtain ⟨xs, n, _, _, hl, hx, hf⟩ := DataW.trod_struct hs h
 refine ⟨hl.trans hC, n, fun i f v hi hv => ?_⟩
 have h1 := hf i f hi
 obtain ⟨h2, h3⟩ := hone_of hone i f hi
 have hlt : i < fs.size := (Array.getElem?_eq_some_iff.1 hi).1
 have h4 : xs[i]? = some (xs[i]'(by omega)) := List.getElem?_eq_getElem (by omega)
 have h5 : (cs.drop f.offset).take (P.cellsOf f.type) = [v] := by
  rw [h2, h3]
  have hlt2 : i < cs.length := by omega
  rw [List.getElem?_eq_getElem hlt2] at hv
  injection hv with hv
  rw [List.drop_eq_getElem_cons hlt2, hv]
  simp
 rw [h5, h4] at h1
 exact ⟨_, h1⟩
theorem Oc {α β γ S : Type} {d0 : Kd α} {d1 : Kd β} {d2 : Kd γ} {W0 : α -> Prop} {W1 : β -> Prop} {W2 : γ -> Prop} {f0 f1 f2 : Field} {f : S -> α × β × γ} (mk : α -> β -> γ -> S) (hf : ∀ a b c, f (mk a b c) = (a, b, c))
  (hs : P.underlying t = some (.struct #[f0, f1, f2])) (hone : oneCellFields P #[f0, f1, f2] = true) (hC : P.cellsOf t = 3) (h0 : Op P f0.type d0 W0) (h1 : Op P f1.type d1 W1) (h2 : Op P f2.type d2 W2) :
  Op P t (Kd.iso (Kd.pair d0 (Kd.pair d1 d2)) f) (fun x => W0 (f x).1 /\ W1 (f x).2.1 /\ W2 (f x).2.2) := by
 intro H enc w base spare held fuel cs x h
 obtain ⟨hl, n, hF⟩ := fields_of hs hone hC h
 obtain ⟨c0, c1, c2, rfl⟩ := ab3 hl
 obtain ⟨y0, k0⟩ := hF 0 f0 c0 rfl rfl
 obtain ⟨y1, k1⟩ := hF 1 f1 c1 rfl rfl
 obtain ⟨y2, k2⟩ := hF 2 f2 c2 rfl rfl
 obtain ⟨a0, q0, w0⟩ := h0 k0
 obtain ⟨a1, q1, w1⟩ := h1 k1
 obtain ⟨a2, q2, w2⟩ := h2 k2
 exact ⟨mk a0 a1 a2, ⟨[c0], [c1, c2], rfl, by rw [hf]; exact q0, [c1], [c2], rfl, by rw [hf]; exact q1, by rw [hf]; exact q2⟩, by dsimp only; rw [hf]; exact ⟨w0, w1, w2⟩⟩
theorem X7 {cs : Array Value} {l : List Value} (h : cs.toList = l) : cs = l.toArray := by
 cases cs
 simp at h
 simp [h]
end Go.Proofs.Ytoddejmlcnbdmaa.TM
namespace Go.Proofs.Ytoddejmlcnbdmaa.fnExactDropKey
open Go.ChangeShapes Go.WideShapes Go.ChangeAt Go.Proofs.Ytoddejmlcnbdmaa.Fn Go.Proofs.Ytoddejmlcnbdmaa.TM
open Go.ChangeMaps (open_string shut_string)
set_option linter.unusedVariables false
theorem own : ownKnob Try.prog.godebug = none := by kernel_rfl
theorem laidOut : laidOutB Try.prog = true := by kernel_rfl
theorem aaz : TM.Op Try.prog 115 KN (fun x => ((x.f0.length <= maxLen /\ ∀ y24 ∈ x.f0, y24.size <= maxLen) /\ (x.f1.length <= maxLen /\ ∀ y25 ∈ x.f1, y25.size <= maxLen) /\ (x.f2.length <= maxLen /\ ∀ y26 ∈ x.f2, (Lit.int .i64 y26).wf = true))) := Oc (f := fun x : mJ => (x.f0, x.f1, x.f2)) mJ.mk (fun _ _ _ => rfl) Try.underlying115 (by kernel_rfl) (by kernel_rfl) (zI Try.underlying38 (by kernel_rfl) (Iu Try.underlying9)) (zI Try.underlying38 (by kernel_rfl) (Iu Try.underlying9)) (zI Try.underlying108 (by kernel_rfl) (X6 Try.underlying3))
theorem lifted (os : Os) (started : os.Started) (H : Type) (enc : TypeId × Value -> H) :
    ReturnsInHanded {} Try.checked os 11 .any (Rows.fnExactDropKeySpec.pre6 enc Try.prog Try.f11 Rows.fnExactDropKeyRow.domain false) (Rows.fnExactDropKeySpec.post enc Try.prog Try.f11 false true false false) := by
  refine returnsInHanded_of_change_sized (C := Try.checked) own started (by kernel_rfl) Try.func11
    (ChangeSpec.witness6 (enc := enc) (C := Try.checked) false ⟨#[], #[.agg #[.slice none 0 0], .string ByteArray.empty], []⟩ 8 (by kernel_rfl) (by kernel_rfl) (by kernel_rfl) (by kernel_rfl)) ?_
  intro W base args ds gs before hval0 hW hcnd hsz0 _
  have hsz : (DataW.weightsEach Try.prog (Try.f11.params.toList ++ Rows.fnExactDropKeySpec.plain.varTypes Try.prog) (ds ++ gs)).all (· <= reachBytes) = true := hsz0
  have hval : ∀ (j : Nat) t v, Try.f11.params[j]? = some t -> args[j]? = some v -> Value.okWide Try.prog W .any base t v := hval0
  have hW' := hW
  obtain ⟨p, q, hA0, hV, rfl, hfz, hnd⟩ := hW
  have hA : DataW.TrodAll enc Try.prog W 0 (fun _ => true) true Try.f11.params.toList args.toList ds p := hA0
  rw [Try.params11] at hA hval hsz
  obtain ⟨v0, vs0, d0, ds0, p0, q0, hargs, rfl, rfl, h0, r0⟩ := trodAll_cons hA
  obtain ⟨v1, vs1, d1, ds1, p1, q1, rfl, rfl, rfl, h1, r1⟩ := trodAll_cons r0
  obtain ⟨rfl, rfl, rfl⟩ := trodAll_nil r1
  obtain rfl : args = #[v0, v1] := by cases args; simp_all
  obtain ⟨rfl, rfl⟩ := trodVars_none hV
  obtain ⟨cs0, rfl, hz0⟩ := okWide_struct Try.underlying24 (hval 0 24 v0 rfl rfl)
  have k0 := h0
  have lt0 : ∀ x ∈ p0, x.block < W.heap.size := by obtain ⟨m, hm⟩ := k0; exact DataW.trod_lt m _ _ _ hm
  obtain ⟨fuel0, hf0⟩ := h0
  obtain ⟨hl0, n0, hF0⟩ := fields_of Try.underlying24 (by kernel_rfl) (by kernel_rfl) hf0
  obtain ⟨bQ, e0⟩ := aam hl0
  have e0' := X7 (cs := cs0) (by simpa [Value.cells] using e0)
  obtain ⟨y0_0, k0_0⟩ := hF0 0 _ bQ rfl (by rw [e0]; rfl)
  obtain ⟨a0_0, q0_0, w0_0⟩ := (zI Try.underlying22 (by kernel_rfl) aaz) k0_0
  obtain ⟨bR, b0_0, g0_0, jQ, jB⟩ := q0_0
  obtain rfl := (List.cons.inj g0_0).1
  clear hF0
  subst e0'
  obtain ⟨a1, rfl, rfl, rfl, y1⟩ := open_string Try.underlying9 (hval 1 9 v1 rfl rfl) h1
  have w1 : a1.size <= 140737488351232 := by
    have z := sized_string hsz (j := 1) (t := 9) rfl rfl
    rw [Array.length_toList] at z
    exact z
  clear hA0 hval0 hsz0 hsz
  obtain ⟨k, h⟩ := Pure.FnExactDropKey a0_0 a1 w0_0 w1
  refine (iq.calls k _ _ a0_0 a1 true W jB jQ h rfl).mono fun e W' ⟨he, bel0⟩ => ?_
  have bel : Below W.heap.size W W' := bel0
  subst he
  exact ⟨_, rfl, _, _, _, [], _, [], hW', trodAll_mk1 (shut_bool Try.underlying4 _), (trodAll_cons_mk (Below.trod laidOut (by kernel_rfl) (of_decide_eq_true (by kernel_rfl)) k0 bel lt0) (trodAll_cons_mk (shut_string Try.underlying9 y1) trodAll_mk0)), rfl, bel.frame _, fun h => by cases h⟩
theorem over : Rows.fnExactDropKeyRow.holds Try.pinned (OpenSpec.ofChange Rows.fnExactDropKeySpec) :=
  OpenClaim.holds_of_wide 11 Try.f11 rfl rfl rfl rfl rfl rfl rfl ⟨rfl, rfl, rfl, rfl, rfl⟩ rfl rfl rfl rfl rfl (by kernel_rfl) Try.func11 (by kernel_rfl)
    (of_decide_eq_true (by kernel_rfl)) (by unfold Func.isWrapper; first | (rw [if_pos (by decide +kernel)]; kernel_rfl) | (rw [if_neg (by decide +kernel)]; exact ⟨rfl, rfl⟩))
    (fun os started H enc _ => lifted os started H enc)
theorem proved : Rows.FnExactDropKeySaid := over
#print axioms proved
end Go.Proofs.Ytoddejmlcnbdmaa.fnExactDropKey
namespace Go.Proofs.Ytoddejmlcnbdmaa
/-- The row, under a short name, for the claim. -/
theorem fnExactDropKey_holds : Rows.FnExactDropKeySaid := fnExactDropKey.proved
end Go.Proofs.Ytoddejmlcnbdmaa

