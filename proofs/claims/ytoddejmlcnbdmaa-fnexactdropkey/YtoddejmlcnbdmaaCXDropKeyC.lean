/- The law FnExactDropKey holds of the given program: at every input it answers true and leaves its arguments as they were; no condition. This text: part 3 of what its proof reaches. -/
import Derived.Deep.QuietTactic
import Derived.BigQuiet
import Derived.Test.YtoddejmlcnbdmaaCXDropKeyA
import Derived.Test.YtoddejmlcnbdmaaCXDropKeyB
set_option maxHeartbeats 8000000
set_option maxRecDepth 100000
set_option linter.unusedSimpArgs false
set_option linter.unusedVariables false
open Go.Proofs.Ytoddejmlcnbdmaa.Fn Go.Proofs.Ytoddejmlcnbdmaa.Tree
open Go.Proofs.Ytoddejmlcnbdmaa.Fn Go.Proofs.Ytoddejmlcnbdmaa.Tree
open Go.Proofs.Ytoddejmlcnbdmaa.Fn
open Go.RowKit Go.Proofs.YtoddejmlcnbdmaaW.PrintWords Go.Proofs.YtoddejmlcnbdmaaW.PrintLast Go.Proofs.YtoddejmlcnbdmaaW.PrintMore Go.Proofs.Ytoddejmlcnbdmaa.Gen
namespace Go.Proofs.Ytoddejmlcnbdmaa.Pure
theorem La : ∀ (x y : List UInt8), Op.bytesLess x y = decide (x < y)
 | [], [] => by simp [Op.bytesLess]
 | _ :: _, [] => by simp [Op.bytesLess]
 | [], _ :: _ => by simp [Op.bytesLess]
 | a :: x, b :: y => by
  rw [Op.bytesLess, La x y]
  simp only [List.cons_lt_cons_iff]
  by_cases h1 : a < b <;> by_cases h2 : a = b <;> by_cases h3 : x < y <;> simp [h1, h2, h3]
def ui (a b : ByteArray) : Prop := a.toList < b.toList
theorem mH (a b : ByteArray) : Cq a b = true ↔ ui a b := by
 unfold Cq ui
 rw [La, decide_eq_true_eq]
theorem lt_trans {a b c : ByteArray} (h : ui a b) (k : ui b c) : ui a c := List.lt_trans h k
theorem lt_irrefl (a : ByteArray) : ¬ ui a a := List.lt_irrefl _
theorem lt_asymm {a b : ByteArray} (h : ui a b) : ¬ ui b a := fun k => lt_irrefl a (lt_trans h k)
abbrev Jj (K : List ByteArray) : Prop := K.Pairwise ui
theorem Lb : ∀ (K : List ByteArray) (prev : Option ByteArray), vH K prev = true -> Jj K /\ ∀ p, prev = some p -> ∀ k ∈ K, ui p k
 | [], prev, _ => ⟨.nil, fun _ _ k hk => by cases hk⟩
 | k :: ks, prev, h => by
  rw [vH, Bool.and_eq_true, Bool.and_eq_true] at h
  obtain ⟨h1, h2, h3⟩ := h
  obtain ⟨i1, i2⟩ := Lb ks (some k) h3
  refine ⟨List.pairwise_cons.2 ⟨fun x hx => i2 k rfl x hx, i1⟩, ?_⟩
  rintro p rfl x hx
  have hp : ui p k := (mH _ _).1 h2
  rcases List.mem_cons.1 hx with rfl | hx
  ·exact hp
  ·exact lt_trans hp (i2 k rfl x hx)
theorem NH (key : ByteArray) : ∀ (K : List ByteArray) (i : Nat) (x : ByteArray), i < dV key K -> K[i]? = some x -> Cq x key = true
 | [], i, x, h, _ => by rw [dV] at h; omega
 | k :: ks, i, x, h, hx => by
  rw [dV] at h
  split at h
  ·rename_i hk
   cases i with
   | zero =>
    obtain rfl := Option.some.inj hx
    exact hk
   | succ i => exact NH key ks i x (by omega) (by simpa using hx)
  ·omega
theorem Jk (key : ByteArray) : ∀ (K : List ByteArray), Jj K -> ∀ (i : Nat) (x : ByteArray), dV key K <= i -> K[i]? = some x -> Cq x key = false
 | [], _, i, x, _, hx => by simp at hx
 | k :: ks, hs, i, x, h, hx => by
  obtain ⟨h1, h2⟩ := List.pairwise_cons.1 hs
  rw [dV] at h
  split at h
  ·cases i with
   | zero => omega
   | succ i => exact Jk key ks h2 i x (by omega) (by simpa using hx)
  ·rename_i hk
   cases hlt : Cq x key with
   | false => rfl
   | true =>
    cases i with
    | zero =>
     obtain rfl := Option.some.inj hx
     exact absurd hlt hk
    | succ i =>
     have hx' : x ∈ ks := List.mem_of_getElem? (i := i) (by simpa using hx)
     exact absurd ((mH _ _).2 (lt_trans (h1 x hx') ((mH _ _).1 hlt))) hk
theorem Tc (a b : ByteArray) : cmp_Less_string.f a b = some (Cq a b) := by
 simp [cmp_Less_string.f, cmp_isNaN_string.f, Cq]
theorem aal (a : ByteArray) : slices_isNaN_string.f a = some false := by simp [slices_isNaN_string.f]
theorem XK (i j : Nat) (h1 : i < j) (h2 : j <= 1048576000) : wrap64 ((IntKind.u64.wrap (wrap64 ((i : Int) + (j : Int)))) / 2) = (((i + j) / 2 : Nat) : Int) := by
 rw [jD (n := (i : Int) + j) (by omega) (by omega)]
 have e : IntKind.u64.wrap ((i : Int) + j) = (i : Int) + j := by
  simp only [IntKind.wrap, IntKind.bits, IntKind.signed]
  simp
  omega
 rw [e, jD (by omega) (by omega)]
 omega
theorem Q9 (K : List ByteArray) (key : ByteArray) (hK : K.length <= 1048576000) (hs : Jj K) : ∃ b, Ev (fun k => ag.f k K key) ((dV key K : Int), b) := by
 have hle := nJ key K
 have key2 : ∀ (d i j : Nat), j - i <= d -> i <= dV key K -> dV key K <= j -> j <= K.length -> ∃ b, Ev (fun k => ag.l0 k K key (K.length : Int) (i : Int) (j : Int)) ((dV key K : Int), b) := by
  intro d
  induction d with
  | zero =>
   intro i j h1 h2 h3 h4
   have hi : i = dV key K := by omega
   have hj : j = i := by omega
   subst hj
   by_cases hlt : j < K.length
   ·have hx : K[j]? = some K[j] := List.getElem?_eq_getElem hlt
    by_cases he : K[j].toList = key.toList
    ·refine ⟨true, ?_⟩
     (refine Ev.up ?_; simp only [ag.l0, qd])
     simp only [iB hx]
     (repeat (first | with_reducible refine Ev.dw ?_ | (with_reducible refine Ev.kU ?_ ?_; (· exact bS)) | (with_reducible refine Ev.lF ?_ ?_; (· exact bS))))
     exact Ev.val (by rw [hi])
    ·refine ⟨false, ?_⟩
     (refine Ev.up ?_; simp only [ag.l0, qd])
     simp only [iB hx, aal, Option.bind_some]
     (repeat (first | with_reducible refine Ev.dw ?_ | (with_reducible refine Ev.kU ?_ ?_; (· exact bS)) | (with_reducible refine Ev.lF ?_ ?_; (· exact bS))))
     exact Ev.val (by rw [hi])
   ·refine ⟨false, ?_⟩
    (refine Ev.up ?_; simp only [ag.l0, qd])
    (repeat (first | with_reducible refine Ev.dw ?_ | (with_reducible refine Ev.kU ?_ ?_; (· exact bS)) | (with_reducible refine Ev.lF ?_ ?_; (· exact bS))))
    exact Ev.val (by rw [hi])
  | succ d ih =>
   intro i j h1 h2 h3 h4
   by_cases hij : i < j
   ·have hm := XK i j hij (by omega)
    obtain ⟨m, hm2⟩ : ∃ m, m = (i + j) / 2 := ⟨_, rfl⟩
    rw [<- hm2] at hm
    have hlt : m < K.length := by omega
    have hx : K[m]? = some K[m] := List.getElem?_eq_getElem hlt
    cases hb : Cq K[m] key with
    | true =>
     have hge : m < dV key K := by
      rcases Nat.lt_or_ge m (dV key K) with h | h
      ·exact h
      ·have := Jk key K hs m _ h hx
       rw [hb] at this
       cases this
     obtain ⟨b, h⟩ := ih (m + 1) j (by omega) (by omega) h3 h4
     refine ⟨b, ?_⟩
     (refine Ev.up ?_; simp only [ag.l0, qd])
     simp only [hm, iB hx, Tc, hb, Option.bind_some, eT (i := m) (by omega)]
     (repeat (first | with_reducible refine Ev.dw ?_ | (with_reducible refine Ev.kU ?_ ?_; (· exact bS)) | (with_reducible refine Ev.lF ?_ ?_; (· exact bS))))
     exact h
    | false =>
     have hge : dV key K <= m := by
      rcases Nat.lt_or_ge m (dV key K) with h | h
      ·have := NH key K m _ h hx
       rw [hb] at this
       cases this
      ·exact h
     obtain ⟨b, h⟩ := ih i m (by omega) h2 hge (by omega)
     refine ⟨b, ?_⟩
     (refine Ev.up ?_; simp only [ag.l0, qd])
     simp only [hm, iB hx, Tc, hb, Option.bind_some]
     (repeat (first | with_reducible refine Ev.dw ?_ | (with_reducible refine Ev.kU ?_ ?_; (· exact bS)) | (with_reducible refine Ev.lF ?_ ?_; (· exact bS))))
     exact h
   ·exact ih i j (by omega) h2 h3 h4
 exact key2 K.length 0 K.length (by omega) (by omega) hle (Nat.le_refl _)
theorem Lc (K : List ByteArray) (key : ByteArray) (hK : K.length <= 1048576000) (hs : Jj K) : Ev (fun k => fH.f k K key) (dV key K : Int) := by
 obtain ⟨b, h⟩ := Q9 K key hK hs
 simp only [fH.f]
 exact Ev.bind h (Ev.val rfl)
theorem Jl (K : List ByteArray) (i : Nat) (key : ByteArray) : gZ.f K (i : Int) key = some (jI K i key) := by
 unfold gZ.f jI
 rcases Nat.lt_or_ge i K.length with h | h
 ·have hx : K[i]? = some K[i] := List.getElem?_eq_getElem h
  rw [if_pos (by omega), if_pos (by omega), iB hx, hx]
 ·rw [if_neg (by omega), List.getElem?_eq_none h]
theorem D6 {α : Type} : ∀ (cs : List (List α)) (ks : List α), ks.Sublist (bX cs ks)
 | [], ks => List.Sublist.refl _
 | c :: cs, [] => List.nil_sublist _
 | c :: cs, k :: ks => by
  rw [bX]
  exact ((D6 cs ks).cons_cons k).trans (List.sublist_append_right _ _)
theorem G5 {α : Type} : ∀ (cs : List (List α)) (ks : List α), cs.length <= ks.length + 1 -> ∀ c ∈ cs, c.Sublist (bX cs ks)
 | [], ks, _, c, hc => by cases hc
 | [d], [], _, c, hc => by rw [List.mem_singleton.1 hc]; exact List.Sublist.refl _
 | d :: e :: cs, [], h, c, hc => by simp at h
 | d :: cs, k :: ks, h, c, hc => by
  rw [bX]
  rcases List.mem_cons.1 hc with rfl | hc
  ·exact List.sublist_append_left _ _
  ·exact ((G5 cs ks (by simpa using h) c hc).trans (List.sublist_cons_self _ _)).trans (List.sublist_append_right _ _)
theorem rE {t : PT} (h : Jj (bY t)) : Jj t.keys := by
 rw [qD] at h
 exact h.sublist (D6 _ _)
theorem VP {t s : PT} {i : Nat} (hs : qB t) (h : Jj (bY t)) (hi : t.kids[i]? = some s) : Jj (bY s) := by
 rw [qD] at h
 have h1 := hs.one
 unfold xZ at h1
 refine h.sublist (G5 _ _ (by rw [List.length_map]; omega) _ ?_)
 exact List.mem_map_of_mem (List.mem_of_getElem? hi)
theorem NI : ∀ (n : Nat) (t : PT) (key : ByteArray), t.big <= n -> qB t -> Jj (bY t) -> ∃ K, ∀ k, K <= k -> ∀ m, n <= m -> yf k m t key = some (CO n t key)
 | 0, t, key, hb, _, _ => absurd t.fZ (by omega)
 | n + 1, t, key, hb, hs, hsrt => by
  have h1 := hs.one
  unfold xZ at h1
  obtain ⟨K1, g1⟩ := Lc t.keys key (by omega) (rE hsrt)
  have hle := nJ key t.keys
  by_cases h0 : t.kids.length = 0
  ·refine ⟨K1, fun k hk m hm => ?_⟩
   obtain ⟨m, rfl⟩ : ∃ j, m = j + 1 := ⟨m - 1, by omega⟩
   have e1 := g1 k hk
   dsimp only at e1
   rw [yf, e1, Option.bind_some, Jl, Option.bind_some, CO]
   cases hh : jI t.keys (dV key t.keys) key with
   | true =>
    have := lJ hh
    rw [if_pos rfl, if_pos rfl, if_pos (by omega)]
   | false => rw [if_neg (show ¬ (false = true) by decide), if_neg (show ¬ (false = true) by decide), if_pos h0, if_pos h0]
  ·have hkl : t.kids.length = t.keys.length + 1 := h1.2.2.resolve_left h0
   have hlt : dV key t.keys < t.kids.length := by omega
   have hx : t.kids[dV key t.keys]? = some t.kids[dV key t.keys] := List.getElem?_eq_getElem hlt
   have hkb := PT.gK hx
   obtain ⟨K2, g2⟩ := NI n _ key (by omega) (hs.kid hx) (VP hs hsrt hx)
   refine ⟨max K1 K2, fun k hk m hm => ?_⟩
   obtain ⟨m, rfl⟩ : ∃ j, m = j + 1 := ⟨m - 1, by omega⟩
   have e1 := g1 k (by omega)
   dsimp only at e1
   rw [yf, e1, Option.bind_some, Jl, Option.bind_some, CO]
   cases hh : jI t.keys (dV key t.keys) key with
   | true =>
    have := lJ hh
    rw [if_pos rfl, if_pos rfl, if_pos (by omega)]
   | false =>
    rw [if_neg (show ¬ (false = true) by decide), if_neg (show ¬ (false = true) by decide), if_neg h0, if_neg h0, if_pos (by omega), Int.toNat_natCast, hx]
    exact g2 k (by omega) m (by omega)
abbrev KV := ByteArray × ByteArray
def bU (t : PT) : List KV := t.keys.zip t.vals
def bD (t : PT) : List KV := (bY t).zip (fT t)
theorem G6 {α β : Type} : ∀ (cs : List (List α)) (ds : List (List β)) (ks : List α) (vs : List β), cs.map List.length = ds.map List.length -> ks.length = vs.length ->
  (bX cs ks).zip (bX ds vs) = bX (List.zipWith List.zip cs ds) (ks.zip vs)
 | [], [], ks, vs, _, _ => by simp [bX]
 | [], d :: ds, _, _, h, _ => by simp at h
 | c :: cs, [], _, _, h, _ => by simp at h
 | c :: cs, d :: ds, [], [], h, _ => by simp [bX]
 | c :: cs, d :: ds, [], v :: vs, _, h => by simp at h
 | c :: cs, d :: ds, k :: ks, [], _, h => by simp at h
 | c :: cs, d :: ds, k :: ks, v :: vs, h1, h2 => by
  simp only [List.map_cons, List.cons.injEq] at h1
  have := G6 cs ds ks vs h1.2 (by simpa using h2)
  simp only [bX, List.zipWith_cons_cons, List.zip_cons_cons]
  rw [List.zip_append h1.1, List.zip_cons_cons, this]
theorem Ld : ∀ l : List PT, List.zipWith List.zip (l.map bY) (l.map fT) = l.map bD
 | [] => rfl
 | c :: cs => by
  rw [List.map_cons, List.map_cons, List.zipWith_cons_cons, Ld cs]
  rfl
theorem eH {t : PT} (h : qB t) : bD t = bX (t.kids.map bD) (bU t) := by
 unfold bD bU
 have h1 := h.one
 unfold xZ at h1
 rw [qD, C9, G6 _ _ _ _ ?_ h1.1]
 ·rw [Ld]
  rfl
 ·rw [List.map_map, List.map_map]
  refine List.map_congr_left fun s hm => ?_
  obtain ⟨i, hi⟩ := List.getElem?_of_mem hm
  exact (wC (h.kid hi)).symm
theorem G7 {t : PT} (h : qB t) : bY t = (bD t).map Prod.fst := by
 unfold bD
 rw [List.map_fst_zip (by rw [wC h]; exact Nat.le_refl _)]
theorem zk {t : PT} (h : qB t) : (bD t).length = (bY t).length := by rw [G7 h, List.length_map]
theorem Qd {m : Nat} {t : PT} (hm : m <= 1000) (h : One m t) : xZ t := ⟨h.1.symm, by have := h.2.1; omega, h.2.2⟩
theorem Le : ∀ (n : Nat) {t : PT}, t.big <= n -> mG t -> qB t
 | 0, t, hb, _ => absurd t.fZ (by omega)
 | n + 1, t, hb, h => by
  obtain ⟨h1, h2⟩ := cz.1 h
  exact qB.mk' (Qd (by omega) h1) fun i s hi => Le n (by have := PT.gK hi; omega) (h2 s (List.mem_of_getElem? hi))
theorem bZ {t : PT} (h : mG t) : qB t := Le _ (Nat.le_refl _) h
theorem Lf {t : PT} (h : KZ t) : qB t := qB.mk' (Qd (by omega) h.1) fun i s hi => bZ (h.2 s (List.mem_of_getElem? hi))
def uj {α : Type} : List (List α) -> List α -> List α
 | a :: A, k :: K => a ++ k :: uj A K
 | _, _ => []
def tailW {α : Type} (Q : List (List α)) : List α -> List α
 | [] => []
 | k :: ks => k :: bX Q ks
theorem G8 {α : Type} : ∀ (A B : List (List α)) (K1 K2 : List α), A.length = K1.length -> bX (A ++ B) (K1 ++ K2) = uj A K1 ++ bX B K2
 | [], B, [], K2, _ => rfl
 | [], B, k :: K1, K2, h => by simp at h
 | a :: A, B, [], K2, h => by simp at h
 | a :: A, B, k :: K1, K2, h => by
  have := G8 A B K1 K2 (by simpa using h)
  simp only [List.cons_append, bX, uj, this, List.append_assoc]
theorem uS {α : Type} (c : List α) (Q : List (List α)) (K : List α) : bX (c :: Q) K = c ++ tailW Q K := by cases K <;> simp [bX, tailW]
theorem oV {α : Type} (K : List α) : bX [] K = K := by cases K <;> rfl
theorem uT {P Q : List PT} {s : PT} {I J : List KV} (h : P.length = I.length) : bX ((P ++ s :: Q).map bD) (I ++ J) = uj (P.map bD) I ++ (bD s ++ tailW (Q.map bD) J) := by
 rw [List.map_append, List.map_cons, G8 _ _ _ _ (by rw [List.length_map]; exact h), uS]
theorem zm {P Q : List PT} {l r : PT} {I J : List KV} {x : KV} (h : P.length = I.length) : bX ((P ++ l :: r :: Q).map bD) (I ++ x :: J) = uj (P.map bD) I ++ (bD l ++ x :: (bD r ++ tailW (Q.map bD) J)) := by
 rw [uT h]
 simp only [List.map_cons, tailW, uS]
theorem pO {α : Type} : ∀ (A B : List (List α)) (K1 K2 : List α) (k : α), A.length = K1.length + 1 -> bX (A ++ B) (K1 ++ k :: K2) = bX A K1 ++ k :: bX B K2
 | [], B, K1, K2, k, h => by simp at h
 | [a], B, [], K2, k, _ => by simp [bX]
 | a :: b :: A, B, [], K2, k, h => by simp at h
 | [a], B, x :: K1, K2, k, h => by simp at h
 | a :: b :: A, B, x :: K1, K2, k, h => by
  have := pO (b :: A) B K1 K2 k (by simpa using h)
  simp only [List.cons_append, bX] at this ⊢
  rw [this, List.append_assoc]
  simp
theorem yh {α : Type} : ∀ (C : List (List α)) (I J : List α), C = [] ∨ I.length < C.length -> ∃ A B, ∀ y, bX C (I ++ y :: J) = A ++ y :: B
 | [], I, J, _ => ⟨I, J, fun y => by rw [oV]⟩
 | c :: C, [], J, _ => ⟨c, bX C J, fun y => by rw [List.nil_append, bX]⟩
 | [c], z :: I, J, h => by simp at h
 | c :: d :: C, z :: I, J, h => by
  obtain ⟨A, B, e⟩ := yh (d :: C) I J (.inr (by simpa using h))
  exact ⟨c ++ z :: A, B, fun y => by rw [List.cons_append, bX, e, List.append_assoc, List.cons_append]⟩
theorem G9 {α : Type} : ∀ (A : List (List α)) (K : List α) (k : α), A.length = K.length + 1 -> ∃ X, uj A (K ++ [k]) = X ++ [k]
 | [], K, k, h => by simp at h
 | [a], [], k, _ => ⟨a, rfl⟩
 | a :: b :: A, [], k, h => by simp at h
 | a :: A, x :: K, k, h => by
  obtain ⟨X, e⟩ := G9 A K k (by simpa using h)
  exact ⟨a ++ x :: X, by rw [List.cons_append, uj, e, List.append_assoc, List.cons_append]⟩
theorem Td {α : Type} (A : List (List α)) : uj A [] = [] := by cases A <;> rfl
abbrev mO (l : List KV) : Prop := l.Pairwise fun a b => ui a.1 b.1
theorem nM {t : PT} (h : qB t) : Jj (bY t) ↔ mO (bD t) := by
 rw [G7 h]
 exact List.pairwise_map
def jK (k v : ByteArray) : List KV -> List KV
 | [] => [(k, v)]
 | x :: r => if Cq x.1 k = true then x :: jK k v r else if x.1.toList == k.toList then (x.1, v) :: r else (k, v) :: x :: r
theorem Ra {a b : ByteArray} (h : ui b a) : Cq a b = false := by
 cases hh : Cq a b with
 | false => rfl
 | true => exact absurd ((mH a b).1 hh) (lt_asymm h)
theorem D7 {a b : ByteArray} (h : ui a b) : (b.toList == a.toList) = false := by
 cases hh : (b.toList == a.toList) with
 | false => rfl
 | true =>
  have e := eq_of_beq hh
  unfold ui at h
  rw [e] at h
  exact absurd h (List.lt_irrefl _)
theorem Te {a b : ByteArray} (h1 : Cq a b = false) (h2 : (a.toList == b.toList) = false) : ui b a := by
 have h1' : ¬ ui a b := fun h => by rw [(mH a b).2 h] at h1; cases h1
 have h2' : a.toList ≠ b.toList := fun h => by rw [h] at h2; simp at h2
 unfold ui at h1' ⊢
 rcases Std.lt_trichotomy a.toList b.toList with h | h | h
 ·exact absurd h h1'
 ·exact absurd h h2'
 ·exact h
theorem zn {k v : ByteArray} : ∀ {l1 l2 : List KV}, (∀ x ∈ l1, ui x.1 k) -> jK k v (l1 ++ l2) = l1 ++ jK k v l2
 | [], l2, _ => rfl
 | x :: l1, l2, h => by
  rw [List.cons_append, jK, if_pos ((mH _ _).2 (h x List.mem_cons_self)), zn fun y hy => h y (List.mem_cons_of_mem _ hy), List.cons_append]
theorem Ha {k v : ByteArray} {l : List KV} (h : ∀ x ∈ l, ui k x.1) : jK k v l = (k, v) :: l := by
 cases l with
 | nil => rfl
 | cons x r =>
  have := h x List.mem_cons_self
  rw [jK, if_neg (by rw [Ra this]; decide), if_neg (by rw [D7 this]; decide)]
theorem Lg {k v : ByteArray} : ∀ {l1 l2 : List KV}, (∀ x ∈ l2, ui k x.1) -> jK k v (l1 ++ l2) = jK k v l1 ++ l2
 | [], l2, h => by rw [List.nil_append, Ha h]; rfl
 | x :: l1, l2, h => by
  rw [List.cons_append, jK, jK]
  split
  ·rw [Lg h]; rfl
  ·split <;> rfl
theorem Tf {k v : ByteArray} {x : KV} {l : List KV} (h : (x.1.toList == k.toList) = true) : jK k v (x :: l) = (x.1, v) :: l := by
 have hn : Cq x.1 k = false := by
  cases hh : Cq x.1 k with
  | false => rfl
  | true =>
   have := (mH _ _).1 hh
   unfold ui at this
   rw [eq_of_beq h] at this
   exact absurd this (List.lt_irrefl _)
 rw [jK, if_neg (by rw [hn]; decide), if_pos h]
theorem Hd {k v : ByteArray} {y : KV} : ∀ {l : List KV}, y ∈ jK k v l -> y = (k, v) ∨ y ∈ l ∨ ∃ x ∈ l, y = (x.1, v)
 | [], h => by rw [jK, List.mem_singleton] at h; exact .inl h
 | x :: r, h => by
  rw [jK] at h
  split at h
  ·rcases List.mem_cons.1 h with h | h
   ·exact .inr (.inl (by rw [h]; exact List.mem_cons_self))
   ·rcases Hd h with h | h | ⟨z, hz, e⟩
    ·exact .inl h
    ·exact .inr (.inl (List.mem_cons_of_mem _ h))
    ·exact .inr (.inr ⟨z, List.mem_cons_of_mem _ hz, e⟩)
  ·split at h
   ·rcases List.mem_cons.1 h with h | h
    ·exact .inr (.inr ⟨x, List.mem_cons_self, h⟩)
    ·exact .inr (.inl (List.mem_cons_of_mem _ h))
   ·rcases List.mem_cons.1 h with h | h
    ·exact .inl h
    ·exact .inr (.inl h)
theorem He {k v : ByteArray} : ∀ {l : List KV}, mO l -> mO (jK k v l)
 | [], h => by rw [jK]; exact List.pairwise_singleton _ _
 | x :: r, h => by
  obtain ⟨h1, h2⟩ := List.pairwise_cons.1 h
  rw [jK]
  split
  ·rename_i hlt
   refine List.pairwise_cons.2 ⟨fun y hy => ?_, He h2⟩
   rcases Hd hy with rfl | hy | ⟨z, hz, rfl⟩
   ·exact (mH _ _).1 hlt
   ·exact h1 y hy
   ·exact h1 z hz
  ·split
   ·exact List.pairwise_cons.2 ⟨h1, h2⟩
   ·rename_i hn he
    have hk : ui k x.1 := Te (by simpa using hn) (by simpa using he)
    refine List.pairwise_cons.2 ⟨fun y hy => ?_, h⟩
    rcases List.mem_cons.1 hy with rfl | hy
    ·exact hk
    ·exact lt_trans hk (h1 y hy)
theorem uk {t : PT} (h : t.vals.length = t.keys.length) : (bU t).length = t.keys.length := by
 unfold bU
 rw [List.length_zip]
 omega
theorem Rb {t : PT} (h : t.vals.length = t.keys.length) {i : Nat} {x : ByteArray} (hx : t.keys[i]? = some x) : ∃ v, t.vals[i]? = some v /\ (bU t)[i]? = some (x, v) := by
 have hi : i < t.keys.length := (List.getElem?_eq_some_iff.1 hx).1
 have hv : t.vals[i]? = some t.vals[i] := List.getElem?_eq_getElem (by omega)
 refine ⟨_, hv, ?_⟩
 unfold bU
 exact List.getElem?_zip_eq_some.2 ⟨hx, hv⟩
theorem sj {t : PT} (hv : t.vals.length = t.keys.length) {key : ByteArray} : ∀ x ∈ (bU t).take (dV key t.keys), ui x.1 key := by
 intro x hx
 obtain ⟨j, hj⟩ := List.getElem?_of_mem hx
 have hlt : j < dV key t.keys := by
  have := (List.getElem?_eq_some_iff.1 hj).1
  rw [List.length_take] at this
  omega
 rw [List.getElem?_take_of_lt hlt] at hj
 unfold bU at hj
 obtain ⟨h1, _⟩ := List.getElem?_zip_eq_some.1 hj
 exact (mH _ _).1 (NH key t.keys j x.1 hlt h1)
theorem qF {t : PT} (hs : Jj t.keys) {key : ByteArray} (hn : jI t.keys (dV key t.keys) key = false) : ∀ x ∈ (bU t).drop (dV key t.keys), ui key x.1 := by
 intro x hx
 obtain ⟨j, hj⟩ := List.getElem?_of_mem hx
 rw [List.getElem?_drop] at hj
 unfold bU at hj
 obtain ⟨h1, _⟩ := List.getElem?_zip_eq_some.1 hj
 have hge := Jk key t.keys hs (dV key t.keys + j) x.1 (by omega) h1
 refine Te hge ?_
 cases hh : (x.1.toList == key.toList) with
 | false => rfl
 | true =>
  have e := eq_of_beq hh
  have hi : dV key t.keys + j < t.keys.length := (List.getElem?_eq_some_iff.1 h1).1
  have hy : t.keys[dV key t.keys]? = some t.keys[dV key t.keys] := List.getElem?_eq_getElem (by omega)
  have hge2 := Jk key t.keys hs (dV key t.keys) _ (Nat.le_refl _) hy
  unfold jI at hn
  rw [hy] at hn
  simp only at hn
  have hlt := Te hge2 hn
  by_cases h0 : j = 0
  ·subst h0
   rw [Nat.add_zero, hy] at h1
   rw [Option.some.inj h1] at hn
   rw [hn] at hh
   cases hh
  ·have h2 : ui t.keys[dV key t.keys] x.1 := by
    have := List.pairwise_iff_getElem.1 hs (dV key t.keys) (dV key t.keys + j) (by omega) hi (by omega)
    rw [(List.getElem?_eq_some_iff.1 h1).2] at this
    exact this
   have h3 := lt_trans hlt h2
   unfold ui at h3
   rw [e] at h3
   exact absurd h3 (List.lt_irrefl _)
theorem Tg {P : List (List KV)} {I R : List KV} {key : ByteArray} (hl : P.length = I.length) (hs : mO (uj P I ++ R)) (hI : ∀ x ∈ I, ui x.1 key) : ∀ x ∈ uj P I, ui x.1 key := by
 rcases List.eq_nil_or_concat I with rfl | ⟨K, k, hk0⟩
 ·rw [Td]
  intro x hx
  cases hx
 ·rw [List.concat_eq_append] at hk0
  subst hk0
  obtain ⟨X, e⟩ := G9 P K k (by rw [hl, List.length_append]; rfl)
  intro x hx
  have hk := hI k (by simp)
  rw [e] at hx hs
  rcases List.mem_append.1 hx with hx | hx
  ·exact lt_trans ((List.pairwise_append.1 (List.pairwise_append.1 hs).1).2.2 x hx k (List.mem_singleton_self _)) hk
  ·rw [List.mem_singleton.1 hx]
   exact hk
theorem Qe {Q : List (List KV)} {J L : List KV} {key : ByteArray} (hs : mO (L ++ tailW Q J)) (hJ : ∀ x ∈ J, ui key x.1) : ∀ x ∈ tailW Q J, ui key x.1 := by
 cases J with
 | nil => intro x hx; cases hx
 | cons y J =>
  rw [tailW] at hs ⊢
  have hk := hJ y List.mem_cons_self
  intro x hx
  rcases List.mem_cons.1 hx with rfl | hx
  ·exact hk
  ·exact lt_trans hk ((List.pairwise_cons.1 (List.pairwise_append.1 hs).2.1).1 x hx)
def uU : Nat -> PT -> Prop
 | 0, _ => False
 | h + 1, t => (t.kids = [] /\ h = 0) ∨ (t.kids ≠ [] /\ ∀ s ∈ t.kids, uU h s /\ 2 <= s.keys.length)
theorem Df {h : Nat} {t : PT} (hl : uU h t) : 1 <= h := by
 cases h with
 | zero => exact hl.elim
 | succ h => omega
theorem rF : ∀ {h g : Nat} {t : PT}, uU h t -> uU g t -> h = g
 | 0, _, t, a, _ => a.elim
 | h + 1, 0, t, _, b => b.elim
 | h + 1, g + 1, t, a, b => by
  rcases a with ⟨a1, a2⟩ | ⟨a1, a2⟩ <;> rcases b with ⟨b1, b2⟩ | ⟨b1, b2⟩
  ·omega
  ·exact absurd a1 b1
  ·exact absurd b1 a1
  ·cases hk : t.kids with
   | nil => exact absurd hk a1
   | cons c cs =>
    have := rF (a2 c (by rw [hk]; exact List.mem_cons_self)).1 (b2 c (by rw [hk]; exact List.mem_cons_self)).1
    omega
theorem Jm : ∀ {h : Nat} {t : PT}, uU h t -> h <= t.big
 | 0, t, a => a.elim
 | h + 1, t, a => by
  rcases a with ⟨a1, a2⟩ | ⟨a1, a2⟩
  ·have := t.fZ
   omega
  ·cases hk : t.kids with
   | nil => exact absurd hk a1
   | cons c cs =>
    have h0 : t.kids[0]? = some c := by rw [hk]; rfl
    have := Jm (a2 c (by rw [hk]; exact List.mem_cons_self)).1
    have := PT.gK h0
    omega
theorem D8 : ∀ (n : Nat) (t : PT), t.big <= n -> t.big <= 1000000000000 -> (∃ h, uU h t /\ iH t = (h : Int)) ∨ ((∀ h, ¬ uU h t) /\ iH t = -1)
 | 0, t, hn, _ => absurd t.fZ (by omega)
 | n + 1, t, hn, hb => by
  cases hk : t.kids with
  | nil =>
   exact .inl ⟨1, .inl ⟨hk, rfl⟩, Dw (by rw [hk]; rfl)⟩
  | cons c cs =>
   have h0 : t.kids[0]? = some c := by rw [hk]; rfl
   have he := Dx h0
   have hc := PT.gK h0
   have kid : ∀ s ∈ t.kids, (∃ h, uU h s /\ iH s = (h : Int)) ∨ ((∀ h, ¬ uU h s) /\ iH s = -1) := fun s hs => by
    obtain ⟨i, hi⟩ := List.getElem?_of_mem hs
    have := PT.gK hi
    exact D8 n s (by omega) (by omega)
   have hall : ∀ (l : List PT) (d : Int), qA d l = true ↔ ∀ s ∈ l, ¬ d < 0 /\ iH s = d /\ ¬ s.keys.length < 2 := by
    intro l d
    induction l with
    | nil => simp [qA]
    | cons a l ih =>
     rw [qA, Bool.and_eq_true, ih]
     simp [and_assoc]
   rw [List.drop_zero] at he
   have hcm : c ∈ t.kids := by rw [hk]; exact List.mem_cons_self
   rcases kid c hcm with ⟨h, hl, hev⟩ | ⟨hno, hev⟩
   ·by_cases hL : qA (iH c) t.kids = true
    ·rw [if_pos hL] at he
     refine .inl ⟨h + 1, .inr ⟨by rw [hk]; simp, fun s hs => ?_⟩, ?_⟩
     ·obtain ⟨a1, a2, a3⟩ := (hall _ _).1 hL s hs
      rcases kid s hs with ⟨g, gl, gev⟩ | ⟨_, gev⟩
      ·have : g = h := by omega
       subst this
       exact ⟨gl, by omega⟩
      ·omega
     ·have := Jm hl
      rw [he, hev, jD (by omega) (by omega)]
      omega
    ·rw [if_neg hL] at he
     refine .inr ⟨fun g hg => hL ((hall _ _).2 fun s hs => ?_), he⟩
     cases g with
     | zero => exact hg.elim
     | succ g =>
      rcases hg with ⟨hg, _⟩ | ⟨_, hg⟩
      ·rw [hk] at hg; cases hg
      ·have hgc := rF (hg c hcm).1 hl
       subst hgc
       obtain ⟨s1, s2⟩ := hg s hs
       have s3 := Df s1
       rcases kid s hs with ⟨f, fl, fev⟩ | ⟨fno, _⟩
       ·have := rF fl s1
        exact ⟨by omega, by omega, by omega⟩
       ·exact absurd s1 (fno g)
   ·refine .inr ⟨fun g hg => ?_, ?_⟩
    ·cases g with
     | zero => exact hg.elim
     | succ g =>
      rcases hg with ⟨hg, _⟩ | ⟨_, hg⟩
      ·rw [hk] at hg; cases hg
      ·exact hno g (hg c hcm).1
    ·rw [he, if_neg]
     rw [hall]
     intro h
     have := (h c hcm).1
     omega
def rG (t : PT) : Bool := t.kids.isEmpty || decide (0 < t.keys.length)
theorem Br : ∀ (n : Nat) (t : PT), t.big <= n -> t.big <= 1000000000000 -> (∃ h, uU h t /\ jo t = ((h : Int), rG t)) ∨ ((∀ h, ¬ uU h t) /\ jo t = (0, false))
 | 0, t, hn, _ => absurd t.fZ (by omega)
 | n + 1, t, hn, hb => by
  cases hk : t.kids with
  | nil =>
   refine .inl ⟨1, .inl ⟨hk, rfl⟩, ?_⟩
   rw [Cj (by rw [hk]; rfl), rG, hk]
   rfl
  | cons c cs =>
   have kid : ∀ s ∈ t.kids, (∃ h, uU h s /\ jo s = ((h : Int), rG s)) ∨ ((∀ h, ¬ uU h s) /\ jo s = (0, false)) := fun s hs => by
    obtain ⟨i, hi⟩ := List.getElem?_of_mem hs
    have := PT.gK hi
    exact Br n s (by omega) (by omega)
   have hne : t.kids.length ≠ 0 := by rw [hk]; simp
   have he := Cm hne
   rw [List.drop_zero] at he
   -- the loop, from a kid on: all of level h, or none
   have loop : ∀ (l : List PT), (∀ s ∈ l, s ∈ t.kids) -> ∀ (i : Nat) (f : Int), (∃ h : Nat, (∀ s ∈ l, uU h s /\ 2 <= s.keys.length) /\ (0 < i -> f = (h : Int)) /\ iX i f l = some (if l = [] then f else (h : Int))) ∨
     ((∀ h : Nat, (0 < i -> f = (h : Int)) -> ¬ ∀ s ∈ l, uU h s /\ 2 <= s.keys.length) /\ (l ≠ [] -> iX i f l = none)) := by
    intro l
    induction l with
    | nil =>
     intro _ i f
     by_cases hi : 0 < i -> ∃ h : Nat, f = (h : Int)
     ·rcases Nat.eq_zero_or_pos i with h0 | h0
      ·exact .inl ⟨0, by simp, by omega, by rw [if_pos rfl, iX]⟩
      ·obtain ⟨h, hf⟩ := hi h0
       exact .inl ⟨h, by simp, fun _ => hf, by rw [if_pos rfl, iX]⟩
     ·refine .inr ⟨fun h hf _ => hi fun hi => ⟨h, hf hi⟩, fun h => absurd rfl h⟩
    | cons a l ih =>
     intro hsub i f
     have ha := hsub a List.mem_cons_self
     have hsub' : ∀ s ∈ l, s ∈ t.kids := fun s hs => hsub s (List.mem_cons_of_mem _ hs)
     rcases kid a ha with ⟨h, hl, hd⟩ | ⟨hno, hd⟩
     ·by_cases h2 : a.keys.length < 2
      ·refine .inr ⟨fun g _ hg => ?_, fun _ => ?_⟩
       ·have := (hg a List.mem_cons_self).2
        omega
       ·rw [iX, if_pos]
        simp [h2]
      ·have hro : rG a = true := by rw [rG, decide_eq_true (by omega), Bool.or_true]
       by_cases h3 : 0 < i /\ (h : Int) ≠ f
       ·refine .inr ⟨fun g hf hg => ?_, fun _ => ?_⟩
        ·have := rF hl (hg a List.mem_cons_self).1
         have := hf h3.1
         omega
        ·rw [iX, if_pos]
         simp [hd, h3.1, h3.2]
       ·have hstep : iX i f (a :: l) = iX (i + 1) (h : Int) l := by
         rw [iX, if_neg, hd]
         rcases Nat.eq_zero_or_pos i with h0 | h0
         ·simp [hd, hro, h2, h0]
         ·have : (h : Int) = f := by
           rcases Decidable.em ((h : Int) = f) with h4 | h4
           ·exact h4
           ·exact absurd ⟨h0, h4⟩ h3
          simp [hd, hro, h2, this]
        rcases ih hsub' (i + 1) (h : Int) with ⟨g, g1, g2, g3⟩ | ⟨g1, g2⟩
        ·have hgh : h = g := by have := g2 (by omega); omega
         subst hgh
         refine .inl ⟨h, fun s hs => ?_, fun hi => ?_, ?_⟩
         ·rcases List.mem_cons.1 hs with rfl | hs
          ·exact ⟨hl, by omega⟩
          ·exact g1 s hs
         ·rcases Decidable.em ((h : Int) = f) with h4 | h4
          ·exact h4.symm
          ·exact absurd ⟨hi, h4⟩ h3
         ·rw [hstep, g3]
          simp
        ·by_cases hl0 : l = []
         ·subst hl0
          exact absurd (by simp) (g1 h (fun _ => rfl))
         ·refine .inr ⟨fun g hf hg => ?_, fun _ => by rw [hstep]; exact g2 hl0⟩
          have hgh := rF hl (hg a List.mem_cons_self).1
          subst hgh
          exact g1 h (fun _ => rfl) fun s hs => hg s (List.mem_cons_of_mem _ hs)
     ·refine .inr ⟨fun g _ hg => hno g (hg a List.mem_cons_self).1, fun _ => ?_⟩
      rw [iX, if_pos]
      simp [hd]
   rcases loop t.kids (fun s hs => hs) 0 0 with ⟨h, h1, _, h3⟩ | ⟨h1, h2⟩
   ·rw [if_neg (by rw [hk]; simp)] at h3
    refine .inl ⟨h + 1, .inr ⟨by rw [hk]; simp, h1⟩, ?_⟩
    have hc : c ∈ t.kids := by rw [hk]; exact List.mem_cons_self
    have hcb := Jm (h1 c hc).1
    obtain ⟨i, hi⟩ := List.getElem?_of_mem hc
    have := PT.gK hi
    rw [he, h3, xX, rG, hk, jD (by omega) (by omega)]
    simp
   ·refine .inr ⟨fun g hg => ?_, by rw [he, h2 (by rw [hk]; simp)]; rfl⟩
    cases g with
    | zero => exact hg.elim
    | succ g =>
     rcases hg with ⟨hg, _⟩ | ⟨_, hg⟩
     ·rw [hk] at hg; cases hg
     ·exact h1 g (fun h => by omega) hg
end Go.Proofs.Ytoddejmlcnbdmaa.Pure
namespace Go.Proofs.Ytoddejmlcnbdmaa.Tree
open Go.Proofs.Ytoddejmlcnbdmaa.Fn
def fJ (t : PT) (j : Nat) : PT := t.kids.getD j (.mk [] [] [])
def bF (l : List ByteArray) (j : Nat) : ByteArray := l.getD j ByteArray.empty
def XL (t : PT) (i : Nat) (s : PT) : PT := .mk t.keys t.vals (t.kids.set i s)
def vI (l : PT) : PT := .mk (l.keys.take (l.keys.length - 1)) (l.vals.take (l.keys.length - 1)) (l.kids.take l.keys.length)
def vJ (l r : PT) (x y : ByteArray) : PT := .mk (bz r.keys 0 x) (bz r.vals 0 y) (if l.kids.length = 0 then r.kids else bz r.kids 0 (fJ l l.keys.length))
def um (l r : PT) (x y : ByteArray) : PT := .mk (l.keys ++ [x]) (l.vals ++ [y]) (if r.kids.length = 0 then l.kids else l.kids ++ [fJ r 0])
def vK (r : PT) : PT := .mk (r.keys.drop 1) (r.vals.drop 1) (r.kids.drop 1)
def Cr (l r : PT) (x y : ByteArray) : PT := .mk (l.keys ++ x :: r.keys) (l.vals ++ y :: r.vals) (l.kids ++ r.kids)
def D9 (t : PT) (j : Nat) : PT :=
 .mk (t.keys.set j (bF (fJ t j).keys ((fJ t j).keys.length - 1))) (t.vals.set j (bF (fJ t j).vals ((fJ t j).keys.length - 1)))
  (t.kids.take j ++ vI (fJ t j) :: vJ (fJ t j) (fJ t (j + 1)) (bF t.keys j) (bF t.vals j) :: t.kids.drop (j + 2))
def Ea (t : PT) (j : Nat) : PT :=
 .mk (t.keys.set j (bF (fJ t (j + 1)).keys 0)) (t.vals.set j (bF (fJ t (j + 1)).vals 0))
  (t.kids.take j ++ um (fJ t j) (fJ t (j + 1)) (bF t.keys j) (bF t.vals j) :: vK (fJ t (j + 1)) :: t.kids.drop (j + 2))
def xQ (t : PT) (j : Nat) : PT :=
 .mk (t.keys.eraseIdx j) (t.vals.eraseIdx j) (t.kids.take j ++ Cr (fJ t j) (fJ t (j + 1)) (bF t.keys j) (bF t.vals j) :: t.kids.drop (j + 2))
def Lh (t : PT) (i : Nat) : PT :=
 if 0 < i /\ 2 < (fJ t (i - 1)).keys.length then D9 t (i - 1)
 else if i < t.keys.length /\ 2 < (fJ t (i + 1)).keys.length then Ea t i
 else if i < t.keys.length then xQ t i else xQ t (i - 1)
def uV (t : PT) (i : Nat) : PT := if (fJ t i).keys.length < 2 then Lh t i else t
def jA : Nat -> PT -> PT
 | 0, t => t
 | n + 1, t => if t.kids.length = 0 then t else jA n (fJ t (t.kids.length - 1))
def kR (n : Nat) (t : PT) : ByteArray := bF (jA n t).keys ((jA n t).keys.length - 1)
def qg (n : Nat) (t : PT) : ByteArray := bF (jA n t).vals ((jA n t).keys.length - 1)
def mV : Nat -> PT -> ByteArray -> Option PT
 | 0, _, _ => none
 | n + 1, t, key =>
  if t.kids.length = 0 then (if dV key t.keys < t.keys.length then some (.mk (t.keys.eraseIdx (dV key t.keys)) (t.vals.eraseIdx (dV key t.keys)) t.kids) else none)
  else if jI t.keys (dV key t.keys) key = true then
   (mV n (fJ t (dV key t.keys)) (kR n (fJ t (dV key t.keys)))).map fun s =>
    uV (.mk (t.keys.set (dV key t.keys) (kR n (fJ t (dV key t.keys)))) (t.vals.set (dV key t.keys) (qg n (fJ t (dV key t.keys)))) (t.kids.set (dV key t.keys) s)) (dV key t.keys)
  else (mV n (fJ t (dV key t.keys)) key).map fun s => uV (XL t (dV key t.keys) s) (dV key t.keys)
def wG : Nat -> PT -> PT
 | 0, t => t
 | n + 1, t => if t.kids.length = 0 then .mk (t.keys.eraseIdx (t.keys.length - 1)) (t.vals.eraseIdx (t.keys.length - 1)) t.kids
  else uV (XL t (t.kids.length - 1) (wG n (fJ t (t.kids.length - 1)))) (t.kids.length - 1)
def xR : Nat -> PT -> ByteArray -> Option PT
 | 0, _, _ => none
 | n + 1, t, key =>
  if jI t.keys (dV key t.keys) key = true then
   (if t.kids.length = 0 then some (.mk (t.keys.eraseIdx (dV key t.keys)) (t.vals.eraseIdx (dV key t.keys)) t.kids)
       else some (uV (.mk (t.keys.set (dV key t.keys) (kR n (fJ t (dV key t.keys)))) (t.vals.set (dV key t.keys) (qg n (fJ t (dV key t.keys)))) (t.kids.set (dV key t.keys) (wG n (fJ t (dV key t.keys))))) (dV key t.keys)))
  else if t.kids.length = 0 then none
  else (xR n (fJ t (dV key t.keys)) key).map fun s => uV (XL t (dV key t.keys) s) (dV key t.keys)
def Ti (t : PT) (key val : ByteArray) : PT := if 4 < (qf t.big t key val).keys.length then splitK (.mk [] [] [qf t.big t key val]) (qf t.big t key val) 0 else qf t.big t key val
def lT (t : PT) : PT := if t.keys.length = 0 /\ t.kids.length ≠ 0 then fJ t 0 else t
end Go.Proofs.Ytoddejmlcnbdmaa.Tree
namespace Go.Proofs.Ytoddejmlcnbdmaa.Pure
theorem wH {α β : Type} (l : List α) (m : List β) (n : Nat) : (l.zip m).take n = (l.take n).zip (m.take n) := by simp [List.zip, List.take_zipWith]
theorem wI {α β : Type} (l : List α) (m : List β) (n : Nat) : (l.zip m).drop n = (l.drop n).zip (m.drop n) := by simp [List.zip, List.drop_zipWith]
theorem uo {α : Type} {l : List α} {i : Nat} {x : α} (h : l[i]? = some x) : l = l.take i ++ x :: l.drop (i + 1) := by rw [<- fF h, List.take_append_drop]
theorem qY {α : Type} {l : List α} {i : Nat} (y : α) (h : i < l.length) : l.set i y = l.take i ++ y :: l.drop (i + 1) := by rw [List.set_eq_take_append_cons_drop, if_pos h]
theorem Jn {l m : List ByteArray} {i : Nat} (a b : ByteArray) (h : i < l.length) (hm : m.length = l.length) : (l.set i a).zip (m.set i b) = (l.zip m).take i ++ (a, b) :: (l.zip m).drop (i + 1) := by
 rw [qY a h, qY b (by omega), List.zip_append (by rw [List.length_take, List.length_take, hm]), List.zip_cons_cons, wH, wI]
theorem Hf {l m : List ByteArray} {i : Nat} (hm : m.length = l.length) : (l.eraseIdx i).zip (m.eraseIdx i) = (l.zip m).take i ++ (l.zip m).drop (i + 1) := by
 rw [List.eraseIdx_eq_take_drop_succ, List.eraseIdx_eq_take_drop_succ, List.zip_append (by rw [List.length_take, List.length_take, hm]), wH, wI]
theorem Qf {l m : List ByteArray} {i : Nat} (a b : ByteArray) (hm : m.length = l.length) : (bz l i a).zip (bz m i b) = (l.zip m).take i ++ (a, b) :: (l.zip m).drop i := by
 unfold bz
 rw [List.zip_append (by rw [List.length_take, List.length_take, hm]), List.zip_cons_cons, wH, wI]
theorem qG {l : List ByteArray} {i : Nat} (h : i < l.length) : l[i]? = some (bF l i) := by
 unfold bF
 rw [List.getD_eq_getElem?_getD, List.getElem?_eq_getElem h]
 rfl
theorem kZ {l m : List ByteArray} {i : Nat} (h : i < l.length) (hm : m.length = l.length) : l.zip m = (l.zip m).take i ++ (bF l i, bF m i) :: (l.zip m).drop (i + 1) :=
 uo (List.getElem?_zip_eq_some.2 ⟨qG h, qG (by omega)⟩)
theorem xu {l m : List ByteArray} (hm : m.length = l.length) : (l.zip m).length = l.length := by rw [List.length_zip]; omega
theorem Hg {t : PT} (h : KZ t) (h5 : t.keys.length = 5) :
  bD t = bD (.mk (t.keys.take 2) (t.vals.take 2) (t.kids.take 3)) ++ (bF t.keys 2, bF t.vals 2) :: bD (.mk (t.keys.drop 3) (t.vals.drop 3) (t.kids.drop 3)) := by
 have hs : qB t := Lf h
 obtain ⟨⟨h1, h2, h3⟩, h4⟩ := h
 cases t with | mk ks vs cs =>
 simp only [PT.keys, PT.vals, PT.kids] at h1 h2 h3 h4 h5 ⊢
 have l : qB (.mk (ks.take 2) (vs.take 2) (cs.take 3)) := by
  refine qB.mk' ⟨?_, ?_, ?_⟩ fun i s hi => bZ (h4 s (List.mem_of_mem_take (List.mem_of_getElem? hi)))
  ·simp only [PT.keys, PT.vals, List.length_take]; omega
  ·simp only [PT.keys, List.length_take]; omega
  ·simp only [PT.keys, PT.kids, List.length_take]; omega
 have r : qB (.mk (ks.drop 3) (vs.drop 3) (cs.drop 3)) := by
  refine qB.mk' ⟨?_, ?_, ?_⟩ fun i s hi => bZ (h4 s (List.mem_of_mem_drop (List.mem_of_getElem? hi)))
  ·simp only [PT.keys, PT.vals, List.length_drop]; omega
  ·simp only [PT.keys, List.length_drop]; omega
  ·simp only [PT.keys, PT.kids, List.length_drop]; omega
 rw [eH hs, eH l, eH r]
 unfold bU
 simp only [PT.keys, PT.vals, PT.kids]
 rw [<- wH, <- wI]
 have e := kZ (l := ks) (m := vs) (i := 2) (by omega) h1
 conv => lhs; rw [e]
 rw [List.map_take, List.map_drop]
 rcases h3 with h0 | h0
 ·have : cs = [] := List.length_eq_zero_iff.1 h0
  rw [this]
  simp only [List.map_nil, List.take_nil, List.drop_nil, oV]
 ·conv => lhs; rw [<- List.take_append_drop 3 (cs.map bD)]
  refine pO _ _ _ _ _ ?_
  rw [List.length_take, List.length_take, List.length_map, xu h1]
  omega
theorem XM {a b c : ByteArray} (h : ui a b) (e : (b.toList == c.toList) = true) : ui a c := by
 unfold ui at h ⊢
 rw [<- eq_of_beq e]
 exact h
theorem Qg : ∀ (n : Nat) (t : PT) (key val : ByteArray), t.big <= n -> mG t -> mO (bD t) -> bD (qf n t key val) = jK key val (bD t)
 | 0, t, key, val, hb, _, _ => absurd t.fZ (by omega)
 | n + 1, t, key, val, hb, hbd, hs => by
  obtain ⟨⟨h1, h2, h3⟩, h4⟩ := cz.1 hbd
  have UD := bZ hbd
  have hsk : Jj t.keys := rE ((nM UD).2 hs)
  have hle := nJ key t.keys
  have hr := Lf (wF (n + 1) t key val hbd)
  have hlen := uk h1
  have hah := sj (key := key) h1
  rw [qf] at hr ⊢
  generalize hi : dV key t.keys = i at hr hle hah ⊢
  by_cases hb0 : jI t.keys i key = true
  ·rw [if_pos hb0] at hr ⊢
   have hlt := lJ hb0
   rw [eH hr, eH UD]
   rw [eH UD] at hs
   have ek := qG hlt
   have e1 : bU t = (bU t).take i ++ (bF t.keys i, bF t.vals i) :: (bU t).drop (i + 1) := kZ hlt h1
   have e2 : bU (.mk t.keys (t.vals.set i val) t.kids) = (bU t).take i ++ (bF t.keys i, val) :: (bU t).drop (i + 1) := by
    show t.keys.zip (t.vals.set i val) = _
    have : t.keys = t.keys.set i (bF t.keys i) := by
     rw [qY _ hlt]
     exact uo ek
    conv => lhs; rw [this]
    exact Jn _ _ hlt h1
   obtain ⟨A, B, hAB⟩ := yh (t.kids.map bD) ((bU t).take i) ((bU t).drop (i + 1)) (by
    rw [List.length_take, List.length_map, hlen]
    rcases h3 with h | h
    ·exact .inl (by rw [List.length_eq_zero_iff.1 h]; rfl)
    ·right; omega)
   have hk : ((bF t.keys i).toList == key.toList) = true := by
    unfold jI at hb0
    rw [ek] at hb0
    exact hb0
   have hW : bX (t.kids.map bD) (bU t) = A ++ (bF t.keys i, bF t.vals i) :: B := by
    rw [e1]
    exact hAB _
   rw [e2, hW]
   rw [hW] at hs
   show bX (t.kids.map bD) _ = _
   rw [hAB, zn (fun x hx => XM ((List.pairwise_append.1 hs).2.2 x hx _ List.mem_cons_self) hk), Tf hk]
  ·rw [if_neg hb0] at hr ⊢
   have hb0' : jI t.keys i key = false := by cases h : jI t.keys i key <;> simp_all
   have hbe : ∀ x ∈ (bU t).drop i, ui key x.1 := by
    have := qF (t := t) (key := key) hsk (by rw [hi]; exact hb0')
    rw [hi] at this
    exact this
   by_cases h0 : t.kids.length = 0
   ·rw [if_pos h0] at hr ⊢
    have hk : t.kids = [] := List.length_eq_zero_iff.1 h0
    rw [eH hr, eH UD]
    show bX (t.kids.map bD) ((bz t.keys i key).zip (bz t.vals i val)) = _
    rw [Qf _ _ h1, hk, List.map_nil, oV, oV]
    show (bU t).take i ++ (key, val) :: (bU t).drop i = jK key val (bU t)
    conv => rhs; rw [<- List.take_append_drop i (bU t)]
    rw [zn hah, Ha hbe]
   ·rw [if_neg h0] at hr ⊢
    have hkl : t.kids.length = t.keys.length + 1 := h3.resolve_left h0
    have hx : t.kids[i]? = some t.kids[i] := List.getElem?_eq_getElem (by omega)
    generalize t.kids[i] = s at hx
    rw [hx] at hr ⊢
    simp only at hr ⊢
    have Fe : (t.kids.take i).length = ((bU t).take i).length := by rw [List.length_take, List.length_take, hlen]; omega
    have e0 : bD t = uj ((t.kids.take i).map bD) ((bU t).take i) ++ (bD s ++ tailW ((t.kids.drop (i + 1)).map bD) ((bU t).drop i)) := by
     rw [eH UD]
     conv => lhs; rw [uo hx, <- List.take_append_drop i (bU t)]
     exact uT Fe
    have hsb : mG s := h4 s (List.mem_of_getElem? hx)
    have hss : mO (bD s) := by
     rw [e0] at hs
     exact (List.pairwise_append.1 (List.pairwise_append.1 hs).2.1).1
    have ih := Qg n s key val (by have := PT.gK hx; omega) hsb hss
    have hpre := Tg (P := (t.kids.take i).map bD) (I := (bU t).take i) (key := key) (by rw [List.length_map]; exact Fe) (by rw [e0] at hs; exact hs) hah
    have CG := Qe (Q := (t.kids.drop (i + 1)).map bD) (J := (bU t).drop i) (L := uj ((t.kids.take i).map bD) ((bU t).take i) ++ bD s) (key := key) (by rw [e0] at hs; rw [List.append_assoc]; exact hs) hbe
    have e3 : jK key val (bD t) = uj ((t.kids.take i).map bD) ((bU t).take i) ++ (bD (qf n s key val) ++ tailW ((t.kids.drop (i + 1)).map bD) ((bU t).drop i)) := by
     rw [e0, zn hpre, Lg CG, ih]
    rw [e3]
    have h5 := wF n s key val hsb
    by_cases h4' : 4 < (qf n s key val).keys.length
    ·rw [if_pos h4'] at hr ⊢
     rw [eH hr, Hg h5 (by have := h5.1.2.1; omega)]
     show bX ((bz (t.kids.set i _) (i + 1) _).map bD) ((bz t.keys i _).zip (bz t.vals i _)) = _
     rw [VL hx, Qf _ _ h1]
     refine (zm (by rw [List.length_take, List.length_take, xu h1]; omega)).trans ?_
     rw [List.append_assoc, List.cons_append]
     rfl
    ·rw [if_neg h4'] at hr ⊢
     rw [eH hr]
     show bX ((t.kids.set i _).map bD) (t.keys.zip t.vals) = _
     rw [qY _ (by omega)]
     conv => lhs; rw [<- List.take_append_drop i (t.keys.zip t.vals)]
     exact uT (by rw [List.length_take, List.length_take, xu h1]; omega)
theorem Li {h : Nat} {t r : PT} (e : r.kids = t.kids) (hl : uU h t) : uU h r := by
 cases h with
 | zero => exact hl.elim
 | succ h =>
  unfold uU at hl ⊢
  rw [e]
  exact hl
theorem Qh : ∀ (n : Nat) (t : PT) (key val : ByteArray) (h : Nat), t.big <= n -> mG t -> uU h t -> uU h (qf n t key val) /\ t.keys.length <= (qf n t key val).keys.length
 | 0, t, key, val, h, hb, _, _ => absurd t.fZ (by omega)
 | n + 1, t, key, val, h, hb, hbd, hl => by
  obtain ⟨⟨h1, h2, h3⟩, h4⟩ := cz.1 hbd
  have hle := nJ key t.keys
  rw [qf]
  generalize dV key t.keys = i at hle ⊢
  split
  ·exact ⟨Li (t := t) rfl hl, Nat.le_refl _⟩
  ·split
   ·refine ⟨Li (t := t) rfl hl, ?_⟩
    show t.keys.length <= (bz _ _ _).length
    rw [fI _ hle]
    omega
   ·rename_i h0
    have hkl : t.kids.length = t.keys.length + 1 := h3.resolve_left h0
    have hx : t.kids[i]? = some t.kids[i] := List.getElem?_eq_getElem (by omega)
    generalize t.kids[i] = s at hx
    rw [hx]
    simp only
    cases h with
    | zero => exact hl.elim
    | succ h =>
    have hks : ∀ s ∈ t.kids, uU h s /\ 2 <= s.keys.length := by
     rcases hl with ⟨a, _⟩ | ⟨_, a⟩
     ·rw [a] at h0
      exact absurd rfl h0
     ·exact a
    have hsb : mG s := h4 s (List.mem_of_getElem? hx)
    obtain ⟨i1, i2⟩ := Qh n s key val h (by have := PT.gK hx; omega) hsb (hks s (List.mem_of_getElem? hx)).1
    have hs2 := (hks s (List.mem_of_getElem? hx)).2
    have h5 := wF n s key val hsb
    split
    ·rename_i hg
     refine ⟨.inr ⟨?_, ?_⟩, ?_⟩
     ·intro e
      have : (bz (t.kids.set i _) (i + 1) _).length = 0 := congrArg List.length e
      rw [fI _ (by rw [List.length_set]; omega)] at this
      omega
     ·intro c hc
      have hc : c ∈ bz (t.kids.set i _) (i + 1) _ := hc
      have hl3 : ∀ (k v : List ByteArray) (b : Bool), uU h (.mk k v (if b then (qf n s key val).kids.take 3 else (qf n s key val).kids.drop 3)) := by
       intro k v b
       cases h with
       | zero => exact i1.elim
       | succ h =>
        rcases i1 with ⟨a, a'⟩ | ⟨a, a'⟩
        ·refine .inl ⟨?_, a'⟩
         show (if b then _ else _) = []
         rw [a]
         cases b <;> rfl
        ·have hl6 := h5.1.2.2.resolve_left (fun e => a (List.length_eq_zero_iff.1 e))
         refine .inr ⟨?_, fun c hc => a' c ?_⟩
         ·intro e
          have e' : (if b then (qf n s key val).kids.take 3 else (qf n s key val).kids.drop 3).length = 0 := congrArg List.length e
          cases b
          ·simp only [Bool.false_eq_true, if_false, List.length_drop] at e'; omega
          ·simp only [if_true, List.length_take] at e'; omega
         ·cases b
          ·exact List.mem_of_mem_drop hc
          ·exact List.mem_of_mem_take hc
      rcases GY hc with rfl | hc
      ·exact ⟨hl3 _ _ false, by show 2 <= (List.drop 3 _).length; rw [List.length_drop]; omega⟩
      ·rcases List.mem_or_eq_of_mem_set hc with hc | rfl
       ·exact hks c hc
       ·exact ⟨hl3 _ _ true, by show 2 <= (List.take 2 _).length; rw [List.length_take]; omega⟩
     ·show t.keys.length <= (bz _ _ _).length
      rw [fI _ hle]
      omega
    ·refine ⟨.inr ⟨?_, ?_⟩, Nat.le_refl _⟩
     ·intro e
      have : (t.kids.set i (qf n s key val)).length = 0 := congrArg List.length e
      rw [List.length_set] at this
      omega
     ·intro c hc
      rcases List.mem_or_eq_of_mem_set hc with hc | rfl
      ·exact hks c hc
      ·exact ⟨i1, by omega⟩
theorem jV {h : Nat} {t : PT} (hb : mG t) (hl : uU (h + 1) t) : (h = 0 /\ t.kids = []) ∨ (h ≠ 0 /\ t.kids.length = t.keys.length + 1 /\ ∀ s ∈ t.kids, uU h s /\ 2 <= s.keys.length) := by
 rcases hl with ⟨a, b⟩ | ⟨a, b⟩
 ·exact .inl ⟨b, a⟩
 ·have hk := (cz.1 hb).1.2.2.resolve_left (fun e => a (List.length_eq_zero_iff.1 e))
  refine .inr ⟨?_, hk, b⟩
  rintro rfl
  cases hc : t.kids with
  | nil => exact a hc
  | cons c cs => exact (b c (by rw [hc]; exact List.mem_cons_self)).1
theorem xw {t : PT} (h : t.kids = []) : uU 1 t := .inl ⟨h, rfl⟩
theorem pQ {h : Nat} {t : PT} (h0 : h ≠ 0) (hk : 0 < t.kids.length) (ha : ∀ s ∈ t.kids, uU h s /\ 2 <= s.keys.length) : uU (h + 1) t :=
 .inr ⟨fun e => by rw [e] at hk; exact absurd hk (by decide), ha⟩
theorem iK {t : PT} (h : qB t) (h0 : t.kids = []) : bD t = bU t := by rw [eH h, h0, List.map_nil, oV]
theorem oW {k v : List ByteArray} {c : List PT} (h1 : v.length = k.length) (h2 : k.length <= 4) (h3 : c.length = 0 ∨ c.length = k.length + 1) (h4 : ∀ s ∈ c, mG s) : mG (.mk k v c) := cz.2 ⟨⟨h1, h2, h3⟩, h4⟩
theorem Lj {l m : List ByteArray} (hm : m.length = l.length) (h0 : 0 < l.length) : l.zip m = (l.take (l.length - 1)).zip (m.take (l.length - 1)) ++ [(bF l (l.length - 1), bF m (l.length - 1))] := by
 have := kZ (l := l) (m := m) (i := l.length - 1) (by omega) hm
 rw [List.drop_eq_nil_of_le (by rw [xu hm]; omega), wH] at this
 exact this
theorem Rc {l m : List ByteArray} (hm : m.length = l.length) (h0 : 0 < l.length) : l.zip m = (bF l 0, bF m 0) :: (l.drop 1).zip (m.drop 1) := by
 have := kZ (l := l) (m := m) (i := 0) h0 hm
 rw [List.take_zero, List.nil_append, wI] at this
 exact this
structure rZ (h : Nat) (t : PT) : Prop where
 b : mG t
 l : uU h t
theorem Re {h : Nat} {l r : PT} (hl : rZ (h + 1) l) (hr : rZ (h + 1) r) (h2 : 2 < l.keys.length) (hr4 : r.keys.length <= 3) (x y : ByteArray) :
  (rZ (h + 1) (vI l) /\ 2 <= (vI l).keys.length) /\ (rZ (h + 1) (vJ l r x y) /\ (vJ l r x y).keys.length = r.keys.length + 1) /\
   bD (vI l) ++ (bF l.keys (l.keys.length - 1), bF l.vals (l.keys.length - 1)) :: bD (vJ l r x y) = bD l ++ (x, y) :: bD r := by
 obtain ⟨bl, ll⟩ := hl
 obtain ⟨br, lr⟩ := hr
 obtain ⟨⟨a1, a2, a3⟩, a4⟩ := cz.1 bl
 obtain ⟨⟨b1, b2, b3⟩, b4⟩ := cz.1 br
 have kl := jV bl ll
 have kr := jV br lr
 have sl := bZ bl
 have sr := bZ br
 cases l with | mk lk lv lc =>
 cases r with | mk rk rv rc =>
 simp only [PT.keys, PT.vals, PT.kids] at a1 a2 a3 a4 b1 b2 b3 b4 kl kr h2 hr4
 have zl := Lj a1 (by omega)
 have ins : ∀ (k : List ByteArray) (z : ByteArray), bz k 0 z = z :: k := fun k z => rfl
 have aam : (lk.take (lk.length - 1)).length = lk.length - 1 := by rw [List.length_take]; omega
 have ab1 : (lv.take (lk.length - 1)).length = lk.length - 1 := by rw [List.length_take]; omega
 rcases kl with ⟨rfl, rfl⟩ | ⟨h0, kl, la⟩
 ·rcases kr with ⟨_, rfl⟩ | ⟨h0, _⟩
  ·have e1 : vI (.mk lk lv []) = .mk (lk.take (lk.length - 1)) (lv.take (lk.length - 1)) [] := by simp [vI, PT.keys, PT.vals, PT.kids]
   have e2 : vJ (.mk lk lv []) (.mk rk rv []) x y = .mk (x :: rk) (y :: rv) [] := by simp [vJ, PT.keys, PT.vals, PT.kids, bz]
   have k1 : mG (.mk (lk.take (lk.length - 1)) (lv.take (lk.length - 1)) []) := oW (by omega) (by omega) (.inl rfl) (fun s hs => by cases hs)
   have k2 : mG (.mk (x :: rk) (y :: rv) []) := oW (by simp only [List.length_cons]; omega) (by simp only [List.length_cons]; omega) (.inl rfl) (fun s hs => by cases hs)
   rw [e1, e2]
   refine ⟨⟨⟨k1, xw rfl⟩, by show 2 <= (lk.take _).length; omega⟩, ⟨⟨k2, xw rfl⟩, rfl⟩, ?_⟩
   rw [iK (bZ k1) rfl, iK (bZ k2) rfl, iK sl rfl, iK sr rfl]
   show (lk.take _).zip (lv.take _) ++ _ :: (x, y) :: rk.zip rv = lk.zip lv ++ (x, y) :: rk.zip rv
   rw [zl, List.append_assoc]
   rfl
  ·exact absurd rfl h0
 ·rcases kr with ⟨e, _⟩ | ⟨_, kr, ra⟩
  ·exact absurd e h0
  ·obtain ⟨c, hc⟩ : ∃ c, lc[lk.length]? = some c := ⟨lc[lk.length]'(by omega), List.getElem?_eq_getElem (by omega)⟩
   have hcm := List.mem_of_getElem? hc
   have hs := uo hc
   rw [List.drop_eq_nil_of_le (by omega)] at hs
   have e1 : vI (.mk lk lv lc) = .mk (lk.take (lk.length - 1)) (lv.take (lk.length - 1)) (lc.take lk.length) := rfl
   have e2 : vJ (.mk lk lv lc) (.mk rk rv rc) x y = .mk (x :: rk) (y :: rv) (c :: rc) := by
    show PT.mk (bz rk 0 x) (bz rv 0 y) (if lc.length = 0 then rc else bz rc 0 (lc.getD lk.length _)) = _
    rw [if_neg (by omega), List.getD_eq_getElem?_getD, hc]
    rfl
   have k1 : mG (.mk (lk.take (lk.length - 1)) (lv.take (lk.length - 1)) (lc.take lk.length)) := oW (by omega) (by omega) (.inr (by rw [List.length_take]; omega)) (fun s hs => a4 s (List.mem_of_mem_take hs))
   have k2 : mG (.mk (x :: rk) (y :: rv) (c :: rc)) := oW (by simp only [List.length_cons]; omega) (by simp only [List.length_cons]; omega) (.inr (by simp only [List.length_cons]; omega)) (fun s hs => by
    rcases List.mem_cons.1 hs with rfl | hs
    ·exact a4 s hcm
    ·exact b4 s hs)
   rw [e1, e2]
   refine ⟨⟨⟨k1, pQ h0 (by show 0 < (lc.take _).length; rw [List.length_take]; omega) fun s hs => la s (List.mem_of_mem_take hs)⟩, by show 2 <= (lk.take _).length; omega⟩, ⟨⟨k2, pQ h0 (Nat.succ_pos _) fun s hs => ?_⟩, rfl⟩, ?_⟩
   ·rcases List.mem_cons.1 hs with rfl | hs
    ·exact la s hcm
    ·exact ra s hs
   rw [eH (bZ k1), eH (bZ k2), eH sl, eH sr]
   show bX ((lc.take lk.length).map bD) ((lk.take _).zip (lv.take _)) ++ _ :: bX (bD c :: rc.map bD) ((x, y) :: rk.zip rv) = bX (lc.map bD) (lk.zip lv) ++ (x, y) :: bX (rc.map bD) (rk.zip rv)
   rw [zl]
   conv => rhs; rw [hs]
   rw [List.map_append, pO _ _ _ _ _ (by rw [List.length_map, List.length_take, List.length_zip]; omega), List.append_assoc]
   show _ ++ _ :: (bD c ++ _) = _ ++ (_ :: _ ++ _)
   rw [List.map_cons, List.map_nil, uS (bD c) []]
   simp [tailW, PT.keys, PT.vals]
theorem Rf {h : Nat} {l r : PT} (hl : rZ (h + 1) l) (hr : rZ (h + 1) r) (h2 : 2 < r.keys.length) (hl4 : l.keys.length <= 3) (x y : ByteArray) :
  (rZ (h + 1) (um l r x y) /\ (um l r x y).keys.length = l.keys.length + 1) /\ (rZ (h + 1) (vK r) /\ 2 <= (vK r).keys.length) /\
   bD (um l r x y) ++ (bF r.keys 0, bF r.vals 0) :: bD (vK r) = bD l ++ (x, y) :: bD r := by
 obtain ⟨bl, ll⟩ := hl
 obtain ⟨br, lr⟩ := hr
 obtain ⟨⟨a1, a2, a3⟩, a4⟩ := cz.1 bl
 obtain ⟨⟨b1, b2, b3⟩, b4⟩ := cz.1 br
 have kl := jV bl ll
 have kr := jV br lr
 have sl := bZ bl
 have sr := bZ br
 cases l with | mk lk lv lc =>
 cases r with | mk rk rv rc =>
 simp only [PT.keys, PT.vals, PT.kids] at a1 a2 a3 a4 b1 b2 b3 b4 kl kr h2 hl4
 have zr := Rc b1 (by omega)
 have zl : (lk ++ [x]).zip (lv ++ [y]) = lk.zip lv ++ [(x, y)] := List.zip_append (by omega)
 have UE : (lv ++ [y]).length = (lk ++ [x]).length /\ (lk ++ [x]).length = lk.length + 1 := ⟨by simp [a1], by simp⟩
 rcases kl with ⟨rfl, rfl⟩ | ⟨h0, kl, la⟩
 ·rcases kr with ⟨_, rfl⟩ | ⟨h0, _⟩
  ·have e1 : um (.mk lk lv []) (.mk rk rv []) x y = .mk (lk ++ [x]) (lv ++ [y]) [] := by simp [um, PT.keys, PT.vals, PT.kids]
   have e2 : vK (.mk rk rv []) = .mk (rk.drop 1) (rv.drop 1) [] := by simp [vK, PT.keys, PT.vals, PT.kids]
   have k1 : mG (.mk (lk ++ [x]) (lv ++ [y]) []) := oW UE.1 (by omega) (.inl rfl) (fun s hs => by cases hs)
   have k2 : mG (.mk (rk.drop 1) (rv.drop 1) []) := oW (by rw [List.length_drop, List.length_drop]; omega) (by rw [List.length_drop]; omega) (.inl rfl) (fun s hs => by cases hs)
   rw [e1, e2]
   refine ⟨⟨⟨k1, xw rfl⟩, UE.2⟩, ⟨⟨k2, xw rfl⟩, by show 2 <= (rk.drop 1).length; rw [List.length_drop]; omega⟩, ?_⟩
   rw [iK (bZ k1) rfl, iK (bZ k2) rfl, iK sl rfl, iK sr rfl]
   show (lk ++ [x]).zip (lv ++ [y]) ++ _ :: (rk.drop 1).zip (rv.drop 1) = lk.zip lv ++ (x, y) :: rk.zip rv
   rw [zl, zr, List.append_assoc]
   rfl
  ·exact absurd rfl h0
 ·rcases kr with ⟨e, _⟩ | ⟨_, kr, ra⟩
  ·exact absurd e h0
  ·cases rc with
   | nil => simp only [List.length_nil] at kr; omega
   | cons c rc =>
   simp only [List.length_cons] at kr
   have e1 : um (.mk lk lv lc) (.mk rk rv (c :: rc)) x y = .mk (lk ++ [x]) (lv ++ [y]) (lc ++ [c]) := by simp [um, PT.keys, PT.vals, PT.kids, fJ]
   have e2 : vK (.mk rk rv (c :: rc)) = .mk (rk.drop 1) (rv.drop 1) rc := rfl
   have k1 : mG (.mk (lk ++ [x]) (lv ++ [y]) (lc ++ [c])) := oW UE.1 (by omega) (.inr (by rw [List.length_append, UE.2]; simp only [List.length_cons, List.length_nil]; omega)) (fun s hs => by
    rcases List.mem_append.1 hs with hs | hs
    ·exact a4 s hs
    ·exact b4 s (by rw [List.mem_singleton.1 hs]; exact List.mem_cons_self))
   have k2 : mG (.mk (rk.drop 1) (rv.drop 1) rc) := oW (by rw [List.length_drop, List.length_drop]; omega) (by rw [List.length_drop]; omega) (.inr (by rw [List.length_drop]; omega)) (fun s hs => b4 s (List.mem_cons_of_mem _ hs))
   rw [e1, e2]
   refine ⟨⟨⟨k1, pQ h0 (by show 0 < (lc ++ [c]).length; rw [List.length_append]; simp only [List.length_cons, List.length_nil]; omega) fun s hs => ?_⟩, UE.2⟩, ⟨⟨k2, pQ h0 (by show 0 < rc.length; omega) fun s hs => ra s (List.mem_cons_of_mem _ hs)⟩, by show 2 <= (rk.drop 1).length; rw [List.length_drop]; omega⟩, ?_⟩
   ·rcases List.mem_append.1 hs with hs | hs
    ·exact la s hs
    ·exact ra s (by rw [List.mem_singleton.1 hs]; exact List.mem_cons_self)
   rw [eH (bZ k1), eH (bZ k2), eH sl, eH sr]
   show bX ((lc ++ [c]).map bD) ((lk ++ [x]).zip (lv ++ [y])) ++ _ :: bX (rc.map bD) ((rk.drop 1).zip (rv.drop 1)) = bX (lc.map bD) (lk.zip lv) ++ (x, y) :: bX (bD c :: rc.map bD) (rk.zip rv)
   rw [zl, zr, List.map_append, pO _ _ _ _ _ (by rw [List.length_map, List.length_zip]; omega), List.append_assoc]
   show _ ++ (_ :: _ ++ _ :: _) = _ ++ _ :: (bD c ++ _ :: _)
   rw [List.map_cons, List.map_nil, uS (bD c) []]
   simp [tailW, PT.keys, PT.vals]
theorem Hl {h : Nat} {l r : PT} (hl : rZ (h + 1) l) (hr : rZ (h + 1) r) (h4 : l.keys.length + r.keys.length <= 3) (x y : ByteArray) :
  rZ (h + 1) (Cr l r x y) /\ (Cr l r x y).keys.length = l.keys.length + r.keys.length + 1 /\ bD (Cr l r x y) = bD l ++ (x, y) :: bD r := by
 obtain ⟨bl, ll⟩ := hl
 obtain ⟨br, lr⟩ := hr
 obtain ⟨⟨a1, a2, a3⟩, a4⟩ := cz.1 bl
 obtain ⟨⟨b1, b2, b3⟩, b4⟩ := cz.1 br
 have kl := jV bl ll
 have kr := jV br lr
 have sl := bZ bl
 have sr := bZ br
 cases l with | mk lk lv lc =>
 cases r with | mk rk rv rc =>
 simp only [PT.keys, PT.vals, PT.kids] at a1 a2 a3 a4 b1 b2 b3 b4 kl kr h4
 have e1 : Cr (.mk lk lv lc) (.mk rk rv rc) x y = .mk (lk ++ x :: rk) (lv ++ y :: rv) (lc ++ rc) := rfl
 have len : (lk ++ x :: rk).length = lk.length + rk.length + 1 /\ (lv ++ y :: rv).length = lk.length + rk.length + 1 := by simp only [List.length_append, List.length_cons]; omega
 have hz : (lk ++ x :: rk).zip (lv ++ y :: rv) = lk.zip lv ++ (x, y) :: rk.zip rv := by rw [List.zip_append (by omega), List.zip_cons_cons]
 have kb : mG (.mk (lk ++ x :: rk) (lv ++ y :: rv) (lc ++ rc)) := oW (by omega) (by omega) (by
  rw [List.length_append]
  rcases kl with ⟨rfl, rfl⟩ | ⟨h0, kl, la⟩ <;> rcases kr with ⟨hh, rfl⟩ | ⟨h0', kr, ra⟩
  ·exact .inl rfl
  ·exact absurd rfl h0'
  ·exact absurd hh h0
  ·right; omega) (fun s hs => by
  rcases List.mem_append.1 hs with hs | hs
  ·exact a4 s hs
  ·exact b4 s hs)
 rw [e1]
 refine ⟨⟨kb, ?_⟩, len.1, ?_⟩
 ·rcases kl with ⟨rfl, rfl⟩ | ⟨h0, kl, la⟩ <;> rcases kr with ⟨hh, rfl⟩ | ⟨h0', kr, ra⟩
  ·exact xw rfl
  ·exact absurd rfl h0'
  ·exact absurd hh h0
  ·refine pQ h0 (by show 0 < (lc ++ rc).length; rw [List.length_append]; omega) fun s hs => ?_
   rcases List.mem_append.1 hs with hs | hs
   ·exact la s hs
   ·exact ra s hs
 ·rw [eH (bZ kb), eH sl, eH sr]
  show bX ((lc ++ rc).map bD) ((lk ++ x :: rk).zip (lv ++ y :: rv)) = bX (lc.map bD) (lk.zip lv) ++ (x, y) :: bX (rc.map bD) (rk.zip rv)
  rw [hz, List.map_append]
  rcases kl with ⟨rfl, rfl⟩ | ⟨h0, kl, la⟩ <;> rcases kr with ⟨hh, rfl⟩ | ⟨h0', kr, ra⟩
  ·simp only [List.map_nil, List.nil_append, oV]
  ·exact absurd rfl h0'
  ·exact absurd hh h0
  ·exact pO _ _ _ _ _ (by rw [List.length_map, List.length_zip]; omega)
end Go.Proofs.Ytoddejmlcnbdmaa.Pure
namespace Go.Proofs.Ytoddejmlcnbdmaa.Tree
set_option maxHeartbeats 8000000
set_option maxRecDepth 100000
def WR (w : World) (base T E : Nat) (t : NT) (L : List Ck) (r : PT) (e : Ending) (w' : World) : Prop :=
 e = .returned (.tuple #[]) /\ ∃ t' : NT, t'.p = t.p /\ t'.erase = r /\ Sat w' base (t'.fB T E ++ L) /\ Below base w w'
theorem Rh {l : List NT} {i : Nat} {p : Nat} {s : NT} (h : l[i]? = some s) (hp : s.p = p := by rfl) : (l.map NT.p).set i p = l.map NT.p := by
 refine List.ext_getElem? fun j => ?_
 rw [List.getElem?_set]
 by_cases hj : i = j
 ·subst hj
  have hl : i < l.length := (List.getElem?_eq_some_iff.1 h).1
  rw [if_pos rfl, if_pos (by rw [List.length_map]; exact hl), List.getElem?_map, h, <- hp]
  rfl
 ·rw [if_neg hj]
theorem eO {w : World} {base E : Nat} {v : Value} {l : List NT} (h : PQ E w base v (l.map NT.p)) : ∃ A c, v = .slice A l.length c /\ l.length <= c /\ gL.C w A l.length (l.map NT.p) := by
 obtain ⟨A, c, e, h1, h2⟩ := Kd.Qa h
 rw [List.length_map] at e h1 h2
 exact ⟨A, c, e, h1, h2⟩
set_option maxHeartbeats 8000000
set_option maxRecDepth 100000
def rH (T E : Nat) (t : NT) (L : List Ck) : List (List Ck) :=
 [[.box T t.p #[t.kv, t.vv, t.cv]], [txt t.kv t.keys], [txt t.vv t.vals], [.kT E t.cv (ptrs t.kids)], NT.bI T E t.kids, L]
theorem Cs {T E : Nat} {t : NT} {L : List Ck} : (rH T E t L).flatten = t.fB T E ++ L := by
 rw [NT.kK]
 unfold rH NT.head
 simp only [List.flatten_cons, List.flatten_nil, List.append_assoc, List.cons_append, List.nil_append, List.append_nil]
theorem jb {w : World} {base T E : Nat} {t : NT} {L : List Ck} (hs : Sat w base (t.fB T E ++ L)) : aa w base (rH T E t L) := by
 unfold aa
 rw [Cs]
 exact hs
theorem lK {w : World} {base T E : Nat} {t : NT} {L : List Ck} (hs : aa w base (rH T E t L)) : Sat w base (t.fB T E ++ L) := by
 unfold aa at hs
 rw [Cs] at hs
 exact hs
theorem ik {w : World} {base g n c : Nat} {l : List ByteArray} (h : SR w base (.slice (some ⟨g, 0, none⟩) n c) l) (hl : 0 < l.length) (j : Nat) : w.frozen? ⟨g, j, none⟩ = false := by
 obtain ⟨g', c', e, _, _, cells, hc⟩ := Kd.uL h hl
 injection e with e1 e2 e3
 injection e1 with e1
 injection e1 with e1
 subst e1
 exact ax hc j
theorem Tj {w : World} {base g n c : Nat} {l : List ByteArray} (h : SR w base (.slice (some ⟨g, 0, none⟩) n c) l) (i : Nat) (hi : i < l.length) : w.cell? ⟨g, i, none⟩ = some (.string (cK ByteArray.empty l (i : Int))) := by
 obtain ⟨h1, h2, h3⟩ := Kd.gm h
 obtain ⟨ad', e, hz⟩ := Kd.cO h3 (i : Int) (by omega) (by omega)
 injection e with e
 subst e
 rw [Int.toNat_natCast] at hz
 have : (⟨g, 0, none⟩ : Addr).add i = ⟨g, i, none⟩ := by simp only [Addr.add]; split <;> simp_all
 rw [this] at hz
 exact hz
theorem bN (t : NT) : t.erase.keys = t.keys := by cases t; rfl
theorem yj (t : NT) : t.erase.vals = t.vals := by cases t; rfl
theorem rJ (t : NT) : t.erase.kids = t.kids.map NT.erase := by cases t; exact aN _
theorem cZ (t : NT) : t.erase.kids.length = t.kids.length := by rw [rJ, List.length_map]
def kL (T E : Nat) (t l r : NT) (P Q : List NT) (L : List Ck) : List (List Ck) :=
 [[.box T t.p #[t.kv, t.vv, t.cv]], [txt t.kv t.keys], [txt t.vv t.vals], [.kT E t.cv (ptrs t.kids)],
   [.box T l.p #[l.kv, l.vv, l.cv]], [txt l.kv l.keys], [txt l.vv l.vals], [.kT E l.cv (ptrs l.kids)], NT.bI T E l.kids,
   [.box T r.p #[r.kv, r.vv, r.cv]], [txt r.kv r.keys], [txt r.vv r.vals], [.kT E r.cv (ptrs r.kids)], NT.bI T E r.kids, NT.bI T E P, NT.bI T E Q ++ L]
theorem aan (X A B Z : List Ck) : (X ++ (A ++ (B ++ Z))).Perm (A ++ (B ++ (X ++ Z))) := (List.perm_append_comm_assoc X A _).trans (.append_left A (List.perm_append_comm_assoc X B Z))
theorem Hm {T E : Nat} {t l r : NT} {P Q : List NT} {L : List Ck} (h : t.kids = P ++ l :: r :: Q) : (t.fB T E ++ L).Perm (kL T E t l r P Q L).flatten := by
 rw [NT.kK, h, jP, NT.bI, NT.bI, NT.kK T E l, NT.kK T E r]
 unfold kL NT.head
 rw [h]
 simp only [List.flatten_cons, List.flatten_nil, List.append_assoc, List.cons_append, List.nil_append, List.append_nil]
 refine .cons _ (.cons _ (.cons _ (.cons _ ?_)))
 exact aan (NT.bI T E P) (.box T l.p #[l.kv, l.vv, l.cv] :: txt l.kv l.keys :: txt l.vv l.vals :: .kT E l.cv (ptrs l.kids) :: NT.bI T E l.kids) (.box T r.p #[r.kv, r.vv, r.cv] :: txt r.kv r.keys :: txt r.vv r.vals :: .kT E r.cv (ptrs r.kids) :: NT.bI T E r.kids) (NT.bI T E Q ++ L)
theorem open_pair {w : World} {base T E : Nat} {t l r : NT} {P Q : List NT} {L : List Ck} (h : t.kids = P ++ l :: r :: Q) (hs : Sat w base (t.fB T E ++ L)) : aa w base (kL T E t l r P Q L) := Sat.perm hs (Hm h)
theorem shut_pair {w : World} {base T E : Nat} {t l r : NT} {P Q : List NT} {L : List Ck} (h : t.kids = P ++ l :: r :: Q) (hs : aa w base (kL T E t l r P Q L)) : Sat w base (t.fB T E ++ L) := Sat.perm hs (Hm h).symm
def Ll (T E : Nat) (t l : NT) (P Q : List NT) (L : List Ck) : List (List Ck) :=
 [[.box T t.p #[t.kv, t.vv, t.cv]], [txt t.kv t.keys], [txt t.vv t.vals], [.kT E t.cv (ptrs t.kids)],
   [.box T l.p #[l.kv, l.vv, l.cv]], [txt l.kv l.keys], [txt l.vv l.vals], [.kT E l.cv (ptrs l.kids)], NT.bI T E l.kids, NT.bI T E P, NT.bI T E Q ++ L]
theorem Tk {T E : Nat} {t l : NT} {P Q : List NT} {L : List Ck} (h : t.kids = P ++ l :: Q) : (t.fB T E ++ L).Perm (Ll T E t l P Q L).flatten := by
 rw [NT.kK, h, jP, NT.bI, NT.kK T E l]
 unfold Ll NT.head
 rw [h]
 simp only [List.flatten_cons, List.flatten_nil, List.append_assoc, List.cons_append, List.nil_append, List.append_nil]
 refine .cons _ (.cons _ (.cons _ (.cons _ ?_)))
 exact List.perm_append_comm_assoc (NT.bI T E P) (.box T l.p #[l.kv, l.vv, l.cv] :: txt l.kv l.keys :: txt l.vv l.vals :: .kT E l.cv (ptrs l.kids) :: NT.bI T E l.kids) (NT.bI T E Q ++ L)
theorem Lm {w : World} {base T E : Nat} {t l : NT} {P Q : List NT} {L : List Ck} (h : t.kids = P ++ l :: Q) (hs : aa w base (Ll T E t l P Q L)) : Sat w base (t.fB T E ++ L) := Sat.perm hs (Tk h).symm
section
variable {w w1 W : World} {base T p : Nat} {gs : List (List Ck)} {a b c : Value}
theorem aa.Eb (h : aa w base gs) (i : Nat) (hi : gs[i]? = some [.box T p #[a, b, c]]) (u : Value) : aa (w.setCell ⟨p, 0, none⟩ u) base (gs.set i [.box T p #[u, b, c]]) := h.put i hi 0 u rfl
theorem aa.Ec (h : aa w base gs) (i : Nat) (hi : gs[i]? = some [.box T p #[a, b, c]]) (u : Value) : aa (w.setCell ⟨p, 1, none⟩ u) base (gs.set i [.box T p #[a, u, c]]) := h.put i hi 1 u rfl
theorem aa.zo (h : aa w base gs) (i : Nat) (hi : gs[i]? = some [.box T p #[a, b, c]]) (u : Value) : aa (w.setCell ⟨p, 2, none⟩ u) base (gs.set i [.box T p #[a, b, u]]) := h.put i hi 2 u rfl
theorem aa.z0 (h : aa w base gs) (i : Nat) (hi : gs[i]? = some [.box T p #[a, b, c]]) : w.cell? ⟨p, 0, none⟩ = some a := h.z i hi 0
theorem aa.z1 (h : aa w base gs) (i : Nat) (hi : gs[i]? = some [.box T p #[a, b, c]]) : w.cell? ⟨p, 1, none⟩ = some b := h.z i hi 1
theorem aa.z2 (h : aa w base gs) (i : Nat) (hi : gs[i]? = some [.box T p #[a, b, c]]) : w.cell? ⟨p, 2, none⟩ = some c := h.z i hi 2
theorem iY {g n c i : Nat} {l : List ByteArray} {x : ByteArray} (h : SR w base (.slice (some ⟨g, 0, none⟩) n c) l) (hx : i < l.length /\ bF l i = x) : w.cell? ⟨g, i, none⟩ = some (.string x) := by
 rw [Tj h i hx.1]
 unfold cK
 rw [Int.toNat_natCast, <- hx.2]
 rfl
theorem il {ad : Addr} {n c i p : Nat} {l : List NT} {k : NT} (h : n = l.length /\ n <= c /\ gL.C w (some ad) n (l.map NT.p)) (hk : l[i]? = some k /\ k.p = p) : w.cell? (ad.add i) = some (bO p) := by
 have hi : i < l.length := (List.getElem?_eq_some_iff.1 hk.1).1
 obtain ⟨ad', e, hz⟩ := Ny h.2.2 (i : Int) (by omega) (by omega)
 obtain rfl : ad = ad' := Option.some.inj e
 rw [Int.toNat_natCast] at hz
 rw [hz]
 unfold cK
 rw [Int.toNat_natCast, List.getD_eq_getElem?_getD, List.getElem?_map, hk.1, <- hk.2]
 rfl
theorem gq {E n c : Nat} {Ad : Option Addr} {l : List NT} (h : PQ E w base (.slice Ad n c) (l.map NT.p)) (hl : 0 < l.length) : ∃ ad, Ad = some ad := by
 obtain ⟨h1, h2, h3⟩ := Kd.wD h
 rw [List.length_map] at h1 h3
 obtain ⟨ad, e, _⟩ := Ny h3 0 (by omega) (by omega)
 exact ⟨ad, e⟩
theorem dP {n c : Nat} {Ad : Option Addr} {l : List ByteArray} (h : SR w base (.slice Ad n c) l) (hl : 0 < l.length) : ∃ g, Ad = some ⟨g, 0, none⟩ := by
 obtain ⟨g, _, e, _, _, _⟩ := Kd.uL h hl
 injection e with e
 exact ⟨g, e⟩
end
section
variable {P : Program} {ops : Array Oper} {rest : List Oper} {o : Oper} {a : Act} {Q' : Exit -> Act -> World -> Prop} {Kc : Act -> World -> Prop}
theorem XN {w0 W : World} (base : Nat) (t ty e : TypeId) (ht : P.underlying t = some (.slice e)) (hinfo : (P.info? e).map (fun i => (i.zero, i.size, i.bytes)) = some (some (.pointer none), 1, 8))
  (v : Value) (xs ys : List Nat) (A : Option Addr) (m c : Nat) (HO : PQ e W base v xs) (HR : gL.C W A m ys) (hbase : base <= W.heap.size) (hl : (xs.length + m) * 8 <= 140737488355328) :
  ∃ v1 w1, (Builtin.append_ #[t, t] ty #[v, .slice A m c]).run P W = .ok v1 w1 /\ PQ e w1 base v1 (xs ++ ys) /\ W.grownBy w1 v.ownBlock /\ (v1.ownBlock = v.ownBlock ∨ ∃ b, v1.ownBlock = some b /\ W.heap.size <= b) := by
 obtain ⟨i0, hi, hzz⟩ := Option.map_eq_some_iff.1 hinfo
 simp only [Prod.mk.injEq] at hzz
 obtain ⟨hz0, hz1, hz2⟩ := hzz
 have hm : ys.length = m := HR.1
 have hq := HO
 obtain ⟨_, inner, ho, hr⟩ := HO
 have e1 := DT (n := 0) (enc := bO) hr
 subst e1
 rcases Nat.eq_zero_or_pos m with h0 | h0
 ·subst h0
  obtain rfl : ys = [] := List.eq_nil_of_length_eq_zero hm
  refine ⟨v, W, ?_, by rw [List.append_nil]; exact hq, World.grownBy.refl W _, .inl rfl⟩
  rcases ho.2 with ⟨h1, B, rfl, _⟩ | ⟨g, off, cap, cur, rfl, _, _, hnc, _⟩
  ·rw [show xs.length = 0 from h1] at *
   cases A <;> cases B <;> simp [Builtin.append_, run_underlying ht, sizeOf, typeInfo, hi, Builtin.lenOf, Builtin.firstCells, storeCells, loadCells, loadCellsFrom, hz1]
  ·cases A <;> simp [Builtin.append_, run_underlying ht, sizeOf, typeInfo, hi, Builtin.lenOf, Builtin.firstCells, hnc, storeCells, loadCells, loadCellsFrom, hz1]
 ·obtain ⟨ad, e2, _⟩ := HR.2.2 h0
  subst e2
  obtain ⟨news, hnr, hnc⟩ := gU.NJ HR
  have e3 := DT (n := 0) (enc := bO) hnr
  subst e3
  obtain ⟨v1, w1, hrun, hq1, hg, hat⟩ := Ed (P := P) W base t ty e i0 (.pointer none) 1 8 ht hi hz0 hz1 hz2 rfl (by decide) v xs.length _ ho ad m c _ (by rw [dD, hm, Nat.mul_one]) hnc (fun u hu => by
   obtain ⟨x, _, rfl⟩ := List.mem_map.1 hu
   rfl) h0 (by simp only [maxLen]; omega) hl hbase
  refine ⟨v1, w1, hrun, ?_, hg, hat⟩
  have e4 : encs bO xs ++ encs bO ys = encs bO (xs ++ ys) := by unfold encs; rw [List.map_append]
  rw [e4] at hq1
  refine DU ?_
  show kW w1 base e 1 v1 (encs bO (xs ++ ys)).length (encs bO (xs ++ ys))
  rw [dD, List.length_append, hm]
  exact hq1
theorem VQ {W : World} {base e : Nat} {v : Value} {xs : List Nat} (HO : PQ e W base v xs) : ∀ k, v.ownBlock = some k -> base <= k := by
 obtain ⟨_, inner, ho, _⟩ := HO
 exact fun k hk => (Da ho k hk).1
theorem lX {w0 W : World} (base : Nat) (hw : Region.wanted o (yielded ops a.tmps) = true) (s x : Operand) (t e : TypeId) (ho : o.op = .call { callee := .builtin .append, args := #[s, x], argTypes := #[t, t] })
  (ht : P.underlying t = some (.slice e)) (hinfo : (P.info? e).map (fun i => (i.zero, i.size, i.bytes)) = some (some (.pointer none), 1, 8))
  (v : Value) (xs ys : List Nat) (A : Option Addr) (m c : Nat) (hs : a.eval s = v) (hx : a.eval x = .slice A m c) (HO : PQ e W base v xs) (HR : gL.C W A m ys) (HB : Below base w0 W) (hbase : base <= W.heap.size) (hl : (xs.length + m) * 8 <= 140737488355328)
  (h : ∀ v1 w1, PQ e w1 base v1 (xs ++ ys) -> Below base w0 w1 -> W.grownBy w1 v.ownBlock -> (v1.ownBlock = v.ownBlock ∨ ∃ b, v1.ownBlock = some b /\ W.heap.size <= b) -> Kc (a.put o.dst v1) w1) :
  if Region.wanted o (yielded ops a.tmps) = true then Oper.wp P o a W Kc Q' else Kc (a.put o.dst undef) W := by
 obtain ⟨v1, w1, hr, h1, h3, h4⟩ := XN (P := P) (w0 := w0) base t o.type e ht hinfo v xs ys A m c HO HR hbase hl
 rw [if_pos hw]
 unfold Oper.wp execOp
 simp only [ho, resolve, invoke, builtin, Sem.run_bind, Sem.run_pure, Result.andThen_ok, List.map_toArray, List.map_cons, List.map_nil, hs, hx, hr]
 exact h v1 w1 h1 (HB.grown h3 hbase (VQ HO)) h3 h4
end
section
variable {w w1 W : World} {base : Nat} {gs : List (List Ck)}
theorem aa.Tm {E : Nat} {x y : List NT} {u u1 : Value} (i : Nat) (h : aa W base gs) (hi : gs[i]? = some [.kT E u (ptrs x)]) (ho : PQ E w1 base u1 (y.map NT.p)) (hg : W.grownBy w1 u.ownBlock) (hat : u1.ownBlock = u.ownBlock ∨ ∃ b, u1.ownBlock = some b /\ W.heap.size <= b) : aa w1 base (gs.set i [.kT E u1 (ptrs y)]) := by
 have h3 := GI ho
 rw [<- fu] at h3
 exact h.turn i hi (Sat.one h3) ⟨hg.size, fun k hk hnot => hg.block k hk fun he => hnot ⟨_, List.mem_singleton_self _, he.symm⟩⟩ (si hat)
theorem aa.rM (h : aa w base gs) (i : Nat) {g n c : Nat} {l l' : List ByteArray} (hi : gs[i]? = some [txt (.slice (some ⟨g, 0, none⟩) n c) l]) (j : Nat) (x : ByteArray) (hl : l' = l.set j x) :
  aa (w.setCell ⟨g, j, none⟩ (.string x)) base (gs.set i [txt (.slice (some ⟨g, 0, none⟩) n c) l']) := by
 obtain ⟨rfl, _, _⟩ := h.row i hi
 subst hl
 have := h.NB i hi j x
 rw [List.length_set] at this
 exact this
theorem vL (h : aa w base gs) (i : Nat) {g n c j : Nat} {l : List ByteArray} {x : ByteArray} (hi : gs[i]? = some [txt (.slice (some ⟨g, 0, none⟩) n c) l]) (hx : j < l.length /\ bF l j = x) : base <= g := by
 obtain ⟨g', c', e, hb, _, _⟩ := Kd.uL (h.sr i hi) (by omega)
 injection e with e1 e2 e3
 injection e1 with e1
 injection e1 with e1
 subst e1
 exact hb
theorem yl {ad : Addr} {n c i p : Nat} {l : List NT} {k : NT} (h : n = l.length /\ n <= c /\ gL.C w (some ad) n (l.map NT.p)) (hk : l[i]? = some k /\ k.p = p) (hi : 0 < i) : w.cell? ⟨ad.block, ad.off + i, none⟩ = some (bO p) := by
 have := il h hk
 unfold Addr.add at this
 rw [if_neg (by omega)] at this
 exact this
theorem wJ {ad : Addr} {n c p : Nat} {l : List NT} {k : NT} (h : n = l.length /\ n <= c /\ gL.C w (some ad) n (l.map NT.p)) (hk : l[0]? = some k /\ k.p = p) : w.cell? ad = some (bO p) := by
 have := il h hk
 unfold Addr.add at this
 rw [if_pos rfl] at this
 exact this
theorem Ho {α β : Type} (f : α -> β) (l : List α) (i : Nat) : (l.eraseIdx i).map f = (l.map f).eraseIdx i := by
 rw [List.eraseIdx_eq_take_drop_succ, List.eraseIdx_eq_take_drop_succ, List.map_append, List.map_take, List.map_drop]
theorem Ee {α : Type} {l r : α} {Q : List α} : ∀ P : List α, (P ++ l :: r :: Q).eraseIdx (P.length + 1) = P ++ l :: Q
 | [] => rfl
 | p :: P => by
  show p :: (P ++ l :: r :: Q).eraseIdx (P.length + 1) = _
  rw [Ee P]
  rfl
theorem Hq {P Q : List NT} {l r m : NT} (hm : m.p = l.p) : ptrs ((P ++ l :: r :: Q).eraseIdx (P.length + 1)) = ptrs (P ++ m :: Q) := by
 rw [Ee]
 simp only [ptrs, List.map_append, List.map_cons, hm]
def Lp (l : List NT) (i p : Nat) : Prop := ∃ s : NT, l[i]? = some s /\ s.p = p
theorem aa.aao {A B : List Ck} (h : aa w base gs) (i : Nat) (hi : gs[i]? = some (A ++ B)) : aa w base (gs.set i B ++ [A]) := by
 have hl : i < gs.length := (List.getElem?_eq_some_iff.1 hi).1
 have h1 : aa w base (gs.set i (B ++ A)) := by
  obtain ⟨h1, h2⟩ := rz hi (B ++ A)
  exact Sat.perm (Sat.perm h h1) ((List.perm_append_comm.append_right _).trans h2.symm)
 have := h1.cut i (by rw [List.getElem?_set_self hl])
 rw [List.set_set] at this
 exact this
theorem pR {T E i : Nat} {t s : NT} {L : List Ck} (hs : Sat w base (t.fB T E ++ L)) (h : t.kids[i]? = some s) : ∃ A c, w.cell? ⟨s.p, 0, none⟩ = some (.slice A s.keys.length c) := by
 have h1 := jb (hs.perm (zf L h))
 obtain ⟨A, c, e⟩ := Kd.au (h1.sr 1 rfl)
 have h2 := h1.z 0 rfl 0
 rw [e] at h2
 exact ⟨A, c, h2⟩
theorem aap (h : aa w base gs) (i : Nat) {E : Nat} {Ad : Option Addr} {n c : Nat} {l : List NT} (hi : gs[i]? = some [.kT E (.slice Ad n c) (ptrs l)]) : gL.C w Ad n (l.map NT.p) := (h.gX i hi).2.2
theorem aaq (h : aa w base gs) (i : Nat) {E : Nat} {Ad : Option Addr} {n c : Nat} {l : List Nat} (hi : gs[i]? = some [.own E (.slice Ad n c) (encs bO l)]) : gL.C w Ad n l := by
 obtain ⟨rfl, _, h3⟩ := Kd.gm (h.abZ i hi)
 exact h3
theorem F5 (h : aa w base gs) (i : Nat) {Ad : Option Addr} {n c : Nat} {l : List ByteArray} (hi : gs[i]? = some [txt (.slice Ad n c) l]) : Kd.C Kd.string w Ad n l := by
 obtain ⟨rfl, _, h3⟩ := h.row i hi
 exact h3
theorem Qi {Ad : Option Addr} {n c m : Nat} {l l' : List ByteArray} (h : aa w base gs) (i : Nat) (hi : gs[i]? = some [txt (.slice Ad n c) l]) (hl : l' = l.take m) (hm : m <= n) : aa w base (gs.set i [txt (.slice Ad m c) l']) := by
 obtain ⟨rfl, _, _⟩ := h.row i hi
 subst hl
 exact h.VJ i hi m hm
theorem Qj {E : Nat} {Ad : Option Addr} {n c m : Nat} {l l' : List NT} (h : aa w base gs) (i : Nat) (hi : gs[i]? = some [.kT E (.slice Ad n c) (ptrs l)]) (hl : l' = l.take m) (hm : m <= n) : aa w base (gs.set i [.kT E (.slice Ad m c) (ptrs l')]) := by
 have h1 := (h.gX i hi).1
 subst hl
 exact h.aak i hi m (by omega)
theorem aar {E : Nat} {Ad A' : Option Addr} {n c k n' c' : Nat} {l l' : List NT} (h : aa w base gs) (i : Nat) (hi : gs[i]? = some [.kT E (.slice Ad n c) (ptrs l)]) (hl : l' = l.drop k) (hk : k <= n) (hA : A' = if c = k then Ad else Ad.map (·.add (k * 1))) (hn : n' = n - k) (hc : c' = c - k) : aa w base (gs.set i [.kT E (.slice A' n' c') (ptrs l')]) := by
 have h0 := (h.gX i hi).1
 have h1 := h.q i hi
 have h2 := Kd.XO (d := gL) h1 (k := k) (by rw [List.length_map]; omega)
 rw [<- List.map_drop] at h2
 have h3 := GI (E := E) (ps := (l.drop k).map NT.p) h2
 rw [<- fu] at h3
 subst hl
 subst hA
 subst hn
 subst hc
 refine h.turn i hi (Sat.one h3) (Kept.refl _ _) ?_
 rintro b ⟨d, hd, hb⟩
 rw [List.mem_singleton.1 hd] at hb
 refine .inl ⟨_, List.mem_singleton_self _, ?_⟩
 rw [<- hb]
 show Value.ownBlock _ = Value.ownBlock _
 split
 ·cases Ad <;> rfl
 ·cases Ad with
  | none => rfl
  | some a => simp [Value.ownBlock, VC]; unfold Addr.add; split <;> rfl
end
theorem jW {n m : Int} (h : n = m /\ -9223372036854775808 <= n /\ n <= 9223372036854775807) : wrap64 n = m := by unfold wrap64; omega
section
variable {tks tvs : List ByteArray} {P Q : List PT} {l r : PT} {j : Nat}
theorem Tn (hP : P.length = j) : fJ (.mk tks tvs (P ++ l :: r :: Q)) j = l := by
 unfold fJ
 subst hP
 show (P ++ l :: r :: Q).getD P.length _ = l
 rw [List.getD_eq_getElem?_getD, List.getElem?_append_right (Nat.le_refl _), Nat.sub_self]
 rfl
theorem Tp (hP : P.length = j) : fJ (.mk tks tvs (P ++ l :: r :: Q)) (j + 1) = r := by
 unfold fJ
 subst hP
 show (P ++ l :: r :: Q).getD (P.length + 1) _ = r
 rw [List.getD_eq_getElem?_getD, List.getElem?_append_right (by omega), Nat.add_sub_cancel_left]
 rfl
theorem Bt (hP : P.length = j) : (P ++ l :: r :: Q).take j = P := by subst hP; exact List.take_left
theorem Bu (hP : P.length = j) : (P ++ l :: r :: Q).drop (j + 2) = Q := by
 subst hP
 rw [List.drop_append, Nat.add_sub_cancel_left, List.drop_eq_nil_of_le (by omega)]
 rfl
theorem zq (hP : P.length = j) : D9 (.mk tks tvs (P ++ l :: r :: Q)) j = .mk (tks.set j (bF l.keys (l.keys.length - 1))) (tvs.set j (bF l.vals (l.keys.length - 1))) (P ++ vI l :: vJ l r (bF tks j) (bF tvs j) :: Q) := by
 unfold D9
 rw [Tn hP, Tp hP]
 show PT.mk _ _ ((P ++ l :: r :: Q).take j ++ _ :: _ :: (P ++ l :: r :: Q).drop (j + 2)) = _
 rw [Bt hP, Bu hP]
 rfl
theorem zt (hP : P.length = j) : Ea (.mk tks tvs (P ++ l :: r :: Q)) j = .mk (tks.set j (bF r.keys 0)) (tvs.set j (bF r.vals 0)) (P ++ um l r (bF tks j) (bF tvs j) :: vK r :: Q) := by
 unfold Ea
 rw [Tn hP, Tp hP]
 show PT.mk _ _ ((P ++ l :: r :: Q).take j ++ _ :: _ :: (P ++ l :: r :: Q).drop (j + 2)) = _
 rw [Bt hP, Bu hP]
 rfl
theorem zu (hP : P.length = j) : xQ (.mk tks tvs (P ++ l :: r :: Q)) j = .mk (tks.eraseIdx j) (tvs.eraseIdx j) (P ++ Cr l r (bF tks j) (bF tvs j) :: Q) := by
 unfold xQ
 rw [Tn hP, Tp hP]
 show PT.mk _ _ ((P ++ l :: r :: Q).take j ++ _ :: (P ++ l :: r :: Q).drop (j + 2)) = _
 rw [Bt hP, Bu hP]
 rfl
theorem Ri {α : Type} {P Q : List α} {l r : α} (hP : P.length = j) : (P ++ l :: r :: Q)[j]? = some l := by
 subst hP
 rw [List.getElem?_append_right (Nat.le_refl _), Nat.sub_self]
 rfl
theorem Rj {α : Type} {P Q : List α} {l r : α} (hP : P.length = j) : (P ++ l :: r :: Q)[j + 1]? = some r := by
 subst hP
 rw [List.getElem?_append_right (by omega), Nat.add_sub_cancel_left]
 rfl
def Jo (ks vs : List ByteArray) (cs : Nat) : Prop := ks.length <= 1000 /\ vs.length = ks.length /\ (cs = 0 ∨ cs = ks.length + 1)
end
section
variable {A : Option Addr} {n c : Nat} {w : World}
theorem Xg {l r : List ByteArray} (i : Nat) (iv : Int) (x : ByteArray) (hv : iv = (i : Int)) (hr : r = bz l i x) (h : n = l.length /\ n <= c /\ Kd.C Kd.string w A l.length l) (hi : i <= n /\ n <= 1000000) :
  Calls Try.prog 124 #[.slice A n c, .int .i64 iv, .string x] w fun e w' => ∃ kI : Value, e = .returned kI /\ Kd.string.R 9 w' w.heap.size (fun _ => True) kI r /\ Below w.heap.size w w' := by
 obtain ⟨rfl, h2, h3⟩ := h
 subst hv
 subst hr
 exact mf.calls A c l (i : Int) x _ w h3 h2 (NF x hi.1 (by omega))
theorem aas {l r : List NT} (i : Nat) (iv : Int) (k : NT) (p : Nat) (hp : k.p = p) (hv : iv = (i : Int)) (hr : r.map NT.p = bz (l.map NT.p) i p) (h : n = l.length /\ n <= c /\ gL.C w A n (l.map NT.p)) (hi : i <= n /\ n <= 1000000) :
  Calls Try.prog 125 #[.slice A n c, .int .i64 iv, bO p] w fun e w' => ∃ kI : Value, e = .returned kI /\ gL.R 70 w' w.heap.size (fun _ => True) kI (r.map NT.p) /\ Below w.heap.size w w' := by
 obtain ⟨rfl, h2, h3⟩ := h
 subst hv
 have hl : (l.map NT.p).length = l.length := List.length_map _
 have := jJ.calls A c (l.map NT.p) (i : Int) p _ w (by rw [hl]; exact h3) (by rw [hl]; exact h2) (F4 p (by omega) (by omega))
 rw [hl, <- hr] at this
 exact this
theorem Lr {l : List ByteArray} {i : Nat} (h : i < l.length) (hl : l.length <= 1000000000000) : dM.f l (i : Int) = some (l.eraseIdx i) := by
 unfold dM.f
 rw [List.eraseIdx_eq_take_drop_succ]
 have e1 : wrap64 ((i : Int) + 1) = ((i + 1 : Nat) : Int) := by unfold wrap64; omega
 simp only [Option.bind_some, Int.toNat_natCast, List.length_nil, List.nil_append, List.length_take, List.length_drop, List.length_append, e1]
 rw [if_pos (by omega), if_pos (by omega), if_pos (by omega), if_pos (by omega), if_pos (by omega), if_pos (by omega)]
theorem Rk {l r : List ByteArray} (i : Nat) (iv : Int) (hv : iv = (i : Int)) (hr : r = l.eraseIdx i) (h : n = l.length /\ n <= c /\ Kd.C Kd.string w A l.length l) (hi : i < n /\ n <= 1000000) :
  Calls Try.prog 112 #[.slice A n c, .int .i64 iv] w fun e w' => ∃ kI : Value, e = .returned kI /\ Kd.string.R 9 w' w.heap.size (fun _ => True) kI r /\ Below w.heap.size w w' := by
 obtain ⟨rfl, h2, h3⟩ := h
 subst hv
 subst hr
 exact dM.calls A c l (i : Int) _ w h3 h2 (Lr hi.1 (by omega))
theorem Ef {l : List Nat} {i : Nat} (h : i < l.length) (hl : l.length <= 1000000000000) : cu.f l (i : Int) = some (l.eraseIdx i) := by
 unfold cu.f
 rw [List.eraseIdx_eq_take_drop_succ]
 have e1 : wrap64 ((i : Int) + 1) = ((i + 1 : Nat) : Int) := by unfold wrap64; omega
 simp only [Option.bind_some, Int.toNat_natCast, List.length_nil, List.nil_append, List.length_take, List.length_drop, List.length_append, e1]
 rw [if_pos (by omega), if_pos (by omega), if_pos (by omega), if_pos (by omega), if_pos (by omega), if_pos (by omega)]
theorem aat {l r : List NT} (i : Nat) (iv : Int) (hv : iv = (i : Int)) (hr : r.map NT.p = (l.map NT.p).eraseIdx i) (h : n = l.length /\ n <= c /\ gL.C w A n (l.map NT.p)) (hi : i < n /\ n <= 1000000) :
  Calls Try.prog 129 #[.slice A n c, .int .i64 iv] w fun e w' => ∃ kI : Value, e = .returned kI /\ gL.R 70 w' w.heap.size (fun _ => True) kI (r.map NT.p) /\ Below w.heap.size w w' := by
 obtain ⟨rfl, h2, h3⟩ := h
 subst hv
 have hl : (l.map NT.p).length = l.length := List.length_map _
 have := cu.calls A c (l.map NT.p) (i : Int) _ w (by rw [hl]; exact h3) (by rw [hl]; exact h2) (Ef (by omega) (by omega))
 rw [hl, <- hr] at this
 exact this
end
end Go.Proofs.Ytoddejmlcnbdmaa.Tree
namespace Go.Proofs.Ytoddejmlcnbdmaa.Pure
section
variable {h j : Nat} {ks vs : List ByteArray} {P Q : List PT} {l r l' r' m : PT} {x y : ByteArray}
theorem Qk (hP : P.length = j) (hj : j < ks.length) (h1 : vs.length = ks.length) (h2 : ks.length <= 4) (h3 : (P ++ l :: r :: Q).length = ks.length + 1) (ho : ∀ s, s ∈ P ∨ s ∈ Q -> rZ h s /\ 2 <= s.keys.length) (hl : rZ h l' /\ 2 <= l'.keys.length) (hr : rZ h r' /\ 2 <= r'.keys.length)
  (he : bD l' ++ (x, y) :: bD r' = bD l ++ (bF ks j, bF vs j) :: bD r) :
  mG (.mk (ks.set j x) (vs.set j y) (P ++ l' :: r' :: Q)) /\ uU (h + 1) (.mk (ks.set j x) (vs.set j y) (P ++ l' :: r' :: Q)) /\ bD (.mk (ks.set j x) (vs.set j y) (P ++ l' :: r' :: Q)) = bX ((P ++ l :: r :: Q).map bD) (ks.zip vs) := by
 have hm : ∀ s ∈ P ++ l' :: r' :: Q, rZ h s /\ 2 <= s.keys.length := fun s hs => by
  rcases List.mem_append.1 hs with hs | hs
  ·exact ho s (.inl hs)
  ·rcases List.mem_cons.1 hs with rfl | hs
   ·exact hl
   ·rcases List.mem_cons.1 hs with rfl | hs
    ·exact hr
    ·exact ho s (.inr hs)
 have hlen : (P ++ l' :: r' :: Q).length = ks.length + 1 := by
  rw [<- h3]
  simp only [List.length_append, List.length_cons]
 have hb : mG (.mk (ks.set j x) (vs.set j y) (P ++ l' :: r' :: Q)) := oW (by rw [List.length_set, List.length_set]; exact h1) (by rw [List.length_set]; exact h2) (.inr (by rw [List.length_set]; exact hlen)) fun s hs => (hm s hs).1.b
 refine ⟨hb, pQ (by have := Df hl.1.l; omega) (by show 0 < (P ++ l' :: r' :: Q).length; omega) fun s hs => ⟨(hm s hs).1.l, (hm s hs).2⟩, ?_⟩
 have hI : P.length = ((ks.zip vs).take j).length := by rw [List.length_take, xu h1]; omega
 rw [eH (bZ hb)]
 show bX ((P ++ l' :: r' :: Q).map bD) ((ks.set j x).zip (vs.set j y)) = _
 rw [Jn _ _ hj h1, zm hI]
 conv => rhs; rw [kZ hj h1]
 rw [zm hI, <- List.cons_append, <- List.append_assoc (bD l'), he, List.append_assoc, List.cons_append]
theorem Ql (hP : P.length = j) (hj : j < ks.length) (h1 : vs.length = ks.length) (h2 : ks.length <= 4) (h3 : (P ++ l :: r :: Q).length = ks.length + 1) (ho : ∀ s, s ∈ P ∨ s ∈ Q -> rZ h s /\ 2 <= s.keys.length) (hl : rZ h m /\ 2 <= m.keys.length)
  (he : bD m = bD l ++ (bF ks j, bF vs j) :: bD r) :
  mG (.mk (ks.eraseIdx j) (vs.eraseIdx j) (P ++ m :: Q)) /\ uU (h + 1) (.mk (ks.eraseIdx j) (vs.eraseIdx j) (P ++ m :: Q)) /\ bD (.mk (ks.eraseIdx j) (vs.eraseIdx j) (P ++ m :: Q)) = bX ((P ++ l :: r :: Q).map bD) (ks.zip vs) := by
 have hm : ∀ s ∈ P ++ m :: Q, rZ h s /\ 2 <= s.keys.length := fun s hs => by
  rcases List.mem_append.1 hs with hs | hs
  ·exact ho s (.inl hs)
  ·rcases List.mem_cons.1 hs with rfl | hs
   ·exact hl
   ·exact ho s (.inr hs)
 have hlen : (P ++ m :: Q).length = ks.length := by
  simp only [List.length_append, List.length_cons] at h3 ⊢
  omega
 have el : ∀ (k : List ByteArray), k.length = ks.length -> (k.eraseIdx j).length = ks.length - 1 := fun k hk => by rw [List.length_eraseIdx_of_lt (by omega)]; omega
 have hb : mG (.mk (ks.eraseIdx j) (vs.eraseIdx j) (P ++ m :: Q)) := oW (by rw [el _ h1, el _ rfl]) (by rw [el _ rfl]; omega) (.inr (by rw [el _ rfl]; omega)) fun s hs => (hm s hs).1.b
 refine ⟨hb, pQ (by have := Df hl.1.l; omega) (by show 0 < (P ++ m :: Q).length; omega) fun s hs => ⟨(hm s hs).1.l, (hm s hs).2⟩, ?_⟩
 have hI : P.length = ((ks.zip vs).take j).length := by rw [List.length_take, xu h1]; omega
 rw [eH (bZ hb)]
 show bX ((P ++ m :: Q).map bD) ((ks.eraseIdx j).zip (vs.eraseIdx j)) = _
 rw [Hf h1, uT hI]
 conv => rhs; rw [kZ hj h1]
 rw [zm hI, he, List.append_assoc, List.cons_append]
end
theorem kz {t s : PT} {j : Nat} (h : t.kids[j]? = some s) : fJ t j = s := by
 unfold fJ
 rw [List.getD_eq_getElem?_getD, h]
 rfl
theorem Tq {α : Type} {l : List α} {j : Nat} {a b : α} (ha : l[j]? = some a) (hb : l[j + 1]? = some b) : l = l.take j ++ a :: b :: l.drop (j + 2) := by
 rw [<- fF hb, <- fF ha, List.take_append_drop]
theorem Jp {α : Type} {l : List α} {j : Nat} {s : α} (h : s ∈ l.take j) : ∃ i, i < j /\ l[i]? = some s := by
 obtain ⟨i, hi⟩ := List.getElem?_of_mem h
 have hlt := (List.getElem?_eq_some_iff.1 hi).1
 rw [List.length_take] at hlt
 refine ⟨i, by omega, ?_⟩
 rw [List.getElem?_take_of_lt (by omega)] at hi
 exact hi
theorem Jq {α : Type} {l : List α} {j : Nat} {s : α} (h : s ∈ l.drop j) : ∃ i, j <= i /\ l[i]? = some s := by
 obtain ⟨i, hi⟩ := List.getElem?_of_mem h
 rw [List.getElem?_drop] at hi
 exact ⟨j + i, by omega, hi⟩
theorem XP {h i : Nat} {ks vs : List ByteArray} {cs : List PT} (h1 : vs.length = ks.length) (h2 : ks.length <= 4) (h0 : 0 < ks.length) (h3 : cs.length = ks.length + 1) (hi : i < cs.length)
  (hk : ∀ (j : Nat) (s : PT), cs[j]? = some s -> rZ h s /\ (j ≠ i -> 2 <= s.keys.length) /\ 1 <= s.keys.length) :
  mG (uV (.mk ks vs cs) i) /\ uU (h + 1) (uV (.mk ks vs cs) i) /\ ks.length <= (uV (.mk ks vs cs) i).keys.length + 1 /\ bD (uV (.mk ks vs cs) i) = bX (cs.map bD) (ks.zip vs) := by
 have get : ∀ j, j < cs.length -> ∃ s, cs[j]? = some s /\ fJ (.mk ks vs cs) j = s := fun j hj => ⟨_, List.getElem?_eq_getElem hj, kz (t := .mk ks vs cs) (List.getElem?_eq_getElem hj)⟩
 obtain ⟨k, ck, ek⟩ := get i hi
 have kk := hk i k ck
 have hh : h ≠ 0 := by have := Df kk.1.l; omega
 unfold uV
 rw [ek]
 by_cases hlt : k.keys.length < 2
 ·rw [if_pos hlt]
  have others : ∀ j l r, j + 1 < cs.length -> cs[j]? = some l -> cs[j + 1]? = some r -> (j = i ∨ j + 1 = i) -> ∀ s, s ∈ cs.take j ∨ s ∈ cs.drop (j + 2) -> rZ h s /\ 2 <= s.keys.length := by
   intro j l r hj hl hr hor s hs
   rcases hs with hs | hs
   ·obtain ⟨n, hn, e⟩ := Jp hs
    exact ⟨(hk n s e).1, (hk n s e).2.1 (by omega)⟩
   ·obtain ⟨n, hn, e⟩ := Jq hs
    exact ⟨(hk n s e).1, (hk n s e).2.1 (by omega)⟩
  obtain ⟨g, rfl⟩ : ∃ g, h = g + 1 := ⟨h - 1, by omega⟩
  unfold Lh
  by_cases hA : 0 < i /\ 2 < (fJ (.mk ks vs cs) (i - 1)).keys.length
  ·rw [if_pos hA]
   obtain ⟨l, cl, el⟩ := get (i - 1) (by omega)
   rw [el] at hA
   have e1 : i - 1 + 1 = i := by omega
   have MQ : cs[i - 1 + 1]? = some k := by rw [e1]; exact ck
   have hp := Tq cl MQ
   have hl := (hk (i - 1) l cl).1
   have Fe : (cs.take (i - 1)).length = i - 1 := by rw [List.length_take]; omega
   have pp := Re hl kk.1 hA.2 (by omega) (bF ks (i - 1)) (bF vs (i - 1))
   have ok := Qk (ks := ks) (vs := vs) Fe (by omega) h1 h2 (by rw [<- hp]; exact h3) (others (i - 1) l k (by omega) cl MQ (.inr e1)) pp.1 ⟨pp.2.1.1, by have := pp.2.1.2; omega⟩ pp.2.2
   have e2 := zq (tks := ks) (tvs := vs) (P := cs.take (i - 1)) (l := l) (r := k) (Q := cs.drop (i - 1 + 2)) Fe
   rw [<- hp] at e2
   rw [e2]
   refine ⟨ok.1, ok.2.1, ?_, ?_⟩
   ·show ks.length <= (ks.set _ _).length + 1
    rw [List.length_set]
    omega
   ·rw [ok.2.2, <- hp]
  ·rw [if_neg hA]
   by_cases hB : i < ks.length
   ·obtain ⟨r, cr, er⟩ := get (i + 1) (by omega)
    have hp := Tq ck cr
    have hr := (hk (i + 1) r cr).1
    have Fe : (cs.take i).length = i := by rw [List.length_take]; omega
    by_cases hC : 2 < r.keys.length
    ·rw [if_pos ⟨hB, by rw [er]; exact hC⟩]
     have pp := Rf kk.1 hr hC (by omega) (bF ks i) (bF vs i)
     have ok := Qk (ks := ks) (vs := vs) Fe hB h1 h2 (by rw [<- hp]; exact h3) (others i k r (by omega) ck cr (.inl rfl)) ⟨pp.1.1, by have := pp.1.2; omega⟩ pp.2.1 pp.2.2
     have e2 := zt (tks := ks) (tvs := vs) (P := cs.take i) (l := k) (r := r) (Q := cs.drop (i + 2)) Fe
     rw [<- hp] at e2
     rw [e2]
     refine ⟨ok.1, ok.2.1, ?_, ?_⟩
     ·show ks.length <= (ks.set _ _).length + 1
      rw [List.length_set]
      omega
     ·rw [ok.2.2, <- hp]
    ·rw [if_neg (by rw [er]; omega), if_pos (show i < (PT.mk ks vs cs).keys.length from hB)]
     have pp := Hl kk.1 hr (by omega) (bF ks i) (bF vs i)
     have hr2 := (hk (i + 1) r cr).2.1 (by omega)
     have ok := Ql (ks := ks) (vs := vs) Fe hB h1 h2 (by rw [<- hp]; exact h3) (others i k r (by omega) ck cr (.inl rfl)) ⟨pp.1, by have := pp.2.1; omega⟩ pp.2.2
     have e2 := zu (tks := ks) (tvs := vs) (P := cs.take i) (l := k) (r := r) (Q := cs.drop (i + 2)) Fe
     rw [<- hp] at e2
     rw [e2]
     refine ⟨ok.1, ok.2.1, ?_, ?_⟩
     ·show ks.length <= (ks.eraseIdx _).length + 1
      rw [List.length_eraseIdx_of_lt hB]
      omega
     ·rw [ok.2.2, <- hp]
   ·rw [if_neg (fun c => hB c.1), if_neg (show ¬ i < (PT.mk ks vs cs).keys.length from hB)]
    obtain ⟨l, cl, el⟩ := get (i - 1) (by omega)
    have e1 : i - 1 + 1 = i := by omega
    have MQ : cs[i - 1 + 1]? = some k := by rw [e1]; exact ck
    have hp := Tq cl MQ
    have hl := hk (i - 1) l cl
    have Fe : (cs.take (i - 1)).length = i - 1 := by rw [List.length_take]; omega
    have hle : ¬ 2 < l.keys.length := fun c => hA ⟨by omega, by rw [el]; exact c⟩
    have pp := Hl hl.1 kk.1 (by omega) (bF ks (i - 1)) (bF vs (i - 1))
    have hl2 := hl.2.1 (by omega)
    have ok := Ql (ks := ks) (vs := vs) Fe (by omega) h1 h2 (by rw [<- hp]; exact h3) (others (i - 1) l k (by omega) cl MQ (.inr e1)) ⟨pp.1, by have := pp.2.1; omega⟩ pp.2.2
    have e2 := zu (tks := ks) (tvs := vs) (P := cs.take (i - 1)) (l := l) (r := k) (Q := cs.drop (i - 1 + 2)) Fe
    rw [<- hp] at e2
    rw [e2]
    refine ⟨ok.1, ok.2.1, ?_, ?_⟩
    ·show ks.length <= (ks.eraseIdx _).length + 1
     rw [List.length_eraseIdx_of_lt (by omega)]
     omega
    ·rw [ok.2.2, <- hp]
 ·rw [if_neg hlt]
  have hm : ∀ s ∈ cs, rZ h s /\ 2 <= s.keys.length := fun s hs => by
   obtain ⟨n, hn⟩ := List.getElem?_of_mem hs
   by_cases e : n = i
   ·subst e
    rw [ck] at hn
    obtain rfl := Option.some.inj hn
    exact ⟨kk.1, by omega⟩
   ·exact ⟨(hk n s hn).1, (hk n s hn).2.1 e⟩
  have hb : mG (.mk ks vs cs) := oW h1 h2 (.inr h3) fun s hs => (hm s hs).1.b
  exact ⟨hb, pQ hh (by show 0 < cs.length; omega) fun s hs => ⟨(hm s hs).1.l, (hm s hs).2⟩, Nat.le_succ _, eH (bZ hb)⟩
def su (key : ByteArray) (l : List KV) : List KV := l.filter fun x => !(x.1.toList == key.toList)
theorem uW {key : ByteArray} {l : List KV} (h : ∀ x ∈ l, (x.1.toList == key.toList) = false) : su key l = l := by
 unfold su
 rw [List.filter_eq_self.2]
 intro x hx
 rw [h x hx]
 rfl
theorem Bv (key : ByteArray) (a b : List KV) : su key (a ++ b) = su key a ++ su key b := List.filter_append _ _
theorem Eg {a b : ByteArray} (h : ui a b) : (a.toList == b.toList) = false := by
 cases hh : (a.toList == b.toList) with
 | false => rfl
 | true =>
  unfold ui at h
  rw [eq_of_beq hh] at h
  exact absurd h (List.lt_irrefl _)
theorem Bw {key : ByteArray} {A B : List KV} {x : KV} (hs : mO (A ++ x :: B)) (he : (x.1.toList == key.toList) = true) : su key (A ++ x :: B) = A ++ B := by
 obtain ⟨h1, h2, h3⟩ := List.pairwise_append.1 hs
 have e := eq_of_beq he
 have ha : ∀ a ∈ A, (a.1.toList == key.toList) = false := fun a ha => by rw [<- e]; exact Eg (h3 a ha x List.mem_cons_self)
 have hb : ∀ b ∈ B, (b.1.toList == key.toList) = false := fun b hb => by rw [<- e]; exact D7 ((List.pairwise_cons.1 h2).1 b hb)
 have hx : su key (x :: B) = su key B := by
  unfold su
  rw [List.filter_cons, if_neg (by rw [he]; decide)]
 rw [Bv, hx, uW ha, uW hb]
def Has (key : ByteArray) (l : List KV) : Prop := ∃ x ∈ l, (x.1.toList == key.toList) = true
theorem uq {t s : PT} {i : Nat} (hb : mG t) (hx : t.kids[i]? = some s) (hi : i <= t.keys.length) : bD t = uj ((t.kids.take i).map bD) ((bU t).take i) ++ (bD s ++ tailW ((t.kids.drop (i + 1)).map bD) ((bU t).drop i)) /\ (t.kids.take i).length = ((bU t).take i).length := by
 obtain ⟨⟨h1, h2, h3⟩, h4⟩ := cz.1 hb
 have hl := (List.getElem?_eq_some_iff.1 hx).1
 have Fe : (t.kids.take i).length = ((bU t).take i).length := by rw [List.length_take, List.length_take, uk h1]; omega
 refine ⟨?_, Fe⟩
 rw [eH (bZ hb)]
 conv => lhs; rw [uo hx, <- List.take_append_drop i (bU t)]
 exact uT Fe
theorem mg {t s : PT} {i : Nat} (hb : mG t) (hs : mO (bD t)) (hx : t.kids[i]? = some s) (hi : i <= t.keys.length) : mO (bD s) := by
 rw [(uq hb hx hi).1] at hs
 exact (List.pairwise_append.1 (List.pairwise_append.1 hs).2.1).1
theorem sw {t s : PT} {key : ByteArray} (hb : mG t) (hs : mO (bD t)) (hn : jI t.keys (dV key t.keys) key = false) (hx : t.kids[dV key t.keys]? = some s) :
  (∀ x ∈ uj ((t.kids.take (dV key t.keys)).map bD) ((bU t).take (dV key t.keys)), ui x.1 key) /\ (∀ x ∈ tailW ((t.kids.drop (dV key t.keys + 1)).map bD) ((bU t).drop (dV key t.keys)), ui key x.1) /\ (Has key (bD t) -> Has key (bD s)) := by
 obtain ⟨⟨h1, h2, h3⟩, h4⟩ := cz.1 hb
 obtain ⟨e, Fe⟩ := uq hb hx (nJ key t.keys)
 have hsk : Jj t.keys := rE ((nM (bZ hb)).2 hs)
 have hah := sj (key := key) h1
 have hbe := qF (t := t) (key := key) hsk hn
 have hpre := Tg (P := (t.kids.take (dV key t.keys)).map bD) (I := (bU t).take (dV key t.keys)) (key := key) (by rw [List.length_map]; exact Fe) (by rw [e] at hs; exact hs) hah
 have CG := Qe (Q := (t.kids.drop (dV key t.keys + 1)).map bD) (J := (bU t).drop (dV key t.keys)) (key := key) (L := uj ((t.kids.take (dV key t.keys)).map bD) ((bU t).take (dV key t.keys)) ++ bD s) (by rw [e] at hs; rw [List.append_assoc]; exact hs) hbe
 refine ⟨hpre, CG, ?_⟩
 rintro ⟨x, hm, he⟩
 rw [e] at hm
 rcases List.mem_append.1 hm with hm | hm
 ·rw [Eg (hpre x hm)] at he; cases he
 ·rcases List.mem_append.1 hm with hm | hm
  ·exact ⟨x, hm, he⟩
  ·rw [D7 (CG x hm)] at he; cases he
theorem rO {t : PT} {key : ByteArray} (hb : mG t) (h0 : t.kids = []) (hs : mO (bD t)) (hh : Has key (bD t)) : jI t.keys (dV key t.keys) key = true := by
 cases hn : jI t.keys (dV key t.keys) key with
 | true => rfl
 | false =>
  obtain ⟨⟨h1, h2, h3⟩, h4⟩ := cz.1 hb
  have hsk : Jj t.keys := rE ((nM (bZ hb)).2 hs)
  obtain ⟨x, hm, he⟩ := hh
  rw [iK (bZ hb) h0, <- List.take_append_drop (dV key t.keys) (bU t)] at hm
  rcases List.mem_append.1 hm with hm | hm
  ·rw [Eg (sj h1 x hm)] at he; cases he
  ·rw [D7 (qF hsk hn x hm)] at he; cases he
theorem pU : ∀ (n : Nat) (t : PT) (h : Nat), t.big <= n -> rZ h t -> 0 < t.keys.length -> ∃ X, bD t = X ++ [(kR n t, qg n t)]
 | 0, t, h, hb, _, _ => absurd t.fZ (by omega)
 | n + 1, t, 0, hb, hk, h0 => hk.l.elim
 | n + 1, t, h + 1, hb, hk, h0 => by
  obtain ⟨⟨h1, h2, h3⟩, h4⟩ := cz.1 hk.b
  rcases jV hk.b hk.l with ⟨_, hc⟩ | ⟨hh, hc, ha⟩
  ·have e : jA (n + 1) t = t := by rw [jA, if_pos (by rw [hc]; rfl)]
   unfold kR qg
   rw [e, iK (bZ hk.b) hc]
   exact ⟨_, Lj h1 h0⟩
  ·obtain ⟨s, hx⟩ : ∃ s, t.kids[t.keys.length]? = some s := ⟨t.kids[t.keys.length]'(by omega), List.getElem?_eq_getElem (by omega)⟩
   have hm := List.mem_of_getElem? hx
   have e : jA (n + 1) t = jA n s := by
    rw [jA, if_neg (by omega), show t.kids.length - 1 = t.keys.length by omega, kz hx]
   obtain ⟨X, eX⟩ := pU n s h (by have := PT.gK hx; omega) ⟨h4 s hm, (ha s hm).1⟩ (by have := (ha s hm).2; omega)
   obtain ⟨ev, _⟩ := uq hk.b hx (Nat.le_refl _)
   have hd : (bU t).drop t.keys.length = [] := List.drop_eq_nil_of_le (by rw [uk h1]; exact Nat.le_refl _)
   unfold kR qg at eX ⊢
   rw [e, ev, hd, eX]
   exact ⟨_, by rw [tailW, List.append_nil, <- List.append_assoc]⟩
theorem Qm {key : ByteArray} : ∀ {K : List ByteArray}, (∀ x ∈ K, ui x key) -> dV key K = K.length
 | [], _ => rfl
 | k :: ks, h => by
  rw [dV, if_pos ((mH _ _).2 (h k List.mem_cons_self)), Qm fun x hx => h x (List.mem_cons_of_mem _ hx)]
  rfl
theorem Qn {key x : ByteArray} : ∀ {K : List ByteArray}, (∀ y ∈ K, ui y key) -> Cq x key = false -> dV key (K ++ [x]) = K.length
 | [], _, hx => by rw [List.nil_append, dV, if_neg (by rw [hx]; decide)]; rfl
 | k :: ks, h, hx => by
  rw [List.cons_append, dV, if_pos ((mH _ _).2 (h k List.mem_cons_self)), Qn (fun x hx => h x (List.mem_cons_of_mem _ hx)) hx]
  rfl
theorem Tt (a : ByteArray) : Cq a a = false := by
 cases h : Cq a a with
 | false => rfl
 | true => exact absurd ((mH a a).1 h) (lt_irrefl a)
theorem Tu {K : List ByteArray} {key : ByteArray} : jI K K.length key = false := by
 unfold jI
 rw [List.getElem?_eq_none (Nat.le_refl _)]
theorem XQ (n : Nat) {t : PT} {h : Nat} (hb : t.big <= n + 1) (hk : rZ (h + 1) t) (h0 : 0 < t.keys.length) (hs : mO (bD t)) :
  (t.kids = [] -> kR (n + 1) t = bF t.keys (t.keys.length - 1) /\ dV (kR (n + 1) t) t.keys = t.keys.length - 1) /\ (t.kids ≠ [] -> kR (n + 1) t = kR n (fJ t t.keys.length) /\ qg (n + 1) t = qg n (fJ t t.keys.length) /\ dV (kR (n + 1) t) t.keys = t.keys.length) := by
 obtain ⟨⟨h1, h2, h3⟩, h4⟩ := cz.1 hk.b
 have hsk : Jj t.keys := rE ((nM (bZ hk.b)).2 hs)
 constructor
 ·intro hc
  have e : jA (n + 1) t = t := by rw [jA, if_pos (by rw [hc]; rfl)]
  have e2 : kR (n + 1) t = bF t.keys (t.keys.length - 1) := by unfold kR; rw [e]
  refine ⟨e2, ?_⟩
  rw [e2]
  have hsp := uo (qG (l := t.keys) (i := t.keys.length - 1) (by omega))
  rw [List.drop_eq_nil_of_le (by omega)] at hsp
  have ht : (t.keys.take (t.keys.length - 1)).length = t.keys.length - 1 := by rw [List.length_take]; omega
  have : dV (bF t.keys (t.keys.length - 1)) (t.keys.take (t.keys.length - 1) ++ [bF t.keys (t.keys.length - 1)]) = (t.keys.take (t.keys.length - 1)).length := by
   refine Qn (fun y hy => ?_) (Tt _)
   rw [hsp] at hsk
   exact (List.pairwise_append.1 hsk).2.2 y hy _ (List.mem_singleton_self _)
  rw [<- hsp, ht] at this
  exact this
 ·intro hc
  rcases jV hk.b hk.l with ⟨_, hc'⟩ | ⟨hh, hcl, ha⟩
  ·exact absurd hc' hc
  ·have hx : t.kids[t.keys.length]? = some (fJ t t.keys.length) := by
    have : t.kids[t.keys.length]? = some (t.kids[t.keys.length]'(by omega)) := List.getElem?_eq_getElem (by omega)
    rw [this, kz this]
   have e : jA (n + 1) t = jA n (fJ t t.keys.length) := by rw [jA, if_neg (by omega), show t.kids.length - 1 = t.keys.length by omega]
   have e2 : kR (n + 1) t = kR n (fJ t t.keys.length) := by unfold kR; rw [e]
   have e3 : qg (n + 1) t = qg n (fJ t t.keys.length) := by unfold qg; rw [e]
   refine ⟨e2, e3, ?_⟩
   have hm := List.mem_of_getElem? hx
   obtain ⟨X, eX⟩ := pU n _ h (by have := PT.gK hx; omega) ⟨h4 _ hm, (ha _ hm).1⟩ (by have := (ha _ hm).2; omega)
   obtain ⟨ev, Fe⟩ := uq hk.b hx (Nat.le_refl _)
   rw [e2]
   refine Qm fun x hxk => ?_
   -- the node's own keys stand ahead of the last kid
   obtain ⟨i, hi⟩ := List.getElem?_of_mem hxk
   have hil := (List.getElem?_eq_some_iff.1 hi).1
   obtain ⟨v, _, hiv⟩ := Rb h1 hi
   have hmem : (x, v) ∈ uj ((t.kids.take t.keys.length).map bD) ((bU t).take t.keys.length) := by
    have : ∀ (P : List (List KV)) (I : List KV), P.length = I.length -> ∀ y ∈ I, y ∈ uj P I := by
     intro P
     induction P with
     | nil => intro I hl y hy; cases I with | nil => cases hy | cons _ _ => simp at hl
     | cons p P ih =>
      intro I hl y hy
      cases I with
      | nil => cases hy
      | cons z I =>
       rw [uj]
       rcases List.mem_cons.1 hy with rfl | hy
       ·exact List.mem_append_right _ List.mem_cons_self
       ·exact List.mem_append_right _ (List.mem_cons_of_mem _ (ih I (by simpa using hl) y hy))
    refine this _ _ (by rw [List.length_map]; exact Fe) _ ?_
    rw [List.take_of_length_le (by rw [uk h1]; exact Nat.le_refl _)]
    exact List.mem_of_getElem? hiv
   rw [ev, eX] at hs
   exact (List.pairwise_append.1 hs).2.2 _ hmem (kR n (fJ t t.keys.length), qg n (fJ t t.keys.length)) (List.mem_append_left _ (List.mem_append_right _ (List.mem_singleton_self _)))
theorem VR {cs : List PT} {i j : Nat} {s' c : PT} (h : (cs.set i s')[j]? = some c) : (j = i /\ c = s') ∨ (j ≠ i /\ cs[j]? = some c) := by
 rw [List.getElem?_set] at h
 split at h
 ·split at h
  ·exact .inl ⟨by omega, (Option.some.inj h).symm⟩
  ·cases h
 ·exact .inr ⟨by omega, h⟩
theorem nN : ∀ (n : Nat) (t : PT) (key : ByteArray) (h : Nat), t.big <= n -> rZ h t -> (t.kids ≠ [] -> 0 < t.keys.length) -> mO (bD t) -> Has key (bD t) ->
  ∃ r, mV n t key = some r /\ rZ h r /\ t.keys.length <= r.keys.length + 1 /\ bD r = su key (bD t)
 | 0, t, key, h, hb, _, _, _, _ => absurd t.fZ (by omega)
 | n + 1, t, key, 0, hb, hk, _, _, _ => hk.l.elim
 | n + 1, t, key, h + 1, hb, hk, h0, hs, hh => by
  obtain ⟨⟨h1, h2, h3⟩, h4⟩ := cz.1 hk.b
  have hle := nJ key t.keys
  rw [mV]
  rcases jV hk.b hk.l with ⟨rfl, hc⟩ | ⟨hne, hcl, ha⟩
  ·have hS := rO hk.b hc hs hh
   have hlt := lJ hS
   rw [if_pos (by rw [hc]; rfl), if_pos hlt]
   have el : ∀ (k : List ByteArray), k.length = t.keys.length -> (k.eraseIdx (dV key t.keys)).length = t.keys.length - 1 := fun k hk => by rw [List.length_eraseIdx_of_lt (by omega)]; omega
   have hb' : mG (.mk (t.keys.eraseIdx (dV key t.keys)) (t.vals.eraseIdx (dV key t.keys)) t.kids) := oW (by rw [el _ h1, el _ rfl]) (by rw [el _ rfl]; omega) (.inl (by rw [hc]; rfl)) h4
   refine ⟨_, rfl, ⟨hb', xw hc⟩, by show t.keys.length <= (t.keys.eraseIdx _).length + 1; rw [el _ rfl]; omega, ?_⟩
   have e2 : bD t = (bU t).take (dV key t.keys) ++ (bF t.keys (dV key t.keys), bF t.vals (dV key t.keys)) :: (bU t).drop (dV key t.keys + 1) := by
    rw [iK (bZ hk.b) hc]
    exact kZ hlt h1
   rw [iK (bZ hb') hc]
   show (t.keys.eraseIdx _).zip (t.vals.eraseIdx _) = _
   rw [Hf h1]
   conv => rhs; rw [e2]
   refine (Bw (by rw [e2] at hs; exact hs) ?_).symm
   unfold jI at hS
   rw [qG hlt] at hS
   exact hS
  ·have h0' : 0 < t.keys.length := h0 (fun e => by rw [e] at hcl; simp at hcl)
   obtain ⟨s, hx⟩ : ∃ s, t.kids[dV key t.keys]? = some s := ⟨t.kids[dV key t.keys]'(by omega), List.getElem?_eq_getElem (by omega)⟩
   have hm := List.mem_of_getElem? hx
   have hsb : s.big <= n := by have := PT.gK hx; omega
   have hks : rZ h s := ⟨h4 s hm, (ha s hm).1⟩
   have hs2 := (ha s hm).2
   have hss := mg hk.b hs hx hle
   rw [if_neg (by omega)]
   have fix := fun (ks vs : List ByteArray) (s' : PT) (e1 : vs.length = ks.length) (e2 : ks.length = t.keys.length) (hks' : rZ h s') (hl' : s.keys.length <= s'.keys.length + 1) =>
    XP (h := h) (i := dV key t.keys) (ks := ks) (vs := vs) (cs := t.kids.set (dV key t.keys) s') e1 (by omega) (by omega) (by rw [List.length_set]; omega) (by rw [List.length_set]; omega) (fun j c hj => by
     rcases VR hj with ⟨e, rfl⟩ | ⟨e, hj⟩
     ·exact ⟨hks', fun e' => absurd e e', by omega⟩
     ·have hcm := List.mem_of_getElem? hj
      exact ⟨⟨h4 c hcm, (ha c hcm).1⟩, fun _ => (ha c hcm).2, by have := (ha c hcm).2; omega⟩)
   rw [kz hx]
   obtain ⟨ev, Fe⟩ := uq hk.b hx hle
   by_cases hS : jI t.keys (dV key t.keys) key = true
   ·rw [if_pos hS]
    have hlt := lJ hS
    obtain ⟨X, eX⟩ := pU n s h hsb hks (by omega)
    obtain ⟨r, e1, hkr, hlr, hall⟩ := nN n s (kR n s) h hsb hks (fun _ => by omega) hss ⟨(kR n s, qg n s), by rw [eX]; exact List.mem_append_right _ (List.mem_singleton_self _), by simp⟩
    rw [e1]
    have ok := fix (t.keys.set (dV key t.keys) (kR n s)) (t.vals.set (dV key t.keys) (qg n s)) r (by rw [List.length_set, List.length_set]; exact h1) List.length_set hkr hlr
    refine ⟨_, rfl, ⟨ok.1, ok.2.1⟩, by have := ok.2.2.1; rw [List.length_set] at this; exact this, ?_⟩
    rw [ok.2.2.2, Jn _ _ hlt h1, qY r (by omega)]
    have hrX : bD r = X := by
     rw [hall, eX]
     have := Bw (key := kR n s) (A := X) (B := []) (x := (kR n s, qg n s)) (by rw [<- eX]; exact hss) (by simp)
     rw [List.append_nil] at this
     exact this
    have hI : (t.kids.take (dV key t.keys)).length = ((t.keys.zip t.vals).take (dV key t.keys)).length := Fe
    rw [uT hI, hrX, tailW]
    have e3 : bD t = (uj ((t.kids.take (dV key t.keys)).map bD) ((bU t).take (dV key t.keys)) ++ (X ++ [(kR n s, qg n s)])) ++ (bF t.keys (dV key t.keys), bF t.vals (dV key t.keys)) :: bX ((t.kids.drop (dV key t.keys + 1)).map bD) ((bU t).drop (dV key t.keys + 1)) := by
     rw [ev, eX]
     have : (bU t).drop (dV key t.keys) = (bF t.keys (dV key t.keys), bF t.vals (dV key t.keys)) :: (bU t).drop (dV key t.keys + 1) := by
      have := fF (l := bU t) (i := dV key t.keys) (s := (bF t.keys (dV key t.keys), bF t.vals (dV key t.keys))) (List.getElem?_zip_eq_some.2 ⟨qG hlt, qG (by omega)⟩)
      exact this
     rw [this, tailW]
     simp only [List.append_assoc, List.cons_append, List.nil_append]
    conv => rhs; rw [e3]
    rw [Bw (by rw [<- e3]; exact hs) (by
     unfold jI at hS
     rw [qG hlt] at hS
     exact hS)]
    simp only [List.append_assoc, List.cons_append, List.nil_append]
    rfl
   ·have hS' : jI t.keys (dV key t.keys) key = false := by cases hq : jI t.keys (dV key t.keys) key <;> simp_all
    rw [if_neg hS]
    obtain ⟨hpre, CG, hin⟩ := sw hk.b hs hS' hx
    obtain ⟨r, e1, hkr, hlr, hall⟩ := nN n s key h hsb hks (fun _ => by omega) hss (hin hh)
    rw [e1]
    have ok := fix t.keys t.vals r h1 rfl hkr hlr
    refine ⟨_, rfl, ⟨ok.1, ok.2.1⟩, ok.2.2.1, ?_⟩
    refine ok.2.2.2.trans ?_
    rw [qY r (by omega)]
    conv => lhs; rw [<- List.take_append_drop (dV key t.keys) (t.keys.zip t.vals)]
    rw [uT (show (t.kids.take (dV key t.keys)).length = ((t.keys.zip t.vals).take (dV key t.keys)).length from Fe), hall, ev, Bv, Bv, uW (fun x hx => Eg (hpre x hx)), uW (l := tailW _ _) (fun x hx => D7 (CG x hx))]
    rfl
theorem uX : ∀ (n : Nat) (t : PT) (h : Nat), t.big <= n -> rZ h t -> 0 < t.keys.length -> mO (bD t) -> mV n t (kR n t) = some (wG n t)
 | 0, t, h, hb, _, _, _ => absurd t.fZ (by omega)
 | n + 1, t, 0, hb, hk, _, _ => hk.l.elim
 | n + 1, t, h + 1, hb, hk, h0, hs => by
  obtain ⟨⟨h1, h2, h3⟩, h4⟩ := cz.1 hk.b
  obtain ⟨a1, a2⟩ := XQ n hb hk h0 hs
  rw [mV, wG]
  rcases jV hk.b hk.l with ⟨rfl, hc⟩ | ⟨hne, hcl, ha⟩
  ·obtain ⟨_, e⟩ := a1 hc
   rw [if_pos (show t.kids.length = 0 by rw [hc]; rfl), if_pos (show t.kids.length = 0 by rw [hc]; rfl), e, if_pos (show t.keys.length - 1 < t.keys.length by omega)]
  ·have hne' : t.kids ≠ [] := fun e => by rw [e] at hcl; simp at hcl
   obtain ⟨e1, e2, e3⟩ := a2 hne'
   rw [if_neg (show ¬ t.kids.length = 0 by omega), if_neg (show ¬ t.kids.length = 0 by omega), e3, if_neg (show ¬ jI t.keys t.keys.length (kR (n + 1) t) = true by rw [Tu]; decide), e1, show t.kids.length - 1 = t.keys.length by omega]
   have hx : t.kids[t.keys.length]? = some (t.kids[t.keys.length]'(by omega)) := List.getElem?_eq_getElem (by omega)
   have hm := List.mem_of_getElem? hx
   rw [kz hx]
   rw [uX n _ h (by have := PT.gK hx; omega) ⟨h4 _ hm, (ha _ hm).1⟩ (by have := (ha _ hm).2; omega) (mg hk.b hs hx (Nat.le_refl _))]
   rfl
theorem uu : ∀ (n : Nat) (t : PT) (key : ByteArray) (h : Nat), t.big <= n -> rZ h t -> mO (bD t) -> Has key (bD t) -> xR n t key = mV n t key
 | 0, t, key, h, hb, _, _, _ => absurd t.fZ (by omega)
 | n + 1, t, key, 0, hb, hk, _, _ => hk.l.elim
 | n + 1, t, key, h + 1, hb, hk, hs, hh => by
  obtain ⟨⟨h1, h2, h3⟩, h4⟩ := cz.1 hk.b
  have hle := nJ key t.keys
  rw [xR, mV]
  rcases jV hk.b hk.l with ⟨rfl, hc⟩ | ⟨hne, hcl, ha⟩
  ·have hS := rO hk.b hc hs hh
   have hlt := lJ hS
   rw [if_pos hS, if_pos (show t.kids.length = 0 by rw [hc]; rfl), if_pos (show t.kids.length = 0 by rw [hc]; rfl), if_pos hlt]
  ·have hkn : ¬ t.kids.length = 0 := by omega
   obtain ⟨s, hx⟩ : ∃ s, t.kids[dV key t.keys]? = some s := ⟨t.kids[dV key t.keys]'(by omega), List.getElem?_eq_getElem (by omega)⟩
   have hm := List.mem_of_getElem? hx
   have hsb : s.big <= n := by have := PT.gK hx; omega
   have hks : rZ h s := ⟨h4 s hm, (ha s hm).1⟩
   have hss := mg hk.b hs hx hle
   rw [kz hx]
   simp only [if_neg hkn]
   by_cases hS : jI t.keys (dV key t.keys) key = true
   ·rw [if_pos hS, if_pos hS, uX n s h hsb hks (by have := (ha s hm).2; omega) hss]
    rfl
   ·have hS' : jI t.keys (dV key t.keys) key = false := by cases hq : jI t.keys (dV key t.keys) key <;> simp_all
    rw [if_neg hS, if_neg hS, uu n s key h hsb hks hss ((sw hk.b hs hS' hx).2.2 hh)]
end Go.Proofs.Ytoddejmlcnbdmaa.Pure
namespace Go.Proofs.Ytoddejmlcnbdmaa.Fn
def bq.l0 : Nat -> List ByteArray -> Int -> Int -> Option (Int)
 | 0, _, _, _ => none
 | k + 1, x0, x1, x5 => if x5 < (x0.length : Int) then (if 0 <= x5 then (if (wrap64 (x1 - ((cK ByteArray.empty x0 x5).size : Int))) < 0 then (some (-1)) else (bq.l0 k x0 (wrap64 (x1 - ((cK ByteArray.empty x0 x5).size : Int))) (wrap64 (x5 + 1)))) else (none)) else (some x1)
def bq.f (k : Nat) (l0 : List ByteArray) (a1 : Int) : Option (Int) := if (wrap64 (a1 - (l0.length : Int))) < 0 then (some (-1)) else (bq.l0 k l0 (wrap64 (a1 - (l0.length : Int))) 0)
theorem bq.calls (k : Nat) (A0 : Option Addr) (c0 : Nat) (l0 : List ByteArray) (a1 : Int) (r : Int) (w : World) (hr0 : Kd.C Kd.string w A0 l0.length l0) (hc0 : l0.length <= c0) (h : bq.f k l0 a1 = some r) :
  Calls Try.prog 41 #[.slice A0 l0.length c0, .int .i64 a1] w fun e w' => e = .returned (.int .i64 r) /\ ak w w' := by
 have jf := A_ hr0
 have nQ := A_ hc0
 clear hr0 hc0
 have H : (if (wrap64 (a1 - (l0.length : Int))) < 0 then (some (-1)) else (bq.l0 k l0 (wrap64 (a1 - (l0.length : Int))) 0)) = some r := h
 clear h
 by_cases c3 : (wrap64 (a1 - (l0.length : Int))) < 0
 ·rw [if_pos c3] at H
  have jv : decide ((wrap64 (a1 - (l0.length : Int))) < 0) = true := decide_eq_true c3
  clear c3
  obtain rfl := Option.some.inj H
  go_enter Try.func41, Try.ntmps41
  go_wp2
  go_ret
  exact ⟨by first | rfl | (simp; done) | (simp [*]; done), by repeat (first | exact ak.refl _ | apply ak.step)⟩
 ·rw [if_neg c3] at H
  have jv : decide ((wrap64 (a1 - (l0.length : Int))) < 0) = false := decide_eq_false c3
  clear c3
  have H' := A_ H
  clear H
  go_enter Try.func41, Try.ntmps41
  go_wp2
  go_loopg [1, 5] k (fun kq v1 v5 w' => ∃ (fC : Int) (ay : Int), v1 = .int .i64 fC /\ v5 = .int .i64 ay /\ ae (bq.l0 kq l0 fC ay = some r) /\ ae (kq <= k) /\ ak w w')
  case atStart => exact ⟨(wrap64 (a1 - (l0.length : Int))), (0), (by first | rfl | (simp; done) | (simp [*]; done)), (by first | rfl | (simp; done) | (simp [*]; done)), H', ⟨Nat.le_refl _⟩, by repeat (first | exact ak.refl _ | apply ak.step)⟩
  case round =>
   clear H'
   (try clear p2); (try clear c3); (try clear jv)
   obtain ⟨fC, ay, rfl, rfl, HA, ni, ⟨m1, rfl⟩⟩ := hrel
   cases gk with
   | zero => exact absurd HA.out (by simp [bq.l0])
   | succ k1 =>
    have H := HA.out
    clear HA
    simp only [bq.l0] at H
    by_cases c4 : ay < (l0.length : Int)
    ·rw [if_pos c4] at H
     have mq : decide (ay < (l0.length : Int)) = true := decide_eq_true c4
     clear c4
     by_cases c5 : 0 <= ay
     ·rw [if_pos c5] at H
      have CS : decide (0 <= ay) = true := decide_eq_true c5
      clear c5
      by_cases c6 : (wrap64 (fC - ((cK ByteArray.empty l0 ay).size : Int))) < 0
      ·rw [if_pos c6] at H
       have yD : decide ((wrap64 (fC - ((cK ByteArray.empty l0 ay).size : Int))) < 0) = true := decide_eq_true c6
       clear c6
       obtain rfl := Option.some.inj H
       have O5 : 0 <= (ay : Int) := of_decide_eq_true eP
       have O6 : ay < (l0.length : Int) := of_decide_eq_true eP
       obtain ⟨ad101, Y1, hx101_0⟩ := Kd.cO jf.out ay O5 O6
       cases Y1
       replace O5 := eq_true O5
       replace O6 := eq_true O6
       go_wp2
       go_ret
       exact ⟨by first | rfl | (simp; done) | (simp [*]; done), by repeat (first | exact ak.refl _ | apply ak.step)⟩
      ·rw [if_neg c6] at H
       have yD : decide ((wrap64 (fC - ((cK ByteArray.empty l0 ay).size : Int))) < 0) = false := decide_eq_false c6
       clear c6
       have H' := A_ H
       clear H
       have O5 : 0 <= (ay : Int) := of_decide_eq_true eP
       have O6 : ay < (l0.length : Int) := of_decide_eq_true eP
       obtain ⟨ad101, Y1, hx101_0⟩ := Kd.cO jf.out ay O5 O6
       cases Y1
       replace O5 := eq_true O5
       replace O6 := eq_true O6
       go_wp2
       go_roundg k1
       case measure => have := ni.out; omega
       case rel => exact ⟨(wrap64 (fC - ((cK ByteArray.empty l0 ay).size : Int))), (wrap64 (ay + 1)), (by first | rfl | (simp; done) | (simp [*]; done)), (by first | rfl | (simp; done) | (simp [*]; done)), H', ⟨by have := ni.out; omega⟩, by repeat (first | exact ak.refl _ | apply ak.step)⟩
     ·rw [if_neg c5] at H
      exact absurd H (by simp)
    ·rw [if_neg c4] at H
     have mq : decide (ay < (l0.length : Int)) = false := decide_eq_false c4
     clear c4
     obtain rfl := Option.some.inj H
     go_wp2
     go_ret
     exact ⟨by first | rfl | (simp; done) | (simp [*]; done), by repeat (first | exact ak.refl _ | apply ak.step)⟩
def bC.l0 : Nat -> List ByteArray -> List ByteArray -> Int -> Option (Bool)
 | 0, _, _, _ => none
 | k + 1, x0, x1, x5 => if x5 < (x0.length : Int) then (if 0 <= x5 then (if x5 < (x1.length : Int) then (if (cK ByteArray.empty x0 x5).toList = (cK ByteArray.empty x1 x5).toList then (bC.l0 k x0 x1 (wrap64 (x5 + 1))) else (some false)) else (none)) else (none)) else (some true)
def bC.f (k : Nat) (l0 : List ByteArray) (l1 : List ByteArray) : Option (Bool) := if (l0.length : Int) = (l1.length : Int) then (bC.l0 k l0 l1 0) else (some false)
theorem bC.calls (k : Nat) (A0 : Option Addr) (c0 : Nat) (l0 : List ByteArray) (A1 : Option Addr) (c1 : Nat) (l1 : List ByteArray) (r : Bool) (w : World) (hr0 : Kd.C Kd.string w A0 l0.length l0) (hc0 : l0.length <= c0) (hr1 : Kd.C Kd.string w A1 l1.length l1) (hc1 : l1.length <= c1) (h : bC.f k l0 l1 = some r) :
  Calls Try.prog 26 #[.slice A0 l0.length c0, .slice A1 l1.length c1] w fun e w' => e = .returned (.bool r) /\ ak w w' := by
 have jf := A_ hr0
 have nQ := A_ hc0
 clear hr0 hc0
 have HR1 := A_ hr1
 have J6 := A_ hc1
 clear hr1 hc1
 have H : (if (l0.length : Int) = (l1.length : Int) then (bC.l0 k l0 l1 0) else (some false)) = some r := h
 clear h
 by_cases c3 : (l0.length : Int) = (l1.length : Int)
 ·rw [if_pos c3] at H
  have jv : ((l0.length : Int) == (l1.length : Int)) = true := beq_iff_eq.mpr c3
  have vV : ((l0.length : Int) != (l1.length : Int)) = false := bne_eq_false_iff_eq.mpr c3
  have MR : (l0.length == l1.length) = true := by first | simpa using c3 | (simp at c3 ⊢; omega)
  clear c3
  have H' := A_ H
  clear H
  go_enter Try.func26, Try.ntmps26
  go_wp2
  repeat (go_quiet (fail); try go_wp2)
  go_loopg [5] k (fun kq v5 w' => ∃ (ay : Int), v5 = .int .i64 ay /\ ae (bC.l0 kq l0 l1 ay = some r) /\ ae (kq <= k) /\ ak w w')
  case atStart => exact ⟨(0), (by first | rfl | (simp; done) | (simp [*]; done)), H', ⟨Nat.le_refl _⟩, by repeat (first | exact ak.refl _ | apply ak.step)⟩
  case round =>
   clear H'
   (try clear c1); (try clear c2); (try clear p2); (try clear c3); (try clear jv); (try clear vV); (try clear MR)
   obtain ⟨ay, rfl, HA, ni, ⟨m1, rfl⟩⟩ := hrel
   cases gk with
   | zero => exact absurd HA.out (by simp [bC.l0])
   | succ k1 =>
    have H := HA.out
    clear HA
    simp only [bC.l0] at H
    by_cases c4 : ay < (l0.length : Int)
    ·rw [if_pos c4] at H
     have mq : decide (ay < (l0.length : Int)) = true := decide_eq_true c4
     clear c4
     by_cases c5 : 0 <= ay
     ·rw [if_pos c5] at H
      have CS : decide (0 <= ay) = true := decide_eq_true c5
      clear c5
      by_cases c6 : ay < (l1.length : Int)
      ·rw [if_pos c6] at H
       have yD : decide (ay < (l1.length : Int)) = true := decide_eq_true c6
       clear c6
       by_cases c7 : (cK ByteArray.empty l0 ay).toList = (cK ByteArray.empty l1 ay).toList
       ·rw [if_pos c7] at H
        have CU : ((cK ByteArray.empty l0 ay).toList == (cK ByteArray.empty l1 ay).toList) = true := beq_iff_eq.mpr c7
        have Uw : ((cK ByteArray.empty l0 ay).toList != (cK ByteArray.empty l1 ay).toList) = false := bne_eq_false_iff_eq.mpr c7
        clear c7
        have H' := A_ H
        clear H
        have O7 : 0 <= (ay : Int) := of_decide_eq_true eP
        have O8 : ay < (l0.length : Int) := of_decide_eq_true eP
        obtain ⟨ad152, e152, hx152_0⟩ := Kd.cO jf.out ay O7 O8
        cases e152
        replace O7 := eq_true O7
        replace O8 := eq_true O8
        have O9 : 0 <= (ay : Int) := of_decide_eq_true eP
        have Pb : ay < (l1.length : Int) := of_decide_eq_true eP
        obtain ⟨ad153, e153, hx153_0⟩ := Kd.cO HR1.out ay O9 Pb
        cases e153
        replace O9 := eq_true O9
        replace Pb := eq_true Pb
        go_wp2
        repeat (go_quiet (fail); try go_wp2)
        go_roundg k1
        case measure => have := ni.out; omega
        case rel => exact ⟨(wrap64 (ay + 1)), (by first | rfl | (simp; done) | (simp [*]; done)), H', ⟨by have := ni.out; omega⟩, by repeat (first | exact ak.refl _ | apply ak.step)⟩
       ·rw [if_neg c7] at H
        have CU : ((cK ByteArray.empty l0 ay).toList == (cK ByteArray.empty l1 ay).toList) = false := beq_eq_false_iff_ne.mpr c7
        have Uw : ((cK ByteArray.empty l0 ay).toList != (cK ByteArray.empty l1 ay).toList) = true := bne_iff_ne.mpr c7
        obtain rfl := Option.some.inj H
        have O7 : 0 <= (ay : Int) := of_decide_eq_true eP
        have O8 : ay < (l0.length : Int) := of_decide_eq_true eP
        obtain ⟨ad152, e152, hx152_0⟩ := Kd.cO jf.out ay O7 O8
        cases e152
        replace O7 := eq_true O7
        replace O8 := eq_true O8
        have O9 : 0 <= (ay : Int) := of_decide_eq_true eP
        have Pb : ay < (l1.length : Int) := of_decide_eq_true eP
        obtain ⟨ad153, e153, hx153_0⟩ := Kd.cO HR1.out ay O9 Pb
        cases e153
        replace O9 := eq_true O9
        replace Pb := eq_true Pb
        go_wp2
        repeat (go_quiet (fail); try go_wp2)
        go_ret
        exact ⟨by first | rfl | (simp; done) | (simp [*]; done), by repeat (first | exact ak.refl _ | apply ak.step)⟩
      ·rw [if_neg c6] at H
       exact absurd H (by simp)
     ·rw [if_neg c5] at H
      exact absurd H (by simp)
    ·rw [if_neg c4] at H
     have mq : decide (ay < (l0.length : Int)) = false := decide_eq_false c4
     clear c4
     obtain rfl := Option.some.inj H
     go_wp2
     repeat (go_quiet (fail); try go_wp2)
     go_ret
     exact ⟨by first | rfl | (simp; done) | (simp [*]; done), by repeat (first | exact ak.refl _ | apply ak.step)⟩
 ·rw [if_neg c3] at H
  have jv : ((l0.length : Int) == (l1.length : Int)) = false := beq_eq_false_iff_ne.mpr c3
  have vV : ((l0.length : Int) != (l1.length : Int)) = true := bne_iff_ne.mpr c3
  have MR : (l0.length == l1.length) = false := by first | simpa using c3 | (simp at c3 ⊢; omega)
  obtain rfl := Option.some.inj H
  go_enter Try.func26, Try.ntmps26
  go_wp2
  repeat (go_quiet (fail); try go_wp2)
  go_ret
  exact ⟨by first | rfl | (simp; done) | (simp [*]; done), by repeat (first | exact ak.refl _ | apply ak.step)⟩
end Go.Proofs.Ytoddejmlcnbdmaa.Fn
namespace Go.Proofs.Ytoddejmlcnbdmaa.Pure
open Go.Proofs.Ytoddejmlcnbdmaa.Fn
theorem Hr (l : List ByteArray) (hl : l.length <= 1048576) : Ev (fun k => bM.f k l) l := by
 have h := PX (fun k x3 i => bM.l0 k l x3 i) id (⟨#[]⟩ : ByteArray) l ?_ ?_
 ·rw [List.map_id] at h
  simp only [bM.f, Int.toNat_natCast]
  (repeat (first | with_reducible refine Ev.dw ?_ | (with_reducible refine Ev.kU ?_ ?_; (· exact bS)) | (with_reducible refine Ev.lF ?_ ?_; (· exact bS))))
  exact h
 ·intro k x3
  simp only [bM.l0]
  rw [if_neg (by omega)]
 ·intro i x hx
  have hlt := (List.getElem?_eq_some_iff.1 hx).1
  refine ⟨0, fun k x3 _ h3 => ?_⟩
  simp only [bM.l0]
  rw [if_pos (by omega), if_pos (by omega), iB hx, if_pos (by omega), eT (by omega), Int.toNat_natCast]
  rfl
theorem Ht (l : List ByteArray) (hl : l.length <= 1048576) : Ev (fun k => bC.f k l l) true := by
 have h := Sz (fun k i => bC.l0 k l l i) l.length true ?_ ?_
 ·simp only [bC.f]
  (repeat (first | with_reducible refine Ev.dw ?_ | (with_reducible refine Ev.kU ?_ ?_; (· exact bS)) | (with_reducible refine Ev.lF ?_ ?_; (· exact bS))))
  exact h
 ·intro k
  simp only [bC.l0]
  rw [if_neg (by omega)]
 ·intro i hi
  refine ⟨0, fun k _ => ?_⟩
  simp only [bC.l0]
  rw [if_pos (by omega), if_pos (by omega), if_pos (by omega), eT (by omega)]
  simp
end Go.Proofs.Ytoddejmlcnbdmaa.Pure
namespace Go.Proofs.Ytoddejmlcnbdmaa.Fn
def dn.l0 : Nat -> List Int -> List Int -> Int -> Option (Bool)
 | 0, _, _, _ => none
 | k + 1, x0, x1, x5 => if x5 < (x0.length : Int) then (if 0 <= x5 then (if x5 < (x1.length : Int) then (if (rd x0 x5) = (rd x1 x5) then (dn.l0 k x0 x1 (wrap64 (x5 + 1))) else (some false)) else (none)) else (none)) else (some true)
def dn.f (k : Nat) (l0 : List Int) (l1 : List Int) : Option (Bool) := if (l0.length : Int) = (l1.length : Int) then (dn.l0 k l0 l1 0) else (some false)
theorem dn.calls (k : Nat) (A0 : Option Addr) (c0 : Nat) (l0 : List Int) (A1 : Option Addr) (c1 : Nat) (l1 : List Int) (r : Bool) (w : World) (hr0 : Kd.C (Kd.int .i64) w A0 l0.length l0) (hc0 : l0.length <= c0) (hr1 : Kd.C (Kd.int .i64) w A1 l1.length l1) (hc1 : l1.length <= c1) (h : dn.f k l0 l1 = some r) :
  Calls Try.prog 121 #[.slice A0 l0.length c0, .slice A1 l1.length c1] w fun e w' => e = .returned (.bool r) /\ ak w w' := by
 have jf := A_ hr0
 have nQ := A_ hc0
 clear hr0 hc0
 have HR1 := A_ hr1
 have J6 := A_ hc1
 clear hr1 hc1
 have H : (if (l0.length : Int) = (l1.length : Int) then (dn.l0 k l0 l1 0) else (some false)) = some r := h
 clear h
 by_cases c3 : (l0.length : Int) = (l1.length : Int)
 ·rw [if_pos c3] at H
  have jv : ((l0.length : Int) == (l1.length : Int)) = true := beq_iff_eq.mpr c3
  have vV : ((l0.length : Int) != (l1.length : Int)) = false := bne_eq_false_iff_eq.mpr c3
  have MR : (l0.length == l1.length) = true := by first | simpa using c3 | (simp at c3 ⊢; omega)
  clear c3
  have H' := A_ H
  clear H
  go_enter Try.func121, Try.ntmps121
  go_wp2
  repeat (go_quiet (fail); try go_wp2)
  go_loopg [5] k (fun kq v5 w' => ∃ (ay : Int), v5 = .int .i64 ay /\ ae (dn.l0 kq l0 l1 ay = some r) /\ ae (kq <= k) /\ ak w w')
  case atStart => exact ⟨(0), (by first | rfl | (simp; done) | (simp [*]; done)), H', ⟨Nat.le_refl _⟩, by repeat (first | exact ak.refl _ | apply ak.step)⟩
  case round =>
   clear H'
   (try clear c1); (try clear p2); (try clear c3); (try clear jv); (try clear vV); (try clear MR)
   obtain ⟨ay, rfl, HA, ni, ⟨m1, rfl⟩⟩ := hrel
   cases gk with
   | zero => exact absurd HA.out (by simp [dn.l0])
   | succ k1 =>
    have H := HA.out
    clear HA
    simp only [dn.l0] at H
    by_cases c4 : ay < (l0.length : Int)
    ·rw [if_pos c4] at H
     have mq : decide (ay < (l0.length : Int)) = true := decide_eq_true c4
     clear c4
     by_cases c5 : 0 <= ay
     ·rw [if_pos c5] at H
      have CS : decide (0 <= ay) = true := decide_eq_true c5
      clear c5
      by_cases c6 : ay < (l1.length : Int)
      ·rw [if_pos c6] at H
       have yD : decide (ay < (l1.length : Int)) = true := decide_eq_true c6
       clear c6
       by_cases c7 : (rd l0 ay) = (rd l1 ay)
       ·rw [if_pos c7] at H
        have CU : ((rd l0 ay) == (rd l1 ay)) = true := beq_iff_eq.mpr c7
        have Uw : ((rd l0 ay) != (rd l1 ay)) = false := bne_eq_false_iff_eq.mpr c7
        clear c7
        have H' := A_ H
        clear H
        have Pf : 0 <= (ay : Int) := of_decide_eq_true eP
        have Ph : ay < (l0.length : Int) := of_decide_eq_true eP
        obtain ⟨ad154, e154, hx154_0⟩ := Kd.rq jf.out ay Pf Ph
        cases e154
        replace Pf := eq_true Pf
        replace Ph := eq_true Ph
        have Pj : 0 <= (ay : Int) := of_decide_eq_true eP
        have Pk : ay < (l1.length : Int) := of_decide_eq_true eP
        obtain ⟨ad155, Y2, hx155_0⟩ := Kd.rq HR1.out ay Pj Pk
        cases Y2
        replace Pj := eq_true Pj
        replace Pk := eq_true Pk
        go_wp2
        repeat (go_quiet (fail); try go_wp2)
        go_roundg k1
        case measure => have := ni.out; omega
        case rel => exact ⟨(wrap64 (ay + 1)), (by first | rfl | (simp; done) | (simp [*]; done)), H', ⟨by have := ni.out; omega⟩, by repeat (first | exact ak.refl _ | apply ak.step)⟩
       ·rw [if_neg c7] at H
        have CU : ((rd l0 ay) == (rd l1 ay)) = false := beq_eq_false_iff_ne.mpr c7
        have Uw : ((rd l0 ay) != (rd l1 ay)) = true := bne_iff_ne.mpr c7
        obtain rfl := Option.some.inj H
        have Pf : 0 <= (ay : Int) := of_decide_eq_true eP
        have Ph : ay < (l0.length : Int) := of_decide_eq_true eP
        obtain ⟨ad154, e154, hx154_0⟩ := Kd.rq jf.out ay Pf Ph
        cases e154
        replace Pf := eq_true Pf
        replace Ph := eq_true Ph
        have Pj : 0 <= (ay : Int) := of_decide_eq_true eP
        have Pk : ay < (l1.length : Int) := of_decide_eq_true eP
        obtain ⟨ad155, Y2, hx155_0⟩ := Kd.rq HR1.out ay Pj Pk
        cases Y2
        replace Pj := eq_true Pj
        replace Pk := eq_true Pk
        go_wp2
        repeat (go_quiet (fail); try go_wp2)
        go_ret
        exact ⟨by first | rfl | (simp; done) | (simp [*]; done), by repeat (first | exact ak.refl _ | apply ak.step)⟩
      ·rw [if_neg c6] at H
       exact absurd H (by simp)
     ·rw [if_neg c5] at H
      exact absurd H (by simp)
    ·rw [if_neg c4] at H
     have mq : decide (ay < (l0.length : Int)) = false := decide_eq_false c4
     clear c4
     obtain rfl := Option.some.inj H
     go_wp2
     repeat (go_quiet (fail); try go_wp2)
     go_ret
     exact ⟨by first | rfl | (simp; done) | (simp [*]; done), by repeat (first | exact ak.refl _ | apply ak.step)⟩
 ·rw [if_neg c3] at H
  have jv : ((l0.length : Int) == (l1.length : Int)) = false := beq_eq_false_iff_ne.mpr c3
  have vV : ((l0.length : Int) != (l1.length : Int)) = true := bne_iff_ne.mpr c3
  have MR : (l0.length == l1.length) = false := by first | simpa using c3 | (simp at c3 ⊢; omega)
  obtain rfl := Option.some.inj H
  go_enter Try.func121, Try.ntmps121
  go_wp2
  repeat (go_quiet (fail); try go_wp2)
  go_ret
  exact ⟨by first | rfl | (simp; done) | (simp [*]; done), by repeat (first | exact ak.refl _ | apply ak.step)⟩
end Go.Proofs.Ytoddejmlcnbdmaa.Fn
namespace Go.Proofs.Ytoddejmlcnbdmaa.Pure
open Go.Proofs.Ytoddejmlcnbdmaa.Fn
theorem Eh (l : List Int) (hl : l.length <= 1073741824) : ∀ (t : List Int) (i : Nat) (k : Nat), l.drop i = t -> i <= l.length -> t.length < k ->
  dC.l0 k l (l.take i ++ List.replicate t.length 0) i = some l
 | [], i, k + 1, h, _, _ => by
  simp only [dC.l0]
  rw [if_neg (drop_nil h), Sy h]
  simp
 | x :: t, i, k + 1, h, hi, hk => by
  obtain ⟨h1, h2, h3⟩ := drop_cons h
  have h4 := KM h hi
  simp only [List.length_cons] at h4 hk
  simp only [dC.l0]
  rw [if_pos h1, if_pos (Dt i), if_pos (by simp only [List.length_append, List.length_take, List.length_replicate, List.length_cons]; omega), WV h2, eT (by omega), Int.toNat_natCast]
  simp only [List.length_cons]
  rw [FZ h, <- QX h]
  exact Eh l hl t (i + 1) k h3 (by omega) (by omega)
theorem toInt_eq (l : List Int) (hl : l.length <= 1073741824) (k : Nat) (hk : l.length < k) : dC.f k l = some l := by
 unfold dC.f
 rw [if_pos (by omega), if_pos (by omega), Int.toNat_natCast]
 have := Eh l hl l 0 k (by simp) (by omega) hk
 simpa using this
theorem Ei (l : List Int) (hl : l.length <= 1073741824) : ∀ (t : List Int) (i : Nat) (k : Nat), l.drop i = t -> i <= l.length -> t.length < k ->
  dn.l0 k l l i = some true
 | [], i, k + 1, h, _, _ => by
  simp only [dn.l0]
  rw [if_neg (drop_nil h)]
 | x :: t, i, k + 1, h, hi, hk => by
  obtain ⟨h1, h2, h3⟩ := drop_cons h
  have h4 := KM h hi
  simp only [List.length_cons] at h4 hk
  simp only [dn.l0]
  rw [if_pos h1, if_pos (Dt i), if_pos h1, if_pos trivial, eT (by omega)]
  exact Ei l hl t (i + 1) k h3 (by omega) (by omega)
theorem NK (l : List Int) (hl : l.length <= 1073741824) (k : Nat) (hk : l.length < k) : dn.f k l l = some true := by
 unfold dn.f
 rw [if_pos rfl]
 exact Ei l hl l 0 k (by simp) (by omega) hk
end Go.Proofs.Ytoddejmlcnbdmaa.Pure
namespace Go.Proofs.Ytoddejmlcnbdmaa.Fn
def iI.f (l0 : List Int) (a1 : Int) : Option (Int) := if (wrap64 (a1 - (l0.length : Int))) < 0 then (some (-1)) else (some (wrap64 (a1 - (l0.length : Int))))
theorem iI.calls (A0 : Option Addr) (c0 : Nat) (l0 : List Int) (a1 : Int) (r : Int) (w : World) (hr0 : Kd.C (Kd.int .i64) w A0 l0.length l0) (hc0 : l0.length <= c0) (h : iI.f l0 a1 = some r) :
  Calls Try.prog 119 #[.slice A0 l0.length c0, .int .i64 a1] w fun e w' => e = .returned (.int .i64 r) /\ ak w w' := by
 have jf := A_ hr0
 have nQ := A_ hc0
 clear hr0 hc0
 have H : (if (wrap64 (a1 - (l0.length : Int))) < 0 then (some (-1)) else (some (wrap64 (a1 - (l0.length : Int))))) = some r := h
 clear h
 by_cases c3 : (wrap64 (a1 - (l0.length : Int))) < 0
 ·rw [if_pos c3] at H
  have jv : decide ((wrap64 (a1 - (l0.length : Int))) < 0) = true := decide_eq_true c3
  clear c3
  obtain rfl := Option.some.inj H
  go_enter Try.func119, Try.ntmps119
  go_wp2
  go_ret
  exact ⟨by first | rfl | (simp; done) | (simp [*]; done), by repeat (first | exact ak.refl _ | apply ak.step)⟩
 ·rw [if_neg c3] at H
  have jv : decide ((wrap64 (a1 - (l0.length : Int))) < 0) = false := decide_eq_false c3
  clear c3
  obtain rfl := Option.some.inj H
  go_enter Try.func119, Try.ntmps119
  go_wp2
  go_ret
  exact ⟨by first | rfl | (simp; done) | (simp [*]; done), by repeat (first | exact ak.refl _ | apply ak.step)⟩
def lg.f (k : Nat) (aX : List ByteArray) (dR : List ByteArray) (dS : List Int) (a1 : Int) : Option (Int) := (bq.f k aX a1).bind fun t103 => (if t103 < 0 then (some (-1)) else ((bq.f k dR t103).bind fun t104 => (if t104 < 0 then (some (-1)) else ((iI.f dS t104).bind fun t105 => (if t105 < 0 then (some (-1)) else (some t105))))))
theorem lg.calls (k : Nat) (bR : Option Addr) (bQ : Nat) (aX : List ByteArray) (gG : Option Addr) (gH : Nat) (dR : List ByteArray) (gM : Option Addr) (gN : Nat) (dS : List Int) (a1 : Int) (r : Int) (w : World) (jB : Kd.C Kd.string w bR aX.length aX) (jQ : aX.length <= bQ) (Cy : Kd.C Kd.string w gG dR.length dR) (Cz : dR.length <= gH) (CB : Kd.C (Kd.int .i64) w gM dS.length dS) (CE : dS.length <= gN) (h : lg.f k aX dR dS a1 = some r) :
  Calls Try.prog 94 #[.agg #[.slice bR aX.length bQ, .slice gG dR.length gH, .slice gM dS.length gN], .int .i64 a1] w fun e w' => e = .returned (.int .i64 r) /\ Below w.heap.size w w' := by
 have TY := Try.underlying115
 have lU := A_ jB
 have lV := A_ jQ
 clear jB jQ
 have zU := A_ Cy
 have zV := A_ Cz
 clear Cy Cz
 have EO := A_ CB
 have EP := A_ CE
 clear CB CE
 have HB := A_ (Below.refl w.heap.size w)
 have H : ((bq.f k aX a1).bind fun t103 => (if t103 < 0 then (some (-1)) else ((bq.f k dR t103).bind fun t104 => (if t104 < 0 then (some (-1)) else ((iI.f dS t104).bind fun t105 => (if t105 < 0 then (some (-1)) else (some t105))))))) = some r := h
 clear h
 replace H := Option.bind_eq_some_iff.mp H
 obtain ⟨t103, tN, H⟩ := H
 replace H : (if t103 < 0 then (some (-1)) else ((bq.f k dR t103).bind fun t104 => (if t104 < 0 then (some (-1)) else ((iI.f dS t104).bind fun t105 => (if t105 < 0 then (some (-1)) else (some t105)))))) = some r := H
 have A3 := A_ tN
 clear tN
 by_cases c4 : t103 < 0
 ·rw [if_pos c4] at H
  have mq : decide (t103 < 0) = true := decide_eq_true c4
  clear c4
  obtain rfl := Option.some.inj H
  go_enter Try.func94, Try.ntmps94
  go_wp2_with (first | (refine lY 2 #[.slice bR aX.length bQ, .slice gG dR.length gH, .slice gM dS.length gN] 115 ?_; intro lD hg w5 aM hb; have jL := A_ (aM); have UF := A_ ((by rw [hg]; exact (iU HB.out) : w.heap.size <= lD)); have Ff := A_ ((by rw [hg]; exact (iU HB.out) : w.heap.size <= lD)); replace HB := A_ (jO HB.out hb); clear hb aM hg; have hcz6_0 : w5.cell? ⟨lD, 0, none⟩ = some (.slice bR aX.length bQ) := (af jL.out 0).trans rfl; have hcz6_1 : w5.cell? ⟨lD, 1, none⟩ = some (.slice gG dR.length gH) := (af jL.out 1).trans rfl; have hcz6_2 : w5.cell? ⟨lD, 2, none⟩ = some (.slice gM dS.length gN) := (af jL.out 2).trans rfl; have hfz6_0 := ax jL.out 0; have hfz6_1 := ax jL.out 1; have hfz6_2 := ax jL.out 2) | ((with_reducible refine aI (f := 41) rfl ?_); refine bV (some 8) rfl rfl Try.func41 (by kernel_rfl) rfl #[.slice bR aX.length bQ, .int .i64 a1] rfl (mY) ?_; (with_reducible refine (bq.calls k _ _ aX a1 t103 _ ?aj ?aU A3.out).mono ?_); (case aj => refine lH ?_; exact (Kd.aA lU.out HB.out)); (case aU => exact lV.out); rintro e w' ⟨rfl, ⟨nd, rfl⟩⟩; refine ⟨_, rfl, ?_⟩))
  go_ret
  exact ⟨vE, by repeat (first | (with_reducible first | exact HB.out | apply aK | apply ah | apply aT | refine bL ?_ Ff.out) | exact HB.out)⟩
 ·rw [if_neg c4] at H
  have mq : decide (t103 < 0) = false := decide_eq_false c4
  clear c4
  replace H := Option.bind_eq_some_iff.mp H
  obtain ⟨t104, QL, H⟩ := H
  replace H : (if t104 < 0 then (some (-1)) else ((iI.f dS t104).bind fun t105 => (if t105 < 0 then (some (-1)) else (some t105)))) = some r := H
  have A7 := A_ QL
  clear QL
  by_cases c8 : t104 < 0
  ·rw [if_pos c8] at H
   have LZ : decide (t104 < 0) = true := decide_eq_true c8
   clear c8
   obtain rfl := Option.some.inj H
   go_enter Try.func94, Try.ntmps94
   go_wp2_with (first | (refine lY 2 #[.slice bR aX.length bQ, .slice gG dR.length gH, .slice gM dS.length gN] 115 ?_; intro lD hg w9 aM hb; have jL := A_ (aM); have UF := A_ ((by rw [hg]; exact (iU HB.out) : w.heap.size <= lD)); have Ff := A_ ((by rw [hg]; exact (iU HB.out) : w.heap.size <= lD)); replace HB := A_ (jO HB.out hb); clear hb aM hg; have hcz10_0 : w9.cell? ⟨lD, 0, none⟩ = some (.slice bR aX.length bQ) := (af jL.out 0).trans rfl; have hcz10_1 : w9.cell? ⟨lD, 1, none⟩ = some (.slice gG dR.length gH) := (af jL.out 1).trans rfl; have hcz10_2 : w9.cell? ⟨lD, 2, none⟩ = some (.slice gM dS.length gN) := (af jL.out 2).trans rfl; have hfz10_0 := ax jL.out 0; have hfz10_1 := ax jL.out 1; have hfz10_2 := ax jL.out 2) | ((with_reducible refine aI (f := 41) rfl ?_); refine bV (some 8) rfl rfl Try.func41 (by kernel_rfl) rfl #[.slice bR aX.length bQ, .int .i64 a1] rfl (mY) ?_; (with_reducible refine (bq.calls k _ _ aX a1 t103 _ ?aj ?aU A3.out).mono ?_); (case aj => refine lH ?_; exact (Kd.aA lU.out HB.out)); (case aU => exact lV.out); rintro e w' ⟨rfl, ⟨nd, rfl⟩⟩; refine ⟨_, rfl, ?_⟩) | ((with_reducible refine aI (f := 41) rfl ?_); refine bV (some 14) rfl rfl Try.func41 (by kernel_rfl) rfl #[.slice gG dR.length gH, .int .i64 t103] rfl (mY) ?_; (with_reducible refine (bq.calls k _ _ dR t103 t104 _ ?aj ?aU A7.out).mono ?_); (case aj => repeat (first | exact (Kd.aA zU.out (ko HB.out)) | (with_reducible refine Kd.ed ?_ _) | (with_reducible refine Kd.dx ?_ _) | (with_reducible refine Kd.eD ?_))); (case aU => exact zV.out); rintro e w' ⟨rfl, ⟨nd, rfl⟩⟩; refine ⟨_, rfl, ?_⟩))
   go_ret
   exact ⟨vE, by repeat (first | (with_reducible first | exact HB.out | apply aK | apply ah | apply aT | refine bL ?_ Ff.out) | exact HB.out)⟩
  ·rw [if_neg c8] at H
   have LZ : decide (t104 < 0) = false := decide_eq_false c8
   clear c8
   replace H := Option.bind_eq_some_iff.mp H
   obtain ⟨t105, A110, H⟩ := H
   replace H : (if t105 < 0 then (some (-1)) else (some t105)) = some r := H
   have A11 := A_ A110
   clear A110
   by_cases c12 : t105 < 0
   ·rw [if_pos c12] at H
    have Uf : decide (t105 < 0) = true := decide_eq_true c12
    clear c12
    obtain rfl := Option.some.inj H
    go_enter Try.func94, Try.ntmps94
    go_wp2_with (first | (refine lY 2 #[.slice bR aX.length bQ, .slice gG dR.length gH, .slice gM dS.length gN] 115 ?_; intro lD hg Gh aM hb; have jL := A_ (aM); have UF := A_ ((by rw [hg]; exact (iU HB.out) : w.heap.size <= lD)); have Ff := A_ ((by rw [hg]; exact (iU HB.out) : w.heap.size <= lD)); replace HB := A_ (jO HB.out hb); clear hb aM hg; have hcz14_0 : Gh.cell? ⟨lD, 0, none⟩ = some (.slice bR aX.length bQ) := (af jL.out 0).trans rfl; have hcz14_1 : Gh.cell? ⟨lD, 1, none⟩ = some (.slice gG dR.length gH) := (af jL.out 1).trans rfl; have hcz14_2 : Gh.cell? ⟨lD, 2, none⟩ = some (.slice gM dS.length gN) := (af jL.out 2).trans rfl; have hfz14_0 := ax jL.out 0; have hfz14_1 := ax jL.out 1; have hfz14_2 := ax jL.out 2) | ((with_reducible refine aI (f := 41) rfl ?_); refine bV (some 8) rfl rfl Try.func41 (by kernel_rfl) rfl #[.slice bR aX.length bQ, .int .i64 a1] rfl (mY) ?_; (with_reducible refine (bq.calls k _ _ aX a1 t103 _ ?aj ?aU A3.out).mono ?_); (case aj => refine lH ?_; exact (Kd.aA lU.out HB.out)); (case aU => exact lV.out); rintro e w' ⟨rfl, ⟨nd, rfl⟩⟩; refine ⟨_, rfl, ?_⟩) | ((with_reducible refine aI (f := 41) rfl ?_); refine bV (some 14) rfl rfl Try.func41 (by kernel_rfl) rfl #[.slice gG dR.length gH, .int .i64 t103] rfl (mY) ?_; (with_reducible refine (bq.calls k _ _ dR t103 t104 _ ?aj ?aU A7.out).mono ?_); (case aj => repeat (first | exact (Kd.aA zU.out (ko HB.out)) | (with_reducible refine Kd.ed ?_ _) | (with_reducible refine Kd.dx ?_ _) | (with_reducible refine Kd.eD ?_))); (case aU => exact zV.out); rintro e w' ⟨rfl, ⟨nd, rfl⟩⟩; refine ⟨_, rfl, ?_⟩) | ((with_reducible refine aI (f := 119) rfl ?_); refine bV (some 20) rfl rfl Try.func119 (by kernel_rfl) rfl #[.slice gM dS.length gN, .int .i64 t104] rfl (mY) ?_; (with_reducible refine (iI.calls _ _ dS t104 t105 _ ?aj ?aU A11.out).mono ?_); (case aj => repeat (first | exact (Kd.aA EO.out (ko HB.out)) | (with_reducible refine Kd.ed ?_ _) | (with_reducible refine Kd.dx ?_ _) | (with_reducible refine Kd.eD ?_))); (case aU => exact EP.out); rintro e w' ⟨rfl, ⟨nd, rfl⟩⟩; refine ⟨_, rfl, ?_⟩))
    go_ret
    exact ⟨vE, by repeat (first | (with_reducible first | exact HB.out | apply aK | apply ah | apply aT | refine bL ?_ Ff.out) | exact HB.out)⟩
   ·rw [if_neg c12] at H
    have Uf : decide (t105 < 0) = false := decide_eq_false c12
    clear c12
    obtain rfl := Option.some.inj H
    go_enter Try.func94, Try.ntmps94
    go_wp2_with (first | (refine lY 2 #[.slice bR aX.length bQ, .slice gG dR.length gH, .slice gM dS.length gN] 115 ?_; intro lD hg EN aM hb; have jL := A_ (aM); have UF := A_ ((by rw [hg]; exact (iU HB.out) : w.heap.size <= lD)); have Ff := A_ ((by rw [hg]; exact (iU HB.out) : w.heap.size <= lD)); replace HB := A_ (jO HB.out hb); clear hb aM hg; have hcz16_0 : EN.cell? ⟨lD, 0, none⟩ = some (.slice bR aX.length bQ) := (af jL.out 0).trans rfl; have hcz16_1 : EN.cell? ⟨lD, 1, none⟩ = some (.slice gG dR.length gH) := (af jL.out 1).trans rfl; have hcz16_2 : EN.cell? ⟨lD, 2, none⟩ = some (.slice gM dS.length gN) := (af jL.out 2).trans rfl; have hfz16_0 := ax jL.out 0; have hfz16_1 := ax jL.out 1; have hfz16_2 := ax jL.out 2) | ((with_reducible refine aI (f := 41) rfl ?_); refine bV (some 8) rfl rfl Try.func41 (by kernel_rfl) rfl #[.slice bR aX.length bQ, .int .i64 a1] rfl (mY) ?_; (with_reducible refine (bq.calls k _ _ aX a1 t103 _ ?aj ?aU A3.out).mono ?_); (case aj => refine lH ?_; exact (Kd.aA lU.out HB.out)); (case aU => exact lV.out); rintro e w' ⟨rfl, ⟨nd, rfl⟩⟩; refine ⟨_, rfl, ?_⟩) | ((with_reducible refine aI (f := 41) rfl ?_); refine bV (some 14) rfl rfl Try.func41 (by kernel_rfl) rfl #[.slice gG dR.length gH, .int .i64 t103] rfl (mY) ?_; (with_reducible refine (bq.calls k _ _ dR t103 t104 _ ?aj ?aU A7.out).mono ?_); (case aj => repeat (first | exact (Kd.aA zU.out (ko HB.out)) | (with_reducible refine Kd.ed ?_ _) | (with_reducible refine Kd.dx ?_ _) | (with_reducible refine Kd.eD ?_))); (case aU => exact zV.out); rintro e w' ⟨rfl, ⟨nd, rfl⟩⟩; refine ⟨_, rfl, ?_⟩) | ((with_reducible refine aI (f := 119) rfl ?_); refine bV (some 20) rfl rfl Try.func119 (by kernel_rfl) rfl #[.slice gM dS.length gN, .int .i64 t104] rfl (mY) ?_; (with_reducible refine (iI.calls _ _ dS t104 t105 _ ?aj ?aU A11.out).mono ?_); (case aj => repeat (first | exact (Kd.aA EO.out (ko HB.out)) | (with_reducible refine Kd.ed ?_ _) | (with_reducible refine Kd.dx ?_ _) | (with_reducible refine Kd.eD ?_))); (case aU => exact EP.out); rintro e w' ⟨rfl, ⟨nd, rfl⟩⟩; refine ⟨_, rfl, ?_⟩))
    go_ret
    exact ⟨vE, by repeat (first | (with_reducible first | exact HB.out | apply aK | apply ah | apply aT | refine bL ?_ Ff.out) | exact HB.out)⟩
def dA.l0 : Nat -> List (mJ) -> Int -> Int -> Option (Int)
 | 0, _, _, _ => none
 | k + 1, x0, x1, x5 => if x5 < (x0.length : Int) then (if 0 <= x5 then ((lg.f k ((dE x0 x5).f0) ((dE x0 x5).f1) ((dE x0 x5).f2) x1).bind fun t107 => (if t107 < 0 then (some (-1)) else (dA.l0 k x0 t107 (wrap64 (x5 + 1))))) else (none)) else (some x1)
def dA.f (k : Nat) (l0 : List (mJ)) (a1 : Int) : Option (Int) := if (wrap64 (a1 - (l0.length : Int))) < 0 then (some (-1)) else (dA.l0 k l0 (wrap64 (a1 - (l0.length : Int))) 0)
theorem dA.calls (k : Nat) (A0 : Option Addr) (c0 : Nat) (l0 : List (mJ)) (a1 : Int) (r : Int) (w : World) (hr0 : Kd.C KN w A0 l0.length l0) (hc0 : l0.length <= c0) (h : dA.f k l0 a1 = some r) :
  Calls Try.prog 56 #[.slice A0 l0.length c0, .int .i64 a1] w fun e w' => e = .returned (.int .i64 r) /\ Below w.heap.size w w' := by
 have TY := Try.underlying115
 have jf := A_ hr0
 have nQ := A_ hc0
 clear hr0 hc0
 have HB := A_ (Below.refl w.heap.size w)
 have H : (if (wrap64 (a1 - (l0.length : Int))) < 0 then (some (-1)) else (dA.l0 k l0 (wrap64 (a1 - (l0.length : Int))) 0)) = some r := h
 clear h
 by_cases c3 : (wrap64 (a1 - (l0.length : Int))) < 0
 ·rw [if_pos c3] at H
  have jv : decide ((wrap64 (a1 - (l0.length : Int))) < 0) = true := decide_eq_true c3
  clear c3
  obtain rfl := Option.some.inj H
  go_enter Try.func56, Try.ntmps56
  go_wp2
  go_ret
  exact ⟨vE, by repeat (first | (with_reducible first | exact HB.out | apply aK | apply ah | apply aT) | exact HB.out)⟩
 ·rw [if_neg c3] at H
  have jv : decide ((wrap64 (a1 - (l0.length : Int))) < 0) = false := decide_eq_false c3
  clear c3
  have H' := A_ H
  clear H
  go_enter Try.func56, Try.ntmps56
  go_wp2
  go_loopg [1, 5] k (fun kq v1 v5 w' => ∃ (fC : Int) (ay : Int), v1 = .int .i64 fC /\ v5 = .int .i64 ay /\ ae (dA.l0 kq l0 fC ay = some r) /\ ae (kq <= k) /\ ae (Below w.heap.size w w'))
  case atStart => exact ⟨(wrap64 (a1 - (l0.length : Int))), (0), (by first | rfl | (simp; done) | (simp [*]; done)), (by first | rfl | (simp; done) | (simp [*]; done)), H', ⟨Nat.le_refl _⟩, ⟨ko HB.out⟩⟩
  case round =>
   clear H'
   (try clear p2); (try clear c3); (try clear jv)
   obtain ⟨fC, ay, rfl, rfl, HA, ni, HB⟩ := hrel
   cases gk with
   | zero => exact absurd HA.out (by simp [dA.l0])
   | succ k1 =>
    have H := HA.out
    clear HA
    simp only [dA.l0] at H
    by_cases c4 : ay < (l0.length : Int)
    ·rw [if_pos c4] at H
     have mq : decide (ay < (l0.length : Int)) = true := decide_eq_true c4
     clear c4
     by_cases c5 : 0 <= ay
     ·rw [if_pos c5] at H
      have CS : decide (0 <= ay) = true := decide_eq_true c5
      clear c5
      replace H := Option.bind_eq_some_iff.mp H
      obtain ⟨t107, A60, H⟩ := H
      replace H : (if t107 < 0 then (some (-1)) else (dA.l0 k1 l0 t107 (wrap64 (ay + 1)))) = some r := H
      have A6 := A_ A60
      clear A60
      by_cases c7 : t107 < 0
      ·rw [if_pos c7] at H
       have CU : decide (t107 < 0) = true := decide_eq_true c7
       clear c7
       obtain rfl := Option.some.inj H
       have Pm : 0 <= (ay : Int) := of_decide_eq_true eP
       have Pn : ay < (l0.length : Int) := of_decide_eq_true eP
       obtain ⟨ad106, Po, Pp, Pq, Ps, Pt, Pv, Y3, vB, vC, vD, Ae, Af, Ah, Ai, Aj, Al⟩ := I1 jf.out ay Pm Pn
       cases Y3
       replace vB := (HB.out.cell (World.block_lt_of_cell? w _ vB)).trans vB
       replace vC := (HB.out.cell (World.block_lt_of_cell? w _ vC)).trans vC
       replace vD := (HB.out.cell (World.block_lt_of_cell? w _ vD)).trans vD
       have Kb := A_ Af
       have Ke := A_ Ae
       clear Af Ae
       have Kg := A_ Ai
       have Kh := A_ Ah
       clear Ai Ah
       have Ki := A_ Al
       have Kj := A_ Aj
       clear Al Aj
       replace Pm := eq_true Pm
       replace Pn := eq_true Pn
       go_wp2_with (first | ((with_reducible refine aI (f := 94) rfl ?_); refine bV (some 23) rfl rfl Try.func94 (by kernel_rfl) rfl #[.agg #[.slice Po ((dE l0 ay).f0).length Pp, .slice Pq ((dE l0 ay).f1).length Ps, .slice Pt ((dE l0 ay).f2).length Pv], .int .i64 fC] rfl (mY) ?_; (with_reducible refine (lg.calls k1 _ _ ((dE l0 ay).f0) _ _ ((dE l0 ay).f1) _ _ ((dE l0 ay).f2) fC t107 _ ?aj ?aU ?fM ?fO ?zX ?zY A6.out).mono ?_); (case aj => refine lH ?_; exact (Kd.aA Kb.out HB.out)); (case aU => exact Ke.out); (case fM => refine lH ?_; exact (Kd.aA Kg.out HB.out)); (case fO => exact Kh.out); (case zX => refine lH ?_; exact (Kd.aA Ki.out HB.out)); (case zY => exact Kj.out); rintro e w8 ⟨rfl, hb⟩; refine ⟨_, rfl, ?_⟩; replace HB := A_ (jO HB.out hb); (try clear hb); (try clear hb2); (try clear hk); (try clear hi)))
       go_ret
       exact ⟨vE, by repeat (first | (with_reducible first | exact HB.out | apply aK | apply ah | apply aT) | exact HB.out)⟩
      ·rw [if_neg c7] at H
       have CU : decide (t107 < 0) = false := decide_eq_false c7
       clear c7
       have H' := A_ H
       clear H
       have Pm : 0 <= (ay : Int) := of_decide_eq_true eP
       have Pn : ay < (l0.length : Int) := of_decide_eq_true eP
       obtain ⟨ad106, Po, Pp, Pq, Ps, Pt, Pv, Y3, vB, vC, vD, Ae, Af, Ah, Ai, Aj, Al⟩ := I1 jf.out ay Pm Pn
       cases Y3
       replace vB := (HB.out.cell (World.block_lt_of_cell? w _ vB)).trans vB
       replace vC := (HB.out.cell (World.block_lt_of_cell? w _ vC)).trans vC
       replace vD := (HB.out.cell (World.block_lt_of_cell? w _ vD)).trans vD
       have Kb := A_ Af
       have Ke := A_ Ae
       clear Af Ae
       have Kg := A_ Ai
       have Kh := A_ Ah
       clear Ai Ah
       have Ki := A_ Al
       have Kj := A_ Aj
       clear Al Aj
       replace Pm := eq_true Pm
       replace Pn := eq_true Pn
       go_wp2_with (first | ((with_reducible refine aI (f := 94) rfl ?_); refine bV (some 23) rfl rfl Try.func94 (by kernel_rfl) rfl #[.agg #[.slice Po ((dE l0 ay).f0).length Pp, .slice Pq ((dE l0 ay).f1).length Ps, .slice Pt ((dE l0 ay).f2).length Pv], .int .i64 fC] rfl (mY) ?_; (with_reducible refine (lg.calls k1 _ _ ((dE l0 ay).f0) _ _ ((dE l0 ay).f1) _ _ ((dE l0 ay).f2) fC t107 _ ?aj ?aU ?fM ?fO ?zX ?zY A6.out).mono ?_); (case aj => refine lH ?_; exact (Kd.aA Kb.out HB.out)); (case aU => exact Ke.out); (case fM => refine lH ?_; exact (Kd.aA Kg.out HB.out)); (case fO => exact Kh.out); (case zX => refine lH ?_; exact (Kd.aA Ki.out HB.out)); (case zY => exact Kj.out); rintro e w9 ⟨rfl, hb⟩; refine ⟨_, rfl, ?_⟩; replace HB := A_ (jO HB.out hb); (try clear hb); (try clear hb2); (try clear hk); (try clear hi)))
       go_roundg k1
       case measure => have := ni.out; omega
       case rel => exact ⟨(t107), (wrap64 (ay + 1)), (by first | rfl | (simp; done) | (simp [*]; done)), (by first | rfl | (simp; done) | (simp [*]; done)), H', ⟨by have := ni.out; omega⟩, ⟨ko HB.out⟩⟩
     ·rw [if_neg c5] at H
      exact absurd H (by simp)
    ·rw [if_neg c4] at H
     have mq : decide (ay < (l0.length : Int)) = false := decide_eq_false c4
     clear c4
     obtain rfl := Option.some.inj H
     go_wp2
     go_ret
     exact ⟨vE, by repeat (first | (with_reducible first | exact HB.out | apply aK | apply ah | apply aT) | exact HB.out)⟩
def lh.f (k : Nat) (aX : List (mJ)) (a1 : Int) : Option (Int) := (dA.f k aX a1).bind fun t109 => (if t109 < 0 then (some (-1)) else (some t109))
theorem lh.calls (k : Nat) (bR : Option Addr) (bQ : Nat) (aX : List (mJ)) (a1 : Int) (r : Int) (w : World) (jB : Kd.C KN w bR aX.length aX) (jQ : aX.length <= bQ) (h : lh.f k aX a1 = some r) :
  Calls Try.prog 15 #[.agg #[.slice bR aX.length bQ], .int .i64 a1] w fun e w' => e = .returned (.int .i64 r) /\ Below w.heap.size w w' := by
 have hu24 := Try.underlying24
 have lU := A_ jB
 have lV := A_ jQ
 clear jB jQ
 have HB := A_ (Below.refl w.heap.size w)
 have H : ((dA.f k aX a1).bind fun t109 => (if t109 < 0 then (some (-1)) else (some t109))) = some r := h
 clear h
 replace H := Option.bind_eq_some_iff.mp H
 obtain ⟨t109, tN, H⟩ := H
 replace H : (if t109 < 0 then (some (-1)) else (some t109)) = some r := H
 have A3 := A_ tN
 clear tN
 by_cases c4 : t109 < 0
 ·rw [if_pos c4] at H
  have mq : decide (t109 < 0) = true := decide_eq_true c4
  clear c4
  obtain rfl := Option.some.inj H
  go_enter Try.func15, Try.ntmps15
  go_wp2_with (first | (refine lY 2 #[.slice bR aX.length bQ] 24 ?_; intro Am hg w5 aM hb; have Ap := A_ (aM); have GW108 := A_ ((by rw [hg]; exact (iU HB.out) : w.heap.size <= Am)); have UG := A_ ((by rw [hg]; exact (iU HB.out) : w.heap.size <= Am)); replace HB := A_ (jO HB.out hb); clear hb aM hg; have hcz6_0 : w5.cell? ⟨Am, 0, none⟩ = some (.slice bR aX.length bQ) := (af Ap.out 0).trans rfl; have hfz6_0 := ax Ap.out 0) | ((with_reducible refine aI (f := 56) rfl ?_); refine bV (some 8) rfl rfl Try.func56 (by kernel_rfl) rfl #[.slice bR aX.length bQ, .int .i64 a1] rfl (mY) ?_; (with_reducible refine (dA.calls k _ _ aX a1 t109 _ ?aj ?aU A3.out).mono ?_); (case aj => refine lH ?_; exact (Kd.aA lU.out HB.out)); (case aU => exact lV.out); rintro e w7 ⟨rfl, hb⟩; refine ⟨_, rfl, ?_⟩; replace Ap := A_ (av (g := Am) (o := .cells #[.slice bR aX.length bQ] 24 (0, 0)) (gW Ap.out) hb); replace HB := A_ (jO HB.out hb); (try clear hb); (try clear hb2); (try clear hk); (try clear hi)))
  go_ret
  exact ⟨vE, by repeat (first | (with_reducible first | exact HB.out | apply aK | apply ah | apply aT | refine bL ?_ UG.out) | exact HB.out)⟩
 ·rw [if_neg c4] at H
  have mq : decide (t109 < 0) = false := decide_eq_false c4
  clear c4
  obtain rfl := Option.some.inj H
  go_enter Try.func15, Try.ntmps15
  go_wp2_with (first | (refine lY 2 #[.slice bR aX.length bQ] 24 ?_; intro Am hg w8 aM hb; have Ap := A_ (aM); have GW108 := A_ ((by rw [hg]; exact (iU HB.out) : w.heap.size <= Am)); have UG := A_ ((by rw [hg]; exact (iU HB.out) : w.heap.size <= Am)); replace HB := A_ (jO HB.out hb); clear hb aM hg; have hcz9_0 : w8.cell? ⟨Am, 0, none⟩ = some (.slice bR aX.length bQ) := (af Ap.out 0).trans rfl; have hfz9_0 := ax Ap.out 0) | ((with_reducible refine aI (f := 56) rfl ?_); refine bV (some 8) rfl rfl Try.func56 (by kernel_rfl) rfl #[.slice bR aX.length bQ, .int .i64 a1] rfl (mY) ?_; (with_reducible refine (dA.calls k _ _ aX a1 t109 _ ?aj ?aU A3.out).mono ?_); (case aj => refine lH ?_; exact (Kd.aA lU.out HB.out)); (case aU => exact lV.out); rintro e vN ⟨rfl, hb⟩; refine ⟨_, rfl, ?_⟩; replace Ap := A_ (av (g := Am) (o := .cells #[.slice bR aX.length bQ] 24 (0, 0)) (gW Ap.out) hb); replace HB := A_ (jO HB.out hb); (try clear hb); (try clear hb2); (try clear hk); (try clear hi)))
  go_ret
  exact ⟨vE, by repeat (first | (with_reducible first | exact HB.out | apply aK | apply ah | apply aT | refine bL ?_ UG.out) | exact HB.out)⟩
def mW.f (k : Nat) (aX : List ByteArray) (dR : List ByteArray) (dS : List Int) (jw : List ByteArray) (qK : List ByteArray) (qL : List Int) : Option (Bool) := (bC.f k aX jw).bind fun t158 => (if t158 = true then ((bC.f k dR qK).bind fun t159 => (if t159 = true then ((dn.f k dS qL).bind fun t160 => (if t160 = true then (some true) else (some false))) else (some false))) else (some false))
theorem mW.calls (k : Nat) (bR : Option Addr) (bQ : Nat) (aX : List ByteArray) (gG : Option Addr) (gH : Nat) (dR : List ByteArray) (gM : Option Addr) (gN : Nat) (dS : List Int) (qm : Option Addr) (qo : Nat) (jw : List ByteArray) (BV : Option Addr) (BZ : Nat) (qK : List ByteArray) (CW : Option Addr) (CX : Nat) (qL : List Int) (r : Bool) (w : World) (jB : Kd.C Kd.string w bR aX.length aX) (jQ : aX.length <= bQ) (Cy : Kd.C Kd.string w gG dR.length dR) (Cz : dR.length <= gH) (CB : Kd.C (Kd.int .i64) w gM dS.length dS) (CE : dS.length <= gN) (MS : Kd.C Kd.string w qm jw.length jw) (MU : jw.length <= qo) (hr1_1 : Kd.C Kd.string w BV qK.length qK) (hc1_1 : qK.length <= BZ) (hr1_2 : Kd.C (Kd.int .i64) w CW qL.length qL) (hc1_2 : qL.length <= CX) (h : mW.f k aX dR dS jw qK qL = some r) :
  Calls Try.prog 98 #[.agg #[.slice bR aX.length bQ, .slice gG dR.length gH, .slice gM dS.length gN], .agg #[.slice qm jw.length qo, .slice BV qK.length BZ, .slice CW qL.length CX]] w fun e w' => e = .returned (.bool r) /\ Below w.heap.size w w' := by
 have QD := Try.underlying110
 have lU := A_ jB
 have lV := A_ jQ
 clear jB jQ
 have zU := A_ Cy
 have zV := A_ Cz
 clear Cy Cz
 have EO := A_ CB
 have EP := A_ CE
 clear CB CE
 have Fg := A_ MS
 have Fh := A_ MU
 clear MS MU
 have UH := A_ hr1_1
 have UI := A_ hc1_1
 clear hr1_1 hc1_1
 have HR1_2 := A_ hr1_2
 have HC1_2 := A_ hc1_2
 clear hr1_2 hc1_2
 have HB := A_ (Below.refl w.heap.size w)
 have H : ((bC.f k aX jw).bind fun t158 => (if t158 = true then ((bC.f k dR qK).bind fun t159 => (if t159 = true then ((dn.f k dS qL).bind fun t160 => (if t160 = true then (some true) else (some false))) else (some false))) else (some false))) = some r := h
 clear h
 replace H := Option.bind_eq_some_iff.mp H
 obtain ⟨t158, tN, H⟩ := H
 replace H : (if t158 = true then ((bC.f k dR qK).bind fun t159 => (if t159 = true then ((dn.f k dS qL).bind fun t160 => (if t160 = true then (some true) else (some false))) else (some false))) else (some false)) = some r := H
 have A3 := A_ tN
 clear tN
 by_cases c4 : t158 = true
 ·subst c4
  have H1 : ((bC.f k dR qK).bind fun t159 => (if t159 = true then ((dn.f k dS qL).bind fun t160 => (if t160 = true then (some true) else (some false))) else (some false))) = some r := by rw [if_pos rfl] at H; exact H
  clear H
  have H := H1
  clear H1
  replace H := Option.bind_eq_some_iff.mp H
  obtain ⟨t159, IB, H⟩ := H
  replace H : (if t159 = true then ((dn.f k dS qL).bind fun t160 => (if t160 = true then (some true) else (some false))) else (some false)) = some r := H
  have A5 := A_ IB
  clear IB
  by_cases c6 : t159 = true
  ·subst c6
   have H1 : ((dn.f k dS qL).bind fun t160 => (if t160 = true then (some true) else (some false))) = some r := by rw [if_pos rfl] at H; exact H
   clear H
   have H := H1
   clear H1
   replace H := Option.bind_eq_some_iff.mp H
   obtain ⟨t160, QL, H⟩ := H
   replace H : (if t160 = true then (some true) else (some false)) = some r := H
   have A7 := A_ QL
   clear QL
   by_cases c8 : t160 = true
   ·subst c8
    have H1 : (some true) = some r := by rw [if_pos rfl] at H; exact H
    clear H
    have H := H1
    clear H1
    obtain rfl := Option.some.inj H
    go_enter Try.func98, Try.ntmps98
    go_wp2_with (first | (refine lY 2 #[.slice bR aX.length bQ, .slice gG dR.length gH, .slice gM dS.length gN] 110 ?_; intro fD hg w9 aM hb; have fE := A_ (aM); have UJ := A_ ((by rw [hg]; exact (iU HB.out) : w.heap.size <= fD)); have Fj := A_ ((by rw [hg]; exact (iU HB.out) : w.heap.size <= fD)); replace HB := A_ (jO HB.out hb); clear hb aM hg) | (refine lY 3 #[.slice qm jw.length qo, .slice BV qK.length BZ, .slice CW qL.length CX] 110 ?_; intro iT hg vN aM hb; have jM := A_ (aM); have UK := A_ ((by rw [hg]; exact (iU HB.out) : w.heap.size <= iT)); have Fp := A_ ((by rw [hg]; exact (iU HB.out) : w.heap.size <= iT)); replace HB := A_ (jO HB.out hb); have o5 := A_ ((by rw [hg]; exact Nat.ne_of_lt (dh (g := fD) (o := .cells #[.slice bR aX.length bQ, .slice gG dR.length gH, .slice gM dS.length gN] 110 (0, 0)) (gW fE.out)) : fD ≠ iT)); have o6 := A_ ((by rw [hg]; exact Nat.ne_of_gt (dh (g := fD) (o := .cells #[.slice bR aX.length bQ, .slice gG dR.length gH, .slice gM dS.length gN] 110 (0, 0)) (gW fE.out)) : iT ≠ fD)); replace fE := A_ (av (g := fD) (o := .cells #[.slice bR aX.length bQ, .slice gG dR.length gH, .slice gM dS.length gN] 110 (0, 0)) (gW fE.out) hb); clear hb aM hg; have hnb11 := o5.out; have hnc11 := o6.out; have hcz12_0 : vN.cell? ⟨fD, 0, none⟩ = some (.slice bR aX.length bQ) := (af fE.out 0).trans rfl; have hcz12_1 : vN.cell? ⟨fD, 1, none⟩ = some (.slice gG dR.length gH) := (af fE.out 1).trans rfl; have hcz12_2 : vN.cell? ⟨fD, 2, none⟩ = some (.slice gM dS.length gN) := (af fE.out 2).trans rfl; have hfz12_0 := ax fE.out 0; have hfz12_1 := ax fE.out 1; have hfz12_2 := ax fE.out 2; have hcz13_0 : vN.cell? ⟨iT, 0, none⟩ = some (.slice qm jw.length qo) := (af jM.out 0).trans rfl; have hcz13_1 : vN.cell? ⟨iT, 1, none⟩ = some (.slice BV qK.length BZ) := (af jM.out 1).trans rfl; have hcz13_2 : vN.cell? ⟨iT, 2, none⟩ = some (.slice CW qL.length CX) := (af jM.out 2).trans rfl; have hfz13_0 := ax jM.out 0; have hfz13_1 := ax jM.out 1; have hfz13_2 := ax jM.out 2) | ((with_reducible refine aI (f := 26) rfl ?_); refine bV (some 9) rfl rfl Try.func26 (by kernel_rfl) rfl #[.slice bR aX.length bQ, .slice qm jw.length qo] rfl (mY) ?_; (with_reducible refine (bC.calls k _ _ aX _ _ jw true _ ?aj ?aU ?fM ?fO A3.out).mono ?_); (case aj => refine lH ?_; exact (Kd.aA lU.out HB.out)); (case aU => exact lV.out); (case fM => refine lH ?_; exact (Kd.aA Fg.out HB.out)); (case fO => exact Fh.out); rintro e w' ⟨rfl, ⟨nd, rfl⟩⟩; refine ⟨_, rfl, ?_⟩) | ((with_reducible refine aI (f := 26) rfl ?_); refine bV (some 15) rfl rfl Try.func26 (by kernel_rfl) rfl #[.slice gG dR.length gH, .slice BV qK.length BZ] rfl (mY) ?_; (with_reducible refine (bC.calls k _ _ dR _ _ qK true _ ?aj ?aU ?fM ?fO A5.out).mono ?_); (case aj => repeat (first | exact (Kd.aA zU.out (ko HB.out)) | (with_reducible refine Kd.ed ?_ _) | (with_reducible refine Kd.dx ?_ _) | (with_reducible refine Kd.eD ?_))); (case aU => exact zV.out); (case fM => repeat (first | exact (Kd.aA UH.out (ko HB.out)) | (with_reducible refine Kd.ed ?_ _) | (with_reducible refine Kd.dx ?_ _) | (with_reducible refine Kd.eD ?_))); (case fO => exact UI.out); rintro e w' ⟨rfl, ⟨nd, rfl⟩⟩; refine ⟨_, rfl, ?_⟩) | ((with_reducible refine aI (f := 121) rfl ?_); refine bV (some 21) rfl rfl Try.func121 (by kernel_rfl) rfl #[.slice gM dS.length gN, .slice CW qL.length CX] rfl (mY) ?_; (with_reducible refine (dn.calls k _ _ dS _ _ qL true _ ?aj ?aU ?fM ?fO A7.out).mono ?_); (case aj => repeat (first | exact (Kd.aA EO.out (ko HB.out)) | (with_reducible refine Kd.ed ?_ _) | (with_reducible refine Kd.dx ?_ _) | (with_reducible refine Kd.eD ?_))); (case aU => exact EP.out); (case fM => repeat (first | exact (Kd.aA HR1_2.out (ko HB.out)) | (with_reducible refine Kd.ed ?_ _) | (with_reducible refine Kd.dx ?_ _) | (with_reducible refine Kd.eD ?_))); (case fO => exact HC1_2.out); rintro e w' ⟨rfl, ⟨nd, rfl⟩⟩; refine ⟨_, rfl, ?_⟩))
    go_ret
    exact ⟨vE, by repeat (first | (with_reducible first | exact HB.out | apply aK | apply ah | apply aT | refine bL ?_ Fj.out | refine bL ?_ Fp.out) | exact HB.out)⟩
   ·replace c8 := Bool.eq_false_iff.mpr c8
    subst c8
    have H1 : (some false) = some r := by rw [if_neg (show ¬ (false = true) by decide)] at H; exact H
    clear H
    have H := H1
    clear H1
    obtain rfl := Option.some.inj H
    go_enter Try.func98, Try.ntmps98
    go_wp2_with (first | (refine lY 2 #[.slice bR aX.length bQ, .slice gG dR.length gH, .slice gM dS.length gN] 110 ?_; intro fD hg IC aM hb; have fE := A_ (aM); have UJ := A_ ((by rw [hg]; exact (iU HB.out) : w.heap.size <= fD)); have Fj := A_ ((by rw [hg]; exact (iU HB.out) : w.heap.size <= fD)); replace HB := A_ (jO HB.out hb); clear hb aM hg) | (refine lY 3 #[.slice qm jw.length qo, .slice BV qK.length BZ, .slice CW qL.length CX] 110 ?_; intro iT hg EN aM hb; have jM := A_ (aM); have UK := A_ ((by rw [hg]; exact (iU HB.out) : w.heap.size <= iT)); have Fp := A_ ((by rw [hg]; exact (iU HB.out) : w.heap.size <= iT)); replace HB := A_ (jO HB.out hb); have o5 := A_ ((by rw [hg]; exact Nat.ne_of_lt (dh (g := fD) (o := .cells #[.slice bR aX.length bQ, .slice gG dR.length gH, .slice gM dS.length gN] 110 (0, 0)) (gW fE.out)) : fD ≠ iT)); have o6 := A_ ((by rw [hg]; exact Nat.ne_of_gt (dh (g := fD) (o := .cells #[.slice bR aX.length bQ, .slice gG dR.length gH, .slice gM dS.length gN] 110 (0, 0)) (gW fE.out)) : iT ≠ fD)); replace fE := A_ (av (g := fD) (o := .cells #[.slice bR aX.length bQ, .slice gG dR.length gH, .slice gM dS.length gN] 110 (0, 0)) (gW fE.out) hb); clear hb aM hg; have hnb16 := o5.out; have hnc16 := o6.out; have hcz17_0 : EN.cell? ⟨fD, 0, none⟩ = some (.slice bR aX.length bQ) := (af fE.out 0).trans rfl; have hcz17_1 : EN.cell? ⟨fD, 1, none⟩ = some (.slice gG dR.length gH) := (af fE.out 1).trans rfl; have hcz17_2 : EN.cell? ⟨fD, 2, none⟩ = some (.slice gM dS.length gN) := (af fE.out 2).trans rfl; have hfz17_0 := ax fE.out 0; have hfz17_1 := ax fE.out 1; have hfz17_2 := ax fE.out 2; have hcz18_0 : EN.cell? ⟨iT, 0, none⟩ = some (.slice qm jw.length qo) := (af jM.out 0).trans rfl; have hcz18_1 : EN.cell? ⟨iT, 1, none⟩ = some (.slice BV qK.length BZ) := (af jM.out 1).trans rfl; have hcz18_2 : EN.cell? ⟨iT, 2, none⟩ = some (.slice CW qL.length CX) := (af jM.out 2).trans rfl; have hfz18_0 := ax jM.out 0; have hfz18_1 := ax jM.out 1; have hfz18_2 := ax jM.out 2) | ((with_reducible refine aI (f := 26) rfl ?_); refine bV (some 9) rfl rfl Try.func26 (by kernel_rfl) rfl #[.slice bR aX.length bQ, .slice qm jw.length qo] rfl (mY) ?_; (with_reducible refine (bC.calls k _ _ aX _ _ jw true _ ?aj ?aU ?fM ?fO A3.out).mono ?_); (case aj => refine lH ?_; exact (Kd.aA lU.out HB.out)); (case aU => exact lV.out); (case fM => refine lH ?_; exact (Kd.aA Fg.out HB.out)); (case fO => exact Fh.out); rintro e w' ⟨rfl, ⟨nd, rfl⟩⟩; refine ⟨_, rfl, ?_⟩) | ((with_reducible refine aI (f := 26) rfl ?_); refine bV (some 15) rfl rfl Try.func26 (by kernel_rfl) rfl #[.slice gG dR.length gH, .slice BV qK.length BZ] rfl (mY) ?_; (with_reducible refine (bC.calls k _ _ dR _ _ qK true _ ?aj ?aU ?fM ?fO A5.out).mono ?_); (case aj => repeat (first | exact (Kd.aA zU.out (ko HB.out)) | (with_reducible refine Kd.ed ?_ _) | (with_reducible refine Kd.dx ?_ _) | (with_reducible refine Kd.eD ?_))); (case aU => exact zV.out); (case fM => repeat (first | exact (Kd.aA UH.out (ko HB.out)) | (with_reducible refine Kd.ed ?_ _) | (with_reducible refine Kd.dx ?_ _) | (with_reducible refine Kd.eD ?_))); (case fO => exact UI.out); rintro e w' ⟨rfl, ⟨nd, rfl⟩⟩; refine ⟨_, rfl, ?_⟩) | ((with_reducible refine aI (f := 121) rfl ?_); refine bV (some 21) rfl rfl Try.func121 (by kernel_rfl) rfl #[.slice gM dS.length gN, .slice CW qL.length CX] rfl (mY) ?_; (with_reducible refine (dn.calls k _ _ dS _ _ qL false _ ?aj ?aU ?fM ?fO A7.out).mono ?_); (case aj => repeat (first | exact (Kd.aA EO.out (ko HB.out)) | (with_reducible refine Kd.ed ?_ _) | (with_reducible refine Kd.dx ?_ _) | (with_reducible refine Kd.eD ?_))); (case aU => exact EP.out); (case fM => repeat (first | exact (Kd.aA HR1_2.out (ko HB.out)) | (with_reducible refine Kd.ed ?_ _) | (with_reducible refine Kd.dx ?_ _) | (with_reducible refine Kd.eD ?_))); (case fO => exact HC1_2.out); rintro e w' ⟨rfl, ⟨nd, rfl⟩⟩; refine ⟨_, rfl, ?_⟩))
    go_ret
    exact ⟨vE, by repeat (first | (with_reducible first | exact HB.out | apply aK | apply ah | apply aT | refine bL ?_ Fj.out | refine bL ?_ Fp.out) | exact HB.out)⟩
  ·replace c6 := Bool.eq_false_iff.mpr c6
   subst c6
   have H1 : (some false) = some r := by rw [if_neg (show ¬ (false = true) by decide)] at H; exact H
   clear H
   have H := H1
   clear H1
   obtain rfl := Option.some.inj H
   go_enter Try.func98, Try.ntmps98
   go_wp2_with (first | (refine lY 2 #[.slice bR aX.length bQ, .slice gG dR.length gH, .slice gM dS.length gN] 110 ?_; intro fD hg Y4 aM hb; have fE := A_ (aM); have UJ := A_ ((by rw [hg]; exact (iU HB.out) : w.heap.size <= fD)); have Fj := A_ ((by rw [hg]; exact (iU HB.out) : w.heap.size <= fD)); replace HB := A_ (jO HB.out hb); clear hb aM hg) | (refine lY 3 #[.slice qm jw.length qo, .slice BV qK.length BZ, .slice CW qL.length CX] 110 ?_; intro iT hg M9 aM hb; have jM := A_ (aM); have UK := A_ ((by rw [hg]; exact (iU HB.out) : w.heap.size <= iT)); have Fp := A_ ((by rw [hg]; exact (iU HB.out) : w.heap.size <= iT)); replace HB := A_ (jO HB.out hb); have o5 := A_ ((by rw [hg]; exact Nat.ne_of_lt (dh (g := fD) (o := .cells #[.slice bR aX.length bQ, .slice gG dR.length gH, .slice gM dS.length gN] 110 (0, 0)) (gW fE.out)) : fD ≠ iT)); have o6 := A_ ((by rw [hg]; exact Nat.ne_of_gt (dh (g := fD) (o := .cells #[.slice bR aX.length bQ, .slice gG dR.length gH, .slice gM dS.length gN] 110 (0, 0)) (gW fE.out)) : iT ≠ fD)); replace fE := A_ (av (g := fD) (o := .cells #[.slice bR aX.length bQ, .slice gG dR.length gH, .slice gM dS.length gN] 110 (0, 0)) (gW fE.out) hb); clear hb aM hg; have hnb21 := o5.out; have hnc21 := o6.out; have hcz22_0 : M9.cell? ⟨fD, 0, none⟩ = some (.slice bR aX.length bQ) := (af fE.out 0).trans rfl; have hcz22_1 : M9.cell? ⟨fD, 1, none⟩ = some (.slice gG dR.length gH) := (af fE.out 1).trans rfl; have hcz22_2 : M9.cell? ⟨fD, 2, none⟩ = some (.slice gM dS.length gN) := (af fE.out 2).trans rfl; have hfz22_0 := ax fE.out 0; have hfz22_1 := ax fE.out 1; have hfz22_2 := ax fE.out 2; have hcz23_0 : M9.cell? ⟨iT, 0, none⟩ = some (.slice qm jw.length qo) := (af jM.out 0).trans rfl; have hcz23_1 : M9.cell? ⟨iT, 1, none⟩ = some (.slice BV qK.length BZ) := (af jM.out 1).trans rfl; have hcz23_2 : M9.cell? ⟨iT, 2, none⟩ = some (.slice CW qL.length CX) := (af jM.out 2).trans rfl; have hfz23_0 := ax jM.out 0; have hfz23_1 := ax jM.out 1; have hfz23_2 := ax jM.out 2) | ((with_reducible refine aI (f := 26) rfl ?_); refine bV (some 9) rfl rfl Try.func26 (by kernel_rfl) rfl #[.slice bR aX.length bQ, .slice qm jw.length qo] rfl (mY) ?_; (with_reducible refine (bC.calls k _ _ aX _ _ jw true _ ?aj ?aU ?fM ?fO A3.out).mono ?_); (case aj => refine lH ?_; exact (Kd.aA lU.out HB.out)); (case aU => exact lV.out); (case fM => refine lH ?_; exact (Kd.aA Fg.out HB.out)); (case fO => exact Fh.out); rintro e w' ⟨rfl, ⟨nd, rfl⟩⟩; refine ⟨_, rfl, ?_⟩) | ((with_reducible refine aI (f := 26) rfl ?_); refine bV (some 15) rfl rfl Try.func26 (by kernel_rfl) rfl #[.slice gG dR.length gH, .slice BV qK.length BZ] rfl (mY) ?_; (with_reducible refine (bC.calls k _ _ dR _ _ qK false _ ?aj ?aU ?fM ?fO A5.out).mono ?_); (case aj => repeat (first | exact (Kd.aA zU.out (ko HB.out)) | (with_reducible refine Kd.ed ?_ _) | (with_reducible refine Kd.dx ?_ _) | (with_reducible refine Kd.eD ?_))); (case aU => exact zV.out); (case fM => repeat (first | exact (Kd.aA UH.out (ko HB.out)) | (with_reducible refine Kd.ed ?_ _) | (with_reducible refine Kd.dx ?_ _) | (with_reducible refine Kd.eD ?_))); (case fO => exact UI.out); rintro e w' ⟨rfl, ⟨nd, rfl⟩⟩; refine ⟨_, rfl, ?_⟩))
   go_ret
   exact ⟨vE, by repeat (first | (with_reducible first | exact HB.out | apply aK | apply ah | apply aT | refine bL ?_ Fj.out | refine bL ?_ Fp.out) | exact HB.out)⟩
 ·replace c4 := Bool.eq_false_iff.mpr c4
  subst c4
  have H1 : (some false) = some r := by rw [if_neg (show ¬ (false = true) by decide)] at H; exact H
  clear H
  have H := H1
  clear H1
  obtain rfl := Option.some.inj H
  go_enter Try.func98, Try.ntmps98
  go_wp2_with (first | (refine lY 2 #[.slice bR aX.length bQ, .slice gG dR.length gH, .slice gM dS.length gN] 110 ?_; intro fD hg w24 aM hb; have fE := A_ (aM); have UJ := A_ ((by rw [hg]; exact (iU HB.out) : w.heap.size <= fD)); have Fj := A_ ((by rw [hg]; exact (iU HB.out) : w.heap.size <= fD)); replace HB := A_ (jO HB.out hb); clear hb aM hg) | (refine lY 3 #[.slice qm jw.length qo, .slice BV qK.length BZ, .slice CW qL.length CX] 110 ?_; intro iT hg UL aM hb; have jM := A_ (aM); have UK := A_ ((by rw [hg]; exact (iU HB.out) : w.heap.size <= iT)); have Fp := A_ ((by rw [hg]; exact (iU HB.out) : w.heap.size <= iT)); replace HB := A_ (jO HB.out hb); have o5 := A_ ((by rw [hg]; exact Nat.ne_of_lt (dh (g := fD) (o := .cells #[.slice bR aX.length bQ, .slice gG dR.length gH, .slice gM dS.length gN] 110 (0, 0)) (gW fE.out)) : fD ≠ iT)); have o6 := A_ ((by rw [hg]; exact Nat.ne_of_gt (dh (g := fD) (o := .cells #[.slice bR aX.length bQ, .slice gG dR.length gH, .slice gM dS.length gN] 110 (0, 0)) (gW fE.out)) : iT ≠ fD)); replace fE := A_ (av (g := fD) (o := .cells #[.slice bR aX.length bQ, .slice gG dR.length gH, .slice gM dS.length gN] 110 (0, 0)) (gW fE.out) hb); clear hb aM hg; have hnb26 := o5.out; have hnc26 := o6.out; have hcz27_0 : UL.cell? ⟨fD, 0, none⟩ = some (.slice bR aX.length bQ) := (af fE.out 0).trans rfl; have hcz27_1 : UL.cell? ⟨fD, 1, none⟩ = some (.slice gG dR.length gH) := (af fE.out 1).trans rfl; have hcz27_2 : UL.cell? ⟨fD, 2, none⟩ = some (.slice gM dS.length gN) := (af fE.out 2).trans rfl; have hfz27_0 := ax fE.out 0; have hfz27_1 := ax fE.out 1; have hfz27_2 := ax fE.out 2; have hcz28_0 : UL.cell? ⟨iT, 0, none⟩ = some (.slice qm jw.length qo) := (af jM.out 0).trans rfl; have hcz28_1 : UL.cell? ⟨iT, 1, none⟩ = some (.slice BV qK.length BZ) := (af jM.out 1).trans rfl; have hcz28_2 : UL.cell? ⟨iT, 2, none⟩ = some (.slice CW qL.length CX) := (af jM.out 2).trans rfl; have hfz28_0 := ax jM.out 0; have hfz28_1 := ax jM.out 1; have hfz28_2 := ax jM.out 2) | ((with_reducible refine aI (f := 26) rfl ?_); refine bV (some 9) rfl rfl Try.func26 (by kernel_rfl) rfl #[.slice bR aX.length bQ, .slice qm jw.length qo] rfl (mY) ?_; (with_reducible refine (bC.calls k _ _ aX _ _ jw false _ ?aj ?aU ?fM ?fO A3.out).mono ?_); (case aj => refine lH ?_; exact (Kd.aA lU.out HB.out)); (case aU => exact lV.out); (case fM => refine lH ?_; exact (Kd.aA Fg.out HB.out)); (case fO => exact Fh.out); rintro e w' ⟨rfl, ⟨nd, rfl⟩⟩; refine ⟨_, rfl, ?_⟩))
  go_ret
  exact ⟨vE, by repeat (first | (with_reducible first | exact HB.out | apply aK | apply ah | apply aT | refine bL ?_ Fj.out | refine bL ?_ Fp.out) | exact HB.out)⟩
def bG.l0 : Nat -> List (bE) -> List (bE) -> Int -> Option (Bool)
 | 0, _, _, _ => none
 | k + 1, x0, x1, x5 => if x5 < (x0.length : Int) then (if 0 <= x5 then (if x5 < (x1.length : Int) then ((mW.f k ((aJ x0 x5).f0) ((aJ x0 x5).f1) ((aJ x0 x5).f2) ((aJ x1 x5).f0) ((aJ x1 x5).f1) ((aJ x1 x5).f2)).bind fun t163 => (if t163 = true then (bG.l0 k x0 x1 (wrap64 (x5 + 1))) else (some false))) else (none)) else (none)) else (some true)
def bG.f (k : Nat) (l0 : List (bE)) (l1 : List (bE)) : Option (Bool) := if (l0.length : Int) = (l1.length : Int) then (bG.l0 k l0 l1 0) else (some false)
def bG.T6 : Bool × List (List Nat × List Nat) := (true, [([], []), ([], []), ([0, 1], [0, 1]), ([2], [2]), ([], []), ([], []), ([4, 5], [4, 5]), ([6], [6]), ([3, 7], [3, 7]), ([8], [8])])
def bG.B6 : List Nat := [0, 0, 3, 7, 0, 0, 48, 112, 255, 511]
theorem bG.aau : rC .any (opsOf Try.f60 6) = bG.T6 := by kernel_rfl
theorem bG.Xh : uR bG.T6.2 bG.B6 = true := by kernel_rfl
theorem bG.calls (k : Nat) (A0 : Option Addr) (c0 : Nat) (l0 : List (bE)) (A1 : Option Addr) (c1 : Nat) (l1 : List (bE)) (r : Bool) (w : World) (hr0 : Kd.C oP w A0 l0.length l0) (hc0 : l0.length <= c0) (hr1 : Kd.C oP w A1 l1.length l1) (hc1 : l1.length <= c1) (h : bG.f k l0 l1 = some r) :
  Calls Try.prog 60 #[.slice A0 l0.length c0, .slice A1 l1.length c1] w fun e w' => e = .returned (.bool r) /\ Below w.heap.size w w' := by
 have QD := Try.underlying110
 have jf := A_ hr0
 have nQ := A_ hc0
 clear hr0 hc0
 have HR1 := A_ hr1
 have J6 := A_ hc1
 clear hr1 hc1
 have HB := A_ (Below.refl w.heap.size w)
 have H : (if (l0.length : Int) = (l1.length : Int) then (bG.l0 k l0 l1 0) else (some false)) = some r := h
 clear h
 by_cases c3 : (l0.length : Int) = (l1.length : Int)
 ·rw [if_pos c3] at H
  have jv : ((l0.length : Int) == (l1.length : Int)) = true := beq_iff_eq.mpr c3
  have vV : ((l0.length : Int) != (l1.length : Int)) = false := bne_eq_false_iff_eq.mpr c3
  have MR : (l0.length == l1.length) = true := by first | simpa using c3 | (simp at c3 ⊢; omega)
  clear c3
  have H' := A_ H
  clear H
  go_enter Try.func60, Try.ntmps60
  go_wp2
  go_loopg [5] k (fun kq v5 w' => ∃ (ay : Int), v5 = .int .i64 ay /\ ae (bG.l0 kq l0 l1 ay = some r) /\ ae (kq <= k) /\ ae (Below w.heap.size w w'))
  case atStart => exact ⟨(0), (by first | rfl | (simp; done) | (simp [*]; done)), H', ⟨Nat.le_refl _⟩, ⟨ko HB.out⟩⟩
  case round =>
   clear H'
   (try clear c1); (try clear p2); (try clear c3); (try clear jv); (try clear vV); (try clear MR)
   obtain ⟨ay, rfl, HA, ni, HB⟩ := hrel
   cases gk with
   | zero => exact absurd HA.out (by simp [bG.l0])
   | succ k1 =>
    have H := HA.out
    clear HA
    simp only [bG.l0] at H
    by_cases c4 : ay < (l0.length : Int)
    ·rw [if_pos c4] at H
     have mq : decide (ay < (l0.length : Int)) = true := decide_eq_true c4
     clear c4
     by_cases c5 : 0 <= ay
     ·rw [if_pos c5] at H
      have CS : decide (0 <= ay) = true := decide_eq_true c5
      clear c5
      by_cases c6 : ay < (l1.length : Int)
      ·rw [if_pos c6] at H
       have yD : decide (ay < (l1.length : Int)) = true := decide_eq_true c6
       clear c6
       replace H := Option.bind_eq_some_iff.mp H
       obtain ⟨t163, QL, H⟩ := H
       replace H : (if t163 = true then (bG.l0 k1 l0 l1 (wrap64 (ay + 1))) else (some false)) = some r := H
       have A7 := A_ QL
       clear QL
       by_cases c8 : t163 = true
       ·subst c8
        have H1 : (bG.l0 k1 l0 l1 (wrap64 (ay + 1))) = some r := by rw [if_pos rfl] at H; exact H
        clear H
        have H := H1
        clear H1
        have H' := A_ H
        clear H
        try go_wp2
        replace HB := A_ (aT HB.out)
        have Pw : 0 <= (ay : Int) := of_decide_eq_true eP
        have Px : ay < (l0.length : Int) := of_decide_eq_true eP
        obtain ⟨wT, Fq, Fs, Fu, Fv, Fw, Fx, Y5, oo, oq, ou, Ar, Au, Aw, Ay, Az, AA⟩ := jT jf.out ay Pw Px
        have qM := ou
        have qN := oq
        have qO := oo
        cases Y5
        replace oo := (HB.out.cell (World.block_lt_of_cell? w _ oo)).trans oo
        replace oq := (HB.out.cell (World.block_lt_of_cell? w _ oq)).trans oq
        replace ou := (HB.out.cell (World.block_lt_of_cell? w _ ou)).trans ou
        have AB := A_ Au
        have Kk := A_ Ar
        clear Au Ar
        have AJ := A_ Ay
        have Kl := A_ Aw
        clear Ay Aw
        have AL := A_ AA
        have Km := A_ Az
        clear AA Az
        replace Pw := eq_true Pw
        replace Px := eq_true Px
        have Py : 0 <= (ay : Int) := of_decide_eq_true eP
        have Pz : ay < (l1.length : Int) := of_decide_eq_true eP
        obtain ⟨wU, Fy, Fz, FB, FC, FD, FE, Y6, ow, oz, oC, AO, AP, AQ, AR, AU, AV⟩ := jT HR1.out ay Py Pz
        have qP := oC
        have qQ := oz
        have qR := ow
        cases Y6
        replace ow := (HB.out.cell (World.block_lt_of_cell? w _ ow)).trans ow
        replace oz := (HB.out.cell (World.block_lt_of_cell? w _ oz)).trans oz
        replace oC := (HB.out.cell (World.block_lt_of_cell? w _ oC)).trans oC
        have AX := A_ AP
        have Kn := A_ AO
        clear AP AO
        have AY := A_ AR
        have Ko := A_ AQ
        clear AR AQ
        have AZ := A_ AV
        have Kq := A_ AU
        clear AV AU
        replace Py := eq_true Py
        replace Pz := eq_true Pz
        refine dL (n := 10) (S := fun w' => w'.cell? (wT.add ((ay).toNat * 3)) = some (.slice Fq ((aJ l0 ay).f0).length Fs) /\ w'.cell? ⟨(wT.add ((ay).toNat * 3)).block, (wT.add ((ay).toNat * 3)).off + 1, none⟩ = some (.slice Fu ((aJ l0 ay).f1).length Fv) /\ w'.cell? ⟨(wT.add ((ay).toNat * 3)).block, (wT.add ((ay).toNat * 3)).off + 2, none⟩ = some (.slice Fw ((aJ l0 ay).f2).length Fx) /\ w'.cell? (wU.add ((ay).toNat * 3)) = some (.slice Fy ((aJ l1 ay).f0).length Fz) /\ w'.cell? ⟨(wU.add ((ay).toNat * 3)).block, (wU.add ((ay).toNat * 3)).off + 1, none⟩ = some (.slice FB ((aJ l1 ay).f1).length FC) /\ w'.cell? ⟨(wU.add ((ay).toNat * 3)).block, (wU.add ((ay).toNat * 3)).off + 2, none⟩ = some (.slice FD ((aJ l1 ay).f2).length FE)) (ds := []) (bt 10 0) (by kernel_rfl) rfl rfl ⟨((HB.out.cell (World.block_lt_of_cell? w _ qO)).trans qO), ((HB.out.cell (World.block_lt_of_cell? w _ qN)).trans qN), ((HB.out.cell (World.block_lt_of_cell? w _ qM)).trans qM), ((HB.out.cell (World.block_lt_of_cell? w _ qR)).trans qR), ((HB.out.cell (World.block_lt_of_cell? w _ qQ)).trans qQ), ((HB.out.cell (World.block_lt_of_cell? w _ qP)).trans qP)⟩ (fun hHeld => ?_); refine xn bG.aau bG.Xh (fun O4 HW_ => ?_)
        generalize wr.drew = w9 at HB AB AJ AL AX AY AZ oo oq ou ow oz oC hHeld ⊢
        refine aQ 0 17 1 ?_
        refine aQ 1 18 3 ?_
        refine aQ 2 19 7 ?_
        refine aQ 4 21 23 ?_
        refine aQ 5 22 55 ?_
        refine aQ 6 23 119 ?_
        refine gF 3 20 127 hHeld ?_
        refine gF 7 24 255 hHeld ?_
        refine IW (i := 8) (N := some 25) (bt 10 511) rfl rfl (wE O4.out (by kernel_rfl)) (by decide) (fun K hK => ?_)
        refine KL Try.func98 (by kernel_rfl) rfl #[.agg #[.slice Fq ((aJ l0 ay).f0).length Fs, .slice Fu ((aJ l0 ay).f1).length Fv, .slice Fw ((aJ l0 ay).f2).length Fx], .agg #[.slice Fy ((aJ l1 ay).f0).length Fz, .slice FB ((aJ l1 ay).f1).length FC, .slice FD ((aJ l1 ay).f2).length FE]] (by rfl) rfl rfl (mY) ?_
        with_reducible refine (mW.calls k1 _ _ ((aJ l0 ay).f0) _ _ ((aJ l0 ay).f1) _ _ ((aJ l0 ay).f2) _ _ ((aJ l1 ay).f0) _ _ ((aJ l1 ay).f1) _ _ ((aJ l1 ay).f2) true _ ?aj ?aU ?fM ?fO ?zX ?zY ?UM ?UN ?UO ?PD ?PE ?PG A7.out).mono ?_
        (case aj => refine lH ?_; exact (Kd.aA AB.out HB.out))
        (case aU => exact Kk.out)
        (case fM => refine lH ?_; exact (Kd.aA AJ.out HB.out))
        (case fO => exact Kl.out)
        (case zX => refine lH ?_; exact (Kd.aA AL.out HB.out))
        (case zY => exact Km.out)
        (case UM => refine lH ?_; exact (Kd.aA AX.out HB.out))
        (case UN => exact Kn.out)
        (case UO => refine lH ?_; exact (Kd.aA AY.out HB.out))
        (case PD => exact Ko.out)
        (case PE => refine lH ?_; exact (Kd.aA AZ.out HB.out))
        (case PG => exact Kq.out)
        rintro e vN ⟨rfl, hb⟩
        refine ⟨_, rfl, ?_⟩
        replace HB := A_ (jO HB.out hb)
        (try clear hb)
        (try clear hb2)
        (try clear hk)
        (try clear hi)
        refine hK.out _ _ ⟨((HB.out.cell (World.block_lt_of_cell? w _ qO)).trans qO), ((HB.out.cell (World.block_lt_of_cell? w _ qN)).trans qN), ((HB.out.cell (World.block_lt_of_cell? w _ qM)).trans qM), ((HB.out.cell (World.block_lt_of_cell? w _ qR)).trans qR), ((HB.out.cell (World.block_lt_of_cell? w _ qQ)).trans qQ), ((HB.out.cell (World.block_lt_of_cell? w _ qP)).trans qP)⟩ (fun hHeld => ?_)
        clear hK K
        refine fw 25 ?_
        refine aQ 9 26 1023 ?_
        refine fA (De O4.out (by kernel_rfl)) ?_
        try go_wp2
        go_roundg k1
        case measure => have := ni.out; omega
        case rel => exact ⟨(wrap64 (ay + 1)), (by first | rfl | (simp; done) | (simp [*]; done)), H', ⟨by have := ni.out; omega⟩, ⟨ko HB.out⟩⟩
       ·replace c8 := Bool.eq_false_iff.mpr c8
        subst c8
        have H1 : (some false) = some r := by rw [if_neg (show ¬ (false = true) by decide)] at H; exact H
        clear H
        have H := H1
        clear H1
        obtain rfl := Option.some.inj H
        try go_wp2
        replace HB := A_ (aT HB.out)
        have Pw : 0 <= (ay : Int) := of_decide_eq_true eP
        have Px : ay < (l0.length : Int) := of_decide_eq_true eP
        obtain ⟨wT, Fq, Fs, Fu, Fv, Fw, Fx, Y5, oo, oq, ou, Ar, Au, Aw, Ay, Az, AA⟩ := jT jf.out ay Pw Px
        have qM := ou
        have qN := oq
        have qO := oo
        cases Y5
        replace oo := (HB.out.cell (World.block_lt_of_cell? w _ oo)).trans oo
        replace oq := (HB.out.cell (World.block_lt_of_cell? w _ oq)).trans oq
        replace ou := (HB.out.cell (World.block_lt_of_cell? w _ ou)).trans ou
        have AB := A_ Au
        have Kk := A_ Ar
        clear Au Ar
        have AJ := A_ Ay
        have Kl := A_ Aw
        clear Ay Aw
        have AL := A_ AA
        have Km := A_ Az
        clear AA Az
        replace Pw := eq_true Pw
        replace Px := eq_true Px
        have Py : 0 <= (ay : Int) := of_decide_eq_true eP
        have Pz : ay < (l1.length : Int) := of_decide_eq_true eP
        obtain ⟨wU, Fy, Fz, FB, FC, FD, FE, Y6, ow, oz, oC, AO, AP, AQ, AR, AU, AV⟩ := jT HR1.out ay Py Pz
        have qP := oC
        have qQ := oz
        have qR := ow
        cases Y6
        replace ow := (HB.out.cell (World.block_lt_of_cell? w _ ow)).trans ow
        replace oz := (HB.out.cell (World.block_lt_of_cell? w _ oz)).trans oz
        replace oC := (HB.out.cell (World.block_lt_of_cell? w _ oC)).trans oC
        have AX := A_ AP
        have Kn := A_ AO
        clear AP AO
        have AY := A_ AR
        have Ko := A_ AQ
        clear AR AQ
        have AZ := A_ AV
        have Kq := A_ AU
        clear AV AU
        replace Py := eq_true Py
        replace Pz := eq_true Pz
        refine dL (n := 10) (S := fun w' => w'.cell? (wT.add ((ay).toNat * 3)) = some (.slice Fq ((aJ l0 ay).f0).length Fs) /\ w'.cell? ⟨(wT.add ((ay).toNat * 3)).block, (wT.add ((ay).toNat * 3)).off + 1, none⟩ = some (.slice Fu ((aJ l0 ay).f1).length Fv) /\ w'.cell? ⟨(wT.add ((ay).toNat * 3)).block, (wT.add ((ay).toNat * 3)).off + 2, none⟩ = some (.slice Fw ((aJ l0 ay).f2).length Fx) /\ w'.cell? (wU.add ((ay).toNat * 3)) = some (.slice Fy ((aJ l1 ay).f0).length Fz) /\ w'.cell? ⟨(wU.add ((ay).toNat * 3)).block, (wU.add ((ay).toNat * 3)).off + 1, none⟩ = some (.slice FB ((aJ l1 ay).f1).length FC) /\ w'.cell? ⟨(wU.add ((ay).toNat * 3)).block, (wU.add ((ay).toNat * 3)).off + 2, none⟩ = some (.slice FD ((aJ l1 ay).f2).length FE)) (ds := []) (bt 10 0) (by kernel_rfl) rfl rfl ⟨((HB.out.cell (World.block_lt_of_cell? w _ qO)).trans qO), ((HB.out.cell (World.block_lt_of_cell? w _ qN)).trans qN), ((HB.out.cell (World.block_lt_of_cell? w _ qM)).trans qM), ((HB.out.cell (World.block_lt_of_cell? w _ qR)).trans qR), ((HB.out.cell (World.block_lt_of_cell? w _ qQ)).trans qQ), ((HB.out.cell (World.block_lt_of_cell? w _ qP)).trans qP)⟩ (fun hHeld => ?_); refine xn bG.aau bG.Xh (fun O4 HW_ => ?_)
        generalize wr.drew = sP at HB AB AJ AL AX AY AZ oo oq ou ow oz oC hHeld ⊢
        refine aQ 0 17 1 ?_
        refine aQ 1 18 3 ?_
        refine aQ 2 19 7 ?_
        refine aQ 4 21 23 ?_
        refine aQ 5 22 55 ?_
        refine aQ 6 23 119 ?_
        refine gF 3 20 127 hHeld ?_
        refine gF 7 24 255 hHeld ?_
        refine IW (i := 8) (N := some 25) (bt 10 511) rfl rfl (wE O4.out (by kernel_rfl)) (by decide) (fun K hK => ?_)
        refine KL Try.func98 (by kernel_rfl) rfl #[.agg #[.slice Fq ((aJ l0 ay).f0).length Fs, .slice Fu ((aJ l0 ay).f1).length Fv, .slice Fw ((aJ l0 ay).f2).length Fx], .agg #[.slice Fy ((aJ l1 ay).f0).length Fz, .slice FB ((aJ l1 ay).f1).length FC, .slice FD ((aJ l1 ay).f2).length FE]] (by rfl) rfl rfl (mY) ?_
        with_reducible refine (mW.calls k1 _ _ ((aJ l0 ay).f0) _ _ ((aJ l0 ay).f1) _ _ ((aJ l0 ay).f2) _ _ ((aJ l1 ay).f0) _ _ ((aJ l1 ay).f1) _ _ ((aJ l1 ay).f2) false _ ?aj ?aU ?fM ?fO ?zX ?zY ?UM ?UN ?UO ?PD ?PE ?PG A7.out).mono ?_
        (case aj => refine lH ?_; exact (Kd.aA AB.out HB.out))
        (case aU => exact Kk.out)
        (case fM => refine lH ?_; exact (Kd.aA AJ.out HB.out))
        (case fO => exact Kl.out)
        (case zX => refine lH ?_; exact (Kd.aA AL.out HB.out))
        (case zY => exact Km.out)
        (case UM => refine lH ?_; exact (Kd.aA AX.out HB.out))
        (case UN => exact Kn.out)
        (case UO => refine lH ?_; exact (Kd.aA AY.out HB.out))
        (case PD => exact Ko.out)
        (case PE => refine lH ?_; exact (Kd.aA AZ.out HB.out))
        (case PG => exact Kq.out)
        rintro e MV ⟨rfl, hb⟩
        refine ⟨_, rfl, ?_⟩
        replace HB := A_ (jO HB.out hb)
        (try clear hb)
        (try clear hb2)
        (try clear hk)
        (try clear hi)
        refine hK.out _ _ ⟨((HB.out.cell (World.block_lt_of_cell? w _ qO)).trans qO), ((HB.out.cell (World.block_lt_of_cell? w _ qN)).trans qN), ((HB.out.cell (World.block_lt_of_cell? w _ qM)).trans qM), ((HB.out.cell (World.block_lt_of_cell? w _ qR)).trans qR), ((HB.out.cell (World.block_lt_of_cell? w _ qQ)).trans qQ), ((HB.out.cell (World.block_lt_of_cell? w _ qP)).trans qP)⟩ (fun hHeld => ?_)
        clear hK K
        refine fw 25 ?_
        refine aQ 9 26 1023 ?_
        refine fA (De O4.out (by kernel_rfl)) ?_
        try go_wp2
        go_ret
        exact ⟨vE, by repeat (first | (with_reducible first | exact HB.out | apply aK | apply ah | apply aT) | exact HB.out)⟩
      ·rw [if_neg c6] at H
       exact absurd H (by simp)
     ·rw [if_neg c5] at H
      exact absurd H (by simp)
    ·rw [if_neg c4] at H
     have mq : decide (ay < (l0.length : Int)) = false := decide_eq_false c4
     clear c4
     obtain rfl := Option.some.inj H
     go_wp2
     go_ret
     exact ⟨vE, by repeat (first | (with_reducible first | exact HB.out | apply aK | apply ah | apply aT) | exact HB.out)⟩
 ·rw [if_neg c3] at H
  have jv : ((l0.length : Int) == (l1.length : Int)) = false := beq_eq_false_iff_ne.mpr c3
  have vV : ((l0.length : Int) != (l1.length : Int)) = true := bne_iff_ne.mpr c3
  have MR : (l0.length == l1.length) = false := by first | simpa using c3 | (simp at c3 ⊢; omega)
  obtain rfl := Option.some.inj H
  go_enter Try.func60, Try.ntmps60
  go_wp2
  go_ret
  exact ⟨vE, by repeat (first | (with_reducible first | exact HB.out | apply aK | apply ah | apply aT) | exact HB.out)⟩
def gB.f (k : Nat) (aX : List (bE)) (jw : List (bE)) : Option (Bool) := (bG.f k aX jw).bind fun t166 => (if t166 = true then (some true) else (some false))
theorem gB.calls (k : Nat) (bR : Option Addr) (bQ : Nat) (aX : List (bE)) (qm : Option Addr) (qo : Nat) (jw : List (bE)) (r : Bool) (w : World) (jB : Kd.C oP w bR aX.length aX) (jQ : aX.length <= bQ) (MS : Kd.C oP w qm jw.length jw) (MU : jw.length <= qo) (h : gB.f k aX jw = some r) :
  Calls Try.prog 19 #[.agg #[.slice bR aX.length bQ], .agg #[.slice qm jw.length qo]] w fun e w' => e = .returned (.bool r) /\ Below w.heap.size w w' := by
 have Wu := Try.underlying29
 have lU := A_ jB
 have lV := A_ jQ
 clear jB jQ
 have Fg := A_ MS
 have Fh := A_ MU
 clear MS MU
 have HB := A_ (Below.refl w.heap.size w)
 have H : ((bG.f k aX jw).bind fun t166 => (if t166 = true then (some true) else (some false))) = some r := h
 clear h
 replace H := Option.bind_eq_some_iff.mp H
 obtain ⟨t166, tN, H⟩ := H
 replace H : (if t166 = true then (some true) else (some false)) = some r := H
 have A3 := A_ tN
 clear tN
 by_cases c4 : t166 = true
 ·subst c4
  have H1 : (some true) = some r := by rw [if_pos rfl] at H; exact H
  clear H
  have H := H1
  clear H1
  obtain rfl := Option.some.inj H
  go_enter Try.func19, Try.ntmps19
  go_wp2_with (first | (refine lY 2 #[.slice bR aX.length bQ] 29 ?_; intro oD hg w5 aM hb; have pY := A_ (aM); have GW164 := A_ ((by rw [hg]; exact (iU HB.out) : w.heap.size <= oD)); have UQ := A_ ((by rw [hg]; exact (iU HB.out) : w.heap.size <= oD)); replace HB := A_ (jO HB.out hb); clear hb aM hg) | (refine lY 3 #[.slice qm jw.length qo] 29 ?_; intro uE hg w6 aM hb; have Ba := A_ (aM); have GW165 := A_ ((by rw [hg]; exact (iU HB.out) : w.heap.size <= uE)); have UR := A_ ((by rw [hg]; exact (iU HB.out) : w.heap.size <= uE)); replace HB := A_ (jO HB.out hb); have Ca := A_ ((by rw [hg]; exact Nat.ne_of_lt (dh (g := oD) (o := .cells #[.slice bR aX.length bQ] 29 (0, 0)) (gW pY.out)) : oD ≠ uE)); have Cb := A_ ((by rw [hg]; exact Nat.ne_of_gt (dh (g := oD) (o := .cells #[.slice bR aX.length bQ] 29 (0, 0)) (gW pY.out)) : uE ≠ oD)); replace pY := A_ (av (g := oD) (o := .cells #[.slice bR aX.length bQ] 29 (0, 0)) (gW pY.out) hb); clear hb aM hg; have hnb7 := Ca.out; have hnc7 := Cb.out; have hcz8_0 : w6.cell? ⟨oD, 0, none⟩ = some (.slice bR aX.length bQ) := (af pY.out 0).trans rfl; have hfz8_0 := ax pY.out 0; have hcz9_0 : w6.cell? ⟨uE, 0, none⟩ = some (.slice qm jw.length qo) := (af Ba.out 0).trans rfl; have hfz9_0 := ax Ba.out 0) | ((with_reducible refine aI (f := 60) rfl ?_); refine bV (some 9) rfl rfl Try.func60 (by kernel_rfl) rfl #[.slice bR aX.length bQ, .slice qm jw.length qo] rfl (mY) ?_; (with_reducible refine (bG.calls k _ _ aX _ _ jw true _ ?aj ?aU ?fM ?fO A3.out).mono ?_); (case aj => refine lH ?_; exact (Kd.aA lU.out HB.out)); (case aU => exact lV.out); (case fM => refine lH ?_; exact (Kd.aA Fg.out HB.out)); (case fO => exact Fh.out); rintro e vN ⟨rfl, hb⟩; refine ⟨_, rfl, ?_⟩; replace pY := A_ (av (g := oD) (o := .cells #[.slice bR aX.length bQ] 29 (0, 0)) (gW pY.out) hb); replace Ba := A_ (av (g := uE) (o := .cells #[.slice qm jw.length qo] 29 (0, 0)) (gW Ba.out) hb); replace HB := A_ (jO HB.out hb); (try clear hb); (try clear hb2); (try clear hk); (try clear hi)))
  go_ret
  exact ⟨vE, by repeat (first | (with_reducible first | exact HB.out | apply aK | apply ah | apply aT | refine bL ?_ UQ.out | refine bL ?_ UR.out) | exact HB.out)⟩
 ·replace c4 := Bool.eq_false_iff.mpr c4
  subst c4
  have H1 : (some false) = some r := by rw [if_neg (show ¬ (false = true) by decide)] at H; exact H
  clear H
  have H := H1
  clear H1
  obtain rfl := Option.some.inj H
  go_enter Try.func19, Try.ntmps19
  go_wp2_with (first | (refine lY 2 #[.slice bR aX.length bQ] 29 ?_; intro oD hg sP aM hb; have pY := A_ (aM); have GW164 := A_ ((by rw [hg]; exact (iU HB.out) : w.heap.size <= oD)); have UQ := A_ ((by rw [hg]; exact (iU HB.out) : w.heap.size <= oD)); replace HB := A_ (jO HB.out hb); clear hb aM hg) | (refine lY 3 #[.slice qm jw.length qo] 29 ?_; intro uE hg MV aM hb; have Ba := A_ (aM); have GW165 := A_ ((by rw [hg]; exact (iU HB.out) : w.heap.size <= uE)); have UR := A_ ((by rw [hg]; exact (iU HB.out) : w.heap.size <= uE)); replace HB := A_ (jO HB.out hb); have Ca := A_ ((by rw [hg]; exact Nat.ne_of_lt (dh (g := oD) (o := .cells #[.slice bR aX.length bQ] 29 (0, 0)) (gW pY.out)) : oD ≠ uE)); have Cb := A_ ((by rw [hg]; exact Nat.ne_of_gt (dh (g := oD) (o := .cells #[.slice bR aX.length bQ] 29 (0, 0)) (gW pY.out)) : uE ≠ oD)); replace pY := A_ (av (g := oD) (o := .cells #[.slice bR aX.length bQ] 29 (0, 0)) (gW pY.out) hb); clear hb aM hg; have hnb13 := Ca.out; have hnc13 := Cb.out; have hcz14_0 : MV.cell? ⟨oD, 0, none⟩ = some (.slice bR aX.length bQ) := (af pY.out 0).trans rfl; have hfz14_0 := ax pY.out 0; have hcz15_0 : MV.cell? ⟨uE, 0, none⟩ = some (.slice qm jw.length qo) := (af Ba.out 0).trans rfl; have hfz15_0 := ax Ba.out 0) | ((with_reducible refine aI (f := 60) rfl ?_); refine bV (some 9) rfl rfl Try.func60 (by kernel_rfl) rfl #[.slice bR aX.length bQ, .slice qm jw.length qo] rfl (mY) ?_; (with_reducible refine (bG.calls k _ _ aX _ _ jw false _ ?aj ?aU ?fM ?fO A3.out).mono ?_); (case aj => refine lH ?_; exact (Kd.aA lU.out HB.out)); (case aU => exact lV.out); (case fM => refine lH ?_; exact (Kd.aA Fg.out HB.out)); (case fO => exact Fh.out); rintro e w16 ⟨rfl, hb⟩; refine ⟨_, rfl, ?_⟩; replace pY := A_ (av (g := oD) (o := .cells #[.slice bR aX.length bQ] 29 (0, 0)) (gW pY.out) hb); replace Ba := A_ (av (g := uE) (o := .cells #[.slice qm jw.length qo] 29 (0, 0)) (gW Ba.out) hb); replace HB := A_ (jO HB.out hb); (try clear hb); (try clear hb2); (try clear hk); (try clear hi)))
  go_ret
  exact ⟨vE, by repeat (first | (with_reducible first | exact HB.out | apply aK | apply ah | apply aT | refine bL ?_ UQ.out | refine bL ?_ UR.out) | exact HB.out)⟩
end Go.Proofs.Ytoddejmlcnbdmaa.Fn
namespace Go.Proofs.Ytoddejmlcnbdmaa.Pure
open Go.Proofs.Ytoddejmlcnbdmaa.Fn
def F6 (p : mJ) : bE := ⟨p.f0, p.f1, p.f2⟩
def Bz (a : Int) (p : mJ) : Prop := (p.f0.length : Int) <= a /\ (p.f1.length : Int) <= a /\ (p.f2.length : Int) <= a /\ (∀ y ∈ p.f0, (y.size : Int) <= a) /\ (∀ y ∈ p.f1, (y.size : Int) <= a)
def wfP (p : mJ) : Prop := (p.f0.length <= maxLen /\ ∀ y ∈ p.f0, y.size <= maxLen) /\ (p.f1.length <= maxLen /\ ∀ y ∈ p.f1, y.size <= maxLen) /\ p.f2.length <= maxLen
def XR (p : bE) : Prop := p.f0.length <= 1048576 /\ p.f1.length <= 1048576 /\ p.f2.length <= 1048576
theorem Rl (P : List mJ) (hl : P.length <= 1048576) (hw : ∀ p ∈ P, p.f0.length <= 1048576 /\ p.f1.length <= 1048576 /\ p.f2.length <= 1048576) : Ev (fun k => iF.f k P) (P.map F6) := by
 have h := PX (fun k x3 i => dz.l0 k P x3 i) F6 jG P ?_ ?_
 ·simp only [iF.f, dz.f, Int.toNat_natCast]
  refine Ev.bind (a := P.map F6) ?_ ?_
  ·(repeat (first | with_reducible refine Ev.dw ?_ | (with_reducible refine Ev.kU ?_ ?_; (· exact bS)) | (with_reducible refine Ev.lF ?_ ?_; (· exact bS))))
   exact h
  ·exact Ev.val rfl
 ·intro k x3
  simp only [dz.l0]
  rw [if_neg (by omega)]
 ·intro i x hx
  have hlt := (List.getElem?_eq_some_iff.1 hx).1
  obtain ⟨w1, w2, w3⟩ := hw x (List.mem_of_getElem? hx)
  have hrd : dE P (i : Int) = x := iB (z := VB) hx
  obtain ⟨K1, g1⟩ := Hr x.f0 w1
  obtain ⟨K2, g2⟩ := Hr x.f1 w2
  refine ⟨max (max K1 K2) (x.f2.length + 1), fun k x3 hk h3 => ?_⟩
  simp only [dz.l0]
  rw [if_pos (by omega), if_pos (by omega), hrd, eT (by omega), Int.toNat_natCast]
  have e1 := g1 k (by omega)
  have e2 := g2 k (by omega)
  have e3 := toInt_eq x.f2 (by omega) k (by omega)
  dsimp only at e1 e2
  simp only [pI.f, e1, e2, e3, Option.bind_some]
  rw [if_pos (by omega)]
  rfl
theorem Hu (P : List bE) (hl : P.length <= 1048576) (hw : ∀ p ∈ P, XR p) : Ev (fun k => gB.f k P P) true := by
 have h := Sz (fun k i => bG.l0 k P P i) P.length true ?_ ?_
 ·simp only [gB.f, bG.f]
  refine Ev.bind (a := true) ?_ ?_
  ·(repeat (first | with_reducible refine Ev.dw ?_ | (with_reducible refine Ev.kU ?_ ?_; (· exact bS)) | (with_reducible refine Ev.lF ?_ ?_; (· exact bS))))
   exact h
  ·(repeat (first | with_reducible refine Ev.dw ?_ | (with_reducible refine Ev.kU ?_ ?_; (· exact bS)) | (with_reducible refine Ev.lF ?_ ?_; (· exact bS))))
   exact Ev.val rfl
 ·intro k
  simp only [bG.l0]
  rw [if_neg (by omega)]
 ·intro i hi
  have hx : P[i]? = some P[i] := List.getElem?_eq_getElem hi
  obtain ⟨w1, w2, w3⟩ := hw _ (List.mem_of_getElem? hx)
  have hrd : aJ P (i : Int) = P[i] := iB (z := jG) hx
  generalize P[i] = x at *
  obtain ⟨K1, g1⟩ := Ht x.f0 w1
  obtain ⟨K2, g2⟩ := Ht x.f1 w2
  refine ⟨max (max K1 K2) (x.f2.length + 1), fun k hk => ?_⟩
  simp only [bG.l0]
  rw [if_pos (by omega), if_pos (by omega), if_pos (by omega), hrd, eT (by omega)]
  have e1 := g1 k (by omega)
  have e2 := g2 k (by omega)
  have e3 := NK x.f2 (by omega) k (by omega)
  dsimp only at e1 e2
  simp only [mW.f, e1, e2, e3, Option.bind_some]
  rfl
theorem BB {α : Type} : ∀ (cs : List (List α)) (ks : List α), cs.length = ks.length + 1 -> (bX cs ks).length + 1 = (cs.map fun c => c.length + 1).sum
 | [], ks, h => by simp at h
 | [c], [], _ => by simp [bX]
 | c :: d :: cs, [], h => by simp at h
 | c :: cs, k :: ks, h => by
  have := BB cs ks (by simpa using h)
  simp only [bX, List.length_append, List.length_cons, List.map_cons, List.sum_cons]
  omega
theorem Tv {α : Type} (f : α -> Nat) (m : Nat) : ∀ l : List α, (∀ x ∈ l, m <= f x) -> l.length * m <= (l.map f).sum
 | [], _ => by simp
 | x :: l, h => by
  have := Tv f m l fun y hy => h y (List.mem_cons_of_mem _ hy)
  have := h x List.mem_cons_self
  simp only [List.length_cons, List.map_cons, List.sum_cons, Nat.succ_mul]
  omega
theorem Qo : ∀ (h : Nat) (t : PT), qB t -> uU (h + 1) t -> (t.keys.length + 1) * 3 ^ h <= (bY t).length + 1
 | h, t, hs, hl => by
  have h1 := hs.one
  unfold xZ at h1
  rcases hl with ⟨a1, a2⟩ | ⟨a1, a2⟩
  ·subst a2
   rw [qD, a1]
   simp [bX]
  ·have hkl : t.kids.length = t.keys.length + 1 := h1.2.2.resolve_left (by
    intro h0
    exact a1 (List.length_eq_zero_iff.1 h0))
   cases h with
   | zero =>
    cases hk : t.kids with
    | nil => exact absurd hk a1
    | cons c cs => exact (a2 c (by rw [hk]; exact List.mem_cons_self)).1.elim
   | succ h =>
    rw [qD, BB _ _ (by rw [List.length_map]; exact hkl), List.map_map]
    have := Tv ((fun c : List ByteArray => c.length + 1) ∘ bY) (3 ^ (h + 1)) t.kids fun s hm => by
     obtain ⟨l1, l2⟩ := a2 s hm
     obtain ⟨i, hi⟩ := List.getElem?_of_mem hm
     have hr := Qo h s (hs.kid hi) l1
     show 3 ^ (h + 1) <= (bY s).length + 1
     have h3 : 3 * 3 ^ h <= (s.keys.length + 1) * 3 ^ h := Nat.mul_le_mul_right _ (by omega)
     rw [Nat.pow_succ, Nat.mul_comm]
     omega
    rw [hkl] at this
    exact this
theorem Hw {rd : Nat -> Option (PT × Nat)} : ∀ (l : List Int) (next : Nat) (acc ts : List PT) (n : Nat), fG rd l next acc = some (ts, n) -> ∀ x ∈ acc, x ∈ ts
 | [], next, acc, ts, n, h, x, hx => by
  rw [fG] at h
  injection h with h
  injection h with e1 e2
  rw [<- e1]
  exact hx
 | k :: ks, next, acc, ts, n, h, x, hx => by
  rw [fG] at h
  split at h
  ·cases h
  ·cases hr : rd next with
   | none => rw [hr] at h; cases h
   | some r =>
    rw [hr] at h
    exact Hw ks r.2 _ ts n h x (List.mem_append_left _ hx)
theorem BD {rd rd' : Nat -> Option (PT × Nat)} {Q : PT -> Prop} (hrd : ∀ a t n, rd a = some (t, n) -> Q t -> rd' a = some (t, n)) : ∀ (l : List Int) (next : Nat) (acc ts : List PT) (n : Nat), fG rd l next acc = some (ts, n) -> (∀ s ∈ ts, Q s) -> fG rd' l next acc = some (ts, n)
 | [], next, acc, ts, n, h, _ => h
 | k :: ks, next, acc, ts, n, h, hq => by
  rw [fG] at h ⊢
  split at h
  ·cases h
  ·rename_i hk
   rw [if_neg hk]
   cases hr : rd next with
   | none => rw [hr] at h; cases h
   | some r =>
    rw [hr] at h
    have hm := Hw ks r.2 _ ts n h r.1 (List.mem_append_right _ (List.mem_singleton_self _))
    rw [hrd next r.1 r.2 hr (hq _ hm)]
    exact BD hrd ks r.2 _ ts n h hq
theorem pV {P : List bE} {f a n : Nat} {t : PT} (h : dJ P (f + 1) a = some (t, n)) : ¬ P.length <= a /\ ug (P.getD a jG) = false /\ t.keys = (P.getD a jG).f0 /\ t.vals = (P.getD a jG).f1 /\ fG (dJ P f) (P.getD a jG).f2 (a + 1) [] = some (t.kids, n) := by
 rw [dJ] at h
 split at h
 ·cases h
 ·rename_i hl
  split at h
  ·cases h
  ·rename_i hb
   unfold fin at h
   obtain ⟨r, hr, e⟩ := Option.map_eq_some_iff.1 h
   injection e with e1 e2
   subst e1
   refine ⟨hl, by cases hbb : ug (P.getD a jG) <;> simp_all, rfl, rfl, ?_⟩
   rw [hr, <- e2]
   rfl
theorem ym {P : List bE} {f a n : Nat} {t : PT} (h1 : ¬ P.length <= a) (h2 : ug (P.getD a jG) = false) (h3 : t.keys = (P.getD a jG).f0) (h4 : t.vals = (P.getD a jG).f1) (h5 : fG (dJ P f) (P.getD a jG).f2 (a + 1) [] = some (t.kids, n)) : dJ P (f + 1) a = some (t, n) := by
 rw [dJ, if_neg h1, if_neg (by rw [h2]; decide), h5]
 unfold fin
 rw [Option.map_some, <- h3, <- h4, PT.eta]
theorem NL {P : List bE} : ∀ (f g a : Nat) (t : PT) (n : Nat), f <= g -> dJ P f a = some (t, n) -> dJ P g a = some (t, n)
 | 0, g, a, t, n, _, h => by cases h
 | f + 1, 0, a, t, n, hg, h => by omega
 | f + 1, g + 1, a, t, n, hg, h => by
  obtain ⟨h1, h2, h3, h4, h5⟩ := pV h
  exact ym h1 h2 h3 h4 (BD (Q := fun _ => True) (fun a t n h _ => NL f g a t n (by omega) h) _ _ _ _ _ h5 fun _ _ => trivial)
theorem Hz {P : List bE} : ∀ (h f g a : Nat) (t : PT) (n : Nat), h <= g -> uU h t -> dJ P f a = some (t, n) -> dJ P g a = some (t, n)
 | 0, f, g, a, t, n, _, hl, _ => hl.elim
 | h + 1, 0, g, a, t, n, _, _, hr => by cases hr
 | h + 1, f + 1, 0, a, t, n, hg, _, _ => by omega
 | h + 1, f + 1, g + 1, a, t, n, hg, hl, hr => by
  obtain ⟨h1, h2, h3, h4, h5⟩ := pV hr
  refine ym h1 h2 h3 h4 (BD (Q := uU h) (fun a t n hr hl => Hz h f g a t n (by omega) hl hr) _ _ _ _ _ h5 fun s hs => ?_)
  rcases hl with ⟨a1, _⟩ | ⟨_, a2⟩
  ·rw [a1] at hs
   cases hs
  ·exact (a2 s hs).1
theorem nO {P : List bE} : ∀ (f g a : Nat) (t : PT) (n : Nat), P.length < a + g -> dJ P f a = some (t, n) -> dJ P g a = some (t, n)
 | 0, g, a, t, n, _, h => by cases h
 | f + 1, g, a, t, n, hg, h => by
  obtain ⟨h1, h2, h3, h4, h5⟩ := pV h
  cases g with
  | zero => omega
  | succ g =>
   refine ym h1 h2 h3 h4 ?_
   have : ∀ (l : List Int) (next : Nat) (acc ts : List PT) (n : Nat), a + 1 <= next -> fG (dJ P f) l next acc = some (ts, n) -> fG (dJ P g) l next acc = some (ts, n) := by
    intro l
    induction l with
    | nil => intro next acc ts n _ h; exact h
    | cons k ks ih =>
     intro next acc ts n hn h
     rw [fG] at h ⊢
     split at h
     ·cases h
     ·rename_i hk
      rw [if_neg hk]
      cases hr : dJ P f next with
      | none => rw [hr] at h; cases h
      | some r =>
       rw [hr] at h
       rw [nO f g next r.1 r.2 (by omega) hr]
       have := lZ f next r.1 r.2 hr
       exact ih r.2 _ ts n (by omega) h
   exact this _ _ _ _ _ (Nat.le_refl _) h5
theorem H5 {P : List bE} {rd : Nat -> Option (PT × Nat)} (hrd : ∀ a t n, rd a = some (t, n) -> a < n /\ t.big <= n - a) : ∀ (l : List Int) (next : Nat) (acc ts : List PT) (n : Nat), fG rd l next acc = some (ts, n) -> next <= n /\ PT.jH ts <= PT.jH acc + (n - next)
 | [], next, acc, ts, n, h => by
  rw [fG] at h
  injection h with h
  injection h with e1 e2
  subst e1; subst e2
  omega
 | k :: ks, next, acc, ts, n, h => by
  rw [fG] at h
  split at h
  ·cases h
  ·cases hr : rd next with
   | none => rw [hr] at h; cases h
   | some r =>
    rw [hr] at h
    have h1 := hrd next r.1 r.2 hr
    have h2 := H5 (P := P) hrd ks r.2 _ ts n h
    have h3 : ∀ (l : List PT) (x : PT), PT.jH (l ++ [x]) = PT.jH l + x.big := by
     intro l x
     induction l with
     | nil => simp [PT.jH]
     | cons y l ih => rw [List.cons_append, PT.jH, PT.jH, ih]; omega
    rw [h3] at h2
    omega
theorem BF {P : List bE} : ∀ (f a : Nat) (t : PT) (n : Nat), dJ P f a = some (t, n) -> a < n /\ t.big <= n - a
 | 0, a, t, n, h => by cases h
 | f + 1, a, t, n, h => by
  obtain ⟨h1, h2, h3, h4, h5⟩ := pV h
  have := H5 (P := P) (fun a t n h => BF f a t n h) _ _ _ _ _ h5
  cases t with | mk keys vals kids =>
  rw [PT.big]
  simp only [PT.kids, PT.jH] at this
  omega
theorem yn (t : PT) : rG t = true ↔ ¬ (t.kids.length ≠ 0 /\ t.keys.length = 0) := by
 unfold rG
 cases hk : t.kids with
 | nil => simp
 | cons c cs =>
  simp only [List.isEmpty_cons, Bool.false_or, decide_eq_true_eq, List.length_cons]
  omega
theorem Qp (P : List bE) (hP : P.length <= 1048576) : Ev (fun k => vG k P) (FQ P) := by
 unfold vG FQ
 cases h1 : dJ P (P.length + 1) 0 with
 | none =>
  have h2 : dJ P 10 0 = none := by
   cases h : dJ P 10 0 with
   | none => rfl
   | some r => have := nO 10 (P.length + 1) 0 r.1 r.2 (by omega) h; rw [h1] at this; cases this
  rw [h2]
  exact Ev.val rfl
 | some r =>
  obtain ⟨t, n⟩ := r
  obtain ⟨hlt, hfits⟩ := ry _ 0 t n h1
  have hle := lZ _ 0 t n h1
  have hbig := BF _ 0 t n h1
  have hk := hfits.k
  have hv := hfits.v
  have hvl := wC hfits.F3
  have hap := K9 (bY t) (fT t) (by omega) (by omega)
  have he := D8 _ t (Nat.le_refl _) (by omega)
  have hd := Br _ t (Nat.le_refl _) (by omega)
  simp only
  by_cases hn : n = P.length
  ·refine Ev.lF (by simp [hn]) ?_
   have hpc := Q8 (bY t) (fT t) hvl
   rcases hd with ⟨h, hl, hdp⟩ | ⟨hno, hdp⟩
   ·-- level h
    by_cases hh : h <= 10
    ·have h2 := Hz h (P.length + 1) 10 0 t n hh hl h1
     rw [h2]
     simp only
     rw [if_neg (by simp [hn]), hdp]
     have hev : iH t = (h : Int) := by
      rcases he with ⟨g, gl, ge⟩ | ⟨hno, _⟩
      ·rw [ge, rF gl hl]
      ·exact absurd hl (hno h)
     cases hro : rG t with
     | false =>
      have : ¬ ¬ (t.kids.length ≠ 0 /\ t.keys.length = 0) := fun h => by rw [(yn t).2 h] at hro; cases hro
      have := Decidable.not_not.1 this
      refine Ev.kU rfl (Ev.val ?_)
      split
      ·rfl
      ·rw [if_pos (.inr (.inl this))]
     | true =>
      have hr2 := (yn t).1 hro
      refine Ev.lF (by simp) (Ev.bind hap (Ev.val ?_))
      rw [hpc]
      cases hc : rX (bY t) (fT t) none with
      | false =>
       rw [if_pos rfl, Bool.and_false]
       rfl
      | true =>
       rw [Bool.and_true]
       by_cases h40 : (bY t).length <= 40
       ·rw [if_pos (decide_eq_true h40), if_neg (show ¬ (true = false) by decide), if_neg (by rw [hev]; omega)]
       ·rw [if_neg (show ¬ decide ((bY t).length <= 40) = true by simpa using h40), if_neg (show ¬ (true = false) by decide), if_pos (.inr (.inr (by omega)))]
    ·-- too deep: too many keys
     have h2 : dJ P 10 0 = none ∨ ∃ r, dJ P 10 0 = some r := by
      cases dJ P 10 0 with
      | none => exact .inl rfl
      | some r => exact .inr ⟨r, rfl⟩
     obtain ⟨g, rfl⟩ : ∃ g, h = g + 1 := ⟨h - 1, by omega⟩
     have hcnt := Qo g t hfits.F3 hl
     have h3 : 3 ^ 10 <= 3 ^ g := Nat.pow_le_pow_right (by omega) (by omega)
     have h310 : (3 : Nat) ^ 10 = 59049 := by decide
     have hmany : 40 < (bY t).length := by
      have : 1 * 3 ^ g <= (t.keys.length + 1) * 3 ^ g := Nat.mul_le_mul_right _ (by omega)
      omega
     have hfalse : zh (bY t) (fT t) = false := by rw [hpc, decide_eq_false (by omega), Bool.false_and]
     rcases h2 with h2 | ⟨r, h2⟩
     ·rw [h2]
      cases hro : rG t with
      | false =>
       rw [hdp, hro]
       exact Ev.kU rfl (Ev.val rfl)
      | true =>
       rw [hdp, hro]
       refine Ev.lF (by simp) (Ev.bind hap (Ev.val ?_))
       rw [hfalse]
       rfl
     ·have h4 := nO 10 (P.length + 1) 0 r.1 r.2 (by omega) h2
      rw [h1] at h4
      injection h4 with h4
      injection h4 with e1 e2
      rw [h2]
      simp only
      rw [<- e1, <- e2, if_neg (by simp [hn])]
      have : (if rX (bY t) (fT t) none = false then (none : Option PT) else if iH t < 0 ∨ (t.kids.length ≠ 0 /\ t.keys.length = 0) ∨ 40 < (bY t).length then none else some t) = none := by
       split
       ·rfl
       ·rw [if_pos (.inr (.inr hmany))]
      rw [this]
      cases hro : rG t with
      | false =>
       rw [hdp, hro]
       exact Ev.kU rfl (Ev.val rfl)
      | true =>
       rw [hdp, hro]
       refine Ev.lF (by simp) (Ev.bind hap (Ev.val ?_))
       rw [hfalse]
       rfl
   ·rw [hdp]
    refine Ev.kU rfl (Ev.val ?_)
    cases h2 : dJ P 10 0 with
    | none => rfl
    | some r =>
     have h4 := nO 10 (P.length + 1) 0 r.1 r.2 (by omega) h2
     rw [h1] at h4
     injection h4 with h4
     injection h4 with e1 e2
     simp only
     rw [<- e1, <- e2, if_neg (by simp [hn])]
     have hev : iH t = -1 := by
      rcases he with ⟨g, gl, _⟩ | ⟨_, h⟩
      ·exact absurd gl (hno g)
      ·exact h
     split
     ·rfl
     ·rw [if_pos (.inl (by rw [hev]; decide))]
  ·refine Ev.kU (by simpa using hn) (Ev.val ?_)
   cases h2 : dJ P 10 0 with
   | none => rfl
   | some r =>
    have h4 := nO 10 (P.length + 1) 0 r.1 r.2 (by omega) h2
    rw [h1] at h4
    injection h4 with h4
    injection h4 with e1 e2
    simp only
    rw [<- e2, if_pos (by simpa using hn)]
theorem Tw (l : List mJ) (hl : l.length <= 1048576) (hs : ∀ p ∈ l, Bz 1048576 p) :
  ZV (l.map F6) = true /\ (l.map F6).length <= 1048576 /\ Ev (fun k => iF.f k l) (l.map F6) /\ Ev (fun k => gB.f k (l.map F6) (l.map F6)) true := by
 have hm : ∀ q ∈ l.map F6, XR q := fun q hq => by
  obtain ⟨p, hp, rfl⟩ := List.mem_map.1 hq
  obtain ⟨a1, a2, a3, _⟩ := hs p hp
  exact ⟨by show p.f0.length <= _; omega, by show p.f1.length <= _; omega, by show p.f2.length <= _; omega⟩
 refine ⟨?_, by rw [List.length_map]; exact hl, Rl l hl (fun p hp => by obtain ⟨a1, a2, a3, _⟩ := hs p hp; omega), Hu _ (by rw [List.length_map]; exact hl) hm⟩
 unfold ZV
 simp only [Bool.and_eq_true, decide_eq_true_eq, List.all_eq_true, List.length_map]
 refine ⟨by omega, fun q hq => ?_⟩
 obtain ⟨a1, a2, a3⟩ := hm q hq
 omega
structure Good (t : PT) : Prop where
 F3 : qB t
 NM : Jj (bY t)
 few : (bY t).length <= 40
 big : t.big <= 1048576
 four : t.keys.length <= 4
 lev : ∃ h, uU h t /\ iH t = (h : Int) /\ jo t = ((h : Int), true)
 keys : (bY t).all rD = true
 vals : (fT t).all oO = true
theorem H6 : ∀ (K : List ByteArray) (prev : Option ByteArray), vH K prev = true -> K.all rD = true
 | [], _, _ => rfl
 | k :: ks, prev, h => by
  rw [vH, Bool.and_eq_true, Bool.and_eq_true] at h
  rw [List.all_cons, h.1, H6 ks (some k) h.2.2]
  rfl
theorem VS {P : List bE} {t : PT} (hP : P.length <= 1048576) (h : FQ P = some t) : Good t := by
 unfold FQ at h
 cases hrs : dJ P 10 0 with
 | none => rw [hrs] at h; cases h
 | some r =>
  rw [hrs] at h
  simp only at h
  obtain ⟨r1, r2⟩ := r
  have hf := (ry 10 0 r1 r2 hrs).2
  have hbig := BF 10 0 r1 r2 hrs
  have hle := lZ 10 0 r1 r2 hrs
  split at h
  ·cases h
  ·split at h
   ·cases h
   ·split at h
    ·cases h
    ·rename_i hc hno
     obtain rfl := Option.some.inj h
     have hc' : rX (bY r1) (fT r1) none = true := by cases hcc : rX (bY r1) (fT r1) none <;> simp_all
     rw [Bq _ _ _ (wC hf.F3).symm, Bool.and_eq_true] at hc'
     have hno' : ¬ iH r1 < 0 /\ ¬ (r1.kids.length ≠ 0 /\ r1.keys.length = 0) /\ ¬ 40 < (bY r1).length := ⟨fun h => hno (.inl h), fun h => hno (.inr (.inl h)), fun h => hno (.inr (.inr h))⟩
     refine ⟨hf.F3, (Lb _ _ hc'.1).1, by have := hno'.2.2; show (bY r1).length <= 40; omega, by show r1.big <= 1048576; omega, hf.four, ?_, H6 _ _ hc'.1, hc'.2⟩
     rcases D8 _ r1 (Nat.le_refl _) (by omega) with ⟨g, gl, ge⟩ | ⟨_, ge⟩
     ·refine ⟨g, gl, ge, ?_⟩
      rcases Br _ r1 (Nat.le_refl _) (by omega) with ⟨f, fl, fe⟩ | ⟨hno2, _⟩
      ·rw [fe, rF fl gl, (yn r1).2 hno'.2.1]
      ·exact absurd gl (hno2 g)
     ·omega
structure Qq (t : PT) : Prop where
 bnd : mG t
 NM : mO (bD t)
 lev : ∃ h, uU h t
 root : t.kids ≠ [] -> 0 < t.keys.length
theorem H7 {rd : Nat -> Option (PT × Nat)} {Q : PT -> Prop} (hrd : ∀ a t n, rd a = some (t, n) -> Q t) : ∀ (l : List Int) (next : Nat) (acc ts : List PT) (n : Nat), fG rd l next acc = some (ts, n) -> (∀ s ∈ acc, Q s) -> (∀ s ∈ ts, Q s) /\ ts.length = acc.length + l.length
 | [], next, acc, ts, n, h, hq => by
  rw [fG] at h
  injection h with h
  injection h with e1 e2
  subst e1
  exact ⟨hq, by simp⟩
 | k :: ks, next, acc, ts, n, h, hq => by
  rw [fG] at h
  split at h
  ·cases h
  ·cases hr : rd next with
   | none => rw [hr] at h; cases h
   | some r =>
    rw [hr] at h
    obtain ⟨t, m⟩ := r
    obtain ⟨h1, h2⟩ := H7 hrd ks m (acc ++ [t]) ts n h fun s hs => by
     rcases List.mem_append.1 hs with hs | hs
     ·exact hq s hs
     ·rw [List.mem_singleton.1 hs]; exact hrd next t m hr
    refine ⟨h1, ?_⟩
    rw [h2, List.length_append]
    simp only [List.length_cons, List.length_nil]
    omega
theorem H8 {P : List bE} : ∀ (f a : Nat) (t : PT) (n : Nat), dJ P f a = some (t, n) -> mG t
 | 0, a, t, n, h => by cases h
 | f + 1, a, t, n, h => by
  obtain ⟨h1, h2, h3, h4, h5⟩ := pV h
  obtain ⟨g1, g2⟩ := H7 (Q := mG) (fun a t n h => H8 f a t n h) _ _ _ _ _ h5 (fun s hs => by cases hs)
  unfold ug at h2
  simp only [Bool.or_eq_false_iff, Bool.and_eq_false_iff, decide_eq_false_iff_not, bne_eq_false_iff_eq] at h2
  rw [<- h3, <- h4] at h2
  rw [List.length_nil, Nat.zero_add] at g2
  refine cz.2 ⟨⟨h2.1.2, by omega, ?_⟩, g1⟩
  rcases h2.2 with e | e
  ·exact .inl (by omega)
  ·exact .inr (by omega)
theorem xx {P : List bE} {t : PT} (hP : P.length <= 1048576) (h : FQ P = some t) : Qq t /\ (bD t).length <= 40 := by
 have hg := VS hP h
 unfold FQ at h
 cases hrs : dJ P 10 0 with
 | none => rw [hrs] at h; cases h
 | some r =>
  rw [hrs] at h
  simp only at h
  obtain ⟨r1, r2⟩ := r
  have hb := H8 10 0 r1 r2 hrs
  have e : r1 = t /\ ¬ (r1.kids.length ≠ 0 /\ r1.keys.length = 0) := by
   split at h
   ·cases h
   ·split at h
    ·cases h
    ·split at h
     ·cases h
     ·rename_i hno
      exact ⟨Option.some.inj h, fun h => hno (.inr (.inl h))⟩
  obtain ⟨rfl, hr⟩ := e
  obtain ⟨g, gl, _⟩ := hg.lev
  exact ⟨⟨hb, (nM hg.F3).1 hg.NM, ⟨g, gl⟩, fun e => Nat.pos_of_ne_zero fun c => hr ⟨fun e' => e (List.length_eq_zero_iff.1 e'), c⟩⟩, by rw [zk hg.F3]; exact hg.few⟩
theorem Ls : ∀ l : List PT, PT.jH l = (l.map PT.big).sum
 | [] => rfl
 | c :: cs => by rw [PT.jH, Ls cs, List.map_cons, List.sum_cons]
theorem XT (t : PT) : t.big = 1 + (t.kids.map PT.big).sum := by
 cases t with | mk k v c =>
 rw [PT.big, Ls]
 rfl
theorem H9 : ∀ (h : Nat) (t : PT), mG t -> uU h t -> t.big <= (bY t).length + 1 /\ (2 <= t.keys.length -> t.big + 1 <= (bY t).length)
 | 0, t, hb, hl => hl.elim
 | h + 1, t, hb, hl => by
  obtain ⟨⟨h1, h2, h3⟩, h4⟩ := cz.1 hb
  rw [XT, qD]
  rcases hl with ⟨a, _⟩ | ⟨a, b⟩
  ·rw [a, List.map_nil, List.map_nil, oV, List.sum_nil]
   exact ⟨by omega, fun h => by omega⟩
  ·have hkl : t.kids.length = t.keys.length + 1 := h3.resolve_left fun e => a (List.length_eq_zero_iff.1 e)
   have hw := BB (t.kids.map bY) t.keys (by rw [List.length_map]; exact hkl)
   have key : ∀ l : List PT, (∀ s ∈ l, s.big + 1 <= (bY s).length) -> (l.map PT.big).sum + 2 * l.length <= ((l.map bY).map fun c => c.length + 1).sum := by
    intro l
    induction l with
    | nil => intro _; simp
    | cons c cs ih =>
     intro hq
     have h5 := ih fun s hs => hq s (List.mem_cons_of_mem _ hs)
     have h6 := hq c List.mem_cons_self
     simp only [List.map_cons, List.sum_cons, List.length_cons]
     omega
   have h5 := key t.kids fun s hs => (H9 h s (h4 s hs) (b s hs).1).2 (b s hs).2
   exact ⟨by omega, fun h => by omega⟩
theorem Qq.small {t : PT} (h : Qq t) : t.big <= (bD t).length + 1 := by
 obtain ⟨g, hg⟩ := h.lev
 rw [zk (bZ h.bnd)]
 exact (H9 g t h.bnd hg).1
theorem Qq.kid {t : PT} (h : Qq t) : ∃ g, rZ g t := by
 obtain ⟨g, hg⟩ := h.lev
 exact ⟨g, h.bnd, hg⟩
theorem BI {k v : ByteArray} : ∀ l : List KV, (jK k v l).length <= l.length + 1
 | [] => by simp [jK]
 | x :: l => by
  have := BI (k := k) (v := v) l
  rw [jK]
  split
  ·simp only [List.length_cons]; omega
  ·split <;> simp only [List.length_cons] <;> omega
theorem Lt {h : Nat} {p : PT} (hl : uU h p) (h5 : KZ p) (hk : p.keys.length = 5) (k v : List ByteArray) (b : Bool) : uU h (.mk k v (if b then p.kids.take 3 else p.kids.drop 3)) := by
 cases h with
 | zero => exact hl.elim
 | succ h =>
  rcases hl with ⟨a, a'⟩ | ⟨a, a'⟩
  ·refine .inl ⟨?_, a'⟩
   show (if b then _ else _) = []
   rw [a]
   cases b <;> rfl
  ·have hl6 := h5.1.2.2.resolve_left (fun e => a (List.length_eq_zero_iff.1 e))
   refine .inr ⟨?_, fun c hc => a' c ?_⟩
   ·intro e
    have e' : (if b then p.kids.take 3 else p.kids.drop 3).length = 0 := congrArg List.length e
    cases b
    ·simp only [Bool.false_eq_true, if_false, List.length_drop] at e'; omega
    ·simp only [if_true, List.length_take] at e'; omega
   ·cases b
    ·exact List.mem_of_mem_drop hc
    ·exact List.mem_of_mem_take hc
theorem Tx : ∀ (n : Nat) (t : PT) (key val : ByteArray), t.big <= n -> mG t -> (t.kids ≠ [] -> 0 < t.keys.length) -> (qf n t key val).kids ≠ [] -> 0 < (qf n t key val).keys.length
 | 0, t, key, val, h, _, _ => absurd t.fZ (by omega)
 | n + 1, t, key, val, h, hb, h0 => by
  have hle := nJ key t.keys
  rw [qf]
  split
  ·exact h0
  ·split
   ·rename_i hk
    intro e
    exact absurd (List.length_eq_zero_iff.1 hk) e
   ·rename_i hk
    have hk0 : t.kids ≠ [] := fun e => hk (by rw [e]; rfl)
    cases hs : t.kids[dV key t.keys]? with
    | none => exact fun _ => h0 hk0
    | some s =>
     simp only
     split
     ·intro _
      show 0 < (bz _ _ _).length
      rw [fI _ hle]
      omega
     ·exact fun _ => h0 hk0
theorem Qr {t : PT} (h : Qq t) (k v : ByteArray) : Qq (Ti t k v) /\ bD (Ti t k v) = jK k v (bD t) := by
 have h5 := wF t.big t k v h.bnd
 have ha := Qg t.big t k v (Nat.le_refl _) h.bnd h.NM
 have hr := Tx t.big t k v (Nat.le_refl _) h.bnd h.root
 obtain ⟨g, hg⟩ := h.lev
 have hl := (Qh t.big t k v g (Nat.le_refl _) h.bnd hg).1
 have hsr := He (k := k) (v := v) h.NM
 unfold Ti
 generalize qf t.big t k v = p at h5 ha hl hr ⊢
 obtain ⟨⟨h1, h2, h3⟩, h4⟩ := h5
 by_cases h6 : 4 < p.keys.length
 ·rw [if_pos h6]
  have hk5 : p.keys.length = 5 := by omega
  have hb5 : KZ p := ⟨⟨h1, h2, h3⟩, h4⟩
  have hsp := GZ (t := .mk [] [] [p]) (k := p) (i := 0) ⟨rfl, (by show 0 <= 4; omega), rfl⟩ (Nat.zero_le _) rfl (fun j c hj hc => by
   cases j with
   | zero => exact absurd rfl hj
   | succ j => simp [PT.kids] at hc) hb5 hk5
  have e : splitK (.mk [] [] [p]) p 0 = .mk [p.keys.getD 2 ByteArray.empty] [p.vals.getD 2 ByteArray.empty] [.mk (p.keys.take 2) (p.vals.take 2) (p.kids.take 3), .mk (p.keys.drop 3) (p.vals.drop 3) (p.kids.drop 3)] := rfl
  rw [e] at hsp ⊢
  have hbd : mG (.mk [p.keys.getD 2 ByteArray.empty] [p.vals.getD 2 ByteArray.empty] [.mk (p.keys.take 2) (p.vals.take 2) (p.kids.take 3), .mk (p.keys.drop 3) (p.vals.drop 3) (p.kids.drop 3)]) := cz.2 ⟨⟨rfl, (by show 1 <= 4; omega), .inr rfl⟩, hsp.2⟩
  have hall : bD (.mk [p.keys.getD 2 ByteArray.empty] [p.vals.getD 2 ByteArray.empty] [.mk (p.keys.take 2) (p.vals.take 2) (p.kids.take 3), .mk (p.keys.drop 3) (p.vals.drop 3) (p.kids.drop 3)]) = bD p := by
   rw [eH (bZ hbd), Hg hb5 hk5]
   rfl
  refine ⟨⟨hbd, by rw [hall, ha]; exact hsr, ⟨g + 1, (.inr ⟨fun e => (by cases e), fun s hs => ?_⟩)⟩, fun _ => Nat.zero_lt_one⟩, by rw [hall, ha]⟩
  have hs : s = .mk (p.keys.take 2) (p.vals.take 2) (p.kids.take 3) ∨ s = .mk (p.keys.drop 3) (p.vals.drop 3) (p.kids.drop 3) := by simpa [PT.kids] using hs
  rcases hs with rfl | rfl
  ·exact ⟨Lt hl hb5 hk5 _ _ true, by show 2 <= (p.keys.take 2).length; rw [List.length_take]; omega⟩
  ·exact ⟨Lt hl hb5 hk5 _ _ false, by show 2 <= (p.keys.drop 3).length; rw [List.length_drop]; omega⟩
 ·rw [if_neg h6]
  exact ⟨⟨cz.2 ⟨⟨h1, by omega, h3⟩, h4⟩, by rw [ha]; exact hsr, ⟨g, hl⟩, hr⟩, ha⟩
theorem Qs {key : ByteArray} {l : List KV} (h : mO l) : mO (su key l) := List.Pairwise.sublist List.filter_sublist h
theorem zw {t : PT} {key : ByteArray} (h : Qq t) (hh : Has key (bD t)) : ∃ r, mV t.big t key = some r /\ Qq (lT r) /\ bD (lT r) = su key (bD t) := by
 obtain ⟨g, hk⟩ := h.kid
 obtain ⟨r, e1, kr, _, ha⟩ := nN t.big t key g (Nat.le_refl _) hk h.root h.NM hh
 refine ⟨r, e1, ?_⟩
 unfold lT
 by_cases hc : r.keys.length = 0 /\ r.kids.length ≠ 0
 ·rw [if_pos hc]
  obtain ⟨⟨h1, h2, h3⟩, h4⟩ := cz.1 kr.b
  have hkl : r.kids.length = 1 := by omega
  obtain ⟨c, hcs⟩ : ∃ c, r.kids = [c] := List.length_eq_one_iff.1 hkl
  have hx : r.kids[0]? = some c := by rw [hcs]; rfl
  rw [kz hx]
  have hbc : mG c := h4 c (by rw [hcs]; exact List.mem_singleton_self _)
  have hall : bD r = bD c := by
   rw [eH (bZ kr.b), hcs]
   have : bU r = [] := by unfold bU; rw [List.length_eq_zero_iff.1 hc.1]; rfl
   rw [this]
   simp [bX]
  have hl := kr.l
  cases g with
  | zero => exact hl.elim
  | succ g =>
   rcases hl with ⟨a, _⟩ | ⟨_, a⟩
   ·rw [a] at hcs; cases hcs
   ·have hcl := a c (by rw [hcs]; exact List.mem_singleton_self _)
    exact ⟨⟨hbc, by rw [<- hall, ha]; exact Qs h.NM, ⟨g, hcl.1⟩, fun _ => by have := hcl.2; omega⟩, by rw [<- hall, ha]⟩
 ·rw [if_neg hc]
  exact ⟨⟨kr.b, by rw [ha]; exact Qs h.NM, ⟨g, kr.l⟩, fun e => Nat.pos_of_ne_zero fun c => hc ⟨c, fun e' => e (List.length_eq_zero_iff.1 e')⟩⟩, ha⟩
theorem Ia {t : PT} {key : ByteArray} (h : Qq t) (hh : Has key (bD t)) : xR t.big t key = mV t.big t key := by
 obtain ⟨g, hk⟩ := h.kid
 exact uu t.big t key g (Nat.le_refl _) hk h.NM hh
end Go.Proofs.Ytoddejmlcnbdmaa.Pure
namespace Go.Proofs.Ytoddejmlcnbdmaa.Tree
def starts : List PT -> Nat -> List Int
 | [], _ => []
 | c :: cs, a => (a : Int) :: starts cs (a + c.big)
mutual
def mh : PT -> Nat -> List bE
 | .mk ks vs cs, a => ⟨ks, vs, starts cs (a + 1)⟩ :: rP cs (a + 1)
def rP : List PT -> Nat -> List bE
 | [], _ => []
 | c :: cs, a => mh c a ++ rP cs (a + c.big)
end
mutual
theorem Lu : ∀ (t : PT) (a : Nat), (mh t a).length = t.big
 | .mk ks vs cs, a => by rw [mh, PT.big, List.length_cons, qZ cs]; omega
theorem qZ : ∀ (l : List PT) (a : Nat), (rP l a).length = PT.jH l
 | [], a => rfl
 | c :: cs, a => by rw [rP, PT.jH, List.length_append, Lu c, qZ cs]
end
theorem uY : ∀ (l : List PT) (a : Nat), (starts l a).length = l.length
 | [], _ => rfl
 | c :: cs, a => by rw [starts, List.length_cons, List.length_cons, uY cs]
theorem wK : ∀ (l : List PT) (c : PT) (a : Nat), starts (l ++ [c]) a = starts l a ++ [((a + PT.jH l : Nat) : Int)]
 | [], c, a => by simp [starts, PT.jH]
 | d :: l, c, a => by
  rw [List.cons_append, starts, starts, wK l c, PT.jH, List.cons_append, Nat.add_assoc]
theorem Ib : ∀ (l : List PT) (c : PT), PT.jH (l ++ [c]) = PT.jH l + c.big
 | [], c => by simp [PT.jH]
 | d :: l, c => by rw [List.cons_append, PT.jH, PT.jH, Ib l c, Nat.add_assoc]
theorem yo : ∀ (l : List PT) (c : PT) (a : Nat), rP (l ++ [c]) a = rP l a ++ mh c (a + PT.jH l)
 | [], c, a => by simp [rP, PT.jH]
 | d :: l, c, a => by
  rw [List.cons_append, rP, rP, yo l c, PT.jH, List.append_assoc, Nat.add_assoc]
theorem uw {α : Type} {l : List α} {i : Nat} {x : α} (h : l[i]? = some x) : l.take (i + 1) = l.take i ++ [x] := by
 rw [List.take_add_one, h]
 rfl
theorem Ic {l : List PT} {i : Nat} {x : PT} (h : l[i]? = some x) : PT.jH (l.take (i + 1)) = PT.jH (l.take i) + x.big := by rw [uw h, Ib]
theorem nP : ∀ (l : List PT) (i : Nat), PT.jH (l.take i) <= PT.jH l
 | [], i => by simp
 | c :: cs, 0 => by simp [PT.jH]
 | c :: cs, i + 1 => by
  rw [List.take_succ_cons, PT.jH, PT.jH]
  have := nP cs i
  omega
structure Pg where
 kv : Value
 vv : Value
 cv : Value
 ks : List ByteArray
 vs : List ByteArray
 cs : List Int
def Pg.erase (p : Pg) : bE := ⟨p.ks, p.vs, p.cs⟩
def Pg.cells (p : Pg) : List Value := [p.kv, p.vv, p.cv]
abbrev ints (v : Value) (l : List Int) : Ck := .own 3 v (encs (Value.int .i64) l)
def Pg.fB (p : Pg) : List Ck := [txt p.kv p.ks, txt p.vv p.vs, ints p.cv p.cs]
abbrev sW (v : Value) (l : List Pg) : Ck := .row 110 3 v l.length (l.flatMap Pg.cells)
def jX (l : List Pg) : List Ck := l.flatMap Pg.fB
def iP (v : Value) (l : List Pg) : List Ck := sW v l :: jX l
theorem yt (a b : List Pg) : jX (a ++ b) = jX a ++ jX b := by unfold jX; rw [List.flatMap_append]
theorem Ej (p : Pg) (b : List Pg) : jX (p :: b) = p.fB ++ jX b := by unfold jX; rw [List.flatMap_cons]
section
variable {w w1 W : World} {base : Nat} {gs : List (List Ck)}
theorem aaw {v : Value} {l : List Int} (h : Ck.ok w base (ints v l)) : (Kd.int .i64).R 3 w base (fun _ => True) v l :=
 Kd.pJ (enc := Value.int .i64) (h1 := fun _ => rfl) (by have h2 : w.ownsRow base 3 1 v (encs (Value.int .i64) l).length (encs (Value.int .i64) l) := h; rw [dD] at h2; exact h2) (fun _ _ => trivial)
theorem Qt {v : Value} {l : List Int} (h : (Kd.int .i64).R 3 w base (fun _ => True) v l) : Ck.ok w base (ints v l) := by
 have h2 := Kd.tV (enc := Value.int .i64) (h1 := fun _ => rfl) h
 show w.ownsRow base 3 1 v (encs (Value.int .i64) l).length (encs (Value.int .i64) l)
 rw [dD]
 exact h2
theorem aa.ir (h : aa w base gs) (i : Nat) {v : Value} {l : List Int} (hi : gs[i]? = some [ints v l]) : (Kd.int .i64).R 3 w base (fun _ => True) v l := aaw ((h.at i hi).ok _ List.mem_cons_self)
theorem XU (h : aa w base gs) (i : Nat) {Ad : Option Addr} {n c : Nat} {l : List Int} (hi : gs[i]? = some [ints (.slice Ad n c) l]) : (Kd.int .i64).C w Ad n l := by
 obtain ⟨rfl, _, h3⟩ := Kd.gm (h.ir i hi)
 exact h3
theorem aa.XV {x y : List Int} {u u1 : Value} (i : Nat) (h : aa W base gs) (hi : gs[i]? = some [ints u x]) (ho : (Kd.int .i64).R 3 w1 base (fun _ => True) u1 y) (hg : W.grownBy w1 u.ownBlock) (hat : u1.ownBlock = u.ownBlock ∨ ∃ b, u1.ownBlock = some b /\ W.heap.size <= b) : aa w1 base (gs.set i [ints u1 y]) :=
 h.turn i hi (Sat.one (Qt ho)) ⟨hg.size, fun k hk hnot => hg.block k hk fun he => hnot ⟨_, List.mem_singleton_self _, he.symm⟩⟩ (si hat)
theorem aa.rowOk (h : aa w base gs) (i : Nat) {e sz n : Nat} {v : Value} {xs : List Value} (hi : gs[i]? = some [.row e sz v n xs]) : w.ownsRow base e sz v n xs := (h.at i hi).ok _ List.mem_cons_self
theorem aa.XW (h : aa w base gs) (i : Nat) {e sz n m c g j : Nat} {xs : List Value} {u : Value} (hi : gs[i]? = some [.row e sz (.slice (some ⟨g, 0, none⟩) m c) n xs]) (hj : xs[j]? = some u) : w.cell? ⟨g, j, none⟩ = some u := by
 have := (h.rowOk i hi).cells (g := g) (by simp [Value.ownBlock]) j u hj
 have e1 : (⟨g, 0, none⟩ : Addr).add j = ⟨g, j, none⟩ := by simp only [Addr.add]; split <;> simp_all
 rw [e1] at this
 exact this
theorem BJ {e sz n m c g : Nat} {xs : List Value} (h : w.ownsRow base e sz (.slice (some ⟨g, 0, none⟩) m c) n xs) : m = n /\ n <= c /\ base <= g /\ ∃ cur, w.heap[g]? = some (.cells cur e (0, 0)) /\ cur.size = c * sz /\ c <= maxLen /\ cur.toList.take (n * sz) = xs := by
 rcases h.2 with ⟨e1, _⟩ | ⟨g', cap, cur, e1, hb, hh, hnc, hcm, hcs, ht⟩
 ·cases e1
 ·injection e1 with e2 e3 e4
  injection e2 with e2
  injection e2 with e2
  subst e2
  subst e3
  subst e4
  exact ⟨rfl, hnc, hb, cur, hh, hcs, hcm, ht⟩
theorem aa.VT (h : aa w base gs) (i : Nat) {e sz n m c g : Nat} {xs : List Value} (hi : gs[i]? = some [.row e sz (.slice (some ⟨g, 0, none⟩) m c) n xs]) (j : Nat) : w.frozen? ⟨g, j, none⟩ = false := by
 obtain ⟨_, _, _, cur, hh, _⟩ := BJ (h.rowOk i hi)
 exact ax hh j
theorem aa.Qu (h : aa w base gs) (i : Nat) {e sz n m c g : Nat} {xs : List Value} (hi : gs[i]? = some [.row e sz (.slice (some ⟨g, 0, none⟩) m c) n xs]) : base <= g := (BJ (h.rowOk i hi)).2.2.1
theorem VU {e sz n m c g j : Nat} {xs : List Value} (h : w.ownsRow base e sz (.slice (some ⟨g, 0, none⟩) m c) n xs) (hj : j < xs.length) (u : Value) : (w.setCell ⟨g, j, none⟩ u).ownsRow base e sz (.slice (some ⟨g, 0, none⟩) m c) n (xs.set j u) := by
 obtain ⟨rfl, h2, h3, cur, h4, h5, h6, h7⟩ := BJ h
 refine ⟨by rw [List.length_set]; exact h.1, .inr ⟨g, c, cur.setIfInBounds j u, rfl, h3, gY h4 j u rfl, h2, h6, by rw [Array.size_setIfInBounds]; exact h5, ?_⟩⟩
 rw [Array.toList_setIfInBounds, List.take_set, h7]
theorem aa.putRow (h : aa w base gs) (i : Nat) {e sz n m c g : Nat} {xs xs' : List Value} (hi : gs[i]? = some [.row e sz (.slice (some ⟨g, 0, none⟩) m c) n xs]) (j : Nat) (u : Value) (hj : j < xs.length) (hx : xs' = xs.set j u) : aa (w.setCell ⟨g, j, none⟩ u) base (gs.set i [.row e sz (.slice (some ⟨g, 0, none⟩) m c) n xs']) := by
 have h1 := h.rowOk i hi
 subst hx
 refine h.turn i hi (Sat.one (c := .row e sz (.slice (some ⟨g, 0, none⟩) m c) n (xs.set j u)) (VU h1 hj u)) ((Kept.refl w _).setCell (.inl ⟨_, List.mem_singleton_self _, rfl⟩) u) ?_
 rintro k ⟨d, hd, hb⟩
 rw [List.mem_singleton.1 hd] at hb
 exact .inl ⟨_, List.mem_singleton_self _, hb⟩
end
section
variable {P : Program} {ops : Array Oper} {rest : List Oper} {o : Oper} {a : Act} {Q' : Exit -> Act -> World -> Prop} {Kc : Act -> World -> Prop} {w0 W : World} {base : Nat}
theorem VV (e sz : Nat) (cs : List Value) (hsz : cs.length = sz) (hm : 1 <= maxLen) : (W.alloc (.cells cs.toArray e)).ownsRow W.heap.size e sz (.slice (some ⟨W.heap.size, 0, none⟩) 1 1) 1 cs := by
 refine ⟨by rw [hsz, Nat.one_mul], .inr ⟨W.heap.size, 1, cs.toArray, rfl, Nat.le_refl _, Jr W _, Nat.le_refl _, hm, by rw [Nat.one_mul]; exact hsz, ?_⟩⟩
 rw [Nat.one_mul]
 exact List.take_of_length_le (show cs.length <= sz by omega)
theorem zx (e sz : Nat) (cs : List Value) (hsz : cs.length = sz) (hw : Region.wanted o (yielded ops a.tmps) = true) {N : Tmp} (_hd : o.dst = some N) (hrun : (execOp a.eval o).run P W = .ok (.value (.slice (some ⟨W.heap.size, 0, none⟩) 1 1)) (W.alloc (.cells cs.toArray e)))
  (h : ∀ g w1, g = W.heap.size -> w1.ownsRow W.heap.size e sz (.slice (some ⟨g, 0, none⟩) 1 1) 1 cs -> Below W.heap.size W w1 -> Kc (a.put o.dst (.slice (some ⟨g, 0, none⟩) 1 1)) w1) : if Region.wanted o (yielded ops a.tmps) = true then Oper.wp P o a W Kc Q' else Kc (a.put o.dst undef) W :=
 uZ hw hrun (h _ _ rfl (VV e sz cs hsz (by decide)) (aK (Below.refl _ _) _))
theorem VW (t ty e sz bytes : Nat) (z : Value) (ht : P.underlying t = some (.slice e)) (hinfo : (P.info? e).map (fun i => (i.zero, i.size, i.bytes)) = some (some z, sz, bytes)) (hzs : z.cells.size = sz) (hs0 : 0 < sz) (hb0 : 0 < bytes) (v : Value) (n m c g2 : Nat) (xs ys : List Value) (HO : W.ownsRow base e sz v n xs) (HR : W.ownsRow base e sz (.slice (some ⟨g2, 0, none⟩) m c) m ys) (hone : ∀ u ∈ ys, u.oneCell' = true) (hbase : base <= W.heap.size) (hl : (n + m) * bytes <= 140737488355328) :
  ∃ v1 w1, (Builtin.append_ #[t, t] ty #[v, .slice (some ⟨g2, 0, none⟩) m c]).run P W = .ok v1 w1 /\ w1.ownsRow base e sz v1 (n + m) (xs ++ ys) /\ W.grownBy w1 v.ownBlock /\ (v1.ownBlock = v.ownBlock ∨ ∃ b, v1.ownBlock = some b /\ W.heap.size <= b) := by
 obtain ⟨i0, hi, hzz⟩ := Option.map_eq_some_iff.1 hinfo
 simp only [Prod.mk.injEq] at hzz
 obtain ⟨hz0, hz1, hz2⟩ := hzz
 have hlen : n + m <= 140737488355328 := Nat.le_trans (Nat.le_mul_of_pos_right _ hb0) hl
 obtain ⟨v1, w1, hrun, h2, hg, _, hat⟩ := run_append_own_at (P := P) W base t ty e i0 z sz bytes ht hi hz0 hz1 hz2 hzs hs0 v n xs HO ⟨g2, 0, none⟩ m c ys HR.1 (HR.cells (g := g2) (by simp [Value.ownBlock])) hone (by simp only [maxLen]; omega) hl hbase
 refine ⟨v1, w1, hrun, h2, hg, ?_⟩
 rcases hat with hat | hat
 ·exact .inl hat
 ·exact .inr ⟨_, hat, Nat.le_refl _⟩
theorem vM (hw : Region.wanted o (yielded ops a.tmps) = true) (s x : Operand) (t e sz bytes : Nat) (z : Value) (ho : o.op = .call { callee := .builtin .append, args := #[s, x], argTypes := #[t, t] })
  (ht : P.underlying t = some (.slice e)) (hinfo : (P.info? e).map (fun i => (i.zero, i.size, i.bytes)) = some (some z, sz, bytes)) (hzs : z.cells.size = sz) (hs0 : 0 < sz) (hb0 : 0 < bytes) (v : Value) (n m c g2 : Nat) (xs ys : List Value) (hs : a.eval s = v) (hx : a.eval x = .slice (some ⟨g2, 0, none⟩) m c) (HO : W.ownsRow base e sz v n xs) (HR : W.ownsRow base e sz (.slice (some ⟨g2, 0, none⟩) m c) m ys) (hone : ∀ u ∈ ys, u.oneCell' = true) (HB : Below base w0 W) (hbase : base <= W.heap.size) (hl : (n + m) * bytes <= 140737488355328)
  (h : ∀ v1 w1, w1.ownsRow base e sz v1 (n + m) (xs ++ ys) -> Below base w0 w1 -> W.grownBy w1 v.ownBlock -> (v1.ownBlock = v.ownBlock ∨ ∃ b, v1.ownBlock = some b /\ W.heap.size <= b) -> Kc (a.put o.dst v1) w1) : if Region.wanted o (yielded ops a.tmps) = true then Oper.wp P o a W Kc Q' else Kc (a.put o.dst undef) W := by
 obtain ⟨v1, w1, hr, h1, h3, h4⟩ := VW (P := P) t o.type e sz bytes z ht hinfo hzs hs0 hb0 v n m c g2 xs ys HO HR hone hbase hl
 rw [if_pos hw]
 unfold Oper.wp execOp
 simp only [ho, resolve, invoke, builtin, Sem.run_bind, Sem.run_pure, Result.andThen_ok, List.map_toArray, List.map_cons, List.map_nil, hs, hx, hr]
 exact h v1 w1 h1 (HB.grown h3 hbase (fun k hk => nD HO k hk)) h3 h4
end
section
variable {w w1 W : World} {base : Nat} {gs : List (List Ck)}
theorem aa.newRow {e sz n : Nat} {v : Value} {xs : List Value} (h : aa w base gs) (hb : Below w.heap.size w w1) (hbase : base <= w.heap.size) (ho : w1.ownsRow w.heap.size e sz v n xs) : aa w1 base (gs ++ [[.row e sz v n xs]]) :=
 h.new hb hbase (Sat.one (c := .row e sz v n xs) ho)
theorem aa.Ty {e sz n n' : Nat} {x y : List Value} {u u1 : Value} (i : Nat) (h : aa W base gs) (hi : gs[i]? = some [.row e sz u n x]) (ho : w1.ownsRow base e sz u1 n' y) (hg : W.grownBy w1 u.ownBlock) (hat : u1.ownBlock = u.ownBlock ∨ ∃ b, u1.ownBlock = some b /\ W.heap.size <= b) : aa w1 base (gs.set i [.row e sz u1 n' y]) :=
 h.turn i hi (Sat.one (c := .row e sz u1 n' y) ho) ⟨hg.size, fun k hk hnot => hg.block k hk fun he => hnot ⟨_, List.mem_singleton_self _, he.symm⟩⟩ (si hat)
theorem jc {e sz n : Nat} {v : Value} {xs : List Value} (h : w.ownsRow base e sz v n xs) : ∃ A c, v = .slice A n c := by
 rcases h.2 with ⟨rfl, rfl⟩ | ⟨g, cap, cur, rfl, _⟩
 ·exact ⟨none, 0, rfl⟩
 ·exact ⟨_, cap, rfl⟩
theorem zy {e sz n c : Nat} {A : Option Addr} {xs : List Value} (h : w.ownsRow base e sz (.slice A n c) n xs) (h0 : 0 < n) : ∃ g, A = some ⟨g, 0, none⟩ := by
 rcases h.2 with ⟨e1, e2⟩ | ⟨g, cap, cur, e1, _⟩
 ·omega
 ·injection e1 with e1
  exact ⟨g, e1⟩
end
theorem lL : ∀ l : List Pg, (l.flatMap Pg.cells).length = l.length * 3
 | [] => rfl
 | p :: l => by rw [List.flatMap_cons, List.length_append, lL l, List.length_cons]; show 3 + _ = _; omega
theorem El (A B : List Pg) (p : Pg) (j : Nat) (hj : j < 3) : ((A ++ p :: B).flatMap Pg.cells)[A.length * 3 + j]? = p.cells[j]? := by
 rw [List.flatMap_append, List.flatMap_cons, List.getElem?_append_right (by rw [lL]; omega), lL, Nat.add_sub_cancel_left, List.getElem?_append_left (show j < p.cells.length from hj)]
theorem Rm (A B : List Pg) (p : Pg) (j : Nat) (u : Value) (hj : j < 3) : ((A ++ p :: B).flatMap Pg.cells).set (A.length * 3 + j) u = A.flatMap Pg.cells ++ (p.cells.set j u ++ B.flatMap Pg.cells) := by
 rw [List.flatMap_append, List.flatMap_cons, List.set_append_right _ _ (by rw [lL]; omega), lL, Nat.add_sub_cancel_left, List.set_append_left _ _ (show j < p.cells.length from hj)]
section
variable {w w1 W : World} {base : Nat} {gs : List (List Ck)} {g n c a : Nat} {A B : List Pg} {p : Pg}
theorem NN (h : aa w base gs) (i : Nat) (hi : gs[i]? = some [sW (.slice (some ⟨g, 0, none⟩) n c) (A ++ p :: B)]) (ha : A.length = a) : w.cell? ⟨g, a * 3, none⟩ = some p.kv := by
 subst ha
 exact h.XW i hi (El A B p 0 (by decide))
theorem NP (h : aa w base gs) (i : Nat) (hi : gs[i]? = some [sW (.slice (some ⟨g, 0, none⟩) n c) (A ++ p :: B)]) (ha : A.length = a) : w.cell? ⟨g, a * 3 + 1, none⟩ = some p.vv := by
 subst ha
 exact h.XW i hi (El A B p 1 (by decide))
theorem yu (h : aa w base gs) (i : Nat) (hi : gs[i]? = some [sW (.slice (some ⟨g, 0, none⟩) n c) (A ++ p :: B)]) (ha : A.length = a) : w.cell? ⟨g, a * 3 + 2, none⟩ = some p.cv := by
 subst ha
 exact h.XW i hi (El A B p 2 (by decide))
theorem aa.Dh (h : aa w base gs) (i : Nat) (hi : gs[i]? = some [sW (.slice (some ⟨g, 0, none⟩) n c) (A ++ p :: B)]) (ha : A.length = a) (p' : Pg) (j : Nat) (u : Value) (hj : j < 3) (hp : p'.cells = p.cells.set j u) :
  aa (w.setCell ⟨g, a * 3 + j, none⟩ u) base (gs.set i [sW (.slice (some ⟨g, 0, none⟩) n c) (A ++ p' :: B)]) := by
 subst ha
 have e : (A ++ p' :: B).length = (A ++ p :: B).length := by simp only [List.length_append, List.length_cons]
 have := h.putRow i (xs' := (A ++ p' :: B).flatMap Pg.cells) hi (A.length * 3 + j) u (by rw [lL]; simp only [List.length_append, List.length_cons]; omega) (by rw [Rm A B p j u hj, List.flatMap_append, List.flatMap_cons, hp])
 show aa _ base (gs.set i [.row 110 3 _ (A ++ p' :: B).length _])
 rw [e]
 exact this
theorem aa.VX (h : aa w base gs) (i : Nat) (hi : gs[i]? = some [sW (.slice (some ⟨g, 0, none⟩) n c) (A ++ p :: B)]) (ha : A.length = a) (p' : Pg) :
  aa (((w.setCell ⟨g, a * 3, none⟩ p'.kv).setCell ⟨g, a * 3 + 1, none⟩ p'.vv).setCell ⟨g, a * 3 + 2, none⟩ p'.cv) base (gs.set i [sW (.slice (some ⟨g, 0, none⟩) n c) (A ++ p' :: B)]) := by
 have hl : i < gs.length := (List.getElem?_eq_some_iff.1 hi).1
 have h1 := h.Dh i hi ha ⟨p'.kv, p.vv, p.cv, p.ks, p.vs, p.cs⟩ 0 p'.kv (by decide) rfl
 have h2 := h1.Dh i (List.getElem?_set_self hl) ha ⟨p'.kv, p'.vv, p.cv, p.ks, p.vs, p.cs⟩ 1 p'.vv (by decide) rfl
 rw [List.set_set] at h2
 have h3 := h2.Dh i (List.getElem?_set_self hl) ha p' 2 p'.cv (by decide) rfl
 rw [List.set_set] at h3
 exact h3
end
section
variable {w : World} {base : Nat}
theorem Tz {l : List Pg} {j : Nat} {p : Pg} (h : l[j]? = some p) {c : Ck} (hc : c ∈ p.fB) : c ∈ jX l := List.mem_flatMap.2 ⟨p, List.mem_of_getElem? h, hc⟩
theorem Xi {v : Value} {l : List ByteArray} {ok : Nat -> Prop} (h : Ck.ok w base (txt v l)) (hk : ∀ k, v.ownBlock = some k -> ok k) : Kd.string.R 9 w base ok v l :=
 Kd.pJ (enc := Value.string) (h1 := fun _ => rfl) (by have h2 : w.ownsRow base 9 1 v (encs Value.string l).length (encs Value.string l) := h; rw [dD] at h2; exact h2) hk
theorem XX {v : Value} {l : List Int} {ok : Nat -> Prop} (h : Ck.ok w base (ints v l)) (hk : ∀ k, v.ownBlock = some k -> ok k) : (Kd.int .i64).R 3 w base ok v l :=
 Kd.pJ (enc := Value.int .i64) (h1 := fun _ => rfl) (by have h2 : w.ownsRow base 3 1 v (encs (Value.int .i64) l).length (encs (Value.int .i64) l) := h; rw [dD] at h2; exact h2) hk
theorem VY {v : Value} {l : List Pg} (h : Sat w base (iP v l)) : Kd.S iV 110 w base (fun _ => True) v (l.map Pg.erase) := by
 have hrow : w.ownsRow base 110 3 v l.length (l.flatMap Pg.cells) := h.ok (sW v l) List.mem_cons_self
 obtain ⟨hp1, hp2⟩ := List.pairwise_cons.1 h.ap
 have hp3 := List.pairwise_flatMap.1 hp2
 obtain ⟨f, hr⟩ := Kd.TA (d := iV) (w := w) (base := base) (ok := fun k => True /\ some k ≠ v.ownBlock) (xs := l.map Pg.erase) (inner := l.flatMap Pg.cells) (fun j k => ∃ p, l[j]? = some p /\ xI p.fB k) (by
   rintro i j k ⟨p, hp, c, hc, hck⟩ ⟨q, hq, d, hd, hdk⟩
   obtain ⟨hi, ei⟩ := List.getElem?_eq_some_iff.1 hp
   obtain ⟨hj, ej⟩ := List.getElem?_eq_some_iff.1 hq
   have key : ∀ (i j : Nat) (hi : i < l.length) (hj : j < l.length) (c d : Ck), c ∈ (l[i]).fB -> d ∈ (l[j]).fB -> c.blk = some k -> d.blk = some k -> ¬ i < j := fun i j hi hj c d hc hd h1 h2 hlt => List.pairwise_iff_getElem.1 hp3.2 i j hi hj hlt c hc d hd k h1 h2
   rw [<- ei] at hc
   rw [<- ej] at hd
   have h1 := key i j hi hj c d hc hd hck hdk
   have h2 := key j i hj hi d c hd hc hdk hck
   omega) (by
   rintro j k ⟨p, hp, c, hc, hck⟩
   exact ⟨trivial, fun e => hp1 c (Tz hp hc) k e.symm hck⟩) (by rw [lL, List.length_map]; rfl) (by
   intro j x hx
   rw [List.getElem?_map] at hx
   obtain ⟨p, hp, rfl⟩ := Option.map_eq_some_iff.1 hx
   have hsp : l = l.take j ++ p :: l.drop (j + 1) := by rw [<- fF hp, List.take_append_drop]
   have hl : (l.take j).length = j := by rw [List.length_take]; have := (List.getElem?_eq_some_iff.1 hp).1; omega
   have hc : ((l.flatMap Pg.cells).drop (j * iV.sz)).take iV.sz = p.cells := by
    conv => lhs; rw [hsp]
    show ((List.flatMap Pg.cells _).drop (j * 3)).take 3 = _
    rw [List.flatMap_append, List.flatMap_cons, List.drop_append_of_le_length (by rw [lL, hl]; exact Nat.le_refl _), List.drop_eq_nil_of_le (by rw [lL, hl]; exact Nat.le_refl _), List.nil_append, List.take_append_of_le_length (show 3 <= p.cells.length from Nat.le_refl _)]
    exact List.take_of_length_le (show p.cells.length <= 3 from Nat.le_refl _)
   rw [hc]
   have m : ∀ c ∈ p.fB, c.ok w base := fun c hc => h.ok c (List.mem_cons_of_mem _ (Tz hp hc))
   have hb : ∀ c ∈ p.fB, ∀ k, c.blk = some k -> ∃ q, l[j]? = some q /\ xI q.fB k := fun c hc k hk => ⟨p, hp, c, hc, hk⟩
   have m0 : txt p.kv p.ks ∈ p.fB := List.mem_cons_self
   have m1 : txt p.vv p.vs ∈ p.fB := List.mem_cons_of_mem _ List.mem_cons_self
   have m2 : ints p.cv p.cs ∈ p.fB := List.mem_cons_of_mem _ (List.mem_cons_of_mem _ List.mem_cons_self)
   refine Gz w base _ p.erase (Xi (m _ m0) fun k hk => hb _ m0 k hk) (Xi (m _ m1) fun k hk => hb _ m1 k hk) (XX (m _ m2) fun k hk => hb _ m2 k hk) ?_
   intro k hk e
   have hap := (hp3.1 p (List.mem_of_getElem? hp))
   exact (List.pairwise_cons.1 hap).1 (txt p.vv p.vs) List.mem_cons_self k hk e.symm)
 exact ⟨f, fun _ _ => trivial, _, by rw [List.length_zipIdx, List.length_map]; exact hrow, hr⟩
end
end Go.Proofs.Ytoddejmlcnbdmaa.Tree

