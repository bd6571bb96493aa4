/- The law FnExactPutKey holds of the given program: at every input it answers true and leaves its arguments as they were; no condition. This text: part 3 of what its proof reaches. -/
import Derived.Deep.QuietTactic
import Derived.BigQuiet
import Derived.Test.YtoddejmlcnbdmaaCXPutKeyA
import Derived.Test.YtoddejmlcnbdmaaCXPutKeyB
set_option maxHeartbeats 8000000
set_option maxRecDepth 100000
set_option linter.unusedSimpArgs false
set_option linter.unusedVariables false
open Go.Proofs.Ytoddejmlcnbdmaa.Fn Go.Proofs.Ytoddejmlcnbdmaa.Tree
open Go.Proofs.Ytoddejmlcnbdmaa.Fn Go.Proofs.Ytoddejmlcnbdmaa.Tree
open Go.Proofs.Ytoddejmlcnbdmaa.Fn
open Go.RowKit Go.Proofs.YtoddejmlcnbdmaaW.PrintWords Go.Proofs.YtoddejmlcnbdmaaW.PrintLast Go.Proofs.YtoddejmlcnbdmaaW.PrintMore Go.Proofs.Ytoddejmlcnbdmaa.Gen
namespace Go.Proofs.Ytoddejmlcnbdmaa.Pure
theorem bless_eq : ∀ (x y : List UInt8), Op.bytesLess x y = decide (x < y)
 | [], [] => by simp [Op.bytesLess]
 | _ :: _, [] => by simp [Op.bytesLess]
 | [], _ :: _ => by simp [Op.bytesLess]
 | a :: x, b :: y => by
  rw [Op.bytesLess, bless_eq x y]
  simp only [List.cons_lt_cons_iff]
  by_cases h1 : a < b <;> by_cases h2 : a = b <;> by_cases h3 : x < y <;> simp [h1, h2, h3]
def lt_ (a b : ByteArray) : Prop := a.toList < b.toList
theorem ltB_iff (a b : ByteArray) : ltB a b = true ↔ lt_ a b := by
 unfold ltB lt_
 rw [bless_eq, decide_eq_true_eq]
theorem lt_trans {a b c : ByteArray} (h : lt_ a b) (k : lt_ b c) : lt_ a c := List.lt_trans h k
theorem lt_irrefl (a : ByteArray) : ¬ lt_ a a := List.lt_irrefl _
theorem lt_asymm {a b : ByteArray} (h : lt_ a b) : ¬ lt_ b a := fun k => lt_irrefl a (lt_trans h k)
abbrev Srt (K : List ByteArray) : Prop := K.Pairwise lt_
theorem rise_srt : ∀ (K : List ByteArray) (prev : Option ByteArray), riseP K prev = true -> Srt K /\ ∀ p, prev = some p -> ∀ k ∈ K, lt_ p k
 | [], prev, _ => ⟨.nil, fun _ _ k hk => by cases hk⟩
 | k :: ks, prev, h => by
  rw [riseP, Bool.and_eq_true, Bool.and_eq_true] at h
  obtain ⟨h1, h2, h3⟩ := h
  obtain ⟨i1, i2⟩ := rise_srt ks (some k) h3
  refine ⟨List.pairwise_cons.2 ⟨fun x hx => i2 k rfl x hx, i1⟩, ?_⟩
  rintro p rfl x hx
  have hp : lt_ p k := (ltB_iff _ _).1 h2
  rcases List.mem_cons.1 hx with rfl | hx
  ·exact hp
  ·exact lt_trans hp (i2 k rfl x hx)
theorem atI_lt (key : ByteArray) : ∀ (K : List ByteArray) (i : Nat) (x : ByteArray), i < atI key K -> K[i]? = some x -> ltB x key = true
 | [], i, x, h, _ => by rw [atI] at h; omega
 | k :: ks, i, x, h, hx => by
  rw [atI] at h
  split at h
  ·rename_i hk
   cases i with
   | zero =>
    obtain rfl := Option.some.inj hx
    exact hk
   | succ i => exact atI_lt key ks i x (by omega) (by simpa using hx)
  ·omega
theorem atI_ge (key : ByteArray) : ∀ (K : List ByteArray), Srt K -> ∀ (i : Nat) (x : ByteArray), atI key K <= i -> K[i]? = some x -> ltB x key = false
 | [], _, i, x, _, hx => by simp at hx
 | k :: ks, hs, i, x, h, hx => by
  obtain ⟨h1, h2⟩ := List.pairwise_cons.1 hs
  rw [atI] at h
  split at h
  ·cases i with
   | zero => omega
   | succ i => exact atI_ge key ks h2 i x (by omega) (by simpa using hx)
  ·rename_i hk
   cases hlt : ltB x key with
   | false => rfl
   | true =>
    cases i with
    | zero =>
     obtain rfl := Option.some.inj hx
     exact absurd hlt hk
    | succ i =>
     have hx' : x ∈ ks := List.mem_of_getElem? (i := i) (by simpa using hx)
     exact absurd ((ltB_iff _ _).2 (lt_trans (h1 x hx') ((ltB_iff _ _).1 hlt))) hk
theorem less_f (a b : ByteArray) : cmp_Less_string.f a b = some (ltB a b) := by
 simp [cmp_Less_string.f, cmp_isNaN_string.f, ltB]
theorem nan_f (a : ByteArray) : slices_isNaN_string.f a = some false := by simp [slices_isNaN_string.f]
theorem mid_eq (i j : Nat) (h1 : i < j) (h2 : j <= 1048576000) : wrap64 ((IntKind.u64.wrap (wrap64 ((i : Int) + (j : Int)))) / 2) = (((i + j) / 2 : Nat) : Int) := by
 rw [wrap_ok (n := (i : Int) + j) (by omega) (by omega)]
 have e : IntKind.u64.wrap ((i : Int) + j) = (i : Int) + j := by
  simp only [IntKind.wrap, IntKind.bits, IntKind.signed]
  simp
  omega
 rw [e, wrap_ok (by omega) (by omega)]
 omega
theorem search_ev (K : List ByteArray) (key : ByteArray) (hK : K.length <= 1048576000) (hs : Srt K) : ∃ b, Ev (fun k => slices_BinarySearch_string_string.f k K key) ((atI key K : Int), b) := by
 have hle := atI_le key K
 have key2 : ∀ (d i j : Nat), j - i <= d -> i <= atI key K -> atI key K <= j -> j <= K.length -> ∃ b, Ev (fun k => slices_BinarySearch_string_string.l0 k K key (K.length : Int) (i : Int) (j : Int)) ((atI key K : Int), b) := by
  intro d
  induction d with
  | zero =>
   intro i j h1 h2 h3 h4
   have hi : i = atI key K := by omega
   have hj : j = i := by omega
   subst hj
   by_cases hlt : j < K.length
   ·have hx : K[j]? = some K[j] := List.getElem?_eq_getElem hlt
    by_cases he : K[j].toList = key.toList
    ·refine ⟨true, ?_⟩
     (refine Ev.up ?_; simp only [slices_BinarySearch_string_string.l0, decT])
     simp only [rdOf_at hx]
     (repeat (first | with_reducible refine Ev.bindS ?_ | (with_reducible refine Ev.ifp ?_ ?_; (· exact cnd_)) | (with_reducible refine Ev.ifn ?_ ?_; (· exact cnd_))))
     exact Ev.val (by rw [hi])
    ·refine ⟨false, ?_⟩
     (refine Ev.up ?_; simp only [slices_BinarySearch_string_string.l0, decT])
     simp only [rdOf_at hx, nan_f, Option.bind_some]
     (repeat (first | with_reducible refine Ev.bindS ?_ | (with_reducible refine Ev.ifp ?_ ?_; (· exact cnd_)) | (with_reducible refine Ev.ifn ?_ ?_; (· exact cnd_))))
     exact Ev.val (by rw [hi])
   ·refine ⟨false, ?_⟩
    (refine Ev.up ?_; simp only [slices_BinarySearch_string_string.l0, decT])
    (repeat (first | with_reducible refine Ev.bindS ?_ | (with_reducible refine Ev.ifp ?_ ?_; (· exact cnd_)) | (with_reducible refine Ev.ifn ?_ ?_; (· exact cnd_))))
    exact Ev.val (by rw [hi])
  | succ d ih =>
   intro i j h1 h2 h3 h4
   by_cases hij : i < j
   ·have hm := mid_eq i j hij (by omega)
    obtain ⟨m, hm2⟩ : ∃ m, m = (i + j) / 2 := ⟨_, rfl⟩
    rw [<- hm2] at hm
    have hlt : m < K.length := by omega
    have hx : K[m]? = some K[m] := List.getElem?_eq_getElem hlt
    cases hb : ltB K[m] key with
    | true =>
     have hge : m < atI key K := by
      rcases Nat.lt_or_ge m (atI key K) with h | h
      ·exact h
      ·have := atI_ge key K hs m _ h hx
       rw [hb] at this
       cases this
     obtain ⟨b, h⟩ := ih (m + 1) j (by omega) (by omega) h3 h4
     refine ⟨b, ?_⟩
     (refine Ev.up ?_; simp only [slices_BinarySearch_string_string.l0, decT])
     simp only [hm, rdOf_at hx, less_f, hb, Option.bind_some, wrap_succ (i := m) (by omega)]
     (repeat (first | with_reducible refine Ev.bindS ?_ | (with_reducible refine Ev.ifp ?_ ?_; (· exact cnd_)) | (with_reducible refine Ev.ifn ?_ ?_; (· exact cnd_))))
     exact h
    | false =>
     have hge : atI key K <= m := by
      rcases Nat.lt_or_ge m (atI key K) with h | h
      ·have := atI_lt key K m _ h hx
       rw [hb] at this
       cases this
      ·exact h
     obtain ⟨b, h⟩ := ih i m (by omega) h2 hge (by omega)
     refine ⟨b, ?_⟩
     (refine Ev.up ?_; simp only [slices_BinarySearch_string_string.l0, decT])
     simp only [hm, rdOf_at hx, less_f, hb, Option.bind_some]
     (repeat (first | with_reducible refine Ev.bindS ?_ | (with_reducible refine Ev.ifp ?_ ?_; (· exact cnd_)) | (with_reducible refine Ev.ifn ?_ ?_; (· exact cnd_))))
     exact h
   ·exact ih i j (by omega) h2 h3 h4
 exact key2 K.length 0 K.length (by omega) (by omega) hle (Nat.le_refl _)
theorem lessI_ev (K : List ByteArray) (key : ByteArray) (hK : K.length <= 1048576000) (hs : Srt K) : Ev (fun k => impl_less.f k K key) (atI key K : Int) := by
 obtain ⟨b, h⟩ := search_ev K key hK hs
 simp only [impl_less.f]
 exact Ev.bind h (Ev.val rfl)
theorem hasAt_f (K : List ByteArray) (i : Nat) (key : ByteArray) : impl_hasAt.f K (i : Int) key = some (hasS K i key) := by
 unfold impl_hasAt.f hasS
 rcases Nat.lt_or_ge i K.length with h | h
 ·have hx : K[i]? = some K[i] := List.getElem?_eq_getElem h
  rw [if_pos (by omega), if_pos (by omega), rdOf_at hx, hx]
 ·rw [if_neg (by omega), List.getElem?_eq_none h]
theorem weave_keys {α : Type} : ∀ (cs : List (List α)) (ks : List α), ks.Sublist (weave cs ks)
 | [], ks => List.Sublist.refl _
 | c :: cs, [] => List.nil_sublist _
 | c :: cs, k :: ks => by
  rw [weave]
  exact ((weave_keys cs ks).cons_cons k).trans (List.sublist_append_right _ _)
theorem srt_keys {t : PT} (h : Srt (allK t)) : Srt t.keys := by
 rw [allK_eq] at h
 exact h.sublist (weave_keys _ _)
abbrev KV := ByteArray × ByteArray
def itemsP (t : PT) : List KV := t.keys.zip t.vals
def allP (t : PT) : List KV := (allK t).zip (allV t)
theorem weave_zip {α β : Type} : ∀ (cs : List (List α)) (ds : List (List β)) (ks : List α) (vs : List β), cs.map List.length = ds.map List.length -> ks.length = vs.length ->
  (weave cs ks).zip (weave ds vs) = weave (List.zipWith List.zip cs ds) (ks.zip vs)
 | [], [], ks, vs, _, _ => by simp [weave]
 | [], d :: ds, _, _, h, _ => by simp at h
 | c :: cs, [], _, _, h, _ => by simp at h
 | c :: cs, d :: ds, [], [], h, _ => by simp [weave]
 | c :: cs, d :: ds, [], v :: vs, _, h => by simp at h
 | c :: cs, d :: ds, k :: ks, [], _, h => by simp at h
 | c :: cs, d :: ds, k :: ks, v :: vs, h1, h2 => by
  simp only [List.map_cons, List.cons.injEq] at h1
  have := weave_zip cs ds ks vs h1.2 (by simpa using h2)
  simp only [weave, List.zipWith_cons_cons, List.zip_cons_cons]
  rw [List.zip_append h1.1, List.zip_cons_cons, this]
theorem zip_kids : ∀ l : List PT, List.zipWith List.zip (l.map allK) (l.map allV) = l.map allP
 | [] => rfl
 | c :: cs => by
  rw [List.map_cons, List.map_cons, List.zipWith_cons_cons, zip_kids cs]
  rfl
theorem allP_eq {t : PT} (h : Shp t) : allP t = weave (t.kids.map allP) (itemsP t) := by
 unfold allP itemsP
 have h1 := h.one
 unfold Shp1 at h1
 rw [allK_eq, allV_eq, weave_zip _ _ _ _ ?_ h1.1]
 ·rw [zip_kids]
  rfl
 ·rw [List.map_map, List.map_map]
  refine List.map_congr_left fun s hm => ?_
  obtain ⟨i, hi⟩ := List.getElem?_of_mem hm
  exact (allV_len (h.kid hi)).symm
theorem allK_allP {t : PT} (h : Shp t) : allK t = (allP t).map Prod.fst := by
 unfold allP
 rw [List.map_fst_zip (by rw [allV_len h]; exact Nat.le_refl _)]
theorem allP_len {t : PT} (h : Shp t) : (allP t).length = (allK t).length := by rw [allK_allP h, List.length_map]
theorem one_shp {m : Nat} {t : PT} (hm : m <= 1000) (h : One m t) : Shp1 t := ⟨h.1.symm, by have := h.2.1; omega, h.2.2⟩
theorem bnd_shp_ : ∀ (n : Nat) {t : PT}, t.big <= n -> Bnd t -> Shp t
 | 0, t, hb, _ => absurd t.big_pos (by omega)
 | n + 1, t, hb, h => by
  obtain ⟨h1, h2⟩ := Bnd_iff.1 h
  exact Shp.mk' (one_shp (by omega) h1) fun i s hi => bnd_shp_ n (by have := PT.big_kid hi; omega) (h2 s (List.mem_of_getElem? hi))
theorem bnd_shp {t : PT} (h : Bnd t) : Shp t := bnd_shp_ _ (Nat.le_refl _) h
theorem bnd5_shp {t : PT} (h : Bnd5 t) : Shp t := Shp.mk' (one_shp (by omega) h.1) fun i s hi => bnd_shp (h.2 s (List.mem_of_getElem? hi))
def preW {α : Type} : List (List α) -> List α -> List α
 | a :: A, k :: K => a ++ k :: preW A K
 | _, _ => []
def tailW {α : Type} (Q : List (List α)) : List α -> List α
 | [] => []
 | k :: ks => k :: weave Q ks
theorem weave_pre {α : Type} : ∀ (A B : List (List α)) (K1 K2 : List α), A.length = K1.length -> weave (A ++ B) (K1 ++ K2) = preW A K1 ++ weave B K2
 | [], B, [], K2, _ => rfl
 | [], B, k :: K1, K2, h => by simp at h
 | a :: A, B, [], K2, h => by simp at h
 | a :: A, B, k :: K1, K2, h => by
  have := weave_pre A B K1 K2 (by simpa using h)
  simp only [List.cons_append, weave, preW, this, List.append_assoc]
theorem weave_cons {α : Type} (c : List α) (Q : List (List α)) (K : List α) : weave (c :: Q) K = c ++ tailW Q K := by cases K <;> simp [weave, tailW]
theorem weave_nil {α : Type} (K : List α) : weave [] K = K := by cases K <;> rfl
theorem node_at {P Q : List PT} {s : PT} {I J : List KV} (h : P.length = I.length) : weave ((P ++ s :: Q).map allP) (I ++ J) = preW (P.map allP) I ++ (allP s ++ tailW (Q.map allP) J) := by
 rw [List.map_append, List.map_cons, weave_pre _ _ _ _ (by rw [List.length_map]; exact h), weave_cons]
theorem node_at2 {P Q : List PT} {l r : PT} {I J : List KV} {x : KV} (h : P.length = I.length) : weave ((P ++ l :: r :: Q).map allP) (I ++ x :: J) = preW (P.map allP) I ++ (allP l ++ x :: (allP r ++ tailW (Q.map allP) J)) := by
 rw [node_at h]
 simp only [List.map_cons, tailW, weave_cons]
theorem weave_split {α : Type} : ∀ (A B : List (List α)) (K1 K2 : List α) (k : α), A.length = K1.length + 1 -> weave (A ++ B) (K1 ++ k :: K2) = weave A K1 ++ k :: weave B K2
 | [], B, K1, K2, k, h => by simp at h
 | [a], B, [], K2, k, _ => by simp [weave]
 | a :: b :: A, B, [], K2, k, h => by simp at h
 | [a], B, x :: K1, K2, k, h => by simp at h
 | a :: b :: A, B, x :: K1, K2, k, h => by
  have := weave_split (b :: A) B K1 K2 k (by simpa using h)
  simp only [List.cons_append, weave] at this ⊢
  rw [this, List.append_assoc]
  simp
theorem weave_item {α : Type} : ∀ (C : List (List α)) (I J : List α), C = [] ∨ I.length < C.length -> ∃ A B, ∀ y, weave C (I ++ y :: J) = A ++ y :: B
 | [], I, J, _ => ⟨I, J, fun y => by rw [weave_nil]⟩
 | c :: C, [], J, _ => ⟨c, weave C J, fun y => by rw [List.nil_append, weave]⟩
 | [c], z :: I, J, h => by simp at h
 | c :: d :: C, z :: I, J, h => by
  obtain ⟨A, B, e⟩ := weave_item (d :: C) I J (.inr (by simpa using h))
  exact ⟨c ++ z :: A, B, fun y => by rw [List.cons_append, weave, e, List.append_assoc, List.cons_append]⟩
theorem preW_last {α : Type} : ∀ (A : List (List α)) (K : List α) (k : α), A.length = K.length + 1 -> ∃ X, preW A (K ++ [k]) = X ++ [k]
 | [], K, k, h => by simp at h
 | [a], [], k, _ => ⟨a, rfl⟩
 | a :: b :: A, [], k, h => by simp at h
 | a :: A, x :: K, k, h => by
  obtain ⟨X, e⟩ := preW_last A K k (by simpa using h)
  exact ⟨a ++ x :: X, by rw [List.cons_append, preW, e, List.append_assoc, List.cons_append]⟩
theorem preW_nil {α : Type} (A : List (List α)) : preW A [] = [] := by cases A <;> rfl
abbrev SrtP (l : List KV) : Prop := l.Pairwise fun a b => lt_ a.1 b.1
theorem srtP_iff {t : PT} (h : Shp t) : Srt (allK t) ↔ SrtP (allP t) := by
 rw [allK_allP h]
 exact List.pairwise_map
def insKV (k v : ByteArray) : List KV -> List KV
 | [] => [(k, v)]
 | x :: r => if ltB x.1 k = true then x :: insKV k v r else if x.1.toList == k.toList then (x.1, v) :: r else (k, v) :: x :: r
theorem ltB_false {a b : ByteArray} (h : lt_ b a) : ltB a b = false := by
 cases hh : ltB a b with
 | false => rfl
 | true => exact absurd ((ltB_iff a b).1 hh) (lt_asymm h)
theorem lt_ne {a b : ByteArray} (h : lt_ a b) : (b.toList == a.toList) = false := by
 cases hh : (b.toList == a.toList) with
 | false => rfl
 | true =>
  have e := eq_of_beq hh
  unfold lt_ at h
  rw [e] at h
  exact absurd h (List.lt_irrefl _)
theorem lt_or {a b : ByteArray} (h1 : ltB a b = false) (h2 : (a.toList == b.toList) = false) : lt_ b a := by
 have h1' : ¬ lt_ a b := fun h => by rw [(ltB_iff a b).2 h] at h1; cases h1
 have h2' : a.toList ≠ b.toList := fun h => by rw [h] at h2; simp at h2
 unfold lt_ at h1' ⊢
 rcases Std.lt_trichotomy a.toList b.toList with h | h | h
 ·exact absurd h h1'
 ·exact absurd h h2'
 ·exact h
theorem insKV_lt {k v : ByteArray} : ∀ {l1 l2 : List KV}, (∀ x ∈ l1, lt_ x.1 k) -> insKV k v (l1 ++ l2) = l1 ++ insKV k v l2
 | [], l2, _ => rfl
 | x :: l1, l2, h => by
  rw [List.cons_append, insKV, if_pos ((ltB_iff _ _).2 (h x List.mem_cons_self)), insKV_lt fun y hy => h y (List.mem_cons_of_mem _ hy), List.cons_append]
theorem insKV_gt0 {k v : ByteArray} {l : List KV} (h : ∀ x ∈ l, lt_ k x.1) : insKV k v l = (k, v) :: l := by
 cases l with
 | nil => rfl
 | cons x r =>
  have := h x List.mem_cons_self
  rw [insKV, if_neg (by rw [ltB_false this]; decide), if_neg (by rw [lt_ne this]; decide)]
theorem insKV_gt {k v : ByteArray} : ∀ {l1 l2 : List KV}, (∀ x ∈ l2, lt_ k x.1) -> insKV k v (l1 ++ l2) = insKV k v l1 ++ l2
 | [], l2, h => by rw [List.nil_append, insKV_gt0 h]; rfl
 | x :: l1, l2, h => by
  rw [List.cons_append, insKV, insKV]
  split
  ·rw [insKV_gt h]; rfl
  ·split <;> rfl
theorem insKV_eq {k v : ByteArray} {x : KV} {l : List KV} (h : (x.1.toList == k.toList) = true) : insKV k v (x :: l) = (x.1, v) :: l := by
 have hn : ltB x.1 k = false := by
  cases hh : ltB x.1 k with
  | false => rfl
  | true =>
   have := (ltB_iff _ _).1 hh
   unfold lt_ at this
   rw [eq_of_beq h] at this
   exact absurd this (List.lt_irrefl _)
 rw [insKV, if_neg (by rw [hn]; decide), if_pos h]
theorem mem_insKV {k v : ByteArray} {y : KV} : ∀ {l : List KV}, y ∈ insKV k v l -> y = (k, v) ∨ y ∈ l ∨ ∃ x ∈ l, y = (x.1, v)
 | [], h => by rw [insKV, List.mem_singleton] at h; exact .inl h
 | x :: r, h => by
  rw [insKV] at h
  split at h
  ·rcases List.mem_cons.1 h with h | h
   ·exact .inr (.inl (by rw [h]; exact List.mem_cons_self))
   ·rcases mem_insKV h with h | h | ⟨z, hz, e⟩
    ·exact .inl h
    ·exact .inr (.inl (List.mem_cons_of_mem _ h))
    ·exact .inr (.inr ⟨z, List.mem_cons_of_mem _ hz, e⟩)
  ·split at h
   ·rcases List.mem_cons.1 h with h | h
    ·exact .inr (.inr ⟨x, List.mem_cons_self, h⟩)
    ·exact .inr (.inl (List.mem_cons_of_mem _ h))
   ·rcases List.mem_cons.1 h with h | h
    ·exact .inl h
    ·exact .inr (.inl h)
theorem srt_insKV {k v : ByteArray} : ∀ {l : List KV}, SrtP l -> SrtP (insKV k v l)
 | [], h => by rw [insKV]; exact List.pairwise_singleton _ _
 | x :: r, h => by
  obtain ⟨h1, h2⟩ := List.pairwise_cons.1 h
  rw [insKV]
  split
  ·rename_i hlt
   refine List.pairwise_cons.2 ⟨fun y hy => ?_, srt_insKV h2⟩
   rcases mem_insKV hy with rfl | hy | ⟨z, hz, rfl⟩
   ·exact (ltB_iff _ _).1 hlt
   ·exact h1 y hy
   ·exact h1 z hz
  ·split
   ·exact List.pairwise_cons.2 ⟨h1, h2⟩
   ·rename_i hn he
    have hk : lt_ k x.1 := lt_or (by simpa using hn) (by simpa using he)
    refine List.pairwise_cons.2 ⟨fun y hy => ?_, h⟩
    rcases List.mem_cons.1 hy with rfl | hy
    ·exact hk
    ·exact lt_trans hk (h1 y hy)
theorem items_len {t : PT} (h : t.vals.length = t.keys.length) : (itemsP t).length = t.keys.length := by
 unfold itemsP
 rw [List.length_zip]
 omega
theorem items_get {t : PT} (h : t.vals.length = t.keys.length) {i : Nat} {x : ByteArray} (hx : t.keys[i]? = some x) : ∃ v, t.vals[i]? = some v /\ (itemsP t)[i]? = some (x, v) := by
 have hi : i < t.keys.length := (List.getElem?_eq_some_iff.1 hx).1
 have hv : t.vals[i]? = some t.vals[i] := List.getElem?_eq_getElem (by omega)
 refine ⟨_, hv, ?_⟩
 unfold itemsP
 exact List.getElem?_zip_eq_some.2 ⟨hx, hv⟩
theorem items_ahead {t : PT} (hv : t.vals.length = t.keys.length) {key : ByteArray} : ∀ x ∈ (itemsP t).take (atI key t.keys), lt_ x.1 key := by
 intro x hx
 obtain ⟨j, hj⟩ := List.getElem?_of_mem hx
 have hlt : j < atI key t.keys := by
  have := (List.getElem?_eq_some_iff.1 hj).1
  rw [List.length_take] at this
  omega
 rw [List.getElem?_take_of_lt hlt] at hj
 unfold itemsP at hj
 obtain ⟨h1, _⟩ := List.getElem?_zip_eq_some.1 hj
 exact (ltB_iff _ _).1 (atI_lt key t.keys j x.1 hlt h1)
theorem items_behind {t : PT} (hs : Srt t.keys) {key : ByteArray} (hn : hasS t.keys (atI key t.keys) key = false) : ∀ x ∈ (itemsP t).drop (atI key t.keys), lt_ key x.1 := by
 intro x hx
 obtain ⟨j, hj⟩ := List.getElem?_of_mem hx
 rw [List.getElem?_drop] at hj
 unfold itemsP at hj
 obtain ⟨h1, _⟩ := List.getElem?_zip_eq_some.1 hj
 have hge := atI_ge key t.keys hs (atI key t.keys + j) x.1 (by omega) h1
 refine lt_or hge ?_
 cases hh : (x.1.toList == key.toList) with
 | false => rfl
 | true =>
  have e := eq_of_beq hh
  have hi : atI key t.keys + j < t.keys.length := (List.getElem?_eq_some_iff.1 h1).1
  have hy : t.keys[atI key t.keys]? = some t.keys[atI key t.keys] := List.getElem?_eq_getElem (by omega)
  have hge2 := atI_ge key t.keys hs (atI key t.keys) _ (Nat.le_refl _) hy
  unfold hasS at hn
  rw [hy] at hn
  simp only at hn
  have hlt := lt_or hge2 hn
  by_cases h0 : j = 0
  ·subst h0
   rw [Nat.add_zero, hy] at h1
   rw [Option.some.inj h1] at hn
   rw [hn] at hh
   cases hh
  ·have h2 : lt_ t.keys[atI key t.keys] x.1 := by
    have := List.pairwise_iff_getElem.1 hs (atI key t.keys) (atI key t.keys + j) (by omega) hi (by omega)
    rw [(List.getElem?_eq_some_iff.1 h1).2] at this
    exact this
   have h3 := lt_trans hlt h2
   unfold lt_ at h3
   rw [e] at h3
   exact absurd h3 (List.lt_irrefl _)
theorem pre_lt {P : List (List KV)} {I R : List KV} {key : ByteArray} (hl : P.length = I.length) (hs : SrtP (preW P I ++ R)) (hI : ∀ x ∈ I, lt_ x.1 key) : ∀ x ∈ preW P I, lt_ x.1 key := by
 rcases List.eq_nil_or_concat I with rfl | ⟨K, k, hk0⟩
 ·rw [preW_nil]
  intro x hx
  cases hx
 ·rw [List.concat_eq_append] at hk0
  subst hk0
  obtain ⟨X, e⟩ := preW_last P K k (by rw [hl, List.length_append]; rfl)
  intro x hx
  have hk := hI k (by simp)
  rw [e] at hx hs
  rcases List.mem_append.1 hx with hx | hx
  ·exact lt_trans ((List.pairwise_append.1 (List.pairwise_append.1 hs).1).2.2 x hx k (List.mem_singleton_self _)) hk
  ·rw [List.mem_singleton.1 hx]
   exact hk
theorem tail_gt {Q : List (List KV)} {J L : List KV} {key : ByteArray} (hs : SrtP (L ++ tailW Q J)) (hJ : ∀ x ∈ J, lt_ key x.1) : ∀ x ∈ tailW Q J, lt_ key x.1 := by
 cases J with
 | nil => intro x hx; cases hx
 | cons y J =>
  rw [tailW] at hs ⊢
  have hk := hJ y List.mem_cons_self
  intro x hx
  rcases List.mem_cons.1 hx with rfl | hx
  ·exact hk
  ·exact lt_trans hk ((List.pairwise_cons.1 (List.pairwise_append.1 hs).2.1).1 x hx)
def Lev : Nat -> PT -> Prop
 | 0, _ => False
 | h + 1, t => (t.kids = [] /\ h = 0) ∨ (t.kids ≠ [] /\ ∀ s ∈ t.kids, Lev h s /\ 2 <= s.keys.length)
theorem lev_pos {h : Nat} {t : PT} (hl : Lev h t) : 1 <= h := by
 cases h with
 | zero => exact hl.elim
 | succ h => omega
theorem lev_uniq : ∀ {h g : Nat} {t : PT}, Lev h t -> Lev g t -> h = g
 | 0, _, t, a, _ => a.elim
 | h + 1, 0, t, _, b => b.elim
 | h + 1, g + 1, t, a, b => by
  rcases a with ⟨a1, a2⟩ | ⟨a1, a2⟩ <;> rcases b with ⟨b1, b2⟩ | ⟨b1, b2⟩
  ·omega
  ·exact absurd a1 b1
  ·exact absurd b1 a1
  ·cases hk : t.kids with
   | nil => exact absurd hk a1
   | cons c cs =>
    have := lev_uniq (a2 c (by rw [hk]; exact List.mem_cons_self)).1 (b2 c (by rw [hk]; exact List.mem_cons_self)).1
    omega
theorem lev_big : ∀ {h : Nat} {t : PT}, Lev h t -> h <= t.big
 | 0, t, a => a.elim
 | h + 1, t, a => by
  rcases a with ⟨a1, a2⟩ | ⟨a1, a2⟩
  ·have := t.big_pos
   omega
  ·cases hk : t.kids with
   | nil => exact absurd hk a1
   | cons c cs =>
    have h0 : t.kids[0]? = some c := by rw [hk]; rfl
    have := lev_big (a2 c (by rw [hk]; exact List.mem_cons_self)).1
    have := PT.big_kid h0
    omega
theorem even_lev : ∀ (n : Nat) (t : PT), t.big <= n -> t.big <= 1000000000000 -> (∃ h, Lev h t /\ evenS t = (h : Int)) ∨ ((∀ h, ¬ Lev h t) /\ evenS t = -1)
 | 0, t, hn, _ => absurd t.big_pos (by omega)
 | n + 1, t, hn, hb => by
  cases hk : t.kids with
  | nil =>
   exact .inl ⟨1, .inl ⟨hk, rfl⟩, evenS_leaf (by rw [hk]; rfl)⟩
  | cons c cs =>
   have h0 : t.kids[0]? = some c := by rw [hk]; rfl
   have he := evenS_node h0
   have hc := PT.big_kid h0
   have kid : ∀ s ∈ t.kids, (∃ h, Lev h s /\ evenS s = (h : Int)) ∨ ((∀ h, ¬ Lev h s) /\ evenS s = -1) := fun s hs => by
    obtain ⟨i, hi⟩ := List.getElem?_of_mem hs
    have := PT.big_kid hi
    exact even_lev n s (by omega) (by omega)
   have hall : ∀ (l : List PT) (d : Int), evenL d l = true ↔ ∀ s ∈ l, ¬ d < 0 /\ evenS s = d /\ ¬ s.keys.length < 2 := by
    intro l d
    induction l with
    | nil => simp [evenL]
    | cons a l ih =>
     rw [evenL, Bool.and_eq_true, ih]
     simp [and_assoc]
   rw [List.drop_zero] at he
   have hcm : c ∈ t.kids := by rw [hk]; exact List.mem_cons_self
   rcases kid c hcm with ⟨h, hl, hev⟩ | ⟨hno, hev⟩
   ·by_cases hL : evenL (evenS c) t.kids = true
    ·rw [if_pos hL] at he
     refine .inl ⟨h + 1, .inr ⟨by rw [hk]; simp, fun s hs => ?_⟩, ?_⟩
     ·obtain ⟨a1, a2, a3⟩ := (hall _ _).1 hL s hs
      rcases kid s hs with ⟨g, gl, gev⟩ | ⟨_, gev⟩
      ·have : g = h := by omega
       subst this
       exact ⟨gl, by omega⟩
      ·omega
     ·have := lev_big hl
      rw [he, hev, wrap_ok (by omega) (by omega)]
      omega
    ·rw [if_neg hL] at he
     refine .inr ⟨fun g hg => hL ((hall _ _).2 fun s hs => ?_), he⟩
     cases g with
     | zero => exact hg.elim
     | succ g =>
      rcases hg with ⟨hg, _⟩ | ⟨_, hg⟩
      ·rw [hk] at hg; cases hg
      ·have hgc := lev_uniq (hg c hcm).1 hl
       subst hgc
       obtain ⟨s1, s2⟩ := hg s hs
       have s3 := lev_pos s1
       rcases kid s hs with ⟨f, fl, fev⟩ | ⟨fno, _⟩
       ·have := lev_uniq fl s1
        exact ⟨by omega, by omega, by omega⟩
       ·exact absurd s1 (fno g)
   ·refine .inr ⟨fun g hg => ?_, ?_⟩
    ·cases g with
     | zero => exact hg.elim
     | succ g =>
      rcases hg with ⟨hg, _⟩ | ⟨_, hg⟩
      ·rw [hk] at hg; cases hg
      ·exact hno g (hg c hcm).1
    ·rw [he, if_neg]
     rw [hall]
     intro h
     have := (h c hcm).1
     omega
def rootOk (t : PT) : Bool := t.kids.isEmpty || decide (0 < t.keys.length)
theorem depth_lev : ∀ (n : Nat) (t : PT), t.big <= n -> t.big <= 1000000000000 -> (∃ h, Lev h t /\ depthP t = ((h : Int), rootOk t)) ∨ ((∀ h, ¬ Lev h t) /\ depthP t = (0, false))
 | 0, t, hn, _ => absurd t.big_pos (by omega)
 | n + 1, t, hn, hb => by
  cases hk : t.kids with
  | nil =>
   refine .inl ⟨1, .inl ⟨hk, rfl⟩, ?_⟩
   rw [depthP_leaf (by rw [hk]; rfl), rootOk, hk]
   rfl
  | cons c cs =>
   have kid : ∀ s ∈ t.kids, (∃ h, Lev h s /\ depthP s = ((h : Int), rootOk s)) ∨ ((∀ h, ¬ Lev h s) /\ depthP s = (0, false)) := fun s hs => by
    obtain ⟨i, hi⟩ := List.getElem?_of_mem hs
    have := PT.big_kid hi
    exact depth_lev n s (by omega) (by omega)
   have hne : t.kids.length ≠ 0 := by rw [hk]; simp
   have he := depthP_node hne
   rw [List.drop_zero] at he
   -- the loop, from a kid on: all of level h, or none
   have loop : ∀ (l : List PT), (∀ s ∈ l, s ∈ t.kids) -> ∀ (i : Nat) (f : Int), (∃ h : Nat, (∀ s ∈ l, Lev h s /\ 2 <= s.keys.length) /\ (0 < i -> f = (h : Int)) /\ depthL i f l = some (if l = [] then f else (h : Int))) ∨
     ((∀ h : Nat, (0 < i -> f = (h : Int)) -> ¬ ∀ s ∈ l, Lev h s /\ 2 <= s.keys.length) /\ (l ≠ [] -> depthL i f l = none)) := by
    intro l
    induction l with
    | nil =>
     intro _ i f
     by_cases hi : 0 < i -> ∃ h : Nat, f = (h : Int)
     ·rcases Nat.eq_zero_or_pos i with h0 | h0
      ·exact .inl ⟨0, by simp, by omega, by rw [if_pos rfl, depthL]⟩
      ·obtain ⟨h, hf⟩ := hi h0
       exact .inl ⟨h, by simp, fun _ => hf, by rw [if_pos rfl, depthL]⟩
     ·refine .inr ⟨fun h hf _ => hi fun hi => ⟨h, hf hi⟩, fun h => absurd rfl h⟩
    | cons a l ih =>
     intro hsub i f
     have ha := hsub a List.mem_cons_self
     have hsub' : ∀ s ∈ l, s ∈ t.kids := fun s hs => hsub s (List.mem_cons_of_mem _ hs)
     rcases kid a ha with ⟨h, hl, hd⟩ | ⟨hno, hd⟩
     ·by_cases h2 : a.keys.length < 2
      ·refine .inr ⟨fun g _ hg => ?_, fun _ => ?_⟩
       ·have := (hg a List.mem_cons_self).2
        omega
       ·rw [depthL, if_pos]
        simp [h2]
      ·have hro : rootOk a = true := by rw [rootOk, decide_eq_true (by omega), Bool.or_true]
       by_cases h3 : 0 < i /\ (h : Int) ≠ f
       ·refine .inr ⟨fun g hf hg => ?_, fun _ => ?_⟩
        ·have := lev_uniq hl (hg a List.mem_cons_self).1
         have := hf h3.1
         omega
        ·rw [depthL, if_pos]
         simp [hd, h3.1, h3.2]
       ·have hstep : depthL i f (a :: l) = depthL (i + 1) (h : Int) l := by
         rw [depthL, if_neg, hd]
         rcases Nat.eq_zero_or_pos i with h0 | h0
         ·simp [hd, hro, h2, h0]
         ·have : (h : Int) = f := by
           rcases Decidable.em ((h : Int) = f) with h4 | h4
           ·exact h4
           ·exact absurd ⟨h0, h4⟩ h3
          simp [hd, hro, h2, this]
        rcases ih hsub' (i + 1) (h : Int) with ⟨g, g1, g2, g3⟩ | ⟨g1, g2⟩
        ·have hgh : h = g := by have := g2 (by omega); omega
         subst hgh
         refine .inl ⟨h, fun s hs => ?_, fun hi => ?_, ?_⟩
         ·rcases List.mem_cons.1 hs with rfl | hs
          ·exact ⟨hl, by omega⟩
          ·exact g1 s hs
         ·rcases Decidable.em ((h : Int) = f) with h4 | h4
          ·exact h4.symm
          ·exact absurd ⟨hi, h4⟩ h3
         ·rw [hstep, g3]
          simp
        ·by_cases hl0 : l = []
         ·subst hl0
          exact absurd (by simp) (g1 h (fun _ => rfl))
         ·refine .inr ⟨fun g hf hg => ?_, fun _ => by rw [hstep]; exact g2 hl0⟩
          have hgh := lev_uniq hl (hg a List.mem_cons_self).1
          subst hgh
          exact g1 h (fun _ => rfl) fun s hs => hg s (List.mem_cons_of_mem _ hs)
     ·refine .inr ⟨fun g _ hg => hno g (hg a List.mem_cons_self).1, fun _ => ?_⟩
      rw [depthL, if_pos]
      simp [hd]
   rcases loop t.kids (fun s hs => hs) 0 0 with ⟨h, h1, _, h3⟩ | ⟨h1, h2⟩
   ·rw [if_neg (by rw [hk]; simp)] at h3
    refine .inl ⟨h + 1, .inr ⟨by rw [hk]; simp, h1⟩, ?_⟩
    have hc : c ∈ t.kids := by rw [hk]; exact List.mem_cons_self
    have hcb := lev_big (h1 c hc).1
    obtain ⟨i, hi⟩ := List.getElem?_of_mem hc
    have := PT.big_kid hi
    rw [he, h3, depthR, rootOk, hk, wrap_ok (by omega) (by omega)]
    simp
   ·refine .inr ⟨fun g hg => ?_, by rw [he, h2 (by rw [hk]; simp)]; rfl⟩
    cases g with
    | zero => exact hg.elim
    | succ g =>
     rcases hg with ⟨hg, _⟩ | ⟨_, hg⟩
     ·rw [hk] at hg; cases hg
     ·exact h1 g (fun h => by omega) hg
end Go.Proofs.Ytoddejmlcnbdmaa.Pure
namespace Go.Proofs.Ytoddejmlcnbdmaa.Tree
open Go.Proofs.Ytoddejmlcnbdmaa.Fn
def kidD (t : PT) (j : Nat) : PT := t.kids.getD j (.mk [] [] [])
def nthB (l : List ByteArray) (j : Nat) : ByteArray := l.getD j ByteArray.empty
def setK (t : PT) (i : Nat) (s : PT) : PT := .mk t.keys t.vals (t.kids.set i s)
def borL1 (l : PT) : PT := .mk (l.keys.take (l.keys.length - 1)) (l.vals.take (l.keys.length - 1)) (l.kids.take l.keys.length)
def borL2 (l r : PT) (x y : ByteArray) : PT := .mk (insAt r.keys 0 x) (insAt r.vals 0 y) (if l.kids.length = 0 then r.kids else insAt r.kids 0 (kidD l l.keys.length))
def borR1 (l r : PT) (x y : ByteArray) : PT := .mk (l.keys ++ [x]) (l.vals ++ [y]) (if r.kids.length = 0 then l.kids else l.kids ++ [kidD r 0])
def borR2 (r : PT) : PT := .mk (r.keys.drop 1) (r.vals.drop 1) (r.kids.drop 1)
def joinM (l r : PT) (x y : ByteArray) : PT := .mk (l.keys ++ x :: r.keys) (l.vals ++ y :: r.vals) (l.kids ++ r.kids)
def borL (t : PT) (j : Nat) : PT :=
 .mk (t.keys.set j (nthB (kidD t j).keys ((kidD t j).keys.length - 1))) (t.vals.set j (nthB (kidD t j).vals ((kidD t j).keys.length - 1)))
  (t.kids.take j ++ borL1 (kidD t j) :: borL2 (kidD t j) (kidD t (j + 1)) (nthB t.keys j) (nthB t.vals j) :: t.kids.drop (j + 2))
def borR (t : PT) (j : Nat) : PT :=
 .mk (t.keys.set j (nthB (kidD t (j + 1)).keys 0)) (t.vals.set j (nthB (kidD t (j + 1)).vals 0))
  (t.kids.take j ++ borR1 (kidD t j) (kidD t (j + 1)) (nthB t.keys j) (nthB t.vals j) :: borR2 (kidD t (j + 1)) :: t.kids.drop (j + 2))
def joinP (t : PT) (j : Nat) : PT :=
 .mk (t.keys.eraseIdx j) (t.vals.eraseIdx j) (t.kids.take j ++ joinM (kidD t j) (kidD t (j + 1)) (nthB t.keys j) (nthB t.vals j) :: t.kids.drop (j + 2))
def mendP (t : PT) (i : Nat) : PT :=
 if 0 < i /\ 2 < (kidD t (i - 1)).keys.length then borL t (i - 1)
 else if i < t.keys.length /\ 2 < (kidD t (i + 1)).keys.length then borR t i
 else if i < t.keys.length then joinP t i else joinP t (i - 1)
def fixP (t : PT) (i : Nat) : PT := if (kidD t i).keys.length < 2 then mendP t i else t
def lastP : Nat -> PT -> PT
 | 0, t => t
 | n + 1, t => if t.kids.length = 0 then t else lastP n (kidD t (t.kids.length - 1))
def topK (n : Nat) (t : PT) : ByteArray := nthB (lastP n t).keys ((lastP n t).keys.length - 1)
def topV (n : Nat) (t : PT) : ByteArray := nthB (lastP n t).vals ((lastP n t).keys.length - 1)
def dropP : Nat -> PT -> ByteArray -> Option PT
 | 0, _, _ => none
 | n + 1, t, key =>
  if t.kids.length = 0 then (if atI key t.keys < t.keys.length then some (.mk (t.keys.eraseIdx (atI key t.keys)) (t.vals.eraseIdx (atI key t.keys)) t.kids) else none)
  else if hasS t.keys (atI key t.keys) key = true then
   (dropP n (kidD t (atI key t.keys)) (topK n (kidD t (atI key t.keys)))).map fun s =>
    fixP (.mk (t.keys.set (atI key t.keys) (topK n (kidD t (atI key t.keys)))) (t.vals.set (atI key t.keys) (topV n (kidD t (atI key t.keys)))) (t.kids.set (atI key t.keys) s)) (atI key t.keys)
  else (dropP n (kidD t (atI key t.keys)) key).map fun s => fixP (setK t (atI key t.keys) s) (atI key t.keys)
def lastD : Nat -> PT -> PT
 | 0, t => t
 | n + 1, t => if t.kids.length = 0 then .mk (t.keys.eraseIdx (t.keys.length - 1)) (t.vals.eraseIdx (t.keys.length - 1)) t.kids
  else fixP (setK t (t.kids.length - 1) (lastD n (kidD t (t.kids.length - 1)))) (t.kids.length - 1)
def withP (t : PT) (key val : ByteArray) : PT := if 4 < (putP t.big t key val).keys.length then splitK (.mk [] [] [putP t.big t key val]) (putP t.big t key val) 0 else putP t.big t key val
end Go.Proofs.Ytoddejmlcnbdmaa.Tree
namespace Go.Proofs.Ytoddejmlcnbdmaa.Pure
theorem zip_take {α β : Type} (l : List α) (m : List β) (n : Nat) : (l.zip m).take n = (l.take n).zip (m.take n) := by simp [List.zip, List.take_zipWith]
theorem zip_drop {α β : Type} (l : List α) (m : List β) (n : Nat) : (l.zip m).drop n = (l.drop n).zip (m.drop n) := by simp [List.zip, List.drop_zipWith]
theorem at_split {α : Type} {l : List α} {i : Nat} {x : α} (h : l[i]? = some x) : l = l.take i ++ x :: l.drop (i + 1) := by rw [<- drop_of h, List.take_append_drop]
theorem set_split {α : Type} {l : List α} {i : Nat} (y : α) (h : i < l.length) : l.set i y = l.take i ++ y :: l.drop (i + 1) := by rw [List.set_eq_take_append_cons_drop, if_pos h]
theorem zip_set {l m : List ByteArray} {i : Nat} (a b : ByteArray) (h : i < l.length) (hm : m.length = l.length) : (l.set i a).zip (m.set i b) = (l.zip m).take i ++ (a, b) :: (l.zip m).drop (i + 1) := by
 rw [set_split a h, set_split b (by omega), List.zip_append (by rw [List.length_take, List.length_take, hm]), List.zip_cons_cons, zip_take, zip_drop]
theorem zip_ins {l m : List ByteArray} {i : Nat} (a b : ByteArray) (hm : m.length = l.length) : (insAt l i a).zip (insAt m i b) = (l.zip m).take i ++ (a, b) :: (l.zip m).drop i := by
 unfold insAt
 rw [List.zip_append (by rw [List.length_take, List.length_take, hm]), List.zip_cons_cons, zip_take, zip_drop]
theorem nth_get {l : List ByteArray} {i : Nat} (h : i < l.length) : l[i]? = some (nthB l i) := by
 unfold nthB
 rw [List.getD_eq_getElem?_getD, List.getElem?_eq_getElem h]
 rfl
theorem zip_at {l m : List ByteArray} {i : Nat} (h : i < l.length) (hm : m.length = l.length) : l.zip m = (l.zip m).take i ++ (nthB l i, nthB m i) :: (l.zip m).drop (i + 1) :=
 at_split (List.getElem?_zip_eq_some.2 ⟨nth_get h, nth_get (by omega)⟩)
theorem zip_len {l m : List ByteArray} (hm : m.length = l.length) : (l.zip m).length = l.length := by rw [List.length_zip]; omega
theorem split_all {t : PT} (h : Bnd5 t) (h5 : t.keys.length = 5) :
  allP t = allP (.mk (t.keys.take 2) (t.vals.take 2) (t.kids.take 3)) ++ (nthB t.keys 2, nthB t.vals 2) :: allP (.mk (t.keys.drop 3) (t.vals.drop 3) (t.kids.drop 3)) := by
 have hs : Shp t := bnd5_shp h
 obtain ⟨⟨h1, h2, h3⟩, h4⟩ := h
 cases t with | mk ks vs cs =>
 simp only [PT.keys, PT.vals, PT.kids] at h1 h2 h3 h4 h5 ⊢
 have l : Shp (.mk (ks.take 2) (vs.take 2) (cs.take 3)) := by
  refine Shp.mk' ⟨?_, ?_, ?_⟩ fun i s hi => bnd_shp (h4 s (List.mem_of_mem_take (List.mem_of_getElem? hi)))
  ·simp only [PT.keys, PT.vals, List.length_take]; omega
  ·simp only [PT.keys, List.length_take]; omega
  ·simp only [PT.keys, PT.kids, List.length_take]; omega
 have r : Shp (.mk (ks.drop 3) (vs.drop 3) (cs.drop 3)) := by
  refine Shp.mk' ⟨?_, ?_, ?_⟩ fun i s hi => bnd_shp (h4 s (List.mem_of_mem_drop (List.mem_of_getElem? hi)))
  ·simp only [PT.keys, PT.vals, List.length_drop]; omega
  ·simp only [PT.keys, List.length_drop]; omega
  ·simp only [PT.keys, PT.kids, List.length_drop]; omega
 rw [allP_eq hs, allP_eq l, allP_eq r]
 unfold itemsP
 simp only [PT.keys, PT.vals, PT.kids]
 rw [<- zip_take, <- zip_drop]
 have e := zip_at (l := ks) (m := vs) (i := 2) (by omega) h1
 conv => lhs; rw [e]
 rw [List.map_take, List.map_drop]
 rcases h3 with h0 | h0
 ·have : cs = [] := List.length_eq_zero_iff.1 h0
  rw [this]
  simp only [List.map_nil, List.take_nil, List.drop_nil, weave_nil]
 ·conv => lhs; rw [<- List.take_append_drop 3 (cs.map allP)]
  refine weave_split _ _ _ _ _ ?_
  rw [List.length_take, List.length_take, List.length_map, zip_len h1]
  omega
theorem toL_lt {a b c : ByteArray} (h : lt_ a b) (e : (b.toList == c.toList) = true) : lt_ a c := by
 unfold lt_ at h ⊢
 rw [<- eq_of_beq e]
 exact h
theorem put_all : ∀ (n : Nat) (t : PT) (key val : ByteArray), t.big <= n -> Bnd t -> SrtP (allP t) -> allP (putP n t key val) = insKV key val (allP t)
 | 0, t, key, val, hb, _, _ => absurd t.big_pos (by omega)
 | n + 1, t, key, val, hb, hbd, hs => by
  obtain ⟨⟨h1, h2, h3⟩, h4⟩ := Bnd_iff.1 hbd
  have hshp := bnd_shp hbd
  have hsk : Srt t.keys := srt_keys ((srtP_iff hshp).2 hs)
  have hle := atI_le key t.keys
  have hr := bnd5_shp (putP_bnd (n + 1) t key val hbd)
  have hlen := items_len h1
  have hah := items_ahead (key := key) h1
  rw [putP] at hr ⊢
  generalize hi : atI key t.keys = i at hr hle hah ⊢
  by_cases hb0 : hasS t.keys i key = true
  ·rw [if_pos hb0] at hr ⊢
   have hlt := hasS_lt hb0
   rw [allP_eq hr, allP_eq hshp]
   rw [allP_eq hshp] at hs
   have ek := nth_get hlt
   have e1 : itemsP t = (itemsP t).take i ++ (nthB t.keys i, nthB t.vals i) :: (itemsP t).drop (i + 1) := zip_at hlt h1
   have e2 : itemsP (.mk t.keys (t.vals.set i val) t.kids) = (itemsP t).take i ++ (nthB t.keys i, val) :: (itemsP t).drop (i + 1) := by
    show t.keys.zip (t.vals.set i val) = _
    have : t.keys = t.keys.set i (nthB t.keys i) := by
     rw [set_split _ hlt]
     exact at_split ek
    conv => lhs; rw [this]
    exact zip_set _ _ hlt h1
   obtain ⟨A, B, hAB⟩ := weave_item (t.kids.map allP) ((itemsP t).take i) ((itemsP t).drop (i + 1)) (by
    rw [List.length_take, List.length_map, hlen]
    rcases h3 with h | h
    ·exact .inl (by rw [List.length_eq_zero_iff.1 h]; rfl)
    ·right; omega)
   have hk : ((nthB t.keys i).toList == key.toList) = true := by
    unfold hasS at hb0
    rw [ek] at hb0
    exact hb0
   have hW : weave (t.kids.map allP) (itemsP t) = A ++ (nthB t.keys i, nthB t.vals i) :: B := by
    rw [e1]
    exact hAB _
   rw [e2, hW]
   rw [hW] at hs
   show weave (t.kids.map allP) _ = _
   rw [hAB, insKV_lt (fun x hx => toL_lt ((List.pairwise_append.1 hs).2.2 x hx _ List.mem_cons_self) hk), insKV_eq hk]
  ·rw [if_neg hb0] at hr ⊢
   have hb0' : hasS t.keys i key = false := by cases h : hasS t.keys i key <;> simp_all
   have hbe : ∀ x ∈ (itemsP t).drop i, lt_ key x.1 := by
    have := items_behind (t := t) (key := key) hsk (by rw [hi]; exact hb0')
    rw [hi] at this
    exact this
   by_cases h0 : t.kids.length = 0
   ·rw [if_pos h0] at hr ⊢
    have hk : t.kids = [] := List.length_eq_zero_iff.1 h0
    rw [allP_eq hr, allP_eq hshp]
    show weave (t.kids.map allP) ((insAt t.keys i key).zip (insAt t.vals i val)) = _
    rw [zip_ins _ _ h1, hk, List.map_nil, weave_nil, weave_nil]
    show (itemsP t).take i ++ (key, val) :: (itemsP t).drop i = insKV key val (itemsP t)
    conv => rhs; rw [<- List.take_append_drop i (itemsP t)]
    rw [insKV_lt hah, insKV_gt0 hbe]
   ·rw [if_neg h0] at hr ⊢
    have hkl : t.kids.length = t.keys.length + 1 := h3.resolve_left h0
    have hx : t.kids[i]? = some t.kids[i] := List.getElem?_eq_getElem (by omega)
    generalize t.kids[i] = s at hx
    rw [hx] at hr ⊢
    simp only at hr ⊢
    have hPl : (t.kids.take i).length = ((itemsP t).take i).length := by rw [List.length_take, List.length_take, hlen]; omega
    have e0 : allP t = preW ((t.kids.take i).map allP) ((itemsP t).take i) ++ (allP s ++ tailW ((t.kids.drop (i + 1)).map allP) ((itemsP t).drop i)) := by
     rw [allP_eq hshp]
     conv => lhs; rw [at_split hx, <- List.take_append_drop i (itemsP t)]
     exact node_at hPl
    have hsb : Bnd s := h4 s (List.mem_of_getElem? hx)
    have hss : SrtP (allP s) := by
     rw [e0] at hs
     exact (List.pairwise_append.1 (List.pairwise_append.1 hs).2.1).1
    have ih := put_all n s key val (by have := PT.big_kid hx; omega) hsb hss
    have hpre := pre_lt (P := (t.kids.take i).map allP) (I := (itemsP t).take i) (key := key) (by rw [List.length_map]; exact hPl) (by rw [e0] at hs; exact hs) hah
    have htail := tail_gt (Q := (t.kids.drop (i + 1)).map allP) (J := (itemsP t).drop i) (L := preW ((t.kids.take i).map allP) ((itemsP t).take i) ++ allP s) (key := key) (by rw [e0] at hs; rw [List.append_assoc]; exact hs) hbe
    have e3 : insKV key val (allP t) = preW ((t.kids.take i).map allP) ((itemsP t).take i) ++ (allP (putP n s key val) ++ tailW ((t.kids.drop (i + 1)).map allP) ((itemsP t).drop i)) := by
     rw [e0, insKV_lt hpre, insKV_gt htail, ih]
    rw [e3]
    have h5 := putP_bnd n s key val hsb
    by_cases h4' : 4 < (putP n s key val).keys.length
    ·rw [if_pos h4'] at hr ⊢
     rw [allP_eq hr, split_all h5 (by have := h5.1.2.1; omega)]
     show weave ((insAt (t.kids.set i _) (i + 1) _).map allP) ((insAt t.keys i _).zip (insAt t.vals i _)) = _
     rw [ins_set hx, zip_ins _ _ h1]
     refine (node_at2 (by rw [List.length_take, List.length_take, zip_len h1]; omega)).trans ?_
     rw [List.append_assoc, List.cons_append]
     rfl
    ·rw [if_neg h4'] at hr ⊢
     rw [allP_eq hr]
     show weave ((t.kids.set i _).map allP) (t.keys.zip t.vals) = _
     rw [set_split _ (by omega)]
     conv => lhs; rw [<- List.take_append_drop i (t.keys.zip t.vals)]
     exact node_at (by rw [List.length_take, List.length_take, zip_len h1]; omega)
theorem lev_kids {h : Nat} {t r : PT} (e : r.kids = t.kids) (hl : Lev h t) : Lev h r := by
 cases h with
 | zero => exact hl.elim
 | succ h =>
  unfold Lev at hl ⊢
  rw [e]
  exact hl
theorem put_lev : ∀ (n : Nat) (t : PT) (key val : ByteArray) (h : Nat), t.big <= n -> Bnd t -> Lev h t -> Lev h (putP n t key val) /\ t.keys.length <= (putP n t key val).keys.length
 | 0, t, key, val, h, hb, _, _ => absurd t.big_pos (by omega)
 | n + 1, t, key, val, h, hb, hbd, hl => by
  obtain ⟨⟨h1, h2, h3⟩, h4⟩ := Bnd_iff.1 hbd
  have hle := atI_le key t.keys
  rw [putP]
  generalize atI key t.keys = i at hle ⊢
  split
  ·exact ⟨lev_kids (t := t) rfl hl, Nat.le_refl _⟩
  ·split
   ·refine ⟨lev_kids (t := t) rfl hl, ?_⟩
    show t.keys.length <= (insAt _ _ _).length
    rw [insAt_len _ hle]
    omega
   ·rename_i h0
    have hkl : t.kids.length = t.keys.length + 1 := h3.resolve_left h0
    have hx : t.kids[i]? = some t.kids[i] := List.getElem?_eq_getElem (by omega)
    generalize t.kids[i] = s at hx
    rw [hx]
    simp only
    cases h with
    | zero => exact hl.elim
    | succ h =>
    have hks : ∀ s ∈ t.kids, Lev h s /\ 2 <= s.keys.length := by
     rcases hl with ⟨a, _⟩ | ⟨_, a⟩
     ·rw [a] at h0
      exact absurd rfl h0
     ·exact a
    have hsb : Bnd s := h4 s (List.mem_of_getElem? hx)
    obtain ⟨i1, i2⟩ := put_lev n s key val h (by have := PT.big_kid hx; omega) hsb (hks s (List.mem_of_getElem? hx)).1
    have hs2 := (hks s (List.mem_of_getElem? hx)).2
    have h5 := putP_bnd n s key val hsb
    split
    ·rename_i hg
     refine ⟨.inr ⟨?_, ?_⟩, ?_⟩
     ·intro e
      have : (insAt (t.kids.set i _) (i + 1) _).length = 0 := congrArg List.length e
      rw [insAt_len _ (by rw [List.length_set]; omega)] at this
      omega
     ·intro c hc
      have hc : c ∈ insAt (t.kids.set i _) (i + 1) _ := hc
      have hl3 : ∀ (k v : List ByteArray) (b : Bool), Lev h (.mk k v (if b then (putP n s key val).kids.take 3 else (putP n s key val).kids.drop 3)) := by
       intro k v b
       cases h with
       | zero => exact i1.elim
       | succ h =>
        rcases i1 with ⟨a, a'⟩ | ⟨a, a'⟩
        ·refine .inl ⟨?_, a'⟩
         show (if b then _ else _) = []
         rw [a]
         cases b <;> rfl
        ·have hl6 := h5.1.2.2.resolve_left (fun e => a (List.length_eq_zero_iff.1 e))
         refine .inr ⟨?_, fun c hc => a' c ?_⟩
         ·intro e
          have e' : (if b then (putP n s key val).kids.take 3 else (putP n s key val).kids.drop 3).length = 0 := congrArg List.length e
          cases b
          ·simp only [Bool.false_eq_true, if_false, List.length_drop] at e'; omega
          ·simp only [if_true, List.length_take] at e'; omega
         ·cases b
          ·exact List.mem_of_mem_drop hc
          ·exact List.mem_of_mem_take hc
      rcases mem_insAt hc with rfl | hc
      ·exact ⟨hl3 _ _ false, by show 2 <= (List.drop 3 _).length; rw [List.length_drop]; omega⟩
      ·rcases List.mem_or_eq_of_mem_set hc with hc | rfl
       ·exact hks c hc
       ·exact ⟨hl3 _ _ true, by show 2 <= (List.take 2 _).length; rw [List.length_take]; omega⟩
     ·show t.keys.length <= (insAt _ _ _).length
      rw [insAt_len _ hle]
      omega
    ·refine ⟨.inr ⟨?_, ?_⟩, Nat.le_refl _⟩
     ·intro e
      have : (t.kids.set i (putP n s key val)).length = 0 := congrArg List.length e
      rw [List.length_set] at this
      omega
     ·intro c hc
      rcases List.mem_or_eq_of_mem_set hc with hc | rfl
      ·exact hks c hc
      ·exact ⟨i1, by omega⟩
theorem kids_or {h : Nat} {t : PT} (hb : Bnd t) (hl : Lev (h + 1) t) : (h = 0 /\ t.kids = []) ∨ (h ≠ 0 /\ t.kids.length = t.keys.length + 1 /\ ∀ s ∈ t.kids, Lev h s /\ 2 <= s.keys.length) := by
 rcases hl with ⟨a, b⟩ | ⟨a, b⟩
 ·exact .inl ⟨b, a⟩
 ·have hk := (Bnd_iff.1 hb).1.2.2.resolve_left (fun e => a (List.length_eq_zero_iff.1 e))
  refine .inr ⟨?_, hk, b⟩
  rintro rfl
  cases hc : t.kids with
  | nil => exact a hc
  | cons c cs => exact (b c (by rw [hc]; exact List.mem_cons_self)).1
theorem allP_leaf {t : PT} (h : Shp t) (h0 : t.kids = []) : allP t = itemsP t := by rw [allP_eq h, h0, List.map_nil, weave_nil]
theorem zip_last {l m : List ByteArray} (hm : m.length = l.length) (h0 : 0 < l.length) : l.zip m = (l.take (l.length - 1)).zip (m.take (l.length - 1)) ++ [(nthB l (l.length - 1), nthB m (l.length - 1))] := by
 have := zip_at (l := l) (m := m) (i := l.length - 1) (by omega) hm
 rw [List.drop_eq_nil_of_le (by rw [zip_len hm]; omega), zip_take] at this
 exact this
structure Kid (h : Nat) (t : PT) : Prop where
 b : Bnd t
 l : Lev h t
end Go.Proofs.Ytoddejmlcnbdmaa.Pure
namespace Go.Proofs.Ytoddejmlcnbdmaa.Tree
set_option maxHeartbeats 8000000
set_option maxRecDepth 100000
def WR (w : World) (base T E : Nat) (t : NT) (L : List Ck) (r : PT) (e : Ending) (w' : World) : Prop :=
 e = .returned (.tuple #[]) /\ ∃ t' : NT, t'.p = t.p /\ t'.erase = r /\ Sat w' base (t'.cks T E ++ L) /\ Below base w w'
theorem cutC {w : World} {base : Nat} {A : Option Addr} {n c : Nat} {l : List ByteArray} {m : Nat} (h : SR w base (.slice A n c) l) (hm : m <= l.length) : Kd.C Kd.string w (if c = m then A else A.map (·.add (m * 1))) (l.drop m).length (l.drop m) := by
 obtain ⟨h1, h2, h3⟩ := Kd.R_reads' h
 exact Kd.C_drop h3 hm (by omega)
theorem thirdAt {w : World} {base g : Nat} {n c : Nat} {l : List ByteArray} {x : ByteArray} (h : SR w base (.slice (some ⟨g, 0, none⟩) n c) l) (hx : 3 <= l.length /\ l.getD 2 ByteArray.empty = x) : w.cell? ⟨g, 2, none⟩ = some (.string x) := by
 obtain ⟨h1, h2, h3⟩ := Kd.R_reads' h
 obtain ⟨ad', e, hz⟩ := Kd.at_string h3 2 (by omega) (by omega)
 injection e with e
 subst e
 rw [<- hx.2]
 exact hz
theorem map_set_p {l : List NT} {i : Nat} {p : Nat} {s : NT} (h : l[i]? = some s) (hp : s.p = p := by rfl) : (l.map NT.p).set i p = l.map NT.p := by
 refine List.ext_getElem? fun j => ?_
 rw [List.getElem?_set]
 by_cases hj : i = j
 ·subst hj
  have hl : i < l.length := (List.getElem?_eq_some_iff.1 h).1
  rw [if_pos rfl, if_pos (by rw [List.length_map]; exact hl), List.getElem?_map, h, <- hp]
  rfl
 ·rw [if_neg hj]
theorem cutQ {w : World} {base E : Nat} {gs : List (List Ck)} {A : Option Addr} {n c m : Nat} {l : List NT} (h : SatG w base gs) (i : Nat) (hi : gs[i]? = some [.que E (.slice A n c) (ptrs l)]) (hm : m <= l.length) : Kd.C kptr w (if c = m then A else A.map (·.add (m * 1))) (n - m) ((l.drop m).map NT.p) := by
 obtain ⟨h1, h2, h3⟩ := SatG.rowQ h i hi
 subst h1
 have h4 := Kd.C_drop (c := c) (m := m) (xs := l.map NT.p) (k := kptr) (by rw [List.length_map]; exact h3) (by rw [List.length_map]; exact hm) (by rw [List.length_map]; exact h2)
 rw [<- List.map_drop, List.length_map, List.length_drop] at h4
 exact h4
theorem q_slice {w : World} {base E : Nat} {v : Value} {l : List NT} (h : PQ E w base v (l.map NT.p)) : ∃ A c, v = .slice A l.length c /\ l.length <= c /\ kptr.C w A l.length (l.map NT.p) := by
 obtain ⟨A, c, e, h1, h2⟩ := Kd.Q_reads h
 rw [List.length_map] at e h1 h2
 exact ⟨A, c, e, h1, h2⟩
theorem spec_split.calls (t k : NT) (i : Nat) (hk : t.kids[i]? = some k) (hk3 : 3 <= k.keys.length) (hkm : k.keys.length <= 1000) (hkv : k.vals.length = k.keys.length) (hkk : k.kids.length = 0 ∨ 3 <= k.kids.length) (hkk2 : k.kids.length <= 1001) (hti : i <= t.keys.length) (htm : t.keys.length <= 1000) (htv : t.vals.length = t.keys.length) (htk : t.kids.length <= 1001)
  (base : Nat) (L : List Ck) (w : World) (hs : Sat w base (t.cks 96 70 ++ L)) (hbs : base <= w.heap.size) :
  Calls Try.prog 106 #[ptrv t.p, .int .i64 (i : Int)] w (WR w base 96 70 t L (splitK t.erase k.erase i)) := by
 have h0 := open_kid hk hs
 clear hs
 obtain ⟨R, hR⟩ : ∃ R, R = splitK t.erase k.erase i := ⟨_, rfl⟩
 rw [<- hR]
 have HRR := A_ hR
 clear hR
 cases t with | mk tp tkv tvv tcv tks tvs tcs =>
 cases k with | mk kp kkv kvv kcv kks kvs kcs =>
 unfold kidGs at h0
 simp only [NT.keys, NT.vals, NT.kids, NT.p, NT.kv, NT.vv, NT.cv] at hk hk3 hkm hkv hkk hkk2 hti htm htv htk h0 ⊢
 obtain ⟨Atk, ctk, rfl⟩ := Kd.R_slice (h0.sr 1 rfl)
 obtain ⟨Atv, ctv, rfl⟩ := Kd.R_slice (h0.sr 2 rfl)
 obtain ⟨Akk, ckk, rfl⟩ := Kd.R_slice (h0.sr 6 rfl)
 obtain ⟨Akv, ckv, rfl⟩ := Kd.R_slice (h0.sr 7 rfl)
 obtain ⟨gk, _, ek, _, _, _⟩ := Kd.R_form (h0.sr 6 rfl) (by omega)
 obtain ⟨gv, _, ev, _, _, _⟩ := Kd.R_form (h0.sr 7 rfl) (by omega)
 obtain rfl : Akk = some ⟨gk, 0, none⟩ := by injection ek
 obtain rfl : Akv = some ⟨gv, 0, none⟩ := by injection ev
 clear ek ev
 obtain ⟨Atc, ctc, rfl, hlc, hC⟩ := q_slice (h0.q 3 rfl)
 obtain ⟨Akc, ckc, rfl, hlk, hCk⟩ := q_slice (h0.q 8 rfl)
 obtain ⟨GA, hGA⟩ : ∃ G, G = NT.cksL 96 70 (tcs.take i) := ⟨_, rfl⟩
 obtain ⟨GD, hGD⟩ : ∃ G, G = NT.cksL 96 70 (tcs.drop (i + 1)) := ⟨_, rfl⟩
 rw [<- hGA, <- hGD] at h0
 have HS := A_ h0
 have HB := A_ (Below.refl base w)
 have HBS := A_ hbs
 have HGA := A_ hGA
 have HGD := A_ hGD
 have HKI := A_ hk
 have HKK := A_ hkk
 have hil : i < tcs.length := (List.getElem?_eq_some_iff.1 hk).1
 obtain ⟨adt, rfl, hzp⟩ := at_ptr hC (i : Int) (by omega) (by omega)
 rw [show rdOf 0 (tcs.map NT.p) (i : Int) = kp by unfold rdOf; rw [Int.toNat_natCast, List.getD_eq_getElem?_getD, List.getElem?_map, hk]; rfl, Int.toNat_natCast] at hzp
 have hz2 := HS.out.z 0 rfl 2
 have ci0 : (0 <= (i : Int)) = True := eq_true (by omega)
 have ci1 : ((i : Int) < (tcs.length : Int)) = True := eq_true (by omega)
 have ci2 : (i < tcs.length) = True := eq_true hil
 have hib : i <= 1000 := by omega
 clear h0 hbs hGA hGD hk hC hCk hlk hlc hkk hil
 go_enter Try.func106, Try.ntmps106
 go_upto_region 1 with fail
 obtain ⟨i0, hi0, _, hsz, _⟩ := info_parts info9
 obtain ⟨y1, hy1⟩ : ∃ y, y = kks.drop 3 := ⟨_, rfl⟩
 obtain ⟨y2, hy2⟩ : ∃ y, y = kvs.drop 3 := ⟨_, rfl⟩
 have hl1 : y1.length = kks.length - 3 := by rw [hy1, List.length_drop]
 have hl2 : y2.length = kvs.length - 3 := by rw [hy2, List.length_drop]
 have hcut1 := cut_from (P := Try.prog) 38 9 .i64 Try.underlying38 hi0 1 hsz (some ⟨gk, 0, none⟩) kks.length ckk 3 (by omega) (by omega)
 have hcut2 := cut_from (P := Try.prog) 38 9 .i64 Try.underlying38 hi0 1 hsz (some ⟨gv, 0, none⟩) kvs.length ckv 3 (by omega) (by omega)
 simp only [show (3 : Int).toNat = 3 from rfl] at hcut1 hcut2
 obtain ⟨A18, hA18⟩ : ∃ A : Option Addr, A = (if ckk = 3 then (some ⟨gk, 0, none⟩ : Option Addr) else (some ⟨gk, 0, none⟩ : Option Addr).map (·.add (3 * 1))) := ⟨_, rfl⟩
 obtain ⟨A25, hA25⟩ : ∃ A : Option Addr, A = (if ckv = 3 then (some ⟨gv, 0, none⟩ : Option Addr) else (some ⟨gv, 0, none⟩ : Option Addr).map (·.add (3 * 1))) := ⟨_, rfl⟩
 obtain ⟨c18, hc18⟩ : ∃ c, c = ckk - 3 := ⟨_, rfl⟩
 obtain ⟨c25, hc25⟩ : ∃ c, c = ckv - 3 := ⟨_, rfl⟩
 rw [<- hA18, <- hc18, <- hl1] at hcut1
 rw [<- hA25, <- hc25, <- hl2] at hcut2
 have HA18 := A_ hA18
 have HA25 := A_ hA25
 have HY1 := A_ hy1
 have HY2 := A_ hy2
 have HLY := A_ (show y1.length <= 1000 /\ y2.length <= 1000 by omega)
 have HKV := A_ hkv
 have HTV := A_ htv
 have hk3v : 3 <= kvs.length := by omega
 have hkmv : kvs.length <= 1000 := by omega
 have htmv : tvs.length <= 1000 := by omega
 clear hA18 hA25 hc18 hc25 hl1 hl2 hy1 hy2 hi0 hsz hzp hz2 hkv htv
 refine start_ (n := 17) (S := fun w' => w'.cell? ⟨kp, 0, none⟩ = some (.slice (some ⟨gk, 0, none⟩) kks.length ckk) /\ w'.cell? ⟨kp, 1, none⟩ = some (.slice (some ⟨gv, 0, none⟩) kvs.length ckv)) (ds := []) (bt 17 0) (by kernel_rfl) rfl rfl ⟨(SatG.z (SatG.drew HS.out) 5 rfl 0), (SatG.z (SatG.drew HS.out) 5 rfl 1)⟩ (fun hHeld => ?_)
 refine pu_ 1 14 2 ?_
 refine pu_ 2 15 6 ?_
 refine pu_ 3 16 14 ?_
 refine pu_ 8 21 270 ?_
 refine pu_ 9 22 782 ?_
 refine pu_ 10 23 1806 ?_
 refine ta_ 4 17 1822 hHeld ?_
 refine pu_ 5 18 1854 ?_
 refine ta_ 11 24 3902 hHeld ?_
 refine pu_ 12 25 7998 ?_
 refine join_ (σ := Value × Value × Value) 4 (bt 17 8191) (fun z => [(13, z.1), (19, z.2.1), (20, z.2.2)]) (fun z w' => Below base w w' /\ SatG w' base [bx_ 96 tp Atk tks.length ctk Atv tvs.length ctv (some adt) tcs.length ctc, tz_ Atk ctk tks, tz_ Atv ctv tvs, qz_ 70 (some adt) ctc tcs, GA, bx_ 96 kp (a0_ gk) kks.length ckk (a0_ gv) kvs.length ckv Akc kcs.length ckc, tz_ (a0_ gk) ckk kks, tz_ (a0_ gv) ckv kvs, qz_ 70 Akc ckc kcs, (NT.cksL 96 70 kcs), GD, L, [txt z.2.1 ([] ++ y1)], [txt z.2.2 []]]) ?_ ?_
 rotate_left
 ·intro hCont
  refine tw_ 0 7 (some 13) (some 20) 7999 8126 (fun K hK => ?_) (fun K hK => ?_)
  ·skip
   refine Kd.R_lit_step Kd.string (w0 := w) base 9 (by rfl) (N := 13) rfl (xs := ([] : List ByteArray)) (inner := []) (ok := fun _ => True) (okp := fun _ => False) ?hr (Reps.none _ _) (fun _ h => h.elim) trivial (below_drew HB.out) (Nat.le_trans HBS.out (Below.size (below_drew HB.out))) (by simp) ?_
   (case hr => first | (go_simp; done) | (go_simp; rfl))
   intro vb1 w_0 hob hbb hgb hnb
   have HB_0 := A_ hbb
   have HS_0 := A_ (SatG.lit (SatG.drew HS.out) hob hgb hnb)
   obtain ⟨vb1A, vb1c, rfl⟩ : ∃ A c, vb1 = .slice A 0 c := Kd.R_slice hob
   clear hob hbb hgb hnb
   refine hK.out _ _ ⟨(SatG.z HS_0.out 5 rfl 0), (SatG.z HS_0.out 5 rfl 1)⟩ (fun hHeld => ?_)
   clear hK K
   refine no_ 13 ?_
   refine tw_ 6 7 (some 19) (some 20) 8063 8127 (fun K hK => ?_) (fun K hK => ?_)
   ·skip
    refine Kd.R_append_rows_step Kd.string (w0 := w) base (by rfl) (.tmp 13) (.tmp 18) 38 9 (.string ⟨#[]⟩) 16 rfl Try.underlying38 info9 rfl (by decide) (by omega) (.slice vb1A 0 vb1c) [] y1 A18 y1.length c18 (fun _ => True) (fun _ => False) rfl rfl (SatG.sr HS_0.out 12 rfl) (by rw [HA18.out, HY1.out]; exact cutC (SatG.sr HS_0.out 6 rfl) (by omega)) (fun _ _ h => h) (fun _ h => h.elim) (fun _ _ => trivial) HB_0.out (Nat.le_trans HBS.out (Below.size HB_0.out)) (by have := HLY.out; (try simp only [List.length_nil]); omega) ?_
    intro u1 w_0_6 ho hb hg hat
    have HB_0_6 := A_ hb
    have HS_0_6 := A_ (SatG.app 12 HS_0.out rfl ho hg hat)
    clear ho hb hg hat
    refine hK.out _ _ ⟨(SatG.z HS_0_6.out 5 rfl 0), (SatG.z HS_0_6.out 5 rfl 1)⟩ (fun hHeld => ?_)
    clear hK K
    refine no_ 19 ?_
    refine on_ 7 (some 20) 8191 (fun K hK => ?_)
    refine Kd.R_lit_step Kd.string (w0 := w) base 9 (by rfl) (N := 20) rfl (xs := ([] : List ByteArray)) (inner := []) (ok := fun _ => True) (okp := fun _ => False) ?hr (Reps.none _ _) (fun _ h => h.elim) trivial HB_0_6.out (Nat.le_trans HBS.out (Below.size HB_0_6.out)) (by simp) ?_
    (case hr => first | (go_simp; done) | (go_simp; rfl))
    intro vb2 w_0_6_7 hob hbb hgb hnb
    have HB_0_6_7 := A_ hbb
    have HS_0_6_7 := A_ (SatG.lit HS_0_6.out hob hgb hnb)
    obtain ⟨vb2A, vb2c, rfl⟩ : ∃ A c, vb2 = .slice A 0 c := Kd.R_slice hob
    clear hob hbb hgb hnb
    refine hK.out _ _ ⟨(SatG.z HS_0_6_7.out 5 rfl 0), (SatG.z HS_0_6_7.out 5 rfl 1)⟩ (fun hHeld => ?_)
    clear hK K
    refine no_ 20 ?_
    exact norm_ (by simp only [putAll, Act.put, List.setIfInBounds_toArray, List.set_cons_zero, List.set_cons_succ]) (hCont ⟨.slice vb1A 0 vb1c, u1, .slice vb2A 0 vb2c⟩ _ ⟨HB_0_6_7.out, SatG.sel HS_0_6_7.out [0, 1, 2, 3, 4, 5, 6, 7, 8, 9, 10, 11, 12, 13] (by decide)⟩)
   ·skip
    refine Kd.R_lit_step Kd.string (w0 := w) base 9 (by rfl) (N := 20) rfl (xs := ([] : List ByteArray)) (inner := []) (ok := fun _ => True) (okp := fun _ => False) ?hr (Reps.none _ _) (fun _ h => h.elim) trivial HB_0.out (Nat.le_trans HBS.out (Below.size HB_0.out)) (by simp) ?_
    (case hr => first | (go_simp; done) | (go_simp; rfl))
    intro vb2 w_0_7 hob hbb hgb hnb
    have HB_0_7 := A_ hbb
    have HS_0_7 := A_ (SatG.lit HS_0.out hob hgb hnb)
    obtain ⟨vb2A, vb2c, rfl⟩ : ∃ A c, vb2 = .slice A 0 c := Kd.R_slice hob
    clear hob hbb hgb hnb
    refine hK.out _ _ ⟨(SatG.z HS_0_7.out 5 rfl 0), (SatG.z HS_0_7.out 5 rfl 1)⟩ (fun hHeld => ?_)
    clear hK K
    refine no_ 20 ?_
    refine on_ 6 (some 19) 8191 (fun K hK => ?_)
    refine Kd.R_append_rows_step Kd.string (w0 := w) base (by rfl) (.tmp 13) (.tmp 18) 38 9 (.string ⟨#[]⟩) 16 rfl Try.underlying38 info9 rfl (by decide) (by omega) (.slice vb1A 0 vb1c) [] y1 A18 y1.length c18 (fun _ => True) (fun _ => False) rfl rfl (SatG.sr HS_0_7.out 12 rfl) (by rw [HA18.out, HY1.out]; exact cutC (SatG.sr HS_0_7.out 6 rfl) (by omega)) (fun _ _ h => h) (fun _ h => h.elim) (fun _ _ => trivial) HB_0_7.out (Nat.le_trans HBS.out (Below.size HB_0_7.out)) (by have := HLY.out; (try simp only [List.length_nil]); omega) ?_
    intro u1 w_0_7_6 ho hb hg hat
    have HB_0_7_6 := A_ hb
    have HS_0_7_6 := A_ (SatG.app 12 HS_0_7.out rfl ho hg hat)
    clear ho hb hg hat
    refine hK.out _ _ ⟨(SatG.z HS_0_7_6.out 5 rfl 0), (SatG.z HS_0_7_6.out 5 rfl 1)⟩ (fun hHeld => ?_)
    clear hK K
    refine no_ 19 ?_
    exact norm_ (by simp only [putAll, Act.put, List.setIfInBounds_toArray, List.set_cons_zero, List.set_cons_succ]) (hCont ⟨.slice vb1A 0 vb1c, u1, .slice vb2A 0 vb2c⟩ _ ⟨HB_0_7_6.out, SatG.sel HS_0_7_6.out [0, 1, 2, 3, 4, 5, 6, 7, 8, 9, 10, 11, 12, 13] (by decide)⟩)
  ·skip
   refine Kd.R_lit_step Kd.string (w0 := w) base 9 (by rfl) (N := 20) rfl (xs := ([] : List ByteArray)) (inner := []) (ok := fun _ => True) (okp := fun _ => False) ?hr (Reps.none _ _) (fun _ h => h.elim) trivial (below_drew HB.out) (Nat.le_trans HBS.out (Below.size (below_drew HB.out))) (by simp) ?_
   (case hr => first | (go_simp; done) | (go_simp; rfl))
   intro vb2 w_7 hob hbb hgb hnb
   have HB_7 := A_ hbb
   have HS_7 := A_ (SatG.lit (SatG.drew HS.out) hob hgb hnb)
   obtain ⟨vb2A, vb2c, rfl⟩ : ∃ A c, vb2 = .slice A 0 c := Kd.R_slice hob
   clear hob hbb hgb hnb
   refine hK.out _ _ ⟨(SatG.z HS_7.out 5 rfl 0), (SatG.z HS_7.out 5 rfl 1)⟩ (fun hHeld => ?_)
   clear hK K
   refine no_ 20 ?_
   refine on_ 0 (some 13) 8127 (fun K hK => ?_)
   refine Kd.R_lit_step Kd.string (w0 := w) base 9 (by rfl) (N := 13) rfl (xs := ([] : List ByteArray)) (inner := []) (ok := fun _ => True) (okp := fun _ => False) ?hr (Reps.none _ _) (fun _ h => h.elim) trivial HB_7.out (Nat.le_trans HBS.out (Below.size HB_7.out)) (by simp) ?_
   (case hr => first | (go_simp; done) | (go_simp; rfl))
   intro vb1 w_7_0 hob hbb hgb hnb
   have HB_7_0 := A_ hbb
   have HS_7_0 := A_ (SatG.lit HS_7.out hob hgb hnb)
   obtain ⟨vb1A, vb1c, rfl⟩ : ∃ A c, vb1 = .slice A 0 c := Kd.R_slice hob
   clear hob hbb hgb hnb
   refine hK.out _ _ ⟨(SatG.z HS_7_0.out 5 rfl 0), (SatG.z HS_7_0.out 5 rfl 1)⟩ (fun hHeld => ?_)
   clear hK K
   refine no_ 13 ?_
   refine on_ 6 (some 19) 8191 (fun K hK => ?_)
   refine Kd.R_append_rows_step Kd.string (w0 := w) base (by rfl) (.tmp 13) (.tmp 18) 38 9 (.string ⟨#[]⟩) 16 rfl Try.underlying38 info9 rfl (by decide) (by omega) (.slice vb1A 0 vb1c) [] y1 A18 y1.length c18 (fun _ => True) (fun _ => False) rfl rfl (SatG.sr HS_7_0.out 13 rfl) (by rw [HA18.out, HY1.out]; exact cutC (SatG.sr HS_7_0.out 6 rfl) (by omega)) (fun _ _ h => h) (fun _ h => h.elim) (fun _ _ => trivial) HB_7_0.out (Nat.le_trans HBS.out (Below.size HB_7_0.out)) (by have := HLY.out; (try simp only [List.length_nil]); omega) ?_
   intro u1 w_7_0_6 ho hb hg hat
   have HB_7_0_6 := A_ hb
   have HS_7_0_6 := A_ (SatG.app 13 HS_7_0.out rfl ho hg hat)
   clear ho hb hg hat
   refine hK.out _ _ ⟨(SatG.z HS_7_0_6.out 5 rfl 0), (SatG.z HS_7_0_6.out 5 rfl 1)⟩ (fun hHeld => ?_)
   clear hK K
   refine no_ 19 ?_
   exact norm_ (by simp only [putAll, Act.put, List.setIfInBounds_toArray, List.set_cons_zero, List.set_cons_succ]) (hCont ⟨.slice vb1A 0 vb1c, u1, .slice vb2A 0 vb2c⟩ _ ⟨HB_7_0_6.out, SatG.sel HS_7_0_6.out [0, 1, 2, 3, 4, 5, 6, 7, 8, 9, 10, 11, 13, 12] (by decide)⟩)
 rintro ⟨vb1, u1, vb2⟩ w8 ⟨hb, hs⟩
 obtain ⟨vb2A, vb2c, rfl⟩ : ∃ A c, vb2 = .slice A 0 c := Kd.R_slice (SatG.sr hs 13 rfl)
 have hHeld : (w8.cell? ⟨kp, 0, none⟩ = some (.slice (some ⟨gk, 0, none⟩) kks.length ckk)) /\ (w8.cell? ⟨kp, 1, none⟩ = some (.slice (some ⟨gv, 0, none⟩) kvs.length ckv)) := ⟨SatG.z hs 5 rfl 0, SatG.z hs 5 rfl 1⟩
 have HB8 := A_ hb
 have HS8 := A_ hs
 clear hb hs
 refine norm_ (a' := ?_) ?_ ?_
 rotate_left
 ·simp only [putAll, Act.put, List.setIfInBounds_toArray, List.set_cons_zero, List.set_cons_succ]
  rfl
 refine on_ 13 (some 26) 16383 (fun K hK => ?_)
 refine Kd.R_append_rows_step Kd.string (w0 := w) base (by rfl) (.tmp 20) (.tmp 25) 38 9 (.string ⟨#[]⟩) 16 rfl Try.underlying38 info9 rfl (by decide) (by omega) (.slice vb2A 0 vb2c) [] y2 A25 y2.length c25 (fun _ => True) (fun _ => False) rfl rfl (SatG.sr HS8.out 13 rfl) (by rw [HA25.out, HY2.out]; exact cutC (SatG.sr HS8.out 7 rfl) (by omega)) (fun _ _ h => h) (fun _ h => h.elim) (fun _ _ => trivial) HB8.out (Nat.le_trans HBS.out (Below.size HB8.out)) (by have := HLY.out; (try simp only [List.length_nil]); omega) ?_
 intro u2 w9 ho hb hg hat
 have HB9 := A_ hb
 have HS9 := A_ (SatG.app 13 HS8.out rfl ho hg hat)
 clear ho hb hg hat
 obtain ⟨Ar1, cr1, er1⟩ := Kd.R_slice (SatG.sr HS9.out 12 rfl)
 obtain ⟨Ar2, cr2, er2⟩ := Kd.R_slice (SatG.sr HS9.out 13 rfl)
 rw [List.nil_append] at er1 er2
 subst er1
 subst er2
 refine hK.out _ _ ⟨(SatG.z HS9.out 5 rfl 0), (SatG.z HS9.out 5 rfl 1)⟩ (fun hHeld => ?_)
 clear hK K
 refine no_ 26 ?_
 refine pu_ 14 27 32767 ?_
 refine on_ 15 (some 28) 65535 (fun K hK => ?_)
 refine box_step (by rfl) (N := 28) rfl (cs := #[.slice Ar1 y1.length cr1, .slice Ar2 y2.length cr2, .slice none 0 0]) (t := 96) ?hr ?_
 (case hr => first | (go_simp; done) | (go_simp; rfl))
 intro rp hg w10 hbox hb
 have HS10 : Aside0 (SatG w10 base [bx_ 96 tp Atk tks.length ctk Atv tvs.length ctv (some adt) tcs.length ctc, tz_ Atk ctk tks, tz_ Atv ctv tvs, qz_ 70 (some adt) ctc tcs, GA, bx_ 96 kp (a0_ gk) kks.length ckk (a0_ gv) kvs.length ckv Akc kcs.length ckc, tz_ (a0_ gk) ckk kks, tz_ (a0_ gv) ckv kvs, qz_ 70 Akc ckc kcs, (NT.cksL 96 70 kcs), GD, L, tz_ Ar1 cr1 y1, tz_ Ar2 cr2 y2, bx_ 96 rp Ar1 y1.length cr1 Ar2 y2.length cr2 none 0 0]) := ⟨SatG.newBox HS9.out hg hbox hb (Nat.le_trans HBS.out HB9.out.size)⟩
 have HB10 := A_ (HB9.out.trans (hb.mono (Nat.le_trans HBS.out HB9.out.size)))
 clear hg hbox hb
 refine hK.out _ _ ⟨(SatG.z HS10.out 5 rfl 0), (SatG.z HS10.out 5 rfl 1)⟩ (fun hHeld => ?_)
 clear hK K
 refine no_ 28 ?_
 refine pu_ 16 5 131071 ?_
 refine done_ (by kernel_rfl) ?_
 clear HS HB
 have HS := HS10
 have HB := HB10
 clear HS10 HB10
 obtain ⟨kx, hkx⟩ : ∃ x, kks.getD 2 ByteArray.empty = x := ⟨_, rfl⟩
 obtain ⟨vx, hvx⟩ : ∃ x, kvs.getD 2 ByteArray.empty = x := ⟨_, rfl⟩
 have HKX := A_ (And.intro hk3 hkx)
 have HVX := A_ (And.intro hk3v hvx)
 have HTI := A_ hti
 clear hkx hvx
 have ci3 : ((2 : Int) < (kks.length : Int)) = True := eq_true (by omega)
 have ci4 : ((2 : Int) < (kvs.length : Int)) = True := eq_true (by omega)
 have ci5 : (2 < kks.length) = True := eq_true (by omega)
 have ci6 : (2 < kvs.length) = True := eq_true (by omega)
 by_cases hleaf : kcs.length = 0
 ·obtain rfl : kcs = [] := List.length_eq_zero_iff.1 hleaf
  have HRK := A_ ((SatG.sel HS.out [5, 6, 7, 8, 9] (by decide)).rd5)
  have hbl := A_ (show decide (((NT.mk kp (.slice (some ⟨gk, 0, none⟩) kks.length ckk) (.slice (some ⟨gv, 0, none⟩) kvs.length ckv) (.slice Akc ([] : List NT).length ckc) kks kvs []).erase.kids.length : Int) = 0) = true from rfl)
  clear hleaf
  go_upto_region 5 with (first | (go_at_call 84; (with_reducible refine (spec_leaf.callsB true hbl.out _ ?side1).mono ?_); (case side1 => repeat (first | exact HRK.out | (with_reducible refine Rd.drewN ?_ _) | (with_reducible refine Rd.drew ?_))); rintro e w' ⟨rfl, ⟨nd, rfl⟩⟩))
  generalize hW : World.drewN w10 _ = w11
  have n1_ : Aside0 (SatG w11 base [bx_ 96 tp Atk tks.length ctk Atv tvs.length ctv (some adt) tcs.length ctc, tz_ Atk ctk tks, tz_ Atv ctv tvs, qz_ 70 (some adt) ctc tcs, GA, [.box 96 kp #[.slice (some ⟨gk, 0, none⟩) kks.length ckk, .slice (some ⟨gv, 0, none⟩) kvs.length ckv, .slice Akc ([] : List NT).length ckc]], tz_ (a0_ gk) ckk kks, tz_ (a0_ gv) ckv kvs, [.que 70 (.slice Akc ([] : List NT).length ckc) (ptrs [])], (NT.cksL 96 70 []), GD, L, tz_ Ar1 cr1 y1, tz_ Ar2 cr2 y2, bx_ 96 rp Ar1 y1.length cr1 Ar2 y2.length cr2 none 0 0, [.que 70 (.slice none 0 0) []], []]) := ⟨by rw [<- hW]; exact SatG.addNo (SatG.addNil (SatG.drewN HS.out _) 70)⟩
  have n2_ : Aside0 (Below base w w11) := ⟨by rw [<- hW]; exact pw_below_drewN HB.out _⟩
  clear HS HB HRK hbl hW; have HS := n1_; have HB := n2_; clear n1_ n2_
  refine start_ (n := 16) (S := fun w' => w'.cell? ⟨tp, 0, none⟩ = some (.slice Atk tks.length ctk) /\ w'.cell? ⟨kp, 0, none⟩ = some (.slice (some ⟨gk, 0, none⟩) kks.length ckk) /\ w'.cell? ⟨gk, 2, none⟩ = some (.string kx)) (ds := [15]) (bt 16 0) (by kernel_rfl) rfl rfl ⟨(SatG.z (SatG.drew HS.out) 0 rfl 0), (SatG.z (SatG.drew HS.out) 5 rfl 0), (thirdAt (SatG.sr (SatG.drew HS.out) 6 rfl) (HKX.out))⟩ (fun hHeld => ?_)
  refine pu_ 0 50 1 ?_
  refine pu_ 1 51 3 ?_
  refine pu_ 2 52 7 ?_
  refine pu_ 3 53 15 ?_
  refine pu_ 5 55 47 ?_
  refine pu_ 6 56 111 ?_
  refine pu_ 7 57 239 ?_
  refine pu_ 8 58 495 ?_
  refine ta_ 4 54 511 hHeld ?_
  refine ta_ 9 59 1023 hHeld ?_
  refine pu_ 10 60 2047 ?_
  refine ta_ 11 61 4095 hHeld ?_
  refine on_ 12 (some 62) 8191 (fun K hK => ?_)
  refine go_ Try.func124 #[.slice Atk tks.length ctk, .int .i64 (i : Int), .string kx] ?_
  with_reducible refine (spec_l5Insert.calls Atk ctk tks (i : Int) kx (insAt tks i kx) _ (SatG.row (SatG.drew HS.out) 1 rfl).2.2 (SatG.row (SatG.drew HS.out) 1 rfl).2.1 (l5Insert_f kx (by exact HTI.out) (by omega))).mono ?_
  rintro e w12 ⟨v0, rfl, ho, hb⟩
  refine ⟨_, rfl, ?_⟩
  obtain ⟨An0, cn0, rfl⟩ := Kd.R_slice ho
  have n1_ : Aside0 (SatG w12 base [bx_ 96 tp Atk tks.length ctk Atv tvs.length ctv (some adt) tcs.length ctc, tz_ Atk ctk tks, tz_ Atv ctv tvs, qz_ 70 (some adt) ctc tcs, GA, [.box 96 kp #[.slice (some ⟨gk, 0, none⟩) kks.length ckk, .slice (some ⟨gv, 0, none⟩) kvs.length ckv, .slice Akc ([] : List NT).length ckc]], tz_ (a0_ gk) ckk kks, tz_ (a0_ gv) ckv kvs, [.que 70 (.slice Akc ([] : List NT).length ckc) (ptrs [])], (NT.cksL 96 70 []), GD, L, tz_ Ar1 cr1 y1, tz_ Ar2 cr2 y2, bx_ 96 rp Ar1 y1.length cr1 Ar2 y2.length cr2 none 0 0, [.que 70 (.slice none 0 0) []], [], [txt (.slice An0 (insAt tks i kx).length cn0) (insAt tks i kx)]]) := ⟨SatG.newTxt (SatG.drew HS.out) hb (Nat.le_trans HBS.out HB.out.size) ho⟩
  have n2_ : Aside0 (Below base w w12) := ⟨(below_drew HB.out).trans (hb.mono (Nat.le_trans HBS.out HB.out.size))⟩
  clear HS HB ho hb; have HS := n1_; have HB := n2_; clear n1_ n2_
  have hzs := HS.out.z 0 rfl 0
  have hfs := HS.out.f 0 rfl 0
  refine hK.out _ _ ⟨(SatG.z HS.out 0 rfl 0), (SatG.z HS.out 5 rfl 0), (thirdAt (SatG.sr HS.out 6 rfl) (HKX.out))⟩ (fun hHeld => ?_)
  clear hK K
  refine no_ 62 ?_
  refine pu_ 13 63 16383 ?_
  refine pu_ 14 64 32767 ?_
  refine la_ 15 none 65535 (fun K hK => ?_)
  refine skip_ (w1 := ?_) (by rfl) rfl ?_ ?_
  rotate_left
  ·go_simp
   rfl
  refine hK.out _ _ ?_
  clear hK K
  refine done_ (by kernel_rfl) ?_
  have n1_ : Aside0 (SatG (World.setCell w12 ⟨tp, 0, none⟩ (.slice An0 (insAt tks i kx).length cn0)) base [[.box 96 tp #[.slice An0 (insAt tks i kx).length cn0, .slice Atv tvs.length ctv, .slice (some adt) tcs.length ctc]], [txt (.slice An0 (insAt tks i kx).length cn0) (insAt tks i kx)], tz_ Atv ctv tvs, qz_ 70 (some adt) ctc tcs, GA, [.box 96 kp #[.slice (some ⟨gk, 0, none⟩) kks.length ckk, .slice (some ⟨gv, 0, none⟩) kvs.length ckv, .slice Akc ([] : List NT).length ckc]], tz_ (a0_ gk) ckk kks, tz_ (a0_ gv) ckv kvs, [.que 70 (.slice Akc ([] : List NT).length ckc) (ptrs [])], (NT.cksL 96 70 []), GD, L, tz_ Ar1 cr1 y1, tz_ Ar2 cr2 y2, bx_ 96 rp Ar1 y1.length cr1 Ar2 y2.length cr2 none 0 0, [.que 70 (.slice none 0 0) []], []]) := ⟨SatG.sel (SatG.put HS.out 0 rfl 0 (.slice An0 (insAt tks i kx).length cn0) rfl) [0, 17, 2, 3, 4, 5, 6, 7, 8, 9, 10, 11, 12, 13, 14, 15, 16] (by decide)⟩
  have n2_ : Aside0 (Below base w (World.setCell w12 ⟨tp, 0, none⟩ (.slice An0 (insAt tks i kx).length cn0))) := ⟨HB.out.setCell (p := ⟨tp, 0, none⟩) (SatG.ge HS.out 0 rfl) _⟩
  generalize World.setCell w12 ⟨tp, 0, none⟩ (.slice An0 (insAt tks i kx).length cn0) = w13 at n1_ n2_ ⊢
  clear HS HB hzs hfs; have HS := n1_; have HB := n2_; clear n1_ n2_
  go_upto_region 6 with fail
  refine start_ (n := 16) (S := fun w' => w'.cell? ⟨tp, 1, none⟩ = some (.slice Atv tvs.length ctv) /\ w'.cell? ⟨kp, 1, none⟩ = some (.slice (some ⟨gv, 0, none⟩) kvs.length ckv) /\ w'.cell? ⟨gv, 2, none⟩ = some (.string vx)) (ds := [15]) (bt 16 0) (by kernel_rfl) rfl rfl ⟨(SatG.z (SatG.drew HS.out) 0 rfl 1), (SatG.z (SatG.drew HS.out) 5 rfl 1), (thirdAt (SatG.sr (SatG.drew HS.out) 7 rfl) (HVX.out))⟩ (fun hHeld => ?_)
  refine pu_ 0 65 1 ?_
  refine pu_ 1 66 3 ?_
  refine pu_ 2 67 7 ?_
  refine pu_ 3 68 15 ?_
  refine pu_ 5 70 47 ?_
  refine pu_ 6 71 111 ?_
  refine pu_ 7 72 239 ?_
  refine pu_ 8 73 495 ?_
  refine ta_ 4 69 511 hHeld ?_
  refine ta_ 9 74 1023 hHeld ?_
  refine pu_ 10 75 2047 ?_
  refine ta_ 11 76 4095 hHeld ?_
  refine on_ 12 (some 77) 8191 (fun K hK => ?_)
  refine go_ Try.func124 #[.slice Atv tvs.length ctv, .int .i64 (i : Int), .string vx] ?_
  with_reducible refine (spec_l5Insert.calls Atv ctv tvs (i : Int) vx (insAt tvs i vx) _ (SatG.row (SatG.drew HS.out) 2 rfl).2.2 (SatG.row (SatG.drew HS.out) 2 rfl).2.1 (l5Insert_f vx (by rw [HTV.out]; exact HTI.out) (by omega))).mono ?_
  rintro e w14 ⟨v0, rfl, ho, hb⟩
  refine ⟨_, rfl, ?_⟩
  obtain ⟨An1, cn1, rfl⟩ := Kd.R_slice ho
  have n1_ : Aside0 (SatG w14 base [[.box 96 tp #[.slice An0 (insAt tks i kx).length cn0, .slice Atv tvs.length ctv, .slice (some adt) tcs.length ctc]], [txt (.slice An0 (insAt tks i kx).length cn0) (insAt tks i kx)], tz_ Atv ctv tvs, qz_ 70 (some adt) ctc tcs, GA, [.box 96 kp #[.slice (some ⟨gk, 0, none⟩) kks.length ckk, .slice (some ⟨gv, 0, none⟩) kvs.length ckv, .slice Akc ([] : List NT).length ckc]], tz_ (a0_ gk) ckk kks, tz_ (a0_ gv) ckv kvs, [.que 70 (.slice Akc ([] : List NT).length ckc) (ptrs [])], (NT.cksL 96 70 []), GD, L, tz_ Ar1 cr1 y1, tz_ Ar2 cr2 y2, bx_ 96 rp Ar1 y1.length cr1 Ar2 y2.length cr2 none 0 0, [.que 70 (.slice none 0 0) []], [], [txt (.slice An1 (insAt tvs i vx).length cn1) (insAt tvs i vx)]]) := ⟨SatG.newTxt (SatG.drew HS.out) hb (Nat.le_trans HBS.out HB.out.size) ho⟩
  have n2_ : Aside0 (Below base w w14) := ⟨(below_drew HB.out).trans (hb.mono (Nat.le_trans HBS.out HB.out.size))⟩
  clear HS HB ho hb; have HS := n1_; have HB := n2_; clear n1_ n2_
  have hzs := HS.out.z 0 rfl 1
  have hfs := HS.out.f 0 rfl 1
  refine hK.out _ _ ⟨(SatG.z HS.out 0 rfl 1), (SatG.z HS.out 5 rfl 1), (thirdAt (SatG.sr HS.out 7 rfl) (HVX.out))⟩ (fun hHeld => ?_)
  clear hK K
  refine no_ 77 ?_
  refine pu_ 13 78 16383 ?_
  refine pu_ 14 79 32767 ?_
  refine la_ 15 none 65535 (fun K hK => ?_)
  refine skip_ (w1 := ?_) (by rfl) rfl ?_ ?_
  rotate_left
  ·go_simp
   rfl
  refine hK.out _ _ ?_
  clear hK K
  refine done_ (by kernel_rfl) ?_
  have n1_ : Aside0 (SatG (World.setCell w14 ⟨tp, 1, none⟩ (.slice An1 (insAt tvs i vx).length cn1)) base [[.box 96 tp #[.slice An0 (insAt tks i kx).length cn0, .slice An1 (insAt tvs i vx).length cn1, .slice (some adt) tcs.length ctc]], [txt (.slice An0 (insAt tks i kx).length cn0) (insAt tks i kx)], [txt (.slice An1 (insAt tvs i vx).length cn1) (insAt tvs i vx)], qz_ 70 (some adt) ctc tcs, GA, [.box 96 kp #[.slice (some ⟨gk, 0, none⟩) kks.length ckk, .slice (some ⟨gv, 0, none⟩) kvs.length ckv, .slice Akc ([] : List NT).length ckc]], tz_ (a0_ gk) ckk kks, tz_ (a0_ gv) ckv kvs, [.que 70 (.slice Akc ([] : List NT).length ckc) (ptrs [])], (NT.cksL 96 70 []), GD, L, tz_ Ar1 cr1 y1, tz_ Ar2 cr2 y2, bx_ 96 rp Ar1 y1.length cr1 Ar2 y2.length cr2 none 0 0, [.que 70 (.slice none 0 0) []], []]) := ⟨SatG.sel (SatG.put HS.out 0 rfl 1 (.slice An1 (insAt tvs i vx).length cn1) rfl) [0, 1, 17, 3, 4, 5, 6, 7, 8, 9, 10, 11, 12, 13, 14, 15, 16] (by decide)⟩
  have n2_ : Aside0 (Below base w (World.setCell w14 ⟨tp, 1, none⟩ (.slice An1 (insAt tvs i vx).length cn1))) := ⟨HB.out.setCell (p := ⟨tp, 1, none⟩) (SatG.ge HS.out 0 rfl) _⟩
  generalize World.setCell w14 ⟨tp, 1, none⟩ (.slice An1 (insAt tvs i vx).length cn1) = w15 at n1_ n2_ ⊢
  clear HS HB hzs hfs; have HS := n1_; have HB := n2_; clear n1_ n2_
  obtain ⟨k', hk'⟩ : ∃ k', k' = NT.mk kp (.slice (some ⟨gk, 0, none⟩) 2 ckk) (.slice (some ⟨gv, 0, none⟩) 2 ckv) (.slice Akc ([] : List NT).length ckc) (kks.take 2) (kvs.take 2) [] := ⟨_, rfl⟩
  obtain ⟨r', hr'⟩ : ∃ r', r' = NT.mk rp (.slice Ar1 y1.length cr1) (.slice Ar2 y2.length cr2) (.slice none 0 0) y1 y2 [] := ⟨_, rfl⟩
  obtain ⟨tc', htc'⟩ : ∃ l, l = insAt (tcs.set i k') (i + 1) r' := ⟨_, rfl⟩
  have HTC := A_ htc'
  have HK' := A_ hk'
  have HR' := A_ hr'
  have HPS := A_ (show insAt (tcs.map NT.p) (i + 1) rp = tc'.map NT.p by rw [htc', insAt_map, List.map_set, hk', hr', map_set_p HKI.out]; rfl)
  clear htc' hk' hr'
  have hzs := HS.out.z 0 rfl 2
  have hfs := HS.out.f 0 rfl 2
  go_upto_region 8 with (first | (go_at_call 125; (with_reducible refine (insKid_n (some adt) ctc (tcs.map NT.p) i rp tcs.length _ (List.length_map _).symm ?side1 ?side2 ?side3 ?side4).mono ?_); (case side1 => exact (SatG.rowQ HS.out 3 rfl).2.2); (case side2 => exact (SatG.rowQ HS.out 3 rfl).2.1); (case side3 => rw [List.length_map]; exact (List.getElem?_eq_some_iff.1 HKI.out).1); (case side4 => rw [List.length_map]; omega); rintro e w16 ⟨vq, rfl, ho, hb⟩; rw [HPS.out] at ho; obtain ⟨Aq, cq, eq_⟩ := Kd.R_slice ho; rw [List.length_map] at eq_; subst eq_; have n1_ : Aside0 (SatG w16 base [[.box 96 tp #[.slice An0 (insAt tks i kx).length cn0, .slice An1 (insAt tvs i vx).length cn1, .slice (some adt) tcs.length ctc]], [txt (.slice An0 (insAt tks i kx).length cn0) (insAt tks i kx)], [txt (.slice An1 (insAt tvs i vx).length cn1) (insAt tvs i vx)], qz_ 70 (some adt) ctc tcs, GA, [.box 96 kp #[.slice (some ⟨gk, 0, none⟩) kks.length ckk, .slice (some ⟨gv, 0, none⟩) kvs.length ckv, .slice Akc ([] : List NT).length ckc]], tz_ (a0_ gk) ckk kks, tz_ (a0_ gv) ckv kvs, [.que 70 (.slice Akc ([] : List NT).length ckc) (ptrs [])], (NT.cksL 96 70 []), GD, L, tz_ Ar1 cr1 y1, tz_ Ar2 cr2 y2, bx_ 96 rp Ar1 y1.length cr1 Ar2 y2.length cr2 none 0 0, [.que 70 (.slice none 0 0) []], [], [.que 70 (.slice Aq tc'.length cq) (ptrs tc')]]) := ⟨SatG.newPtr HS.out hb (Nat.le_trans HBS.out HB.out.size) ho⟩; have n2_ : Aside0 (Below base w w16) := ⟨HB.out.trans (hb.mono (Nat.le_trans HBS.out HB.out.size))⟩; clear HS HB ho hb hzs hfs; have HS := n1_; have HB := n2_; clear n1_ n2_; have hzs := HS.out.z 0 rfl 2; have hfs := HS.out.f 0 rfl 2))
  have n1_ : Aside0 (SatG (World.setCell w16 ⟨tp, 2, none⟩ (.slice Aq tc'.length cq)) base [[.box 96 tp #[.slice An0 (insAt tks i kx).length cn0, .slice An1 (insAt tvs i vx).length cn1, .slice Aq tc'.length cq]], [txt (.slice An0 (insAt tks i kx).length cn0) (insAt tks i kx)], [txt (.slice An1 (insAt tvs i vx).length cn1) (insAt tvs i vx)], [.que 70 (.slice Aq tc'.length cq) (ptrs tc')], GA, [.box 96 kp #[.slice (some ⟨gk, 0, none⟩) kks.length ckk, .slice (some ⟨gv, 0, none⟩) kvs.length ckv, .slice Akc ([] : List NT).length ckc]], tz_ (a0_ gk) ckk kks, tz_ (a0_ gv) ckv kvs, [.que 70 (.slice Akc ([] : List NT).length ckc) (ptrs [])], (NT.cksL 96 70 []), GD, L, tz_ Ar1 cr1 y1, tz_ Ar2 cr2 y2, bx_ 96 rp Ar1 y1.length cr1 Ar2 y2.length cr2 none 0 0, [.que 70 (.slice none 0 0) []], []]) := ⟨SatG.sel (SatG.put HS.out 0 rfl 2 (.slice Aq tc'.length cq) rfl) [0, 1, 2, 17, 4, 5, 6, 7, 8, 9, 10, 11, 12, 13, 14, 15, 16] (by decide)⟩
  have n2_ : Aside0 (Below base w (World.setCell w16 ⟨tp, 2, none⟩ (.slice Aq tc'.length cq))) := ⟨HB.out.setCell (p := ⟨tp, 2, none⟩) (SatG.ge HS.out 0 rfl) _⟩
  generalize World.setCell w16 ⟨tp, 2, none⟩ (.slice Aq tc'.length cq) = w17 at n1_ n2_ ⊢
  clear HS HB hzs hfs; have HS := n1_; have HB := n2_; clear n1_ n2_
  have hzs := HS.out.z 5 rfl 0
  have hfs := HS.out.f 5 rfl 0
  obtain ⟨i0, hi0, _, hsz, _⟩ := info_parts info9
  have hcut := cut_to (P := Try.prog) 38 9 .i64 Try.underlying38 hi0 (some ⟨gk, 0, none⟩) kks.length ckk 2 (by omega) (by omega) (SatG.row HS.out 6 rfl).2.1
  simp only [show (2 : Int).toNat = 2 from rfl] at hcut
  clear hi0 hsz
  go_upto_region 9 with fail
  have n1_ : Aside0 (SatG (World.setCell w17 ⟨kp, 0, none⟩ (.slice (some ⟨gk, 0, none⟩) 2 ckk)) base [[.box 96 tp #[.slice An0 (insAt tks i kx).length cn0, .slice An1 (insAt tvs i vx).length cn1, .slice Aq tc'.length cq]], [txt (.slice An0 (insAt tks i kx).length cn0) (insAt tks i kx)], [txt (.slice An1 (insAt tvs i vx).length cn1) (insAt tvs i vx)], [.que 70 (.slice Aq tc'.length cq) (ptrs tc')], GA, [.box 96 kp #[.slice (some ⟨gk, 0, none⟩) 2 ckk, .slice (some ⟨gv, 0, none⟩) kvs.length ckv, .slice Akc ([] : List NT).length ckc]], ty_ (a0_ gk) 2 ckk (kks.take 2), tz_ (a0_ gv) ckv kvs, [.que 70 (.slice Akc ([] : List NT).length ckc) (ptrs [])], (NT.cksL 96 70 []), GD, L, tz_ Ar1 cr1 y1, tz_ Ar2 cr2 y2, bx_ 96 rp Ar1 y1.length cr1 Ar2 y2.length cr2 none 0 0, [.que 70 (.slice none 0 0) []], []]) := ⟨SatG.put (SatG.takeTxt HS.out 6 rfl 2 (by omega)) 5 rfl 0 (.slice (some ⟨gk, 0, none⟩) 2 ckk) rfl⟩
  have n2_ : Aside0 (Below base w (World.setCell w17 ⟨kp, 0, none⟩ (.slice (some ⟨gk, 0, none⟩) 2 ckk))) := ⟨HB.out.setCell (p := ⟨kp, 0, none⟩) (SatG.ge HS.out 5 rfl) _⟩
  generalize World.setCell w17 ⟨kp, 0, none⟩ (.slice (some ⟨gk, 0, none⟩) 2 ckk) = w18 at n1_ n2_ ⊢
  clear HS HB hzs hfs hcut; have HS := n1_; have HB := n2_; clear n1_ n2_
  have hzs := HS.out.z 5 rfl 1
  have hfs := HS.out.f 5 rfl 1
  obtain ⟨i0, hi0, _, hsz, _⟩ := info_parts info9
  have hcut := cut_to (P := Try.prog) 38 9 .i64 Try.underlying38 hi0 (some ⟨gv, 0, none⟩) kvs.length ckv 2 (by omega) (by omega) (SatG.row HS.out 7 rfl).2.1
  simp only [show (2 : Int).toNat = 2 from rfl] at hcut
  clear hi0 hsz
  go_wp2
  have n1_ : Aside0 (SatG (World.setCell w18 ⟨kp, 1, none⟩ (.slice (some ⟨gv, 0, none⟩) 2 ckv)) base [[.box 96 tp #[.slice An0 (insAt tks i kx).length cn0, .slice An1 (insAt tvs i vx).length cn1, .slice Aq tc'.length cq]], [txt (.slice An0 (insAt tks i kx).length cn0) (insAt tks i kx)], [txt (.slice An1 (insAt tvs i vx).length cn1) (insAt tvs i vx)], [.que 70 (.slice Aq tc'.length cq) (ptrs tc')], GA, [.box 96 kp #[.slice (some ⟨gk, 0, none⟩) 2 ckk, .slice (some ⟨gv, 0, none⟩) 2 ckv, .slice Akc ([] : List NT).length ckc]], ty_ (a0_ gk) 2 ckk (kks.take 2), ty_ (a0_ gv) 2 ckv (kvs.take 2), [.que 70 (.slice Akc ([] : List NT).length ckc) (ptrs [])], (NT.cksL 96 70 []), GD, L, tz_ Ar1 cr1 y1, tz_ Ar2 cr2 y2, bx_ 96 rp Ar1 y1.length cr1 Ar2 y2.length cr2 none 0 0, [.que 70 (.slice none 0 0) []], []]) := ⟨SatG.put (SatG.takeTxt HS.out 7 rfl 2 (by omega)) 5 rfl 1 (.slice (some ⟨gv, 0, none⟩) 2 ckv) rfl⟩
  have n2_ : Aside0 (Below base w (World.setCell w18 ⟨kp, 1, none⟩ (.slice (some ⟨gv, 0, none⟩) 2 ckv))) := ⟨HB.out.setCell (p := ⟨kp, 1, none⟩) (SatG.ge HS.out 5 rfl) _⟩
  generalize World.setCell w18 ⟨kp, 1, none⟩ (.slice (some ⟨gv, 0, none⟩) 2 ckv) = w19 at n1_ n2_ ⊢
  clear HS HB hzs hfs hcut; have HS := n1_; have HB := n2_; clear n1_ n2_
  go_end0
  have hS : SatG _ base [[.box 96 tp #[.slice An0 (insAt tks i kx).length cn0, .slice An1 (insAt tvs i vx).length cn1, .slice Aq tc'.length cq]], [txt (.slice An0 (insAt tks i kx).length cn0) (insAt tks i kx)], [txt (.slice An1 (insAt tvs i vx).length cn1) (insAt tvs i vx)], [.que 70 (.slice Aq tc'.length cq) (ptrs tc')], GA, [.box 96 kp #[.slice (some ⟨gk, 0, none⟩) 2 ckk, .slice (some ⟨gv, 0, none⟩) 2 ckv, .slice Akc ([] : List NT).length ckc]], ty_ (a0_ gk) 2 ckk (kks.take 2), ty_ (a0_ gv) 2 ckv (kvs.take 2), [.que 70 (.slice Akc ([] : List NT).length ckc) (ptrs [])], (NT.cksL 96 70 []), bx_ 96 rp Ar1 y1.length cr1 Ar2 y2.length cr2 none 0 0, tz_ Ar1 cr1 y1, tz_ Ar2 cr2 y2, [.que 70 (.slice none 0 0) []], [], GD, L] := SatG.sel HS.out [0, 1, 2, 3, 4, 5, 6, 7, 8, 9, 14, 12, 13, 15, 16, 10, 11] (by decide)
  refine ⟨rfl, NT.mk tp (.slice An0 (insAt tks i kx).length cn0) (.slice An1 (insAt tvs i vx).length cn1) (.slice Aq tc'.length cq) (insAt tks i kx) (insAt tvs i vx) tc', rfl, ?_, ?_, HB.out⟩
  ·rw [HRR.out]
   show PT.mk _ _ (NT.eraseL tc') = _
   rw [HTC.out, eraseL_ins, HK'.out, HR'.out]
   have e1 := HKX.out.2
   have e2 := HVX.out.2
   have e3 := HY1.out
   have e4 := HY2.out
   subst e1; subst e2; subst e3; subst e4
   rfl
  ·rw [NT.cks, show NT.cksL 96 70 tc' = _ from by rw [HTC.out, cksL_ins HKI.out, HK'.out, HR'.out, NT.cks, NT.cks, <- HGA.out, <- HGD.out]]
   unfold SatG at hS
   simp only [List.flatten_cons, List.flatten_nil, List.append_nil, List.cons_append, List.nil_append, List.append_assoc, NT.cksL] at hS ⊢
   exact hS
 ·have hk3c : 3 <= kcs.length := HKK.out.resolve_left hleaf
  have HRK := A_ ((SatG.sel HS.out [5, 6, 7, 8, 9] (by decide)).rd5)
  have hbl := A_ (show decide (((NT.mk kp (.slice (some ⟨gk, 0, none⟩) kks.length ckk) (.slice (some ⟨gv, 0, none⟩) kvs.length ckv) (.slice Akc kcs.length ckc) kks kvs kcs).erase.kids.length : Int) = 0) = false from decide_eq_false (by show ((NT.eraseL kcs).length : Int) ≠ 0; rw [eraseL_map, List.length_map]; omega))
  clear hleaf
  go_upto_region 3 with (first | (go_at_call 84; (with_reducible refine (spec_leaf.callsB false hbl.out _ ?side1).mono ?_); (case side1 => repeat (first | exact HRK.out | (with_reducible refine Rd.drewN ?_ _) | (with_reducible refine Rd.drew ?_))); rintro e w' ⟨rfl, ⟨nd, rfl⟩⟩))
  generalize hW : World.drewN w10 _ = w11
  have n1_ : Aside0 (SatG w11 base [bx_ 96 tp Atk tks.length ctk Atv tvs.length ctv (some adt) tcs.length ctc, tz_ Atk ctk tks, tz_ Atv ctv tvs, qz_ 70 (some adt) ctc tcs, GA, bx_ 96 kp (a0_ gk) kks.length ckk (a0_ gv) kvs.length ckv Akc kcs.length ckc, tz_ (a0_ gk) ckk kks, tz_ (a0_ gv) ckv kvs, qz_ 70 Akc ckc kcs, (NT.cksL 96 70 kcs), GD, L, tz_ Ar1 cr1 y1, tz_ Ar2 cr2 y2, bx_ 96 rp Ar1 y1.length cr1 Ar2 y2.length cr2 none 0 0]) := ⟨by rw [<- hW]; exact SatG.drewN HS.out _⟩
  have n2_ : Aside0 (Below base w w11) := ⟨by rw [<- hW]; exact pw_below_drewN HB.out _⟩
  clear HS HB HRK hbl hW; have HS := n1_; have HB := n2_; clear n1_ n2_
  obtain ⟨i0, hi0, _, hsz, _⟩ := info_parts info70
  have hcut := cut_from (P := Try.prog) 94 70 .i64 under94 hi0 1 hsz Akc kcs.length ckc 3 (by omega) (by omega)
  simp only [show (3 : Int).toNat = 3 from rfl] at hcut
  obtain ⟨A38, hA38⟩ : ∃ A : Option Addr, A = (if ckc = 3 then Akc else Akc.map (·.add (3 * 1))) := ⟨_, rfl⟩
  obtain ⟨c38, hc38⟩ : ∃ c, c = ckc - 3 := ⟨_, rfl⟩
  obtain ⟨kd, hkd⟩ : ∃ l, l = kcs.drop 3 := ⟨_, rfl⟩
  have hkdl : kd.length = kcs.length - 3 := by rw [hkd, List.length_drop]
  have HKD := A_ hkd
  have HKDL := A_ hkdl
  have hkdm : kd.length <= 1001 := by omega
  rw [<- hA38, <- hc38, <- hkdl] at hcut
  clear hkd hkdl
  have HA38 := A_ hA38
  clear hi0 hsz hA38 hc38
  have hz5 := HS.out.z 5 rfl 2
  have hz14 := HS.out.z 14 rfl 2
  have hf14 := HS.out.f 14 rfl 2
  go_upto_region 4 with (first | ((with_reducible refine gate_dst (N := 33) rfl ?_); refine Kd.R_lit kptr (w0 := w) base 70 ?hg (N := 33) ?hd (xs := ([] : List Nat)) (inner := []) (ok := fun _ => True) (okp := fun _ => True) ?hr ?hp (fun _ hk => hk) trivial HB.out (Nat.le_trans HBS.out HB.out.size) (by simp) ?_; (case hd => rfl); (case hg => rfl); (case hr => first | (go_simp; done) | (go_simp; rfl)); (case hp => exact (Reps.none _ _)); intro vl w12 ho hb hg hn; obtain ⟨lA, lc, rfl⟩ : ∃ A c, vl = .slice A 0 c := Kd.R_slice ho; have n1_ : Aside0 (SatG w12 base [bx_ 96 tp Atk tks.length ctk Atv tvs.length ctv (some adt) tcs.length ctc, tz_ Atk ctk tks, tz_ Atv ctv tvs, qz_ 70 (some adt) ctc tcs, GA, bx_ 96 kp (a0_ gk) kks.length ckk (a0_ gv) kvs.length ckv Akc kcs.length ckc, tz_ (a0_ gk) ckk kks, tz_ (a0_ gv) ckv kvs, qz_ 70 Akc ckc kcs, (NT.cksL 96 70 kcs), GD, L, tz_ Ar1 cr1 y1, tz_ Ar2 cr2 y2, bx_ 96 rp Ar1 y1.length cr1 Ar2 y2.length cr2 none 0 0, [.own 70 (.slice lA 0 lc) (encs ptrv [])]]) := ⟨SatG.litC HS.out (own_ptr ho) hg hn⟩; have n2_ : Aside0 (Below base w w12) := ⟨hb⟩; clear HS HB hz5 hz14 hf14 ho hg hn hb; have HS := n1_; have HB := n2_; clear n1_ n2_; have hz5 := HS.out.z 5 rfl 2; have hz14 := HS.out.z 14 rfl 2; have hf14 := HS.out.f 14 rfl 2) | ((with_reducible refine gate_builtin (b := .append) (xs := #[.tmp 33, .tmp 38]) rfl ?_); at_builtin; refine Kd.R_append_rows kptr (w0 := w) base rfl (.tmp 33) (.tmp 38) 94 70 (.pointer none) 8 rfl under94 info70 rfl (by decide) (by omega) (.slice lA 0 lc) [] (kd.map NT.p) A38 kd.length c38 (fun _ => True) (fun _ => False) rfl rfl ?aO ?aR (fun _ _ h => h) (fun _ h => h.elim) ?aF ?aB ?aS ?aL ?_; (case aO => exact SatG.ptrR HS.out 15 rfl); (case aR => rw [HA38.out, HKDL.out, HKD.out]; exact cutQ HS.out 8 rfl (by omega)); (case aF => exact (fun _ _ => trivial)); (case aB => exact HB.out); (case aS => exact (Nat.le_trans HBS.out HB.out.size)); (case aL => (try simp only [List.length_nil]); omega); intro vq w13 ho hb hg hat; rw [List.nil_append] at ho; obtain ⟨Ar3, cr3, eq_⟩ := Kd.R_slice ho; rw [List.length_map] at eq_; subst eq_; have n1_ : Aside0 (SatG w13 base [bx_ 96 tp Atk tks.length ctk Atv tvs.length ctv (some adt) tcs.length ctc, tz_ Atk ctk tks, tz_ Atv ctv tvs, qz_ 70 (some adt) ctc tcs, GA, bx_ 96 kp (a0_ gk) kks.length ckk (a0_ gv) kvs.length ckv Akc kcs.length ckc, tz_ (a0_ gk) ckk kks, tz_ (a0_ gv) ckv kvs, qz_ 70 Akc ckc kcs, (NT.cksL 96 70 kcs), GD, L, tz_ Ar1 cr1 y1, tz_ Ar2 cr2 y2, bx_ 96 rp Ar1 y1.length cr1 Ar2 y2.length cr2 none 0 0, qz_ 70 Ar3 cr3 kd]) := ⟨SatG.appOwn 15 HS.out rfl ho hg hat⟩; have n2_ : Aside0 (Below base w w13) := ⟨hb⟩; clear HS HB hz5 hz14 hf14 ho hg hat hb; have HS := n1_; have HB := n2_; clear n1_ n2_; have hz5 := HS.out.z 5 rfl 2; have hz14 := HS.out.z 14 rfl 2; have hf14 := HS.out.f 14 rfl 2))
  have n1_ : Aside0 (SatG (World.setCell w13 ⟨rp, 2, none⟩ (.slice Ar3 kd.length cr3)) base [bx_ 96 tp Atk tks.length ctk Atv tvs.length ctv (some adt) tcs.length ctc, tz_ Atk ctk tks, tz_ Atv ctv tvs, qz_ 70 (some adt) ctc tcs, GA, bx_ 96 kp (a0_ gk) kks.length ckk (a0_ gv) kvs.length ckv Akc kcs.length ckc, tz_ (a0_ gk) ckk kks, tz_ (a0_ gv) ckv kvs, qz_ 70 Akc ckc kcs, (NT.cksL 96 70 kcs), GD, L, tz_ Ar1 cr1 y1, tz_ Ar2 cr2 y2, bx_ 96 rp Ar1 y1.length cr1 Ar2 y2.length cr2 Ar3 kd.length cr3, qz_ 70 Ar3 cr3 kd]) := ⟨SatG.put HS.out 14 rfl 2 (.slice Ar3 kd.length cr3) rfl⟩
  have n2_ : Aside0 (Below base w (World.setCell w13 ⟨rp, 2, none⟩ (.slice Ar3 kd.length cr3))) := ⟨HB.out.setCell (p := ⟨rp, 2, none⟩) (SatG.ge HS.out 14 rfl) _⟩
  generalize World.setCell w13 ⟨rp, 2, none⟩ (.slice Ar3 kd.length cr3) = w14 at n1_ n2_ ⊢
  clear HS HB hz5 hz14 hf14 hcut; have HS := n1_; have HB := n2_; clear n1_ n2_
  obtain ⟨i0, hi0, _, hsz, _⟩ := info_parts info70
  have hcut := cut_to (P := Try.prog) 94 70 .i64 under94 hi0 Akc kcs.length ckc 3 (by omega) (by omega) (SatG.rowQ HS.out 8 rfl).2.1
  simp only [show (3 : Int).toNat = 3 from rfl] at hcut
  clear hi0 hsz
  have hz5 := HS.out.z 5 rfl 2
  have hf5 := HS.out.f 5 rfl 2
  go_upto_region 5 with fail
  have n1_ : Aside0 (SatG (World.setCell w14 ⟨kp, 2, none⟩ (.slice Akc 3 ckc)) base [bx_ 96 tp Atk tks.length ctk Atv tvs.length ctv (some adt) tcs.length ctc, tz_ Atk ctk tks, tz_ Atv ctv tvs, qz_ 70 (some adt) ctc tcs, GA, bx_ 96 kp (a0_ gk) kks.length ckk (a0_ gv) kvs.length ckv Akc 3 ckc, tz_ (a0_ gk) ckk kks, tz_ (a0_ gv) ckv kvs, qy_ 70 Akc 3 ckc (kcs.take 3), (NT.cksL 96 70 kcs), GD, L, tz_ Ar1 cr1 y1, tz_ Ar2 cr2 y2, bx_ 96 rp Ar1 y1.length cr1 Ar2 y2.length cr2 Ar3 kd.length cr3, qz_ 70 Ar3 cr3 kd]) := ⟨SatG.put (SatG.takeQ HS.out 8 rfl 3 hk3c) 5 rfl 2 (.slice Akc 3 ckc) rfl⟩
  have n3_ : Aside0 (SatG (World.setCell w14 ⟨kp, 2, none⟩ (.slice Akc 3 ckc)) base [bx_ 96 tp Atk tks.length ctk Atv tvs.length ctv (some adt) tcs.length ctc, tz_ Atk ctk tks, tz_ Atv ctv tvs, qz_ 70 (some adt) ctc tcs, GA, bx_ 96 kp (a0_ gk) kks.length ckk (a0_ gv) kvs.length ckv Akc 3 ckc, tz_ (a0_ gk) ckk kks, tz_ (a0_ gv) ckv kvs, qy_ 70 Akc 3 ckc (kcs.take 3), (NT.cksL 96 70 (kcs.take 3)), GD, L, tz_ Ar1 cr1 y1, tz_ Ar2 cr2 y2, bx_ 96 rp Ar1 y1.length cr1 Ar2 y2.length cr2 Ar3 kd.length cr3, qz_ 70 Ar3 cr3 kd, (NT.cksL 96 70 kd)]) := ⟨SatG.cut n1_.out 9 (by rw [HKD.out, <- cksL_append, List.take_append_drop]; rfl)⟩
  clear n1_
  have n1_ := n3_
  clear n3_
  have n2_ : Aside0 (Below base w (World.setCell w14 ⟨kp, 2, none⟩ (.slice Akc 3 ckc))) := ⟨HB.out.setCell (p := ⟨kp, 2, none⟩) (SatG.ge HS.out 5 rfl) _⟩
  generalize World.setCell w14 ⟨kp, 2, none⟩ (.slice Akc 3 ckc) = w11' at n1_ n2_ ⊢
  clear HS HB hz5 hf5 hcut; have HS := n1_; have HB := n2_; clear n1_ n2_
  go_upto_region 5 with fail
  refine start_ (n := 16) (S := fun w' => w'.cell? ⟨tp, 0, none⟩ = some (.slice Atk tks.length ctk) /\ w'.cell? ⟨kp, 0, none⟩ = some (.slice (some ⟨gk, 0, none⟩) kks.length ckk) /\ w'.cell? ⟨gk, 2, none⟩ = some (.string kx)) (ds := [15]) (bt 16 0) (by kernel_rfl) rfl rfl ⟨(SatG.z (SatG.drew HS.out) 0 rfl 0), (SatG.z (SatG.drew HS.out) 5 rfl 0), (thirdAt (SatG.sr (SatG.drew HS.out) 6 rfl) (HKX.out))⟩ (fun hHeld => ?_)
  refine pu_ 0 50 1 ?_
  refine pu_ 1 51 3 ?_
  refine pu_ 2 52 7 ?_
  refine pu_ 3 53 15 ?_
  refine pu_ 5 55 47 ?_
  refine pu_ 6 56 111 ?_
  refine pu_ 7 57 239 ?_
  refine pu_ 8 58 495 ?_
  refine ta_ 4 54 511 hHeld ?_
  refine ta_ 9 59 1023 hHeld ?_
  refine pu_ 10 60 2047 ?_
  refine ta_ 11 61 4095 hHeld ?_
  refine on_ 12 (some 62) 8191 (fun K hK => ?_)
  refine go_ Try.func124 #[.slice Atk tks.length ctk, .int .i64 (i : Int), .string kx] ?_
  with_reducible refine (spec_l5Insert.calls Atk ctk tks (i : Int) kx (insAt tks i kx) _ (SatG.row (SatG.drew HS.out) 1 rfl).2.2 (SatG.row (SatG.drew HS.out) 1 rfl).2.1 (l5Insert_f kx (by exact HTI.out) (by omega))).mono ?_
  rintro e w15 ⟨v0, rfl, ho, hb⟩
  refine ⟨_, rfl, ?_⟩
  obtain ⟨An0, cn0, rfl⟩ := Kd.R_slice ho
  have n1_ : Aside0 (SatG w15 base [bx_ 96 tp Atk tks.length ctk Atv tvs.length ctv (some adt) tcs.length ctc, tz_ Atk ctk tks, tz_ Atv ctv tvs, qz_ 70 (some adt) ctc tcs, GA, bx_ 96 kp (a0_ gk) kks.length ckk (a0_ gv) kvs.length ckv Akc 3 ckc, tz_ (a0_ gk) ckk kks, tz_ (a0_ gv) ckv kvs, qy_ 70 Akc 3 ckc (kcs.take 3), (NT.cksL 96 70 (kcs.take 3)), GD, L, tz_ Ar1 cr1 y1, tz_ Ar2 cr2 y2, bx_ 96 rp Ar1 y1.length cr1 Ar2 y2.length cr2 Ar3 kd.length cr3, qz_ 70 Ar3 cr3 kd, (NT.cksL 96 70 kd), [txt (.slice An0 (insAt tks i kx).length cn0) (insAt tks i kx)]]) := ⟨SatG.newTxt (SatG.drew HS.out) hb (Nat.le_trans HBS.out HB.out.size) ho⟩
  have n2_ : Aside0 (Below base w w15) := ⟨(below_drew HB.out).trans (hb.mono (Nat.le_trans HBS.out HB.out.size))⟩
  clear HS HB ho hb; have HS := n1_; have HB := n2_; clear n1_ n2_
  have hzs := HS.out.z 0 rfl 0
  have hfs := HS.out.f 0 rfl 0
  refine hK.out _ _ ⟨(SatG.z HS.out 0 rfl 0), (SatG.z HS.out 5 rfl 0), (thirdAt (SatG.sr HS.out 6 rfl) (HKX.out))⟩ (fun hHeld => ?_)
  clear hK K
  refine no_ 62 ?_
  refine pu_ 13 63 16383 ?_
  refine pu_ 14 64 32767 ?_
  refine la_ 15 none 65535 (fun K hK => ?_)
  refine skip_ (w1 := ?_) (by rfl) rfl ?_ ?_
  rotate_left
  ·go_simp
   rfl
  refine hK.out _ _ ?_
  clear hK K
  refine done_ (by kernel_rfl) ?_
  have n1_ : Aside0 (SatG (World.setCell w15 ⟨tp, 0, none⟩ (.slice An0 (insAt tks i kx).length cn0)) base [[.box 96 tp #[.slice An0 (insAt tks i kx).length cn0, .slice Atv tvs.length ctv, .slice (some adt) tcs.length ctc]], [txt (.slice An0 (insAt tks i kx).length cn0) (insAt tks i kx)], tz_ Atv ctv tvs, qz_ 70 (some adt) ctc tcs, GA, bx_ 96 kp (a0_ gk) kks.length ckk (a0_ gv) kvs.length ckv Akc 3 ckc, tz_ (a0_ gk) ckk kks, tz_ (a0_ gv) ckv kvs, qy_ 70 Akc 3 ckc (kcs.take 3), (NT.cksL 96 70 (kcs.take 3)), GD, L, tz_ Ar1 cr1 y1, tz_ Ar2 cr2 y2, bx_ 96 rp Ar1 y1.length cr1 Ar2 y2.length cr2 Ar3 kd.length cr3, qz_ 70 Ar3 cr3 kd, (NT.cksL 96 70 kd)]) := ⟨SatG.sel (SatG.put HS.out 0 rfl 0 (.slice An0 (insAt tks i kx).length cn0) rfl) [0, 17, 2, 3, 4, 5, 6, 7, 8, 9, 10, 11, 12, 13, 14, 15, 16] (by decide)⟩
  have n2_ : Aside0 (Below base w (World.setCell w15 ⟨tp, 0, none⟩ (.slice An0 (insAt tks i kx).length cn0))) := ⟨HB.out.setCell (p := ⟨tp, 0, none⟩) (SatG.ge HS.out 0 rfl) _⟩
  generalize World.setCell w15 ⟨tp, 0, none⟩ (.slice An0 (insAt tks i kx).length cn0) = w16 at n1_ n2_ ⊢
  clear HS HB hzs hfs; have HS := n1_; have HB := n2_; clear n1_ n2_
  go_upto_region 6 with fail
  refine start_ (n := 16) (S := fun w' => w'.cell? ⟨tp, 1, none⟩ = some (.slice Atv tvs.length ctv) /\ w'.cell? ⟨kp, 1, none⟩ = some (.slice (some ⟨gv, 0, none⟩) kvs.length ckv) /\ w'.cell? ⟨gv, 2, none⟩ = some (.string vx)) (ds := [15]) (bt 16 0) (by kernel_rfl) rfl rfl ⟨(SatG.z (SatG.drew HS.out) 0 rfl 1), (SatG.z (SatG.drew HS.out) 5 rfl 1), (thirdAt (SatG.sr (SatG.drew HS.out) 7 rfl) (HVX.out))⟩ (fun hHeld => ?_)
  refine pu_ 0 65 1 ?_
  refine pu_ 1 66 3 ?_
  refine pu_ 2 67 7 ?_
  refine pu_ 3 68 15 ?_
  refine pu_ 5 70 47 ?_
  refine pu_ 6 71 111 ?_
  refine pu_ 7 72 239 ?_
  refine pu_ 8 73 495 ?_
  refine ta_ 4 69 511 hHeld ?_
  refine ta_ 9 74 1023 hHeld ?_
  refine pu_ 10 75 2047 ?_
  refine ta_ 11 76 4095 hHeld ?_
  refine on_ 12 (some 77) 8191 (fun K hK => ?_)
  refine go_ Try.func124 #[.slice Atv tvs.length ctv, .int .i64 (i : Int), .string vx] ?_
  with_reducible refine (spec_l5Insert.calls Atv ctv tvs (i : Int) vx (insAt tvs i vx) _ (SatG.row (SatG.drew HS.out) 2 rfl).2.2 (SatG.row (SatG.drew HS.out) 2 rfl).2.1 (l5Insert_f vx (by rw [HTV.out]; exact HTI.out) (by omega))).mono ?_
  rintro e w17 ⟨v0, rfl, ho, hb⟩
  refine ⟨_, rfl, ?_⟩
  obtain ⟨An1, cn1, rfl⟩ := Kd.R_slice ho
  have n1_ : Aside0 (SatG w17 base [[.box 96 tp #[.slice An0 (insAt tks i kx).length cn0, .slice Atv tvs.length ctv, .slice (some adt) tcs.length ctc]], [txt (.slice An0 (insAt tks i kx).length cn0) (insAt tks i kx)], tz_ Atv ctv tvs, qz_ 70 (some adt) ctc tcs, GA, bx_ 96 kp (a0_ gk) kks.length ckk (a0_ gv) kvs.length ckv Akc 3 ckc, tz_ (a0_ gk) ckk kks, tz_ (a0_ gv) ckv kvs, qy_ 70 Akc 3 ckc (kcs.take 3), (NT.cksL 96 70 (kcs.take 3)), GD, L, tz_ Ar1 cr1 y1, tz_ Ar2 cr2 y2, bx_ 96 rp Ar1 y1.length cr1 Ar2 y2.length cr2 Ar3 kd.length cr3, qz_ 70 Ar3 cr3 kd, (NT.cksL 96 70 kd), [txt (.slice An1 (insAt tvs i vx).length cn1) (insAt tvs i vx)]]) := ⟨SatG.newTxt (SatG.drew HS.out) hb (Nat.le_trans HBS.out HB.out.size) ho⟩
  have n2_ : Aside0 (Below base w w17) := ⟨(below_drew HB.out).trans (hb.mono (Nat.le_trans HBS.out HB.out.size))⟩
  clear HS HB ho hb; have HS := n1_; have HB := n2_; clear n1_ n2_
  have hzs := HS.out.z 0 rfl 1
  have hfs := HS.out.f 0 rfl 1
  refine hK.out _ _ ⟨(SatG.z HS.out 0 rfl 1), (SatG.z HS.out 5 rfl 1), (thirdAt (SatG.sr HS.out 7 rfl) (HVX.out))⟩ (fun hHeld => ?_)
  clear hK K
  refine no_ 77 ?_
  refine pu_ 13 78 16383 ?_
  refine pu_ 14 79 32767 ?_
  refine la_ 15 none 65535 (fun K hK => ?_)
  refine skip_ (w1 := ?_) (by rfl) rfl ?_ ?_
  rotate_left
  ·go_simp
   rfl
  refine hK.out _ _ ?_
  clear hK K
  refine done_ (by kernel_rfl) ?_
  have n1_ : Aside0 (SatG (World.setCell w17 ⟨tp, 1, none⟩ (.slice An1 (insAt tvs i vx).length cn1)) base [[.box 96 tp #[.slice An0 (insAt tks i kx).length cn0, .slice An1 (insAt tvs i vx).length cn1, .slice (some adt) tcs.length ctc]], [txt (.slice An0 (insAt tks i kx).length cn0) (insAt tks i kx)], [txt (.slice An1 (insAt tvs i vx).length cn1) (insAt tvs i vx)], qz_ 70 (some adt) ctc tcs, GA, bx_ 96 kp (a0_ gk) kks.length ckk (a0_ gv) kvs.length ckv Akc 3 ckc, tz_ (a0_ gk) ckk kks, tz_ (a0_ gv) ckv kvs, qy_ 70 Akc 3 ckc (kcs.take 3), (NT.cksL 96 70 (kcs.take 3)), GD, L, tz_ Ar1 cr1 y1, tz_ Ar2 cr2 y2, bx_ 96 rp Ar1 y1.length cr1 Ar2 y2.length cr2 Ar3 kd.length cr3, qz_ 70 Ar3 cr3 kd, (NT.cksL 96 70 kd)]) := ⟨SatG.sel (SatG.put HS.out 0 rfl 1 (.slice An1 (insAt tvs i vx).length cn1) rfl) [0, 1, 17, 3, 4, 5, 6, 7, 8, 9, 10, 11, 12, 13, 14, 15, 16] (by decide)⟩
  have n2_ : Aside0 (Below base w (World.setCell w17 ⟨tp, 1, none⟩ (.slice An1 (insAt tvs i vx).length cn1))) := ⟨HB.out.setCell (p := ⟨tp, 1, none⟩) (SatG.ge HS.out 0 rfl) _⟩
  generalize World.setCell w17 ⟨tp, 1, none⟩ (.slice An1 (insAt tvs i vx).length cn1) = w18 at n1_ n2_ ⊢
  clear HS HB hzs hfs; have HS := n1_; have HB := n2_; clear n1_ n2_
  obtain ⟨k', hk'⟩ : ∃ k', k' = NT.mk kp (.slice (some ⟨gk, 0, none⟩) 2 ckk) (.slice (some ⟨gv, 0, none⟩) 2 ckv) (.slice Akc 3 ckc) (kks.take 2) (kvs.take 2) (kcs.take 3) := ⟨_, rfl⟩
  obtain ⟨r', hr'⟩ : ∃ r', r' = NT.mk rp (.slice Ar1 y1.length cr1) (.slice Ar2 y2.length cr2) (.slice Ar3 kd.length cr3) y1 y2 kd := ⟨_, rfl⟩
  obtain ⟨tc', htc'⟩ : ∃ l, l = insAt (tcs.set i k') (i + 1) r' := ⟨_, rfl⟩
  have HTC := A_ htc'
  have HK' := A_ hk'
  have HR' := A_ hr'
  have HPS := A_ (show insAt (tcs.map NT.p) (i + 1) rp = tc'.map NT.p by rw [htc', insAt_map, List.map_set, hk', hr', map_set_p HKI.out]; rfl)
  clear htc' hk' hr'
  have hzs := HS.out.z 0 rfl 2
  have hfs := HS.out.f 0 rfl 2
  go_upto_region 8 with (first | (go_at_call 125; (with_reducible refine (insKid_n (some adt) ctc (tcs.map NT.p) i rp tcs.length _ (List.length_map _).symm ?side1 ?side2 ?side3 ?side4).mono ?_); (case side1 => exact (SatG.rowQ HS.out 3 rfl).2.2); (case side2 => exact (SatG.rowQ HS.out 3 rfl).2.1); (case side3 => rw [List.length_map]; exact (List.getElem?_eq_some_iff.1 HKI.out).1); (case side4 => rw [List.length_map]; omega); rintro e w19 ⟨vq, rfl, ho, hb⟩; rw [HPS.out] at ho; obtain ⟨Aq, cq, eq_⟩ := Kd.R_slice ho; rw [List.length_map] at eq_; subst eq_; have n1_ : Aside0 (SatG w19 base [[.box 96 tp #[.slice An0 (insAt tks i kx).length cn0, .slice An1 (insAt tvs i vx).length cn1, .slice (some adt) tcs.length ctc]], [txt (.slice An0 (insAt tks i kx).length cn0) (insAt tks i kx)], [txt (.slice An1 (insAt tvs i vx).length cn1) (insAt tvs i vx)], qz_ 70 (some adt) ctc tcs, GA, bx_ 96 kp (a0_ gk) kks.length ckk (a0_ gv) kvs.length ckv Akc 3 ckc, tz_ (a0_ gk) ckk kks, tz_ (a0_ gv) ckv kvs, qy_ 70 Akc 3 ckc (kcs.take 3), (NT.cksL 96 70 (kcs.take 3)), GD, L, tz_ Ar1 cr1 y1, tz_ Ar2 cr2 y2, bx_ 96 rp Ar1 y1.length cr1 Ar2 y2.length cr2 Ar3 kd.length cr3, qz_ 70 Ar3 cr3 kd, (NT.cksL 96 70 kd), [.que 70 (.slice Aq tc'.length cq) (ptrs tc')]]) := ⟨SatG.newPtr HS.out hb (Nat.le_trans HBS.out HB.out.size) ho⟩; have n2_ : Aside0 (Below base w w19) := ⟨HB.out.trans (hb.mono (Nat.le_trans HBS.out HB.out.size))⟩; clear HS HB ho hb hzs hfs; have HS := n1_; have HB := n2_; clear n1_ n2_; have hzs := HS.out.z 0 rfl 2; have hfs := HS.out.f 0 rfl 2))
  have n1_ : Aside0 (SatG (World.setCell w19 ⟨tp, 2, none⟩ (.slice Aq tc'.length cq)) base [[.box 96 tp #[.slice An0 (insAt tks i kx).length cn0, .slice An1 (insAt tvs i vx).length cn1, .slice Aq tc'.length cq]], [txt (.slice An0 (insAt tks i kx).length cn0) (insAt tks i kx)], [txt (.slice An1 (insAt tvs i vx).length cn1) (insAt tvs i vx)], [.que 70 (.slice Aq tc'.length cq) (ptrs tc')], GA, bx_ 96 kp (a0_ gk) kks.length ckk (a0_ gv) kvs.length ckv Akc 3 ckc, tz_ (a0_ gk) ckk kks, tz_ (a0_ gv) ckv kvs, qy_ 70 Akc 3 ckc (kcs.take 3), (NT.cksL 96 70 (kcs.take 3)), GD, L, tz_ Ar1 cr1 y1, tz_ Ar2 cr2 y2, bx_ 96 rp Ar1 y1.length cr1 Ar2 y2.length cr2 Ar3 kd.length cr3, qz_ 70 Ar3 cr3 kd, (NT.cksL 96 70 kd)]) := ⟨SatG.sel (SatG.put HS.out 0 rfl 2 (.slice Aq tc'.length cq) rfl) [0, 1, 2, 17, 4, 5, 6, 7, 8, 9, 10, 11, 12, 13, 14, 15, 16] (by decide)⟩
  have n2_ : Aside0 (Below base w (World.setCell w19 ⟨tp, 2, none⟩ (.slice Aq tc'.length cq))) := ⟨HB.out.setCell (p := ⟨tp, 2, none⟩) (SatG.ge HS.out 0 rfl) _⟩
  generalize World.setCell w19 ⟨tp, 2, none⟩ (.slice Aq tc'.length cq) = w20 at n1_ n2_ ⊢
  clear HS HB hzs hfs; have HS := n1_; have HB := n2_; clear n1_ n2_
  have hzs := HS.out.z 5 rfl 0
  have hfs := HS.out.f 5 rfl 0
  obtain ⟨i0, hi0, _, hsz, _⟩ := info_parts info9
  have hcut := cut_to (P := Try.prog) 38 9 .i64 Try.underlying38 hi0 (some ⟨gk, 0, none⟩) kks.length ckk 2 (by omega) (by omega) (SatG.row HS.out 6 rfl).2.1
  simp only [show (2 : Int).toNat = 2 from rfl] at hcut
  clear hi0 hsz
  go_upto_region 9 with fail
  have n1_ : Aside0 (SatG (World.setCell w20 ⟨kp, 0, none⟩ (.slice (some ⟨gk, 0, none⟩) 2 ckk)) base [[.box 96 tp #[.slice An0 (insAt tks i kx).length cn0, .slice An1 (insAt tvs i vx).length cn1, .slice Aq tc'.length cq]], [txt (.slice An0 (insAt tks i kx).length cn0) (insAt tks i kx)], [txt (.slice An1 (insAt tvs i vx).length cn1) (insAt tvs i vx)], [.que 70 (.slice Aq tc'.length cq) (ptrs tc')], GA, bx_ 96 kp (a0_ gk) 2 ckk (a0_ gv) kvs.length ckv Akc 3 ckc, ty_ (a0_ gk) 2 ckk (kks.take 2), tz_ (a0_ gv) ckv kvs, qy_ 70 Akc 3 ckc (kcs.take 3), (NT.cksL 96 70 (kcs.take 3)), GD, L, tz_ Ar1 cr1 y1, tz_ Ar2 cr2 y2, bx_ 96 rp Ar1 y1.length cr1 Ar2 y2.length cr2 Ar3 kd.length cr3, qz_ 70 Ar3 cr3 kd, (NT.cksL 96 70 kd)]) := ⟨SatG.put (SatG.takeTxt HS.out 6 rfl 2 (by omega)) 5 rfl 0 (.slice (some ⟨gk, 0, none⟩) 2 ckk) rfl⟩
  have n2_ : Aside0 (Below base w (World.setCell w20 ⟨kp, 0, none⟩ (.slice (some ⟨gk, 0, none⟩) 2 ckk))) := ⟨HB.out.setCell (p := ⟨kp, 0, none⟩) (SatG.ge HS.out 5 rfl) _⟩
  generalize World.setCell w20 ⟨kp, 0, none⟩ (.slice (some ⟨gk, 0, none⟩) 2 ckk) = w21 at n1_ n2_ ⊢
  clear HS HB hzs hfs hcut; have HS := n1_; have HB := n2_; clear n1_ n2_
  have hzs := HS.out.z 5 rfl 1
  have hfs := HS.out.f 5 rfl 1
  obtain ⟨i0, hi0, _, hsz, _⟩ := info_parts info9
  have hcut := cut_to (P := Try.prog) 38 9 .i64 Try.underlying38 hi0 (some ⟨gv, 0, none⟩) kvs.length ckv 2 (by omega) (by omega) (SatG.row HS.out 7 rfl).2.1
  simp only [show (2 : Int).toNat = 2 from rfl] at hcut
  clear hi0 hsz
  go_wp2
  have n1_ : Aside0 (SatG (World.setCell w21 ⟨kp, 1, none⟩ (.slice (some ⟨gv, 0, none⟩) 2 ckv)) base [[.box 96 tp #[.slice An0 (insAt tks i kx).length cn0, .slice An1 (insAt tvs i vx).length cn1, .slice Aq tc'.length cq]], [txt (.slice An0 (insAt tks i kx).length cn0) (insAt tks i kx)], [txt (.slice An1 (insAt tvs i vx).length cn1) (insAt tvs i vx)], [.que 70 (.slice Aq tc'.length cq) (ptrs tc')], GA, bx_ 96 kp (a0_ gk) 2 ckk (a0_ gv) 2 ckv Akc 3 ckc, ty_ (a0_ gk) 2 ckk (kks.take 2), ty_ (a0_ gv) 2 ckv (kvs.take 2), qy_ 70 Akc 3 ckc (kcs.take 3), (NT.cksL 96 70 (kcs.take 3)), GD, L, tz_ Ar1 cr1 y1, tz_ Ar2 cr2 y2, bx_ 96 rp Ar1 y1.length cr1 Ar2 y2.length cr2 Ar3 kd.length cr3, qz_ 70 Ar3 cr3 kd, (NT.cksL 96 70 kd)]) := ⟨SatG.put (SatG.takeTxt HS.out 7 rfl 2 (by omega)) 5 rfl 1 (.slice (some ⟨gv, 0, none⟩) 2 ckv) rfl⟩
  have n2_ : Aside0 (Below base w (World.setCell w21 ⟨kp, 1, none⟩ (.slice (some ⟨gv, 0, none⟩) 2 ckv))) := ⟨HB.out.setCell (p := ⟨kp, 1, none⟩) (SatG.ge HS.out 5 rfl) _⟩
  generalize World.setCell w21 ⟨kp, 1, none⟩ (.slice (some ⟨gv, 0, none⟩) 2 ckv) = w22 at n1_ n2_ ⊢
  clear HS HB hzs hfs hcut; have HS := n1_; have HB := n2_; clear n1_ n2_
  go_end0
  have hS : SatG _ base [[.box 96 tp #[.slice An0 (insAt tks i kx).length cn0, .slice An1 (insAt tvs i vx).length cn1, .slice Aq tc'.length cq]], [txt (.slice An0 (insAt tks i kx).length cn0) (insAt tks i kx)], [txt (.slice An1 (insAt tvs i vx).length cn1) (insAt tvs i vx)], [.que 70 (.slice Aq tc'.length cq) (ptrs tc')], GA, bx_ 96 kp (a0_ gk) 2 ckk (a0_ gv) 2 ckv Akc 3 ckc, ty_ (a0_ gk) 2 ckk (kks.take 2), ty_ (a0_ gv) 2 ckv (kvs.take 2), qy_ 70 Akc 3 ckc (kcs.take 3), (NT.cksL 96 70 (kcs.take 3)), bx_ 96 rp Ar1 y1.length cr1 Ar2 y2.length cr2 Ar3 kd.length cr3, tz_ Ar1 cr1 y1, tz_ Ar2 cr2 y2, qz_ 70 Ar3 cr3 kd, (NT.cksL 96 70 kd), GD, L] := SatG.sel HS.out [0, 1, 2, 3, 4, 5, 6, 7, 8, 9, 14, 12, 13, 15, 16, 10, 11] (by decide)
  refine ⟨rfl, NT.mk tp (.slice An0 (insAt tks i kx).length cn0) (.slice An1 (insAt tvs i vx).length cn1) (.slice Aq tc'.length cq) (insAt tks i kx) (insAt tvs i vx) tc', rfl, ?_, ?_, HB.out⟩
  ·rw [HRR.out]
   show PT.mk _ _ (NT.eraseL tc') = _
   rw [HTC.out, eraseL_ins, HK'.out, HR'.out]
   have e1 := HKX.out.2
   have e2 := HVX.out.2
   have e3 := HY1.out
   have e4 := HY2.out
   subst e1; subst e2; subst e3; subst e4
   have e5 := HKD.out
   subst e5
   show PT.mk _ _ _ = splitK _ _ _
   unfold splitK
   simp only [NT.erase, PT.keys, PT.vals, PT.kids, eraseL_map, List.map_take, List.map_drop]
  ·rw [NT.cks, show NT.cksL 96 70 tc' = _ from by rw [HTC.out, cksL_ins HKI.out, HK'.out, HR'.out, NT.cks, NT.cks, <- HGA.out, <- HGD.out]]
   unfold SatG at hS
   simp only [List.flatten_cons, List.flatten_nil, List.append_nil, List.cons_append, List.nil_append, List.append_assoc, NT.cksL] at hS ⊢
   exact hS
set_option maxHeartbeats 8000000
set_option maxRecDepth 100000
def nodeGs (T E : Nat) (t : NT) (L : List Ck) : List (List Ck) :=
 [[.box T t.p #[t.kv, t.vv, t.cv]], [txt t.kv t.keys], [txt t.vv t.vals], [.que E t.cv (ptrs t.kids)], NT.cksL T E t.kids, L]
theorem nodeGs_flat {T E : Nat} {t : NT} {L : List Ck} : (nodeGs T E t L).flatten = t.cks T E ++ L := by
 rw [NT.cks_eq]
 unfold nodeGs NT.head
 simp only [List.flatten_cons, List.flatten_nil, List.append_assoc, List.cons_append, List.nil_append, List.append_nil]
theorem open_node {w : World} {base T E : Nat} {t : NT} {L : List Ck} (hs : Sat w base (t.cks T E ++ L)) : SatG w base (nodeGs T E t L) := by
 unfold SatG
 rw [nodeGs_flat]
 exact hs
theorem shut_node {w : World} {base T E : Nat} {t : NT} {L : List Ck} (hs : SatG w base (nodeGs T E t L)) : Sat w base (t.cks T E ++ L) := by
 unfold SatG at hs
 rw [nodeGs_flat] at hs
 exact hs
theorem row_frozen {w : World} {base g n c : Nat} {l : List ByteArray} (h : SR w base (.slice (some ⟨g, 0, none⟩) n c) l) (hl : 0 < l.length) (j : Nat) : w.frozen? ⟨g, j, none⟩ = false := by
 obtain ⟨g', c', e, _, _, cells, hc⟩ := Kd.R_form h hl
 injection e with e1 e2 e3
 injection e1 with e1
 injection e1 with e1
 subst e1
 exact blk_frozen hc j
theorem row_cell {w : World} {base g n c : Nat} {l : List ByteArray} (h : SR w base (.slice (some ⟨g, 0, none⟩) n c) l) (i : Nat) (hi : i < l.length) : w.cell? ⟨g, i, none⟩ = some (.string (rdOf ByteArray.empty l (i : Int))) := by
 obtain ⟨h1, h2, h3⟩ := Kd.R_reads' h
 obtain ⟨ad', e, hz⟩ := Kd.at_string h3 (i : Int) (by omega) (by omega)
 injection e with e
 subst e
 rw [Int.toNat_natCast] at hz
 have : (⟨g, 0, none⟩ : Addr).add i = ⟨g, i, none⟩ := by simp only [Addr.add]; split <;> simp_all
 rw [this] at hz
 exact hz
theorem erase_keys (t : NT) : t.erase.keys = t.keys := by cases t; rfl
theorem erase_vals (t : NT) : t.erase.vals = t.vals := by cases t; rfl
theorem erase_kids (t : NT) : t.erase.kids = t.kids.map NT.erase := by cases t; exact eraseL_map _
theorem erase_kids_len (t : NT) : t.erase.kids.length = t.kids.length := by rw [erase_kids, List.length_map]
theorem splitK_set (ks vs : List ByteArray) (cs : List PT) (i : Nat) (x k : PT) : splitK (.mk ks vs (cs.set i x)) k i = splitK (.mk ks vs cs) k i := by
 unfold splitK
 simp only [PT.keys, PT.vals, PT.kids, List.set_set]
theorem spec_put.calls (key val : ByteArray) : ∀ (n : Nat) (t : NT), t.erase.big <= n -> Bnd t.erase -> ∀ (base : Nat) (L : List Ck) (w : World), Sat w base (t.cks 96 70 ++ L) -> base <= w.heap.size ->
  Calls Try.prog 105 #[ptrv t.p, .string key, .string val] w (WR w base 96 70 t L (putP n t.erase key val)) := by
 intro n
 induction n with
 | zero =>
  intro t hb
  exact absurd t.erase.big_pos (by omega)
 | succ n ih =>
  intro t hbig hbd base L w hs hbs
  have hrd := rd_of hs.left
  obtain ⟨⟨ho1, ho2, ho3⟩, ho4⟩ := Bnd_iff.1 hbd
  have h0 := open_node hs
  obtain ⟨R, hR⟩ : ∃ R, R = putP (n + 1) t.erase key val := ⟨_, rfl⟩
  rw [<- hR]
  cases t with | mk tp tkv tvv tcv tks tvs tcs =>
  have e0 : (NT.mk tp tkv tvv tcv tks tvs tcs).erase = .mk tks tvs (NT.eraseL tcs) := rfl
  rw [e0] at hrd hbig hbd ho1 ho2 ho3 ho4 hR
  replace hrd : Rd 96 w tp (PT.mk tks tvs (NT.eraseL tcs)) := hrd
  unfold nodeGs at h0
  simp only [NT.keys, NT.vals, NT.kids, NT.p, NT.kv, NT.vv, NT.cv] at h0 ⊢
  simp only [PT.keys, PT.vals, PT.kids] at ho1 ho2 ho3 ho4
  obtain ⟨i, hi⟩ : ∃ i, atI key tks = i := ⟨_, rfl⟩
  rw [putP] at hR
  simp only [PT.keys, PT.vals, PT.kids] at hR
  simp only [hi] at hR
  have hle : i <= tks.length := by rw [<- hi]; exact atI_le key tks
  have HM := A_ (show (PT.mk tks tvs (NT.eraseL tcs)).keys.length <= 1000000000000 by show tks.length <= _; omega)
  have HI := A_ (show atI key (PT.mk tks tvs (NT.eraseL tcs)).keys = i from hi)
  have HRD := A_ hrd
  have HBS := A_ hbs
  have htv : tvs.length <= 4 := by omega
  have HVK := A_ ho1
  have hi4 : i <= 4 := by omega
  obtain ⟨Atk, ctk, rfl⟩ := Kd.R_slice (h0.sr 1 rfl)
  obtain ⟨Atv, ctv, rfl⟩ := Kd.R_slice (h0.sr 2 rfl)
  obtain ⟨Atc, ctc, rfl, hlc, hC⟩ := q_slice (h0.q 3 rfl)
  obtain ⟨GC, hGC⟩ : ∃ G, G = NT.cksL 96 70 tcs := ⟨_, rfl⟩
  rw [<- hGC] at h0
  have HS := A_ h0
  have HGC := A_ hGC
  clear h0 hGC hrd hs hi hbs
  cases hb : hasS tks i key with
  | true =>
   have HBB := A_ (show hasS (PT.mk tks tvs (NT.eraseL tcs)).keys i key = true from hb)
   rw [if_pos hb] at hR
   have HR := A_ hR
   have hlt : i < tvs.length := by have := hasS_lt hb; omega
   obtain ⟨gv, _, ev, hgv, _, _⟩ := Kd.R_form (HS.out.sr 2 rfl) (by omega)
   obtain rfl : Atv = some ⟨gv, 0, none⟩ := by injection ev
   have HGV := A_ hgv
   have hz1 := HS.out.z 0 rfl 1
   have hcv := row_cell (HS.out.sr 2 rfl) i hlt
   have hfv := row_frozen (HS.out.sr 2 rfl) (by omega) i
   have ci0 : (0 <= (i : Int)) = True := eq_true (by omega)
   have ci1 : ((i : Int) < (tvs.length : Int)) = True := eq_true (by omega)
   have ci2 : (i < tvs.length) = True := eq_true hlt
   clear hb hR ev hgv ho1 ho3 ho4 hlc hC hbig hbd e0
   go_enter Try.func105, Try.ntmps105
   go_wp2_with (first | (go_at_call 100; (with_reducible refine (spec_at.calls (PT.mk tks tvs (NT.eraseL tcs)) HM.out key i true HI.out HBB.out _ HRD.out).mono ?_); rintro e w1 ⟨rfl, ⟨nd, rfl⟩⟩))
   go_end0
   refine ⟨rfl, NT.mk tp (.slice Atk tks.length ctk) (.slice (some ⟨gv, 0, none⟩) tvs.length ctv) (.slice Atc tcs.length ctc) tks (tvs.set i val) tcs, rfl, ?_, ?_, ?_⟩
   ·rw [HR.out]
    rfl
   ·have hS0 := SatG.setTxt (SatG.drewN HS.out nd) 2 rfl i val
    rw [List.length_set] at hS0
    refine shut_node ?_
    unfold nodeGs
    simp only [NT.keys, NT.vals, NT.kids, NT.p, NT.kv, NT.vv, NT.cv]
    rw [<- HGC.out]
    exact hS0
   ·exact (pw_below_drewN (Below.refl base w) _).setCell (p := ⟨gv, i, none⟩) HGV.out _
  | false =>
   have HBB := A_ (show hasS (PT.mk tks tvs (NT.eraseL tcs)).keys i key = false from hb)
   rw [if_neg (by rw [hb]; decide)] at hR
   by_cases h0 : tcs.length = 0
   ·rw [if_pos (by rw [eraseL_map, List.length_map]; exact h0)] at hR
    have HR := A_ hR
    have hbl := A_ (show decide ((((PT.mk tks tvs (NT.eraseL tcs)).kids.length : Nat) : Int) = 0) = true from decide_eq_true (by show ((NT.eraseL tcs).length : Int) = 0; rw [eraseL_map, List.length_map]; omega))
    have HL1 := A_ (show i <= tks.length /\ tks.length <= 1000000000000 by omega)
    have HL2 := A_ (show i <= tvs.length /\ tvs.length <= 1000000000000 by omega)
    clear hb hR ho1 ho3 ho4 hlc hC hbig hbd e0 h0
    go_enter Try.func105, Try.ntmps105
    go_upto_region 7 with (first | (go_at_call 100; (with_reducible refine (spec_at.calls (PT.mk tks tvs (NT.eraseL tcs)) HM.out key i false HI.out HBB.out _ HRD.out).mono ?_); rintro e w1 ⟨rfl, ⟨nd, rfl⟩⟩) | (go_at_call 84; (with_reducible refine (spec_leaf.callsB true hbl.out _ ?side1).mono ?_); (case side1 => repeat (first | exact HRD.out | (with_reducible refine Rd.drewN ?_ _) | (with_reducible refine Rd.drew ?_))); rintro e w' ⟨rfl, ⟨nd, rfl⟩⟩))
    generalize hW : World.drewN _ _ = w2
    have n1_ : Aside0 (SatG w2 base [bx_ 96 tp Atk tks.length ctk Atv tvs.length ctv Atc tcs.length ctc, tz_ Atk ctk tks, tz_ Atv ctv tvs, qz_ 70 Atc ctc tcs, GC, L]) := ⟨by rw [<- hW]; exact SatG.drewN HS.out _⟩
    have n2_ : Aside0 (Below base w w2) := ⟨by rw [<- hW]; exact pw_below_drewN (Below.refl base w) _⟩
    clear HS hW
    have HS := n1_
    have HB := n2_
    clear n1_ n2_
    have hzs := HS.out.z 0 rfl 0
    have hfs := HS.out.f 0 rfl 0
    go_upto_region 8 with (first | (go_at_call 124; (with_reducible refine (spec_l5Insert.calls Atk ctk tks (i : Int) key (insAt tks i key) _ ?side1 ?side2 (l5Insert_f key HL1.out.1 HL1.out.2)).mono ?_); (case side1 => exact (SatG.row HS.out 1 rfl).2.2); (case side2 => exact (SatG.row HS.out 1 rfl).2.1); rintro e w3 ⟨v0, rfl, ho, hb⟩; obtain ⟨An0, cn0, rfl⟩ := Kd.R_slice ho; have n1_ : Aside0 (SatG w3 base [bx_ 96 tp Atk tks.length ctk Atv tvs.length ctv Atc tcs.length ctc, tz_ Atk ctk tks, tz_ Atv ctv tvs, qz_ 70 Atc ctc tcs, GC, L, [txt (.slice An0 (insAt tks i key).length cn0) (insAt tks i key)]]) := ⟨SatG.newTxt HS.out hb (Nat.le_trans HBS.out (Below.size HB.out)) ho⟩; have n2_ : Aside0 (Below base w w3) := ⟨HB.out.trans (hb.mono (Nat.le_trans HBS.out (Below.size HB.out)))⟩; clear HS HB ho hb hzs hfs; have HS := n1_; have HB := n2_; clear n1_ n2_; have hzs := HS.out.z 0 rfl 0; have hfs := HS.out.f 0 rfl 0))
    have n1_ : Aside0 (SatG (World.setCell w3 ⟨tp, 0, none⟩ (.slice An0 (insAt tks i key).length cn0)) base [[.box 96 tp #[.slice An0 (insAt tks i key).length cn0, .slice Atv tvs.length ctv, .slice Atc tcs.length ctc]], [txt (.slice An0 (insAt tks i key).length cn0) (insAt tks i key)], tz_ Atv ctv tvs, qz_ 70 Atc ctc tcs, GC, L]) := ⟨SatG.sel (SatG.put HS.out 0 rfl 0 (.slice An0 (insAt tks i key).length cn0) rfl) [0, 6, 2, 3, 4, 5] (by decide)⟩
    have n2_ : Aside0 (Below base w (World.setCell w3 ⟨tp, 0, none⟩ (.slice An0 (insAt tks i key).length cn0))) := ⟨HB.out.setCell (p := ⟨tp, 0, none⟩) (SatG.ge HS.out 0 rfl) _⟩
    generalize World.setCell w3 ⟨tp, 0, none⟩ (.slice An0 (insAt tks i key).length cn0) = w4 at n1_ n2_ ⊢
    clear HS HB hzs hfs; have HS := n1_; have HB := n2_; clear n1_ n2_
    have hzs := HS.out.z 0 rfl 1
    have hfs := HS.out.f 0 rfl 1
    go_wp2_with (first | (go_at_call 124; (with_reducible refine (spec_l5Insert.calls Atv ctv tvs (i : Int) val (insAt tvs i val) _ ?side1 ?side2 (l5Insert_f val HL2.out.1 HL2.out.2)).mono ?_); (case side1 => exact (SatG.row HS.out 2 rfl).2.2); (case side2 => exact (SatG.row HS.out 2 rfl).2.1); rintro e w5 ⟨v0, rfl, ho, hb⟩; obtain ⟨An1, cn1, rfl⟩ := Kd.R_slice ho; have n1_ : Aside0 (SatG w5 base [[.box 96 tp #[.slice An0 (insAt tks i key).length cn0, .slice Atv tvs.length ctv, .slice Atc tcs.length ctc]], [txt (.slice An0 (insAt tks i key).length cn0) (insAt tks i key)], tz_ Atv ctv tvs, qz_ 70 Atc ctc tcs, GC, L, [txt (.slice An1 (insAt tvs i val).length cn1) (insAt tvs i val)]]) := ⟨SatG.newTxt HS.out hb (Nat.le_trans HBS.out (Below.size HB.out)) ho⟩; have n2_ : Aside0 (Below base w w5) := ⟨HB.out.trans (hb.mono (Nat.le_trans HBS.out (Below.size HB.out)))⟩; clear HS HB ho hb hzs hfs; have HS := n1_; have HB := n2_; clear n1_ n2_; have hzs := HS.out.z 0 rfl 1; have hfs := HS.out.f 0 rfl 1))
    have n1_ : Aside0 (SatG (World.setCell w5 ⟨tp, 1, none⟩ (.slice An1 (insAt tvs i val).length cn1)) base [[.box 96 tp #[.slice An0 (insAt tks i key).length cn0, .slice An1 (insAt tvs i val).length cn1, .slice Atc tcs.length ctc]], [txt (.slice An0 (insAt tks i key).length cn0) (insAt tks i key)], [txt (.slice An1 (insAt tvs i val).length cn1) (insAt tvs i val)], qz_ 70 Atc ctc tcs, GC, L]) := ⟨SatG.sel (SatG.put HS.out 0 rfl 1 (.slice An1 (insAt tvs i val).length cn1) rfl) [0, 1, 6, 3, 4, 5] (by decide)⟩
    have n2_ : Aside0 (Below base w (World.setCell w5 ⟨tp, 1, none⟩ (.slice An1 (insAt tvs i val).length cn1))) := ⟨HB.out.setCell (p := ⟨tp, 1, none⟩) (SatG.ge HS.out 0 rfl) _⟩
    generalize World.setCell w5 ⟨tp, 1, none⟩ (.slice An1 (insAt tvs i val).length cn1) = w6 at n1_ n2_ ⊢
    clear HS HB hzs hfs; have HS := n1_; have HB := n2_; clear n1_ n2_
    go_end0
    refine ⟨rfl, NT.mk tp (.slice An0 (insAt tks i key).length cn0) (.slice An1 (insAt tvs i val).length cn1) (.slice Atc tcs.length ctc) (insAt tks i key) (insAt tvs i val) tcs, rfl, ?_, ?_, HB.out⟩
    ·rw [HR.out]
     rfl
    ·refine shut_node ?_
     unfold nodeGs
     simp only [NT.keys, NT.vals, NT.kids, NT.p, NT.kv, NT.vv, NT.cv]
     rw [<- HGC.out]
     exact HS.out
   ·have hkl : tcs.length = tks.length + 1 := by
     rcases ho3 with h | h
     ·rw [eraseL_map, List.length_map] at h; exact absurd h h0
     ·rw [eraseL_map, List.length_map] at h; exact h
    obtain ⟨s, hsx⟩ : ∃ s, tcs[i]? = some s := ⟨tcs[i], List.getElem?_eq_getElem (by omega)⟩
    have hse : (NT.eraseL tcs)[i]? = some s.erase := by rw [eraseL_map, List.getElem?_map, hsx]; rfl
    rw [if_neg (by rw [eraseL_map, List.length_map]; exact h0)] at hR
    simp only [hse] at hR
    have hsb : Bnd s.erase := ho4 _ (List.mem_of_getElem? hse)
    have hsg : s.erase.big <= n := by
     have := PT.big_kid (t := PT.mk tks tvs (NT.eraseL tcs)) hse
     omega
    have hbl := A_ (show decide ((((PT.mk tks tvs (NT.eraseL tcs)).kids.length : Nat) : Int) = 0) = false from decide_eq_false (by show ((NT.eraseL tcs).length : Int) ≠ 0; rw [eraseL_map, List.length_map]; omega))
    have HR := A_ hR
    obtain ⟨SE, hSE⟩ : ∃ x, x = s.erase := ⟨_, rfl⟩
    have HSB := A_ hsb
    have HSG := A_ hsg
    have HKI := A_ hsx
    have HO4 := A_ ho4
    have hil : i < tcs.length := (List.getElem?_eq_some_iff.1 hsx).1
    have hcl : tcs.length <= 5 := by omega
    have HKL := A_ hkl
    have HTK := A_ (show i <= tks.length /\ tks.length <= 4 by omega)
    clear hb hR ho1 ho3 ho4 hlc hC hbig hbd e0 h0 hse hsb hsg hkl hSE
    go_enter Try.func105, Try.ntmps105
    go_upto_region 1 with (first | (go_at_call 100; (with_reducible refine (spec_at.calls (PT.mk tks tvs (NT.eraseL tcs)) HM.out key i false HI.out HBB.out _ HRD.out).mono ?_); rintro e w1 ⟨rfl, ⟨nd, rfl⟩⟩) | (go_at_call 84; (with_reducible refine (spec_leaf.callsB false hbl.out _ ?side1).mono ?_); (case side1 => repeat (first | exact HRD.out | (with_reducible refine Rd.drewN ?_ _) | (with_reducible refine Rd.drew ?_))); rintro e w' ⟨rfl, ⟨nd, rfl⟩⟩))
    generalize hW : World.drewN _ _ = w2
    have n1_ : Aside0 (SatG w2 base [bx_ 96 tp Atk tks.length ctk Atv tvs.length ctv Atc tcs.length ctc, tz_ Atk ctk tks, tz_ Atv ctv tvs, qz_ 70 Atc ctc tcs, GC, L]) := ⟨by rw [<- hW]; exact SatG.drewN HS.out _⟩
    have n2_ : Aside0 (Below base w w2) := ⟨by rw [<- hW]; exact pw_below_drewN (Below.refl base w) _⟩
    clear HS hW HRD hbl
    have HS := n1_
    have HB := n2_
    clear n1_ n2_
    obtain ⟨adt, rfl, hzp⟩ := at_ptr (SatG.rowQ HS.out 3 rfl).2.2 (i : Int) (by omega) (by omega)
    rw [show rdOf 0 (tcs.map NT.p) (i : Int) = s.p by unfold rdOf; rw [Int.toNat_natCast, List.getD_eq_getElem?_getD, List.getElem?_map, hsx]; rfl, Int.toNat_natCast] at hzp
    have hz2 := HS.out.z 0 rfl 2
    have ci0 : (0 <= (i : Int)) = True := eq_true (by omega)
    have ci1 : ((i : Int) < (tcs.length : Int)) = True := eq_true (by omega)
    have ci2 : (i < tcs.length) = True := eq_true hil
    have HT : Aside0 (Sat w2 base ((NT.mk tp (.slice Atk tks.length ctk) (.slice Atv tvs.length ctv) (.slice (some adt) tcs.length ctc) tks tvs tcs).cks 96 70 ++ L)) := ⟨by
     refine shut_node ?_
     unfold nodeGs
     simp only [NT.keys, NT.vals, NT.kids, NT.p, NT.kv, NT.vv, NT.cv]
     rw [<- HGC.out]
     exact HS.out⟩
    clear HS HGC hsx
    obtain ⟨t0, ht0⟩ : ∃ t0, t0 = NT.mk tp (.slice Atk tks.length ctk) (.slice Atv tvs.length ctv) (.slice (some adt) tcs.length ctc) tks tvs tcs := ⟨_, rfl⟩
    have HT0 := A_ ht0
    rw [<- ht0] at HT
    have HKT : Aside0 (t0.kids[i]? = some s) := ⟨by rw [ht0]; exact HKI.out⟩
    clear ht0
    go_upto_region 2 with (first | (go_at_call 105; (with_reducible refine (ih s HSG.out HSB.out base (t0.hole 96 70 i L) _ (HT.out.perm (kid_out L HKT.out)) (Nat.le_trans HBS.out (Below.size HB.out))).mono ?_); rintro e w3 ⟨rfl, s', hsp, hse', hs', hb'⟩))
    have hse5 := putP_bnd n s.erase key val HSB.out
    rw [<- hse'] at hse5
    cases s' with | mk sp skv svv scv sks svs scs =>
    obtain rfl : sp = s.p := hsp
    obtain ⟨s', hs0⟩ : ∃ s', s' = NT.mk s.p skv svv scv sks svs scs := ⟨_, rfl⟩
    rw [<- hs0] at hse' hs' hse5
    have hsp : s'.p = s.p := by rw [hs0]; rfl
    have HS0 := A_ hs0
    have hT1 : Sat w3 base ((t0.setKid i s').cks 96 70 ++ L) := hs'.perm (kid_in L HKT.out hsp)
    have hK1 : (t0.setKid i s').kids[i]? = some s' := by rw [HT0.out]; exact (set_kid HKI.out).1
    have hE1 : (t0.setKid i s').erase = .mk tks tvs ((NT.eraseL tcs).set i s'.erase) := by rw [erase_setKid, HT0.out]; rfl
    have HB1 := A_ (HB.out.trans hb')
    have hbs1 : base <= w3.heap.size := Nat.le_trans HBS.out (Below.size HB1.out)
    have hT2 : Sat w3 base ((NT.mk tp (.slice Atk tks.length ctk) (.slice Atv tvs.length ctv) (.slice (some adt) tcs.length ctc) tks tvs (tcs.set i s')).cks 96 70 ++ L) := by
     rw [HT0.out] at hT1
     exact hT1
    have hG := open_kid (t := NT.mk tp (.slice Atk tks.length ctk) (.slice Atv tvs.length ctv) (.slice (some adt) tcs.length ctc) tks tvs (tcs.set i s')) (k := s') (i := i) (set_kid HKI.out).1 hT2
    rw [hs0] at hG
    unfold kidGs at hG
    simp only [NT.keys, NT.vals, NT.kids, NT.p, NT.kv, NT.vv, NT.cv] at hG
    have hz2' := hG.z 0 rfl 2
    have hzk : w3.cell? ⟨s.p, 0, none⟩ = some skv := hG.z 5 rfl 0
    have hQ := (SatG.rowQ hG 3 rfl).2.2
    rw [List.map_set, map_set_p HKI.out] at hQ
    obtain ⟨adt', eadt, hzp'⟩ := at_ptr hQ (i : Int) (by omega) (by omega)
    obtain rfl : adt = adt' := Option.some.inj eadt
    rw [show rdOf 0 (tcs.map NT.p) (i : Int) = s.p by unfold rdOf; rw [Int.toNat_natCast, List.getD_eq_getElem?_getD, List.getElem?_map, HKI.out]; rfl, Int.toNat_natCast] at hzp'
    obtain ⟨Ask, csk, esk⟩ := Kd.R_slice (SatG.sr hG 6 rfl)
    rw [esk] at hzk
    obtain ⟨lk, hlk⟩ : ∃ l, l = sks.length := ⟨_, rfl⟩
    rw [<- hlk] at hzk
    have hl5 : lk <= 5 := by
     have := hse5.1.2.1
     rw [hs0] at this
     rw [hlk]
     exact this
    have HE := A_ (And.intro hse' (And.intro hsp (And.intro hse5 (And.intro hT1 (And.intro hK1 (And.intro hE1 hlk))))))
    clear hG hQ eadt esk hs0 hse5 hT1 hT2 hK1 hE1 hse' hs' hb' hlk HT hz2 hzp
    by_cases h5 : 4 < lk
    ·have ct : decide ((4 : Int) < (lk : Int)) = true := decide_eq_true (by omega)
     go_upto_region 3 with fail
     have h51 := HE.out.2.2.1.1
     unfold One at h51
     rw [erase_keys, erase_vals, erase_kids_len] at h51
     have hll := HE.out.2.2.2.2.2.2
     have hsl : lk = s'.keys.length := by rw [hll, HS0.out]; rfl
     have hC := spec_split.calls (t0.setKid i s') s' i HE.out.2.2.2.2.1 (by omega) (by omega) h51.1 (by omega) (by omega) (by rw [HT0.out]; exact HTK.out.1) (by rw [HT0.out]; show tks.length <= _; omega) (by rw [HT0.out]; exact HVK.out) (by rw [HT0.out]; show (tcs.set i s').length <= _; rw [List.length_set]; omega) base L w3 HE.out.2.2.2.1 (Nat.le_trans HBS.out (Below.size HB1.out))
     rw [show (t0.setKid i s').p = tp by rw [HT0.out]; rfl] at hC
     go_wp2_with (first | (go_at_call 106; (with_reducible refine hC.mono ?_); rintro e w4 ⟨rfl, t2, ht1, ht2, ht3, ht4⟩))
     go_end0
     refine ⟨rfl, t2, ?_, ?_, ht3, HB1.out.trans ht4⟩
     ·rw [ht1, HT0.out]
      rfl
     ·rw [ht2, HE.out.2.2.2.2.2.1, splitK_set, HR.out, <- HE.out.1, if_pos (by show 4 < s'.erase.keys.length; rw [erase_keys]; omega)]
    ·have ct : decide ((4 : Int) < (lk : Int)) = false := decide_eq_false (by omega)
     have hll := HE.out.2.2.2.2.2.2
     have hsl : lk = s'.keys.length := by rw [hll, HS0.out]; rfl
     go_wp2_with fail
     go_end0
     refine ⟨rfl, t0.setKid i s', by rw [HT0.out]; rfl, ?_, HE.out.2.2.2.1, HB1.out⟩
     rw [HE.out.2.2.2.2.2.1, HR.out, <- HE.out.1, if_neg (by show ¬ 4 < s'.erase.keys.length; rw [erase_keys]; omega)]
section
variable {w w1 W : World} {base T p : Nat} {gs : List (List Ck)} {a b c : Value}
theorem SatG.put0 (h : SatG w base gs) (i : Nat) (hi : gs[i]? = some [.box T p #[a, b, c]]) (u : Value) : SatG (w.setCell ⟨p, 0, none⟩ u) base (gs.set i [.box T p #[u, b, c]]) := h.put i hi 0 u rfl
theorem SatG.put1 (h : SatG w base gs) (i : Nat) (hi : gs[i]? = some [.box T p #[a, b, c]]) (u : Value) : SatG (w.setCell ⟨p, 1, none⟩ u) base (gs.set i [.box T p #[a, u, c]]) := h.put i hi 1 u rfl
theorem SatG.put2 (h : SatG w base gs) (i : Nat) (hi : gs[i]? = some [.box T p #[a, b, c]]) (u : Value) : SatG (w.setCell ⟨p, 2, none⟩ u) base (gs.set i [.box T p #[a, b, u]]) := h.put i hi 2 u rfl
theorem SatG.z0 (h : SatG w base gs) (i : Nat) (hi : gs[i]? = some [.box T p #[a, b, c]]) : w.cell? ⟨p, 0, none⟩ = some a := h.z i hi 0
theorem SatG.z1 (h : SatG w base gs) (i : Nat) (hi : gs[i]? = some [.box T p #[a, b, c]]) : w.cell? ⟨p, 1, none⟩ = some b := h.z i hi 1
theorem SatG.z2 (h : SatG w base gs) (i : Nat) (hi : gs[i]? = some [.box T p #[a, b, c]]) : w.cell? ⟨p, 2, none⟩ = some c := h.z i hi 2
theorem elAt {g n c i : Nat} {l : List ByteArray} {x : ByteArray} (h : SR w base (.slice (some ⟨g, 0, none⟩) n c) l) (hx : i < l.length /\ nthB l i = x) : w.cell? ⟨g, i, none⟩ = some (.string x) := by
 rw [row_cell h i hx.1]
 unfold rdOf
 rw [Int.toNat_natCast, <- hx.2]
 rfl
theorem ptrAt {ad : Addr} {n c i p : Nat} {l : List NT} {k : NT} (h : n = l.length /\ n <= c /\ kptr.C w (some ad) n (l.map NT.p)) (hk : l[i]? = some k /\ k.p = p) : w.cell? (ad.add i) = some (ptrv p) := by
 have hi : i < l.length := (List.getElem?_eq_some_iff.1 hk.1).1
 obtain ⟨ad', e, hz⟩ := at_ptr h.2.2 (i : Int) (by omega) (by omega)
 obtain rfl : ad = ad' := Option.some.inj e
 rw [Int.toNat_natCast] at hz
 rw [hz]
 unfold rdOf
 rw [Int.toNat_natCast, List.getD_eq_getElem?_getD, List.getElem?_map, hk.1, <- hk.2]
 rfl
theorem que_some {E n c : Nat} {Ad : Option Addr} {l : List NT} (h : PQ E w base (.slice Ad n c) (l.map NT.p)) (hl : 0 < l.length) : ∃ ad, Ad = some ad := by
 obtain ⟨h1, h2, h3⟩ := Kd.Q_reads' h
 rw [List.length_map] at h1 h3
 obtain ⟨ad, e, _⟩ := at_ptr h3 0 (by omega) (by omega)
 exact ⟨ad, e⟩
theorem txt_some {n c : Nat} {Ad : Option Addr} {l : List ByteArray} (h : SR w base (.slice Ad n c) l) (hl : 0 < l.length) : ∃ g, Ad = some ⟨g, 0, none⟩ := by
 obtain ⟨g, _, e, _, _, _⟩ := Kd.R_form h hl
 injection e with e
 exact ⟨g, e⟩
end
section
variable {P : Program} {ops : Array Oper} {rest : List Oper} {o : Oper} {a : Act} {Q' : Exit -> Act -> World -> Prop} {Kc : Act -> World -> Prop}
end
section
variable {w w1 W : World} {base : Nat} {gs : List (List Ck)}
theorem txtC (h : SatG w base gs) (i : Nat) {Ad : Option Addr} {n c : Nat} {l : List ByteArray} (hi : gs[i]? = some [txt (.slice Ad n c) l]) : Kd.C Kd.string w Ad n l := by
 obtain ⟨rfl, _, h3⟩ := h.row i hi
 exact h3
theorem shrinkT {Ad : Option Addr} {n c m : Nat} {l l' : List ByteArray} (h : SatG w base gs) (i : Nat) (hi : gs[i]? = some [txt (.slice Ad n c) l]) (hl : l' = l.take m) (hm : m <= n) : SatG w base (gs.set i [txt (.slice Ad m c) l']) := by
 obtain ⟨rfl, _, _⟩ := h.row i hi
 subst hl
 exact h.takeTxt i hi m hm
theorem shrinkQ {E : Nat} {Ad : Option Addr} {n c m : Nat} {l l' : List NT} (h : SatG w base gs) (i : Nat) (hi : gs[i]? = some [.que E (.slice Ad n c) (ptrs l)]) (hl : l' = l.take m) (hm : m <= n) : SatG w base (gs.set i [.que E (.slice Ad m c) (ptrs l')]) := by
 have h1 := (h.rowQ i hi).1
 subst hl
 exact h.takeQ i hi m (by omega)
end
section
variable {tks tvs : List ByteArray} {P Q : List PT} {l r : PT} {j : Nat}
end
section
variable {A : Option Addr} {n c : Nat} {w : World}
end
end Go.Proofs.Ytoddejmlcnbdmaa.Tree
namespace Go.Proofs.Ytoddejmlcnbdmaa.Pure
section
variable {h j : Nat} {ks vs : List ByteArray} {P Q : List PT} {l r l' r' m : PT} {x y : ByteArray}
end
theorem kidD_get {t s : PT} {j : Nat} (h : t.kids[j]? = some s) : kidD t j = s := by
 unfold kidD
 rw [List.getD_eq_getElem?_getD, h]
 rfl
theorem kid_view {t s : PT} {i : Nat} (hb : Bnd t) (hx : t.kids[i]? = some s) (hi : i <= t.keys.length) : allP t = preW ((t.kids.take i).map allP) ((itemsP t).take i) ++ (allP s ++ tailW ((t.kids.drop (i + 1)).map allP) ((itemsP t).drop i)) /\ (t.kids.take i).length = ((itemsP t).take i).length := by
 obtain ⟨⟨h1, h2, h3⟩, h4⟩ := Bnd_iff.1 hb
 have hl := (List.getElem?_eq_some_iff.1 hx).1
 have hPl : (t.kids.take i).length = ((itemsP t).take i).length := by rw [List.length_take, List.length_take, items_len h1]; omega
 refine ⟨?_, hPl⟩
 rw [allP_eq (bnd_shp hb)]
 conv => lhs; rw [at_split hx, <- List.take_append_drop i (itemsP t)]
 exact node_at hPl
theorem srt_kidP {t s : PT} {i : Nat} (hb : Bnd t) (hs : SrtP (allP t)) (hx : t.kids[i]? = some s) (hi : i <= t.keys.length) : SrtP (allP s) := by
 rw [(kid_view hb hx hi).1] at hs
 exact (List.pairwise_append.1 (List.pairwise_append.1 hs).2.1).1
theorem top_last : ∀ (n : Nat) (t : PT) (h : Nat), t.big <= n -> Kid h t -> 0 < t.keys.length -> ∃ X, allP t = X ++ [(topK n t, topV n t)]
 | 0, t, h, hb, _, _ => absurd t.big_pos (by omega)
 | n + 1, t, 0, hb, hk, h0 => hk.l.elim
 | n + 1, t, h + 1, hb, hk, h0 => by
  obtain ⟨⟨h1, h2, h3⟩, h4⟩ := Bnd_iff.1 hk.b
  rcases kids_or hk.b hk.l with ⟨_, hc⟩ | ⟨hh, hc, ha⟩
  ·have e : lastP (n + 1) t = t := by rw [lastP, if_pos (by rw [hc]; rfl)]
   unfold topK topV
   rw [e, allP_leaf (bnd_shp hk.b) hc]
   exact ⟨_, zip_last h1 h0⟩
  ·obtain ⟨s, hx⟩ : ∃ s, t.kids[t.keys.length]? = some s := ⟨t.kids[t.keys.length]'(by omega), List.getElem?_eq_getElem (by omega)⟩
   have hm := List.mem_of_getElem? hx
   have e : lastP (n + 1) t = lastP n s := by
    rw [lastP, if_neg (by omega), show t.kids.length - 1 = t.keys.length by omega, kidD_get hx]
   obtain ⟨X, eX⟩ := top_last n s h (by have := PT.big_kid hx; omega) ⟨h4 s hm, (ha s hm).1⟩ (by have := (ha s hm).2; omega)
   obtain ⟨ev, _⟩ := kid_view hk.b hx (Nat.le_refl _)
   have hd : (itemsP t).drop t.keys.length = [] := List.drop_eq_nil_of_le (by rw [items_len h1]; exact Nat.le_refl _)
   unfold topK topV at eX ⊢
   rw [e, ev, hd, eX]
   exact ⟨_, by rw [tailW, List.append_nil, <- List.append_assoc]⟩
theorem atI_all {key : ByteArray} : ∀ {K : List ByteArray}, (∀ x ∈ K, lt_ x key) -> atI key K = K.length
 | [], _ => rfl
 | k :: ks, h => by
  rw [atI, if_pos ((ltB_iff _ _).2 (h k List.mem_cons_self)), atI_all fun x hx => h x (List.mem_cons_of_mem _ hx)]
  rfl
theorem atI_app {key x : ByteArray} : ∀ {K : List ByteArray}, (∀ y ∈ K, lt_ y key) -> ltB x key = false -> atI key (K ++ [x]) = K.length
 | [], _, hx => by rw [List.nil_append, atI, if_neg (by rw [hx]; decide)]; rfl
 | k :: ks, h, hx => by
  rw [List.cons_append, atI, if_pos ((ltB_iff _ _).2 (h k List.mem_cons_self)), atI_app (fun x hx => h x (List.mem_cons_of_mem _ hx)) hx]
  rfl
theorem ltB_self (a : ByteArray) : ltB a a = false := by
 cases h : ltB a a with
 | false => rfl
 | true => exact absurd ((ltB_iff a a).1 h) (lt_irrefl a)
theorem hasS_end {K : List ByteArray} {key : ByteArray} : hasS K K.length key = false := by
 unfold hasS
 rw [List.getElem?_eq_none (Nat.le_refl _)]
theorem at_top (n : Nat) {t : PT} {h : Nat} (hb : t.big <= n + 1) (hk : Kid (h + 1) t) (h0 : 0 < t.keys.length) (hs : SrtP (allP t)) :
  (t.kids = [] -> topK (n + 1) t = nthB t.keys (t.keys.length - 1) /\ atI (topK (n + 1) t) t.keys = t.keys.length - 1) /\ (t.kids ≠ [] -> topK (n + 1) t = topK n (kidD t t.keys.length) /\ topV (n + 1) t = topV n (kidD t t.keys.length) /\ atI (topK (n + 1) t) t.keys = t.keys.length) := by
 obtain ⟨⟨h1, h2, h3⟩, h4⟩ := Bnd_iff.1 hk.b
 have hsk : Srt t.keys := srt_keys ((srtP_iff (bnd_shp hk.b)).2 hs)
 constructor
 ·intro hc
  have e : lastP (n + 1) t = t := by rw [lastP, if_pos (by rw [hc]; rfl)]
  have e2 : topK (n + 1) t = nthB t.keys (t.keys.length - 1) := by unfold topK; rw [e]
  refine ⟨e2, ?_⟩
  rw [e2]
  have hsp := at_split (nth_get (l := t.keys) (i := t.keys.length - 1) (by omega))
  rw [List.drop_eq_nil_of_le (by omega)] at hsp
  have ht : (t.keys.take (t.keys.length - 1)).length = t.keys.length - 1 := by rw [List.length_take]; omega
  have : atI (nthB t.keys (t.keys.length - 1)) (t.keys.take (t.keys.length - 1) ++ [nthB t.keys (t.keys.length - 1)]) = (t.keys.take (t.keys.length - 1)).length := by
   refine atI_app (fun y hy => ?_) (ltB_self _)
   rw [hsp] at hsk
   exact (List.pairwise_append.1 hsk).2.2 y hy _ (List.mem_singleton_self _)
  rw [<- hsp, ht] at this
  exact this
 ·intro hc
  rcases kids_or hk.b hk.l with ⟨_, hc'⟩ | ⟨hh, hcl, ha⟩
  ·exact absurd hc' hc
  ·have hx : t.kids[t.keys.length]? = some (kidD t t.keys.length) := by
    have : t.kids[t.keys.length]? = some (t.kids[t.keys.length]'(by omega)) := List.getElem?_eq_getElem (by omega)
    rw [this, kidD_get this]
   have e : lastP (n + 1) t = lastP n (kidD t t.keys.length) := by rw [lastP, if_neg (by omega), show t.kids.length - 1 = t.keys.length by omega]
   have e2 : topK (n + 1) t = topK n (kidD t t.keys.length) := by unfold topK; rw [e]
   have e3 : topV (n + 1) t = topV n (kidD t t.keys.length) := by unfold topV; rw [e]
   refine ⟨e2, e3, ?_⟩
   have hm := List.mem_of_getElem? hx
   obtain ⟨X, eX⟩ := top_last n _ h (by have := PT.big_kid hx; omega) ⟨h4 _ hm, (ha _ hm).1⟩ (by have := (ha _ hm).2; omega)
   obtain ⟨ev, hPl⟩ := kid_view hk.b hx (Nat.le_refl _)
   rw [e2]
   refine atI_all fun x hxk => ?_
   -- the node's own keys stand ahead of the last kid
   obtain ⟨i, hi⟩ := List.getElem?_of_mem hxk
   have hil := (List.getElem?_eq_some_iff.1 hi).1
   obtain ⟨v, _, hiv⟩ := items_get h1 hi
   have hmem : (x, v) ∈ preW ((t.kids.take t.keys.length).map allP) ((itemsP t).take t.keys.length) := by
    have : ∀ (P : List (List KV)) (I : List KV), P.length = I.length -> ∀ y ∈ I, y ∈ preW P I := by
     intro P
     induction P with
     | nil => intro I hl y hy; cases I with | nil => cases hy | cons _ _ => simp at hl
     | cons p P ih =>
      intro I hl y hy
      cases I with
      | nil => cases hy
      | cons z I =>
       rw [preW]
       rcases List.mem_cons.1 hy with rfl | hy
       ·exact List.mem_append_right _ List.mem_cons_self
       ·exact List.mem_append_right _ (List.mem_cons_of_mem _ (ih I (by simpa using hl) y hy))
    refine this _ _ (by rw [List.length_map]; exact hPl) _ ?_
    rw [List.take_of_length_le (by rw [items_len h1]; exact Nat.le_refl _)]
    exact List.mem_of_getElem? hiv
   rw [ev, eX] at hs
   exact (List.pairwise_append.1 hs).2.2 _ hmem (topK n (kidD t t.keys.length), topV n (kidD t t.keys.length)) (List.mem_append_left _ (List.mem_append_right _ (List.mem_singleton_self _)))
theorem last_eq : ∀ (n : Nat) (t : PT) (h : Nat), t.big <= n -> Kid h t -> 0 < t.keys.length -> SrtP (allP t) -> dropP n t (topK n t) = some (lastD n t)
 | 0, t, h, hb, _, _, _ => absurd t.big_pos (by omega)
 | n + 1, t, 0, hb, hk, _, _ => hk.l.elim
 | n + 1, t, h + 1, hb, hk, h0, hs => by
  obtain ⟨⟨h1, h2, h3⟩, h4⟩ := Bnd_iff.1 hk.b
  obtain ⟨a1, a2⟩ := at_top n hb hk h0 hs
  rw [dropP, lastD]
  rcases kids_or hk.b hk.l with ⟨rfl, hc⟩ | ⟨hne, hcl, ha⟩
  ·obtain ⟨_, e⟩ := a1 hc
   rw [if_pos (show t.kids.length = 0 by rw [hc]; rfl), if_pos (show t.kids.length = 0 by rw [hc]; rfl), e, if_pos (show t.keys.length - 1 < t.keys.length by omega)]
  ·have hne' : t.kids ≠ [] := fun e => by rw [e] at hcl; simp at hcl
   obtain ⟨e1, e2, e3⟩ := a2 hne'
   rw [if_neg (show ¬ t.kids.length = 0 by omega), if_neg (show ¬ t.kids.length = 0 by omega), e3, if_neg (show ¬ hasS t.keys t.keys.length (topK (n + 1) t) = true by rw [hasS_end]; decide), e1, show t.kids.length - 1 = t.keys.length by omega]
   have hx : t.kids[t.keys.length]? = some (t.kids[t.keys.length]'(by omega)) := List.getElem?_eq_getElem (by omega)
   have hm := List.mem_of_getElem? hx
   rw [kidD_get hx]
   rw [last_eq n _ h (by have := PT.big_kid hx; omega) ⟨h4 _ hm, (ha _ hm).1⟩ (by have := (ha _ hm).2; omega) (srt_kidP hk.b hs hx (Nat.le_refl _))]
   rfl
end Go.Proofs.Ytoddejmlcnbdmaa.Pure
namespace Go.Proofs.Ytoddejmlcnbdmaa.Fn
def laws_szStringS.l0 : Nat -> List ByteArray -> Int -> Int -> Option (Int)
 | 0, _, _, _ => none
 | k + 1, x0, x1, x5 => if x5 < (x0.length : Int) then (if 0 <= x5 then (if (wrap64 (x1 - ((rdOf ByteArray.empty x0 x5).size : Int))) < 0 then (some (-1)) else (laws_szStringS.l0 k x0 (wrap64 (x1 - ((rdOf ByteArray.empty x0 x5).size : Int))) (wrap64 (x5 + 1)))) else (none)) else (some x1)
def laws_szStringS.f (k : Nat) (l0 : List ByteArray) (a1 : Int) : Option (Int) := if (wrap64 (a1 - (l0.length : Int))) < 0 then (some (-1)) else (laws_szStringS.l0 k l0 (wrap64 (a1 - (l0.length : Int))) 0)
theorem laws_szStringS.calls (k : Nat) (A0 : Option Addr) (c0 : Nat) (l0 : List ByteArray) (a1 : Int) (r : Int) (w : World) (hr0 : Kd.C Kd.string w A0 l0.length l0) (hc0 : l0.length <= c0) (h : laws_szStringS.f k l0 a1 = some r) :
  Calls Try.prog 41 #[.slice A0 l0.length c0, .int .i64 a1] w fun e w' => e = .returned (.int .i64 r) /\ Drawn0 w w' := by
 have HR0 := A_ hr0
 have HC0 := A_ hc0
 clear hr0 hc0
 have H : (if (wrap64 (a1 - (l0.length : Int))) < 0 then (some (-1)) else (laws_szStringS.l0 k l0 (wrap64 (a1 - (l0.length : Int))) 0)) = some r := h
 clear h
 by_cases c3 : (wrap64 (a1 - (l0.length : Int))) < 0
 ·rw [if_pos c3] at H
  have c3b0 : decide ((wrap64 (a1 - (l0.length : Int))) < 0) = true := decide_eq_true c3
  clear c3
  obtain rfl := Option.some.inj H
  go_enter Try.func41, Try.ntmps41
  go_wp2
  go_ret
  exact ⟨by first | rfl | (simp; done) | (simp [*]; done), by repeat (first | exact Drawn0.refl _ | apply Drawn0.step)⟩
 ·rw [if_neg c3] at H
  have c3b0 : decide ((wrap64 (a1 - (l0.length : Int))) < 0) = false := decide_eq_false c3
  clear c3
  have H' := A_ H
  clear H
  go_enter Try.func41, Try.ntmps41
  go_wp2
  go_loopg [1, 5] k (fun kq v1 v5 w' => ∃ (x1_1 : Int) (x5_1 : Int), v1 = .int .i64 x1_1 /\ v5 = .int .i64 x5_1 /\ Aside0 (laws_szStringS.l0 kq l0 x1_1 x5_1 = some r) /\ Aside0 (kq <= k) /\ Drawn0 w w')
  case atStart => exact ⟨(wrap64 (a1 - (l0.length : Int))), (0), (by first | rfl | (simp; done) | (simp [*]; done)), (by first | rfl | (simp; done) | (simp [*]; done)), H', ⟨Nat.le_refl _⟩, by repeat (first | exact Drawn0.refl _ | apply Drawn0.step)⟩
  case round =>
   clear H'
   (try clear p2); (try clear c3); (try clear c3b0)
   obtain ⟨x1_1, x5_1, rfl, rfl, HA, HK1, ⟨m1, rfl⟩⟩ := hrel
   cases gk with
   | zero => exact absurd HA.out (by simp [laws_szStringS.l0])
   | succ k1 =>
    have H := HA.out
    clear HA
    simp only [laws_szStringS.l0] at H
    by_cases c4 : x5_1 < (l0.length : Int)
    ·rw [if_pos c4] at H
     have c4b0 : decide (x5_1 < (l0.length : Int)) = true := decide_eq_true c4
     clear c4
     by_cases c5 : 0 <= x5_1
     ·rw [if_pos c5] at H
      have c5b0 : decide (0 <= x5_1) = true := decide_eq_true c5
      clear c5
      by_cases c6 : (wrap64 (x1_1 - ((rdOf ByteArray.empty l0 x5_1).size : Int))) < 0
      ·rw [if_pos c6] at H
       have c6b0 : decide ((wrap64 (x1_1 - ((rdOf ByteArray.empty l0 x5_1).size : Int))) < 0) = true := decide_eq_true c6
       clear c6
       obtain rfl := Option.some.inj H
       have p101 : 0 <= (x5_1 : Int) := of_decide_eq_true as_
       have q101 : x5_1 < (l0.length : Int) := of_decide_eq_true as_
       obtain ⟨ad101, e101, hx101_0⟩ := Kd.at_string HR0.out x5_1 p101 q101
       cases e101
       replace p101 := eq_true p101
       replace q101 := eq_true q101
       go_wp2
       go_ret
       exact ⟨by first | rfl | (simp; done) | (simp [*]; done), by repeat (first | exact Drawn0.refl _ | apply Drawn0.step)⟩
      ·rw [if_neg c6] at H
       have c6b0 : decide ((wrap64 (x1_1 - ((rdOf ByteArray.empty l0 x5_1).size : Int))) < 0) = false := decide_eq_false c6
       clear c6
       have H' := A_ H
       clear H
       have p101 : 0 <= (x5_1 : Int) := of_decide_eq_true as_
       have q101 : x5_1 < (l0.length : Int) := of_decide_eq_true as_
       obtain ⟨ad101, e101, hx101_0⟩ := Kd.at_string HR0.out x5_1 p101 q101
       cases e101
       replace p101 := eq_true p101
       replace q101 := eq_true q101
       go_wp2
       go_roundg k1
       case measure => have := HK1.out; omega
       case rel => exact ⟨(wrap64 (x1_1 - ((rdOf ByteArray.empty l0 x5_1).size : Int))), (wrap64 (x5_1 + 1)), (by first | rfl | (simp; done) | (simp [*]; done)), (by first | rfl | (simp; done) | (simp [*]; done)), H', ⟨by have := HK1.out; omega⟩, by repeat (first | exact Drawn0.refl _ | apply Drawn0.step)⟩
     ·rw [if_neg c5] at H
      exact absurd H (by simp)
    ·rw [if_neg c4] at H
     have c4b0 : decide (x5_1 < (l0.length : Int)) = false := decide_eq_false c4
     clear c4
     obtain rfl := Option.some.inj H
     go_wp2
     go_ret
     exact ⟨by first | rfl | (simp; done) | (simp [*]; done), by repeat (first | exact Drawn0.refl _ | apply Drawn0.step)⟩
def laws_eqStringS.l0 : Nat -> List ByteArray -> List ByteArray -> Int -> Option (Bool)
 | 0, _, _, _ => none
 | k + 1, x0, x1, x5 => if x5 < (x0.length : Int) then (if 0 <= x5 then (if x5 < (x1.length : Int) then (if (rdOf ByteArray.empty x0 x5).toList = (rdOf ByteArray.empty x1 x5).toList then (laws_eqStringS.l0 k x0 x1 (wrap64 (x5 + 1))) else (some false)) else (none)) else (none)) else (some true)
def laws_eqStringS.f (k : Nat) (l0 : List ByteArray) (l1 : List ByteArray) : Option (Bool) := if (l0.length : Int) = (l1.length : Int) then (laws_eqStringS.l0 k l0 l1 0) else (some false)
theorem laws_eqStringS.calls (k : Nat) (A0 : Option Addr) (c0 : Nat) (l0 : List ByteArray) (A1 : Option Addr) (c1 : Nat) (l1 : List ByteArray) (r : Bool) (w : World) (hr0 : Kd.C Kd.string w A0 l0.length l0) (hc0 : l0.length <= c0) (hr1 : Kd.C Kd.string w A1 l1.length l1) (hc1 : l1.length <= c1) (h : laws_eqStringS.f k l0 l1 = some r) :
  Calls Try.prog 26 #[.slice A0 l0.length c0, .slice A1 l1.length c1] w fun e w' => e = .returned (.bool r) /\ Drawn0 w w' := by
 have HR0 := A_ hr0
 have HC0 := A_ hc0
 clear hr0 hc0
 have HR1 := A_ hr1
 have HC1 := A_ hc1
 clear hr1 hc1
 have H : (if (l0.length : Int) = (l1.length : Int) then (laws_eqStringS.l0 k l0 l1 0) else (some false)) = some r := h
 clear h
 by_cases c3 : (l0.length : Int) = (l1.length : Int)
 ·rw [if_pos c3] at H
  have c3b0 : ((l0.length : Int) == (l1.length : Int)) = true := beq_iff_eq.mpr c3
  have c3b1 : ((l0.length : Int) != (l1.length : Int)) = false := bne_eq_false_iff_eq.mpr c3
  have c3b2 : (l0.length == l1.length) = true := by first | simpa using c3 | (simp at c3 ⊢; omega)
  clear c3
  have H' := A_ H
  clear H
  go_enter Try.func26, Try.ntmps26
  go_wp2
  repeat (go_quiet (fail); try go_wp2)
  go_loopg [5] k (fun kq v5 w' => ∃ (x5_1 : Int), v5 = .int .i64 x5_1 /\ Aside0 (laws_eqStringS.l0 kq l0 l1 x5_1 = some r) /\ Aside0 (kq <= k) /\ Drawn0 w w')
  case atStart => exact ⟨(0), (by first | rfl | (simp; done) | (simp [*]; done)), H', ⟨Nat.le_refl _⟩, by repeat (first | exact Drawn0.refl _ | apply Drawn0.step)⟩
  case round =>
   clear H'
   (try clear c1); (try clear c2); (try clear p2); (try clear c3); (try clear c3b0); (try clear c3b1); (try clear c3b2)
   obtain ⟨x5_1, rfl, HA, HK1, ⟨m1, rfl⟩⟩ := hrel
   cases gk with
   | zero => exact absurd HA.out (by simp [laws_eqStringS.l0])
   | succ k1 =>
    have H := HA.out
    clear HA
    simp only [laws_eqStringS.l0] at H
    by_cases c4 : x5_1 < (l0.length : Int)
    ·rw [if_pos c4] at H
     have c4b0 : decide (x5_1 < (l0.length : Int)) = true := decide_eq_true c4
     clear c4
     by_cases c5 : 0 <= x5_1
     ·rw [if_pos c5] at H
      have c5b0 : decide (0 <= x5_1) = true := decide_eq_true c5
      clear c5
      by_cases c6 : x5_1 < (l1.length : Int)
      ·rw [if_pos c6] at H
       have c6b0 : decide (x5_1 < (l1.length : Int)) = true := decide_eq_true c6
       clear c6
       by_cases c7 : (rdOf ByteArray.empty l0 x5_1).toList = (rdOf ByteArray.empty l1 x5_1).toList
       ·rw [if_pos c7] at H
        have c7b0 : ((rdOf ByteArray.empty l0 x5_1).toList == (rdOf ByteArray.empty l1 x5_1).toList) = true := beq_iff_eq.mpr c7
        have c7b1 : ((rdOf ByteArray.empty l0 x5_1).toList != (rdOf ByteArray.empty l1 x5_1).toList) = false := bne_eq_false_iff_eq.mpr c7
        clear c7
        have H' := A_ H
        clear H
        have p152 : 0 <= (x5_1 : Int) := of_decide_eq_true as_
        have q152 : x5_1 < (l0.length : Int) := of_decide_eq_true as_
        obtain ⟨ad152, e152, hx152_0⟩ := Kd.at_string HR0.out x5_1 p152 q152
        cases e152
        replace p152 := eq_true p152
        replace q152 := eq_true q152
        have p153 : 0 <= (x5_1 : Int) := of_decide_eq_true as_
        have q153 : x5_1 < (l1.length : Int) := of_decide_eq_true as_
        obtain ⟨ad153, e153, hx153_0⟩ := Kd.at_string HR1.out x5_1 p153 q153
        cases e153
        replace p153 := eq_true p153
        replace q153 := eq_true q153
        go_wp2
        repeat (go_quiet (fail); try go_wp2)
        go_roundg k1
        case measure => have := HK1.out; omega
        case rel => exact ⟨(wrap64 (x5_1 + 1)), (by first | rfl | (simp; done) | (simp [*]; done)), H', ⟨by have := HK1.out; omega⟩, by repeat (first | exact Drawn0.refl _ | apply Drawn0.step)⟩
       ·rw [if_neg c7] at H
        have c7b0 : ((rdOf ByteArray.empty l0 x5_1).toList == (rdOf ByteArray.empty l1 x5_1).toList) = false := beq_eq_false_iff_ne.mpr c7
        have c7b1 : ((rdOf ByteArray.empty l0 x5_1).toList != (rdOf ByteArray.empty l1 x5_1).toList) = true := bne_iff_ne.mpr c7
        obtain rfl := Option.some.inj H
        have p152 : 0 <= (x5_1 : Int) := of_decide_eq_true as_
        have q152 : x5_1 < (l0.length : Int) := of_decide_eq_true as_
        obtain ⟨ad152, e152, hx152_0⟩ := Kd.at_string HR0.out x5_1 p152 q152
        cases e152
        replace p152 := eq_true p152
        replace q152 := eq_true q152
        have p153 : 0 <= (x5_1 : Int) := of_decide_eq_true as_
        have q153 : x5_1 < (l1.length : Int) := of_decide_eq_true as_
        obtain ⟨ad153, e153, hx153_0⟩ := Kd.at_string HR1.out x5_1 p153 q153
        cases e153
        replace p153 := eq_true p153
        replace q153 := eq_true q153
        go_wp2
        repeat (go_quiet (fail); try go_wp2)
        go_ret
        exact ⟨by first | rfl | (simp; done) | (simp [*]; done), by repeat (first | exact Drawn0.refl _ | apply Drawn0.step)⟩
      ·rw [if_neg c6] at H
       exact absurd H (by simp)
     ·rw [if_neg c5] at H
      exact absurd H (by simp)
    ·rw [if_neg c4] at H
     have c4b0 : decide (x5_1 < (l0.length : Int)) = false := decide_eq_false c4
     clear c4
     obtain rfl := Option.some.inj H
     go_wp2
     repeat (go_quiet (fail); try go_wp2)
     go_ret
     exact ⟨by first | rfl | (simp; done) | (simp [*]; done), by repeat (first | exact Drawn0.refl _ | apply Drawn0.step)⟩
 ·rw [if_neg c3] at H
  have c3b0 : ((l0.length : Int) == (l1.length : Int)) = false := beq_eq_false_iff_ne.mpr c3
  have c3b1 : ((l0.length : Int) != (l1.length : Int)) = true := bne_iff_ne.mpr c3
  have c3b2 : (l0.length == l1.length) = false := by first | simpa using c3 | (simp at c3 ⊢; omega)
  obtain rfl := Option.some.inj H
  go_enter Try.func26, Try.ntmps26
  go_wp2
  repeat (go_quiet (fail); try go_wp2)
  go_ret
  exact ⟨by first | rfl | (simp; done) | (simp [*]; done), by repeat (first | exact Drawn0.refl _ | apply Drawn0.step)⟩
end Go.Proofs.Ytoddejmlcnbdmaa.Fn
namespace Go.Proofs.Ytoddejmlcnbdmaa.Pure
open Go.Proofs.Ytoddejmlcnbdmaa.Fn
theorem toStrs_ev (l : List ByteArray) (hl : l.length <= 1048576) : Ev (fun k => laws_toStringS.f k l) l := by
 have h := copy_ev (fun k x3 i => laws_toStringS.l0 k l x3 i) id (⟨#[]⟩ : ByteArray) l ?_ ?_
 ·rw [List.map_id] at h
  simp only [laws_toStringS.f, Int.toNat_natCast]
  (repeat (first | with_reducible refine Ev.bindS ?_ | (with_reducible refine Ev.ifp ?_ ?_; (· exact cnd_)) | (with_reducible refine Ev.ifn ?_ ?_; (· exact cnd_))))
  exact h
 ·intro k x3
  simp only [laws_toStringS.l0]
  rw [if_neg (by omega)]
 ·intro i x hx
  have hlt := (List.getElem?_eq_some_iff.1 hx).1
  refine ⟨0, fun k x3 _ h3 => ?_⟩
  simp only [laws_toStringS.l0]
  rw [if_pos (by omega), if_pos (by omega), rdOf_at hx, if_pos (by omega), wrap_succ (by omega), Int.toNat_natCast]
  rfl
theorem eqStrs_ev (l : List ByteArray) (hl : l.length <= 1048576) : Ev (fun k => laws_eqStringS.f k l l) true := by
 have h := all_ev (fun k i => laws_eqStringS.l0 k l l i) l.length true ?_ ?_
 ·simp only [laws_eqStringS.f]
  (repeat (first | with_reducible refine Ev.bindS ?_ | (with_reducible refine Ev.ifp ?_ ?_; (· exact cnd_)) | (with_reducible refine Ev.ifn ?_ ?_; (· exact cnd_))))
  exact h
 ·intro k
  simp only [laws_eqStringS.l0]
  rw [if_neg (by omega)]
 ·intro i hi
  refine ⟨0, fun k _ => ?_⟩
  simp only [laws_eqStringS.l0]
  rw [if_pos (by omega), if_pos (by omega), if_pos (by omega), wrap_succ (by omega)]
  simp
end Go.Proofs.Ytoddejmlcnbdmaa.Pure
namespace Go.Proofs.Ytoddejmlcnbdmaa.Fn
def laws_eqIntS.l0 : Nat -> List Int -> List Int -> Int -> Option (Bool)
 | 0, _, _, _ => none
 | k + 1, x0, x1, x5 => if x5 < (x0.length : Int) then (if 0 <= x5 then (if x5 < (x1.length : Int) then (if (rd x0 x5) = (rd x1 x5) then (laws_eqIntS.l0 k x0 x1 (wrap64 (x5 + 1))) else (some false)) else (none)) else (none)) else (some true)
def laws_eqIntS.f (k : Nat) (l0 : List Int) (l1 : List Int) : Option (Bool) := if (l0.length : Int) = (l1.length : Int) then (laws_eqIntS.l0 k l0 l1 0) else (some false)
theorem laws_eqIntS.calls (k : Nat) (A0 : Option Addr) (c0 : Nat) (l0 : List Int) (A1 : Option Addr) (c1 : Nat) (l1 : List Int) (r : Bool) (w : World) (hr0 : Kd.C (Kd.int .i64) w A0 l0.length l0) (hc0 : l0.length <= c0) (hr1 : Kd.C (Kd.int .i64) w A1 l1.length l1) (hc1 : l1.length <= c1) (h : laws_eqIntS.f k l0 l1 = some r) :
  Calls Try.prog 121 #[.slice A0 l0.length c0, .slice A1 l1.length c1] w fun e w' => e = .returned (.bool r) /\ Drawn0 w w' := by
 have HR0 := A_ hr0
 have HC0 := A_ hc0
 clear hr0 hc0
 have HR1 := A_ hr1
 have HC1 := A_ hc1
 clear hr1 hc1
 have H : (if (l0.length : Int) = (l1.length : Int) then (laws_eqIntS.l0 k l0 l1 0) else (some false)) = some r := h
 clear h
 by_cases c3 : (l0.length : Int) = (l1.length : Int)
 ·rw [if_pos c3] at H
  have c3b0 : ((l0.length : Int) == (l1.length : Int)) = true := beq_iff_eq.mpr c3
  have c3b1 : ((l0.length : Int) != (l1.length : Int)) = false := bne_eq_false_iff_eq.mpr c3
  have c3b2 : (l0.length == l1.length) = true := by first | simpa using c3 | (simp at c3 ⊢; omega)
  clear c3
  have H' := A_ H
  clear H
  go_enter Try.func121, Try.ntmps121
  go_wp2
  repeat (go_quiet (fail); try go_wp2)
  go_loopg [5] k (fun kq v5 w' => ∃ (x5_1 : Int), v5 = .int .i64 x5_1 /\ Aside0 (laws_eqIntS.l0 kq l0 l1 x5_1 = some r) /\ Aside0 (kq <= k) /\ Drawn0 w w')
  case atStart => exact ⟨(0), (by first | rfl | (simp; done) | (simp [*]; done)), H', ⟨Nat.le_refl _⟩, by repeat (first | exact Drawn0.refl _ | apply Drawn0.step)⟩
  case round =>
   clear H'
   (try clear c1); (try clear p2); (try clear c3); (try clear c3b0); (try clear c3b1); (try clear c3b2)
   obtain ⟨x5_1, rfl, HA, HK1, ⟨m1, rfl⟩⟩ := hrel
   cases gk with
   | zero => exact absurd HA.out (by simp [laws_eqIntS.l0])
   | succ k1 =>
    have H := HA.out
    clear HA
    simp only [laws_eqIntS.l0] at H
    by_cases c4 : x5_1 < (l0.length : Int)
    ·rw [if_pos c4] at H
     have c4b0 : decide (x5_1 < (l0.length : Int)) = true := decide_eq_true c4
     clear c4
     by_cases c5 : 0 <= x5_1
     ·rw [if_pos c5] at H
      have c5b0 : decide (0 <= x5_1) = true := decide_eq_true c5
      clear c5
      by_cases c6 : x5_1 < (l1.length : Int)
      ·rw [if_pos c6] at H
       have c6b0 : decide (x5_1 < (l1.length : Int)) = true := decide_eq_true c6
       clear c6
       by_cases c7 : (rd l0 x5_1) = (rd l1 x5_1)
       ·rw [if_pos c7] at H
        have c7b0 : ((rd l0 x5_1) == (rd l1 x5_1)) = true := beq_iff_eq.mpr c7
        have c7b1 : ((rd l0 x5_1) != (rd l1 x5_1)) = false := bne_eq_false_iff_eq.mpr c7
        clear c7
        have H' := A_ H
        clear H
        have p154 : 0 <= (x5_1 : Int) := of_decide_eq_true as_
        have q154 : x5_1 < (l0.length : Int) := of_decide_eq_true as_
        obtain ⟨ad154, e154, hx154_0⟩ := Kd.at_int HR0.out x5_1 p154 q154
        cases e154
        replace p154 := eq_true p154
        replace q154 := eq_true q154
        have p155 : 0 <= (x5_1 : Int) := of_decide_eq_true as_
        have q155 : x5_1 < (l1.length : Int) := of_decide_eq_true as_
        obtain ⟨ad155, e155, hx155_0⟩ := Kd.at_int HR1.out x5_1 p155 q155
        cases e155
        replace p155 := eq_true p155
        replace q155 := eq_true q155
        go_wp2
        repeat (go_quiet (fail); try go_wp2)
        go_roundg k1
        case measure => have := HK1.out; omega
        case rel => exact ⟨(wrap64 (x5_1 + 1)), (by first | rfl | (simp; done) | (simp [*]; done)), H', ⟨by have := HK1.out; omega⟩, by repeat (first | exact Drawn0.refl _ | apply Drawn0.step)⟩
       ·rw [if_neg c7] at H
        have c7b0 : ((rd l0 x5_1) == (rd l1 x5_1)) = false := beq_eq_false_iff_ne.mpr c7
        have c7b1 : ((rd l0 x5_1) != (rd l1 x5_1)) = true := bne_iff_ne.mpr c7
        obtain rfl := Option.some.inj H
        have p154 : 0 <= (x5_1 : Int) := of_decide_eq_true as_
        have q154 : x5_1 < (l0.length : Int) := of_decide_eq_true as_
        obtain ⟨ad154, e154, hx154_0⟩ := Kd.at_int HR0.out x5_1 p154 q154
        cases e154
        replace p154 := eq_true p154
        replace q154 := eq_true q154
        have p155 : 0 <= (x5_1 : Int) := of_decide_eq_true as_
        have q155 : x5_1 < (l1.length : Int) := of_decide_eq_true as_
        obtain ⟨ad155, e155, hx155_0⟩ := Kd.at_int HR1.out x5_1 p155 q155
        cases e155
        replace p155 := eq_true p155
        replace q155 := eq_true q155
        go_wp2
        repeat (go_quiet (fail); try go_wp2)
        go_ret
        exact ⟨by first | rfl | (simp; done) | (simp [*]; done), by repeat (first | exact Drawn0.refl _ | apply Drawn0.step)⟩
      ·rw [if_neg c6] at H
       exact absurd H (by simp)
     ·rw [if_neg c5] at H
      exact absurd H (by simp)
    ·rw [if_neg c4] at H
     have c4b0 : decide (x5_1 < (l0.length : Int)) = false := decide_eq_false c4
     clear c4
     obtain rfl := Option.some.inj H
     go_wp2
     repeat (go_quiet (fail); try go_wp2)
     go_ret
     exact ⟨by first | rfl | (simp; done) | (simp [*]; done), by repeat (first | exact Drawn0.refl _ | apply Drawn0.step)⟩
 ·rw [if_neg c3] at H
  have c3b0 : ((l0.length : Int) == (l1.length : Int)) = false := beq_eq_false_iff_ne.mpr c3
  have c3b1 : ((l0.length : Int) != (l1.length : Int)) = true := bne_iff_ne.mpr c3
  have c3b2 : (l0.length == l1.length) = false := by first | simpa using c3 | (simp at c3 ⊢; omega)
  obtain rfl := Option.some.inj H
  go_enter Try.func121, Try.ntmps121
  go_wp2
  repeat (go_quiet (fail); try go_wp2)
  go_ret
  exact ⟨by first | rfl | (simp; done) | (simp [*]; done), by repeat (first | exact Drawn0.refl _ | apply Drawn0.step)⟩
end Go.Proofs.Ytoddejmlcnbdmaa.Fn
namespace Go.Proofs.Ytoddejmlcnbdmaa.Pure
open Go.Proofs.Ytoddejmlcnbdmaa.Fn
theorem toInt_loop (l : List Int) (hl : l.length <= 1073741824) : ∀ (t : List Int) (i : Nat) (k : Nat), l.drop i = t -> i <= l.length -> t.length < k ->
  laws_toIntS.l0 k l (l.take i ++ List.replicate t.length 0) i = some l
 | [], i, k + 1, h, _, _ => by
  simp only [laws_toIntS.l0]
  rw [if_neg (drop_nil h), take_all h]
  simp
 | x :: t, i, k + 1, h, hi, hk => by
  obtain ⟨h1, h2, h3⟩ := drop_cons h
  have h4 := drop_len h hi
  simp only [List.length_cons] at h4 hk
  simp only [laws_toIntS.l0]
  rw [if_pos h1, if_pos (nat_nonneg i), if_pos (by simp only [List.length_append, List.length_take, List.length_replicate, List.length_cons]; omega), rd_at h2, wrap_succ (by omega), Int.toNat_natCast]
  simp only [List.length_cons]
  rw [take_drop_set h, <- take_next h]
  exact toInt_loop l hl t (i + 1) k h3 (by omega) (by omega)
theorem toInt_eq (l : List Int) (hl : l.length <= 1073741824) (k : Nat) (hk : l.length < k) : laws_toIntS.f k l = some l := by
 unfold laws_toIntS.f
 rw [if_pos (by omega), if_pos (by omega), Int.toNat_natCast]
 have := toInt_loop l hl l 0 k (by simp) (by omega) hk
 simpa using this
theorem eqInt_loop (l : List Int) (hl : l.length <= 1073741824) : ∀ (t : List Int) (i : Nat) (k : Nat), l.drop i = t -> i <= l.length -> t.length < k ->
  laws_eqIntS.l0 k l l i = some true
 | [], i, k + 1, h, _, _ => by
  simp only [laws_eqIntS.l0]
  rw [if_neg (drop_nil h)]
 | x :: t, i, k + 1, h, hi, hk => by
  obtain ⟨h1, h2, h3⟩ := drop_cons h
  have h4 := drop_len h hi
  simp only [List.length_cons] at h4 hk
  simp only [laws_eqIntS.l0]
  rw [if_pos h1, if_pos (nat_nonneg i), if_pos h1, if_pos trivial, wrap_succ (by omega)]
  exact eqInt_loop l hl t (i + 1) k h3 (by omega) (by omega)
theorem eqInt_self (l : List Int) (hl : l.length <= 1073741824) (k : Nat) (hk : l.length < k) : laws_eqIntS.f k l l = some true := by
 unfold laws_eqIntS.f
 rw [if_pos rfl]
 exact eqInt_loop l hl l 0 k (by simp) (by omega) hk
end Go.Proofs.Ytoddejmlcnbdmaa.Pure
namespace Go.Proofs.Ytoddejmlcnbdmaa.Fn
def laws_szIntS.f (l0 : List Int) (a1 : Int) : Option (Int) := if (wrap64 (a1 - (l0.length : Int))) < 0 then (some (-1)) else (some (wrap64 (a1 - (l0.length : Int))))
theorem laws_szIntS.calls (A0 : Option Addr) (c0 : Nat) (l0 : List Int) (a1 : Int) (r : Int) (w : World) (hr0 : Kd.C (Kd.int .i64) w A0 l0.length l0) (hc0 : l0.length <= c0) (h : laws_szIntS.f l0 a1 = some r) :
  Calls Try.prog 119 #[.slice A0 l0.length c0, .int .i64 a1] w fun e w' => e = .returned (.int .i64 r) /\ Drawn0 w w' := by
 have HR0 := A_ hr0
 have HC0 := A_ hc0
 clear hr0 hc0
 have H : (if (wrap64 (a1 - (l0.length : Int))) < 0 then (some (-1)) else (some (wrap64 (a1 - (l0.length : Int))))) = some r := h
 clear h
 by_cases c3 : (wrap64 (a1 - (l0.length : Int))) < 0
 ·rw [if_pos c3] at H
  have c3b0 : decide ((wrap64 (a1 - (l0.length : Int))) < 0) = true := decide_eq_true c3
  clear c3
  obtain rfl := Option.some.inj H
  go_enter Try.func119, Try.ntmps119
  go_wp2
  go_ret
  exact ⟨by first | rfl | (simp; done) | (simp [*]; done), by repeat (first | exact Drawn0.refl _ | apply Drawn0.step)⟩
 ·rw [if_neg c3] at H
  have c3b0 : decide ((wrap64 (a1 - (l0.length : Int))) < 0) = false := decide_eq_false c3
  clear c3
  obtain rfl := Option.some.inj H
  go_enter Try.func119, Try.ntmps119
  go_wp2
  go_ret
  exact ⟨by first | rfl | (simp; done) | (simp [*]; done), by repeat (first | exact Drawn0.refl _ | apply Drawn0.step)⟩
def laws_szPage.f (k : Nat) (l0_0 : List ByteArray) (l0_1 : List ByteArray) (l0_2 : List Int) (a1 : Int) : Option (Int) := (laws_szStringS.f k l0_0 a1).bind fun t103 => (if t103 < 0 then (some (-1)) else ((laws_szStringS.f k l0_1 t103).bind fun t104 => (if t104 < 0 then (some (-1)) else ((laws_szIntS.f l0_2 t104).bind fun t105 => (if t105 < 0 then (some (-1)) else (some t105))))))
theorem laws_szPage.calls (k : Nat) (A0_0 : Option Addr) (c0_0 : Nat) (l0_0 : List ByteArray) (A0_1 : Option Addr) (c0_1 : Nat) (l0_1 : List ByteArray) (A0_2 : Option Addr) (c0_2 : Nat) (l0_2 : List Int) (a1 : Int) (r : Int) (w : World) (hr0_0 : Kd.C Kd.string w A0_0 l0_0.length l0_0) (hc0_0 : l0_0.length <= c0_0) (hr0_1 : Kd.C Kd.string w A0_1 l0_1.length l0_1) (hc0_1 : l0_1.length <= c0_1) (hr0_2 : Kd.C (Kd.int .i64) w A0_2 l0_2.length l0_2) (hc0_2 : l0_2.length <= c0_2) (h : laws_szPage.f k l0_0 l0_1 l0_2 a1 = some r) :
  Calls Try.prog 94 #[.agg #[.slice A0_0 l0_0.length c0_0, .slice A0_1 l0_1.length c0_1, .slice A0_2 l0_2.length c0_2], .int .i64 a1] w fun e w' => e = .returned (.int .i64 r) /\ Below w.heap.size w w' := by
 have hu115 := Try.underlying115
 have HR0_0 := A_ hr0_0
 have HC0_0 := A_ hc0_0
 clear hr0_0 hc0_0
 have HR0_1 := A_ hr0_1
 have HC0_1 := A_ hc0_1
 clear hr0_1 hc0_1
 have HR0_2 := A_ hr0_2
 have HC0_2 := A_ hc0_2
 clear hr0_2 hc0_2
 have HB := A_ (Below.refl w.heap.size w)
 have H : ((laws_szStringS.f k l0_0 a1).bind fun t103 => (if t103 < 0 then (some (-1)) else ((laws_szStringS.f k l0_1 t103).bind fun t104 => (if t104 < 0 then (some (-1)) else ((laws_szIntS.f l0_2 t104).bind fun t105 => (if t105 < 0 then (some (-1)) else (some t105))))))) = some r := h
 clear h
 replace H := Option.bind_eq_some_iff.mp H
 obtain ⟨t103, A30, H⟩ := H
 replace H : (if t103 < 0 then (some (-1)) else ((laws_szStringS.f k l0_1 t103).bind fun t104 => (if t104 < 0 then (some (-1)) else ((laws_szIntS.f l0_2 t104).bind fun t105 => (if t105 < 0 then (some (-1)) else (some t105)))))) = some r := H
 have A3 := A_ A30
 clear A30
 by_cases c4 : t103 < 0
 ·rw [if_pos c4] at H
  have c4b0 : decide (t103 < 0) = true := decide_eq_true c4
  clear c4
  obtain rfl := Option.some.inj H
  go_enter Try.func94, Try.ntmps94
  go_wp2_with (first | ((with_reducible refine gate_dst (N := 2) rfl ?_); refine box_event ?hg (N := 2) ?hd (cs := #[.slice A0_0 l0_0.length c0_0, .slice A0_1 l0_1.length c0_1, .slice A0_2 l0_2.length c0_2]) (t := 115) ?hr ?_; (case hd => rfl); (case hg => rfl); (case hr => first | (go_simp; done) | (go_simp; rfl)); intro gb102 hg w5 hbox hb; have n0_ := A_ (bs_ HB.out hb); have n1_ := A_ (hbox); have n2_ := A_ ((by rw [hg]; exact (bw_ HB.out) : w.heap.size <= gb102)); have n3_ := A_ ((by rw [hg]; exact (bw_ HB.out) : w.heap.size <= gb102)); clear HB; have HB := n0_; have BK102 := n1_; have GW102 := n2_; have GE102 := n3_; clear n0_ n1_ n2_ n3_; clear hb hbox hg; have hcz6_0 : w5.cell? ⟨gb102, 0, none⟩ = some (.slice A0_0 l0_0.length c0_0) := (blk_cell BK102.out 0).trans rfl; have hcz6_1 : w5.cell? ⟨gb102, 1, none⟩ = some (.slice A0_1 l0_1.length c0_1) := (blk_cell BK102.out 1).trans rfl; have hcz6_2 : w5.cell? ⟨gb102, 2, none⟩ = some (.slice A0_2 l0_2.length c0_2) := (blk_cell BK102.out 2).trans rfl; have hfz6_0 := blk_frozen BK102.out 0; have hfz6_1 := blk_frozen BK102.out 1; have hfz6_2 := blk_frozen BK102.out 2) | ((with_reducible refine gate_callee (f := 41) rfl ?_); refine goesL_ (some 8) rfl rfl Try.func41 (by kernel_rfl) rfl #[.slice A0_0 l0_0.length c0_0, .int .i64 a1] rfl (ag_) ?_; (with_reducible refine (laws_szStringS.calls k _ _ l0_0 a1 t103 _ ?side1 ?side2 A3.out).mono ?_); (case side1 => refine cd_ ?_; exact (Kd.C_below HR0_0.out HB.out)); (case side2 => exact HC0_0.out); rintro e w' ⟨rfl, ⟨nd, rfl⟩⟩; refine ⟨_, rfl, ?_⟩))
  go_ret
  exact ⟨ew_, by repeat (first | (with_reducible first | exact HB.out | apply below_alloc | apply pw_below_drewN | apply below_drew1 | refine below_set ?_ GE102.out) | exact HB.out)⟩
 ·rw [if_neg c4] at H
  have c4b0 : decide (t103 < 0) = false := decide_eq_false c4
  clear c4
  replace H := Option.bind_eq_some_iff.mp H
  obtain ⟨t104, A70, H⟩ := H
  replace H : (if t104 < 0 then (some (-1)) else ((laws_szIntS.f l0_2 t104).bind fun t105 => (if t105 < 0 then (some (-1)) else (some t105)))) = some r := H
  have A7 := A_ A70
  clear A70
  by_cases c8 : t104 < 0
  ·rw [if_pos c8] at H
   have c8b0 : decide (t104 < 0) = true := decide_eq_true c8
   clear c8
   obtain rfl := Option.some.inj H
   go_enter Try.func94, Try.ntmps94
   go_wp2_with (first | ((with_reducible refine gate_dst (N := 2) rfl ?_); refine box_event ?hg (N := 2) ?hd (cs := #[.slice A0_0 l0_0.length c0_0, .slice A0_1 l0_1.length c0_1, .slice A0_2 l0_2.length c0_2]) (t := 115) ?hr ?_; (case hd => rfl); (case hg => rfl); (case hr => first | (go_simp; done) | (go_simp; rfl)); intro gb102 hg w9 hbox hb; have n0_ := A_ (bs_ HB.out hb); have n1_ := A_ (hbox); have n2_ := A_ ((by rw [hg]; exact (bw_ HB.out) : w.heap.size <= gb102)); have n3_ := A_ ((by rw [hg]; exact (bw_ HB.out) : w.heap.size <= gb102)); clear HB; have HB := n0_; have BK102 := n1_; have GW102 := n2_; have GE102 := n3_; clear n0_ n1_ n2_ n3_; clear hb hbox hg; have hcz10_0 : w9.cell? ⟨gb102, 0, none⟩ = some (.slice A0_0 l0_0.length c0_0) := (blk_cell BK102.out 0).trans rfl; have hcz10_1 : w9.cell? ⟨gb102, 1, none⟩ = some (.slice A0_1 l0_1.length c0_1) := (blk_cell BK102.out 1).trans rfl; have hcz10_2 : w9.cell? ⟨gb102, 2, none⟩ = some (.slice A0_2 l0_2.length c0_2) := (blk_cell BK102.out 2).trans rfl; have hfz10_0 := blk_frozen BK102.out 0; have hfz10_1 := blk_frozen BK102.out 1; have hfz10_2 := blk_frozen BK102.out 2) | ((with_reducible refine gate_callee (f := 41) rfl ?_); refine goesL_ (some 8) rfl rfl Try.func41 (by kernel_rfl) rfl #[.slice A0_0 l0_0.length c0_0, .int .i64 a1] rfl (ag_) ?_; (with_reducible refine (laws_szStringS.calls k _ _ l0_0 a1 t103 _ ?side1 ?side2 A3.out).mono ?_); (case side1 => refine cd_ ?_; exact (Kd.C_below HR0_0.out HB.out)); (case side2 => exact HC0_0.out); rintro e w' ⟨rfl, ⟨nd, rfl⟩⟩; refine ⟨_, rfl, ?_⟩) | ((with_reducible refine gate_callee (f := 41) rfl ?_); refine goesL_ (some 14) rfl rfl Try.func41 (by kernel_rfl) rfl #[.slice A0_1 l0_1.length c0_1, .int .i64 t103] rfl (ag_) ?_; (with_reducible refine (laws_szStringS.calls k _ _ l0_1 t103 t104 _ ?side1 ?side2 A7.out).mono ?_); (case side1 => repeat (first | exact (Kd.C_below HR0_1.out (be_ HB.out)) | (with_reducible refine Kd.C_alloc ?_ _) | (with_reducible refine Kd.C_drewN ?_ _) | (with_reducible refine Kd.C_drew ?_))); (case side2 => exact HC0_1.out); rintro e w' ⟨rfl, ⟨nd, rfl⟩⟩; refine ⟨_, rfl, ?_⟩))
   go_ret
   exact ⟨ew_, by repeat (first | (with_reducible first | exact HB.out | apply below_alloc | apply pw_below_drewN | apply below_drew1 | refine below_set ?_ GE102.out) | exact HB.out)⟩
  ·rw [if_neg c8] at H
   have c8b0 : decide (t104 < 0) = false := decide_eq_false c8
   clear c8
   replace H := Option.bind_eq_some_iff.mp H
   obtain ⟨t105, A110, H⟩ := H
   replace H : (if t105 < 0 then (some (-1)) else (some t105)) = some r := H
   have A11 := A_ A110
   clear A110
   by_cases c12 : t105 < 0
   ·rw [if_pos c12] at H
    have c12b0 : decide (t105 < 0) = true := decide_eq_true c12
    clear c12
    obtain rfl := Option.some.inj H
    go_enter Try.func94, Try.ntmps94
    go_wp2_with (first | ((with_reducible refine gate_dst (N := 2) rfl ?_); refine box_event ?hg (N := 2) ?hd (cs := #[.slice A0_0 l0_0.length c0_0, .slice A0_1 l0_1.length c0_1, .slice A0_2 l0_2.length c0_2]) (t := 115) ?hr ?_; (case hd => rfl); (case hg => rfl); (case hr => first | (go_simp; done) | (go_simp; rfl)); intro gb102 hg w13 hbox hb; have n0_ := A_ (bs_ HB.out hb); have n1_ := A_ (hbox); have n2_ := A_ ((by rw [hg]; exact (bw_ HB.out) : w.heap.size <= gb102)); have n3_ := A_ ((by rw [hg]; exact (bw_ HB.out) : w.heap.size <= gb102)); clear HB; have HB := n0_; have BK102 := n1_; have GW102 := n2_; have GE102 := n3_; clear n0_ n1_ n2_ n3_; clear hb hbox hg; have hcz14_0 : w13.cell? ⟨gb102, 0, none⟩ = some (.slice A0_0 l0_0.length c0_0) := (blk_cell BK102.out 0).trans rfl; have hcz14_1 : w13.cell? ⟨gb102, 1, none⟩ = some (.slice A0_1 l0_1.length c0_1) := (blk_cell BK102.out 1).trans rfl; have hcz14_2 : w13.cell? ⟨gb102, 2, none⟩ = some (.slice A0_2 l0_2.length c0_2) := (blk_cell BK102.out 2).trans rfl; have hfz14_0 := blk_frozen BK102.out 0; have hfz14_1 := blk_frozen BK102.out 1; have hfz14_2 := blk_frozen BK102.out 2) | ((with_reducible refine gate_callee (f := 41) rfl ?_); refine goesL_ (some 8) rfl rfl Try.func41 (by kernel_rfl) rfl #[.slice A0_0 l0_0.length c0_0, .int .i64 a1] rfl (ag_) ?_; (with_reducible refine (laws_szStringS.calls k _ _ l0_0 a1 t103 _ ?side1 ?side2 A3.out).mono ?_); (case side1 => refine cd_ ?_; exact (Kd.C_below HR0_0.out HB.out)); (case side2 => exact HC0_0.out); rintro e w' ⟨rfl, ⟨nd, rfl⟩⟩; refine ⟨_, rfl, ?_⟩) | ((with_reducible refine gate_callee (f := 41) rfl ?_); refine goesL_ (some 14) rfl rfl Try.func41 (by kernel_rfl) rfl #[.slice A0_1 l0_1.length c0_1, .int .i64 t103] rfl (ag_) ?_; (with_reducible refine (laws_szStringS.calls k _ _ l0_1 t103 t104 _ ?side1 ?side2 A7.out).mono ?_); (case side1 => repeat (first | exact (Kd.C_below HR0_1.out (be_ HB.out)) | (with_reducible refine Kd.C_alloc ?_ _) | (with_reducible refine Kd.C_drewN ?_ _) | (with_reducible refine Kd.C_drew ?_))); (case side2 => exact HC0_1.out); rintro e w' ⟨rfl, ⟨nd, rfl⟩⟩; refine ⟨_, rfl, ?_⟩) | ((with_reducible refine gate_callee (f := 119) rfl ?_); refine goesL_ (some 20) rfl rfl Try.func119 (by kernel_rfl) rfl #[.slice A0_2 l0_2.length c0_2, .int .i64 t104] rfl (ag_) ?_; (with_reducible refine (laws_szIntS.calls _ _ l0_2 t104 t105 _ ?side1 ?side2 A11.out).mono ?_); (case side1 => repeat (first | exact (Kd.C_below HR0_2.out (be_ HB.out)) | (with_reducible refine Kd.C_alloc ?_ _) | (with_reducible refine Kd.C_drewN ?_ _) | (with_reducible refine Kd.C_drew ?_))); (case side2 => exact HC0_2.out); rintro e w' ⟨rfl, ⟨nd, rfl⟩⟩; refine ⟨_, rfl, ?_⟩))
    go_ret
    exact ⟨ew_, by repeat (first | (with_reducible first | exact HB.out | apply below_alloc | apply pw_below_drewN | apply below_drew1 | refine below_set ?_ GE102.out) | exact HB.out)⟩
   ·rw [if_neg c12] at H
    have c12b0 : decide (t105 < 0) = false := decide_eq_false c12
    clear c12
    obtain rfl := Option.some.inj H
    go_enter Try.func94, Try.ntmps94
    go_wp2_with (first | ((with_reducible refine gate_dst (N := 2) rfl ?_); refine box_event ?hg (N := 2) ?hd (cs := #[.slice A0_0 l0_0.length c0_0, .slice A0_1 l0_1.length c0_1, .slice A0_2 l0_2.length c0_2]) (t := 115) ?hr ?_; (case hd => rfl); (case hg => rfl); (case hr => first | (go_simp; done) | (go_simp; rfl)); intro gb102 hg w15 hbox hb; have n0_ := A_ (bs_ HB.out hb); have n1_ := A_ (hbox); have n2_ := A_ ((by rw [hg]; exact (bw_ HB.out) : w.heap.size <= gb102)); have n3_ := A_ ((by rw [hg]; exact (bw_ HB.out) : w.heap.size <= gb102)); clear HB; have HB := n0_; have BK102 := n1_; have GW102 := n2_; have GE102 := n3_; clear n0_ n1_ n2_ n3_; clear hb hbox hg; have hcz16_0 : w15.cell? ⟨gb102, 0, none⟩ = some (.slice A0_0 l0_0.length c0_0) := (blk_cell BK102.out 0).trans rfl; have hcz16_1 : w15.cell? ⟨gb102, 1, none⟩ = some (.slice A0_1 l0_1.length c0_1) := (blk_cell BK102.out 1).trans rfl; have hcz16_2 : w15.cell? ⟨gb102, 2, none⟩ = some (.slice A0_2 l0_2.length c0_2) := (blk_cell BK102.out 2).trans rfl; have hfz16_0 := blk_frozen BK102.out 0; have hfz16_1 := blk_frozen BK102.out 1; have hfz16_2 := blk_frozen BK102.out 2) | ((with_reducible refine gate_callee (f := 41) rfl ?_); refine goesL_ (some 8) rfl rfl Try.func41 (by kernel_rfl) rfl #[.slice A0_0 l0_0.length c0_0, .int .i64 a1] rfl (ag_) ?_; (with_reducible refine (laws_szStringS.calls k _ _ l0_0 a1 t103 _ ?side1 ?side2 A3.out).mono ?_); (case side1 => refine cd_ ?_; exact (Kd.C_below HR0_0.out HB.out)); (case side2 => exact HC0_0.out); rintro e w' ⟨rfl, ⟨nd, rfl⟩⟩; refine ⟨_, rfl, ?_⟩) | ((with_reducible refine gate_callee (f := 41) rfl ?_); refine goesL_ (some 14) rfl rfl Try.func41 (by kernel_rfl) rfl #[.slice A0_1 l0_1.length c0_1, .int .i64 t103] rfl (ag_) ?_; (with_reducible refine (laws_szStringS.calls k _ _ l0_1 t103 t104 _ ?side1 ?side2 A7.out).mono ?_); (case side1 => repeat (first | exact (Kd.C_below HR0_1.out (be_ HB.out)) | (with_reducible refine Kd.C_alloc ?_ _) | (with_reducible refine Kd.C_drewN ?_ _) | (with_reducible refine Kd.C_drew ?_))); (case side2 => exact HC0_1.out); rintro e w' ⟨rfl, ⟨nd, rfl⟩⟩; refine ⟨_, rfl, ?_⟩) | ((with_reducible refine gate_callee (f := 119) rfl ?_); refine goesL_ (some 20) rfl rfl Try.func119 (by kernel_rfl) rfl #[.slice A0_2 l0_2.length c0_2, .int .i64 t104] rfl (ag_) ?_; (with_reducible refine (laws_szIntS.calls _ _ l0_2 t104 t105 _ ?side1 ?side2 A11.out).mono ?_); (case side1 => repeat (first | exact (Kd.C_below HR0_2.out (be_ HB.out)) | (with_reducible refine Kd.C_alloc ?_ _) | (with_reducible refine Kd.C_drewN ?_ _) | (with_reducible refine Kd.C_drew ?_))); (case side2 => exact HC0_2.out); rintro e w' ⟨rfl, ⟨nd, rfl⟩⟩; refine ⟨_, rfl, ?_⟩))
    go_ret
    exact ⟨ew_, by repeat (first | (with_reducible first | exact HB.out | apply below_alloc | apply pw_below_drewN | apply below_drew1 | refine below_set ?_ GE102.out) | exact HB.out)⟩
def laws_szPageS.l0 : Nat -> List (S115) -> Int -> Int -> Option (Int)
 | 0, _, _, _ => none
 | k + 1, x0, x1, x5 => if x5 < (x0.length : Int) then (if 0 <= x5 then ((laws_szPage.f k ((rd_T115 x0 x5).f0) ((rd_T115 x0 x5).f1) ((rd_T115 x0 x5).f2) x1).bind fun t107 => (if t107 < 0 then (some (-1)) else (laws_szPageS.l0 k x0 t107 (wrap64 (x5 + 1))))) else (none)) else (some x1)
def laws_szPageS.f (k : Nat) (l0 : List (S115)) (a1 : Int) : Option (Int) := if (wrap64 (a1 - (l0.length : Int))) < 0 then (some (-1)) else (laws_szPageS.l0 k l0 (wrap64 (a1 - (l0.length : Int))) 0)
theorem laws_szPageS.calls (k : Nat) (A0 : Option Addr) (c0 : Nat) (l0 : List (S115)) (a1 : Int) (r : Int) (w : World) (hr0 : Kd.C k115 w A0 l0.length l0) (hc0 : l0.length <= c0) (h : laws_szPageS.f k l0 a1 = some r) :
  Calls Try.prog 56 #[.slice A0 l0.length c0, .int .i64 a1] w fun e w' => e = .returned (.int .i64 r) /\ Below w.heap.size w w' := by
 have hu115 := Try.underlying115
 have HR0 := A_ hr0
 have HC0 := A_ hc0
 clear hr0 hc0
 have HB := A_ (Below.refl w.heap.size w)
 have H : (if (wrap64 (a1 - (l0.length : Int))) < 0 then (some (-1)) else (laws_szPageS.l0 k l0 (wrap64 (a1 - (l0.length : Int))) 0)) = some r := h
 clear h
 by_cases c3 : (wrap64 (a1 - (l0.length : Int))) < 0
 ·rw [if_pos c3] at H
  have c3b0 : decide ((wrap64 (a1 - (l0.length : Int))) < 0) = true := decide_eq_true c3
  clear c3
  obtain rfl := Option.some.inj H
  go_enter Try.func56, Try.ntmps56
  go_wp2
  go_ret
  exact ⟨ew_, by repeat (first | (with_reducible first | exact HB.out | apply below_alloc | apply pw_below_drewN | apply below_drew1) | exact HB.out)⟩
 ·rw [if_neg c3] at H
  have c3b0 : decide ((wrap64 (a1 - (l0.length : Int))) < 0) = false := decide_eq_false c3
  clear c3
  have H' := A_ H
  clear H
  go_enter Try.func56, Try.ntmps56
  go_wp2
  go_loopg [1, 5] k (fun kq v1 v5 w' => ∃ (x1_1 : Int) (x5_1 : Int), v1 = .int .i64 x1_1 /\ v5 = .int .i64 x5_1 /\ Aside0 (laws_szPageS.l0 kq l0 x1_1 x5_1 = some r) /\ Aside0 (kq <= k) /\ Aside0 (Below w.heap.size w w'))
  case atStart => exact ⟨(wrap64 (a1 - (l0.length : Int))), (0), (by first | rfl | (simp; done) | (simp [*]; done)), (by first | rfl | (simp; done) | (simp [*]; done)), H', ⟨Nat.le_refl _⟩, ⟨be_ HB.out⟩⟩
  case round =>
   clear H'
   (try clear p2); (try clear c3); (try clear c3b0)
   obtain ⟨x1_1, x5_1, rfl, rfl, HA, HK1, HB⟩ := hrel
   cases gk with
   | zero => exact absurd HA.out (by simp [laws_szPageS.l0])
   | succ k1 =>
    have H := HA.out
    clear HA
    simp only [laws_szPageS.l0] at H
    by_cases c4 : x5_1 < (l0.length : Int)
    ·rw [if_pos c4] at H
     have c4b0 : decide (x5_1 < (l0.length : Int)) = true := decide_eq_true c4
     clear c4
     by_cases c5 : 0 <= x5_1
     ·rw [if_pos c5] at H
      have c5b0 : decide (0 <= x5_1) = true := decide_eq_true c5
      clear c5
      replace H := Option.bind_eq_some_iff.mp H
      obtain ⟨t107, A60, H⟩ := H
      replace H : (if t107 < 0 then (some (-1)) else (laws_szPageS.l0 k1 l0 t107 (wrap64 (x5_1 + 1)))) = some r := H
      have A6 := A_ A60
      clear A60
      by_cases c7 : t107 < 0
      ·rw [if_pos c7] at H
       have c7b0 : decide (t107 < 0) = true := decide_eq_true c7
       clear c7
       obtain rfl := Option.some.inj H
       have p106 : 0 <= (x5_1 : Int) := of_decide_eq_true as_
       have q106 : x5_1 < (l0.length : Int) := of_decide_eq_true as_
       obtain ⟨ad106, A106_0, c106_0, A106_1, c106_1, A106_2, c106_2, e106, hx106_0, hx106_1, hx106_2, hl106_0, hi106_0, hl106_1, hi106_1, hl106_2, hi106_2⟩ := at_T115 HR0.out x5_1 p106 q106
       cases e106
       replace hx106_0 := (HB.out.cell (World.block_lt_of_cell? w _ hx106_0)).trans hx106_0
       replace hx106_1 := (HB.out.cell (World.block_lt_of_cell? w _ hx106_1)).trans hx106_1
       replace hx106_2 := (HB.out.cell (World.block_lt_of_cell? w _ hx106_2)).trans hx106_2
       have HR106_0 := A_ hi106_0
       have HC106_0 := A_ hl106_0
       clear hi106_0 hl106_0
       have HR106_1 := A_ hi106_1
       have HC106_1 := A_ hl106_1
       clear hi106_1 hl106_1
       have HR106_2 := A_ hi106_2
       have HC106_2 := A_ hl106_2
       clear hi106_2 hl106_2
       replace p106 := eq_true p106
       replace q106 := eq_true q106
       go_wp2_with (first | ((with_reducible refine gate_callee (f := 94) rfl ?_); refine goesL_ (some 23) rfl rfl Try.func94 (by kernel_rfl) rfl #[.agg #[.slice A106_0 ((rd_T115 l0 x5_1).f0).length c106_0, .slice A106_1 ((rd_T115 l0 x5_1).f1).length c106_1, .slice A106_2 ((rd_T115 l0 x5_1).f2).length c106_2], .int .i64 x1_1] rfl (ag_) ?_; (with_reducible refine (laws_szPage.calls k1 _ _ ((rd_T115 l0 x5_1).f0) _ _ ((rd_T115 l0 x5_1).f1) _ _ ((rd_T115 l0 x5_1).f2) x1_1 t107 _ ?side1 ?side2 ?side3 ?side4 ?side5 ?side6 A6.out).mono ?_); (case side1 => refine cd_ ?_; exact (Kd.C_below HR106_0.out HB.out)); (case side2 => exact HC106_0.out); (case side3 => refine cd_ ?_; exact (Kd.C_below HR106_1.out HB.out)); (case side4 => exact HC106_1.out); (case side5 => refine cd_ ?_; exact (Kd.C_below HR106_2.out HB.out)); (case side6 => exact HC106_2.out); rintro e w8 ⟨rfl, hb⟩; refine ⟨_, rfl, ?_⟩; have n0_ := A_ (bs_ HB.out hb); clear HB; have HB := n0_; clear n0_; (try clear hb); (try clear hb2); (try clear hk); (try clear hi)))
       go_ret
       exact ⟨ew_, by repeat (first | (with_reducible first | exact HB.out | apply below_alloc | apply pw_below_drewN | apply below_drew1) | exact HB.out)⟩
      ·rw [if_neg c7] at H
       have c7b0 : decide (t107 < 0) = false := decide_eq_false c7
       clear c7
       have H' := A_ H
       clear H
       have p106 : 0 <= (x5_1 : Int) := of_decide_eq_true as_
       have q106 : x5_1 < (l0.length : Int) := of_decide_eq_true as_
       obtain ⟨ad106, A106_0, c106_0, A106_1, c106_1, A106_2, c106_2, e106, hx106_0, hx106_1, hx106_2, hl106_0, hi106_0, hl106_1, hi106_1, hl106_2, hi106_2⟩ := at_T115 HR0.out x5_1 p106 q106
       cases e106
       replace hx106_0 := (HB.out.cell (World.block_lt_of_cell? w _ hx106_0)).trans hx106_0
       replace hx106_1 := (HB.out.cell (World.block_lt_of_cell? w _ hx106_1)).trans hx106_1
       replace hx106_2 := (HB.out.cell (World.block_lt_of_cell? w _ hx106_2)).trans hx106_2
       have HR106_0 := A_ hi106_0
       have HC106_0 := A_ hl106_0
       clear hi106_0 hl106_0
       have HR106_1 := A_ hi106_1
       have HC106_1 := A_ hl106_1
       clear hi106_1 hl106_1
       have HR106_2 := A_ hi106_2
       have HC106_2 := A_ hl106_2
       clear hi106_2 hl106_2
       replace p106 := eq_true p106
       replace q106 := eq_true q106
       go_wp2_with (first | ((with_reducible refine gate_callee (f := 94) rfl ?_); refine goesL_ (some 23) rfl rfl Try.func94 (by kernel_rfl) rfl #[.agg #[.slice A106_0 ((rd_T115 l0 x5_1).f0).length c106_0, .slice A106_1 ((rd_T115 l0 x5_1).f1).length c106_1, .slice A106_2 ((rd_T115 l0 x5_1).f2).length c106_2], .int .i64 x1_1] rfl (ag_) ?_; (with_reducible refine (laws_szPage.calls k1 _ _ ((rd_T115 l0 x5_1).f0) _ _ ((rd_T115 l0 x5_1).f1) _ _ ((rd_T115 l0 x5_1).f2) x1_1 t107 _ ?side1 ?side2 ?side3 ?side4 ?side5 ?side6 A6.out).mono ?_); (case side1 => refine cd_ ?_; exact (Kd.C_below HR106_0.out HB.out)); (case side2 => exact HC106_0.out); (case side3 => refine cd_ ?_; exact (Kd.C_below HR106_1.out HB.out)); (case side4 => exact HC106_1.out); (case side5 => refine cd_ ?_; exact (Kd.C_below HR106_2.out HB.out)); (case side6 => exact HC106_2.out); rintro e w9 ⟨rfl, hb⟩; refine ⟨_, rfl, ?_⟩; have n0_ := A_ (bs_ HB.out hb); clear HB; have HB := n0_; clear n0_; (try clear hb); (try clear hb2); (try clear hk); (try clear hi)))
       go_roundg k1
       case measure => have := HK1.out; omega
       case rel => exact ⟨(t107), (wrap64 (x5_1 + 1)), (by first | rfl | (simp; done) | (simp [*]; done)), (by first | rfl | (simp; done) | (simp [*]; done)), H', ⟨by have := HK1.out; omega⟩, ⟨be_ HB.out⟩⟩
     ·rw [if_neg c5] at H
      exact absurd H (by simp)
    ·rw [if_neg c4] at H
     have c4b0 : decide (x5_1 < (l0.length : Int)) = false := decide_eq_false c4
     clear c4
     obtain rfl := Option.some.inj H
     go_wp2
     go_ret
     exact ⟨ew_, by repeat (first | (with_reducible first | exact HB.out | apply below_alloc | apply pw_below_drewN | apply below_drew1) | exact HB.out)⟩
def laws_szTree.f (k : Nat) (l0_0 : List (S115)) (a1 : Int) : Option (Int) := (laws_szPageS.f k l0_0 a1).bind fun t109 => (if t109 < 0 then (some (-1)) else (some t109))
theorem laws_szTree.calls (k : Nat) (A0_0 : Option Addr) (c0_0 : Nat) (l0_0 : List (S115)) (a1 : Int) (r : Int) (w : World) (hr0_0 : Kd.C k115 w A0_0 l0_0.length l0_0) (hc0_0 : l0_0.length <= c0_0) (h : laws_szTree.f k l0_0 a1 = some r) :
  Calls Try.prog 15 #[.agg #[.slice A0_0 l0_0.length c0_0], .int .i64 a1] w fun e w' => e = .returned (.int .i64 r) /\ Below w.heap.size w w' := by
 have hu24 := Try.underlying24
 have HR0_0 := A_ hr0_0
 have HC0_0 := A_ hc0_0
 clear hr0_0 hc0_0
 have HB := A_ (Below.refl w.heap.size w)
 have H : ((laws_szPageS.f k l0_0 a1).bind fun t109 => (if t109 < 0 then (some (-1)) else (some t109))) = some r := h
 clear h
 replace H := Option.bind_eq_some_iff.mp H
 obtain ⟨t109, A30, H⟩ := H
 replace H : (if t109 < 0 then (some (-1)) else (some t109)) = some r := H
 have A3 := A_ A30
 clear A30
 by_cases c4 : t109 < 0
 ·rw [if_pos c4] at H
  have c4b0 : decide (t109 < 0) = true := decide_eq_true c4
  clear c4
  obtain rfl := Option.some.inj H
  go_enter Try.func15, Try.ntmps15
  go_wp2_with (first | ((with_reducible refine gate_dst (N := 2) rfl ?_); refine box_event ?hg (N := 2) ?hd (cs := #[.slice A0_0 l0_0.length c0_0]) (t := 24) ?hr ?_; (case hd => rfl); (case hg => rfl); (case hr => first | (go_simp; done) | (go_simp; rfl)); intro gb108 hg w5 hbox hb; have n0_ := A_ (bs_ HB.out hb); have n1_ := A_ (hbox); have n2_ := A_ ((by rw [hg]; exact (bw_ HB.out) : w.heap.size <= gb108)); have n3_ := A_ ((by rw [hg]; exact (bw_ HB.out) : w.heap.size <= gb108)); clear HB; have HB := n0_; have BK108 := n1_; have GW108 := n2_; have GE108 := n3_; clear n0_ n1_ n2_ n3_; clear hb hbox hg; have hcz6_0 : w5.cell? ⟨gb108, 0, none⟩ = some (.slice A0_0 l0_0.length c0_0) := (blk_cell BK108.out 0).trans rfl; have hfz6_0 := blk_frozen BK108.out 0) | ((with_reducible refine gate_callee (f := 56) rfl ?_); refine goesL_ (some 8) rfl rfl Try.func56 (by kernel_rfl) rfl #[.slice A0_0 l0_0.length c0_0, .int .i64 a1] rfl (ag_) ?_; (with_reducible refine (laws_szPageS.calls k _ _ l0_0 a1 t109 _ ?side1 ?side2 A3.out).mono ?_); (case side1 => refine cd_ ?_; exact (Kd.C_below HR0_0.out HB.out)); (case side2 => exact HC0_0.out); rintro e w7 ⟨rfl, hb⟩; refine ⟨_, rfl, ?_⟩; have n0_ := A_ (blk_below (g := gb108) (o := .cells #[.slice A0_0 l0_0.length c0_0] 24 (0, 0)) (pk_ BK108.out) hb); have n1_ := A_ (bs_ HB.out hb); clear BK108; clear HB; have BK108 := n0_; have HB := n1_; clear n0_ n1_; (try clear hb); (try clear hb2); (try clear hk); (try clear hi)))
  go_ret
  exact ⟨ew_, by repeat (first | (with_reducible first | exact HB.out | apply below_alloc | apply pw_below_drewN | apply below_drew1 | refine below_set ?_ GE108.out) | exact HB.out)⟩
 ·rw [if_neg c4] at H
  have c4b0 : decide (t109 < 0) = false := decide_eq_false c4
  clear c4
  obtain rfl := Option.some.inj H
  go_enter Try.func15, Try.ntmps15
  go_wp2_with (first | ((with_reducible refine gate_dst (N := 2) rfl ?_); refine box_event ?hg (N := 2) ?hd (cs := #[.slice A0_0 l0_0.length c0_0]) (t := 24) ?hr ?_; (case hd => rfl); (case hg => rfl); (case hr => first | (go_simp; done) | (go_simp; rfl)); intro gb108 hg w8 hbox hb; have n0_ := A_ (bs_ HB.out hb); have n1_ := A_ (hbox); have n2_ := A_ ((by rw [hg]; exact (bw_ HB.out) : w.heap.size <= gb108)); have n3_ := A_ ((by rw [hg]; exact (bw_ HB.out) : w.heap.size <= gb108)); clear HB; have HB := n0_; have BK108 := n1_; have GW108 := n2_; have GE108 := n3_; clear n0_ n1_ n2_ n3_; clear hb hbox hg; have hcz9_0 : w8.cell? ⟨gb108, 0, none⟩ = some (.slice A0_0 l0_0.length c0_0) := (blk_cell BK108.out 0).trans rfl; have hfz9_0 := blk_frozen BK108.out 0) | ((with_reducible refine gate_callee (f := 56) rfl ?_); refine goesL_ (some 8) rfl rfl Try.func56 (by kernel_rfl) rfl #[.slice A0_0 l0_0.length c0_0, .int .i64 a1] rfl (ag_) ?_; (with_reducible refine (laws_szPageS.calls k _ _ l0_0 a1 t109 _ ?side1 ?side2 A3.out).mono ?_); (case side1 => refine cd_ ?_; exact (Kd.C_below HR0_0.out HB.out)); (case side2 => exact HC0_0.out); rintro e w10 ⟨rfl, hb⟩; refine ⟨_, rfl, ?_⟩; have n0_ := A_ (blk_below (g := gb108) (o := .cells #[.slice A0_0 l0_0.length c0_0] 24 (0, 0)) (pk_ BK108.out) hb); have n1_ := A_ (bs_ HB.out hb); clear BK108; clear HB; have BK108 := n0_; have HB := n1_; clear n0_ n1_; (try clear hb); (try clear hb2); (try clear hk); (try clear hi)))
  go_ret
  exact ⟨ew_, by repeat (first | (with_reducible first | exact HB.out | apply below_alloc | apply pw_below_drewN | apply below_drew1 | refine below_set ?_ GE108.out) | exact HB.out)⟩
def laws_eqPage.f (k : Nat) (l0_0 : List ByteArray) (l0_1 : List ByteArray) (l0_2 : List Int) (l1_0 : List ByteArray) (l1_1 : List ByteArray) (l1_2 : List Int) : Option (Bool) := (laws_eqStringS.f k l0_0 l1_0).bind fun t158 => (if t158 = true then ((laws_eqStringS.f k l0_1 l1_1).bind fun t159 => (if t159 = true then ((laws_eqIntS.f k l0_2 l1_2).bind fun t160 => (if t160 = true then (some true) else (some false))) else (some false))) else (some false))
theorem laws_eqPage.calls (k : Nat) (A0_0 : Option Addr) (c0_0 : Nat) (l0_0 : List ByteArray) (A0_1 : Option Addr) (c0_1 : Nat) (l0_1 : List ByteArray) (A0_2 : Option Addr) (c0_2 : Nat) (l0_2 : List Int) (A1_0 : Option Addr) (c1_0 : Nat) (l1_0 : List ByteArray) (A1_1 : Option Addr) (c1_1 : Nat) (l1_1 : List ByteArray) (A1_2 : Option Addr) (c1_2 : Nat) (l1_2 : List Int) (r : Bool) (w : World) (hr0_0 : Kd.C Kd.string w A0_0 l0_0.length l0_0) (hc0_0 : l0_0.length <= c0_0) (hr0_1 : Kd.C Kd.string w A0_1 l0_1.length l0_1) (hc0_1 : l0_1.length <= c0_1) (hr0_2 : Kd.C (Kd.int .i64) w A0_2 l0_2.length l0_2) (hc0_2 : l0_2.length <= c0_2) (hr1_0 : Kd.C Kd.string w A1_0 l1_0.length l1_0) (hc1_0 : l1_0.length <= c1_0) (hr1_1 : Kd.C Kd.string w A1_1 l1_1.length l1_1) (hc1_1 : l1_1.length <= c1_1) (hr1_2 : Kd.C (Kd.int .i64) w A1_2 l1_2.length l1_2) (hc1_2 : l1_2.length <= c1_2) (h : laws_eqPage.f k l0_0 l0_1 l0_2 l1_0 l1_1 l1_2 = some r) :
  Calls Try.prog 98 #[.agg #[.slice A0_0 l0_0.length c0_0, .slice A0_1 l0_1.length c0_1, .slice A0_2 l0_2.length c0_2], .agg #[.slice A1_0 l1_0.length c1_0, .slice A1_1 l1_1.length c1_1, .slice A1_2 l1_2.length c1_2]] w fun e w' => e = .returned (.bool r) /\ Below w.heap.size w w' := by
 have hu110 := Try.underlying110
 have HR0_0 := A_ hr0_0
 have HC0_0 := A_ hc0_0
 clear hr0_0 hc0_0
 have HR0_1 := A_ hr0_1
 have HC0_1 := A_ hc0_1
 clear hr0_1 hc0_1
 have HR0_2 := A_ hr0_2
 have HC0_2 := A_ hc0_2
 clear hr0_2 hc0_2
 have HR1_0 := A_ hr1_0
 have HC1_0 := A_ hc1_0
 clear hr1_0 hc1_0
 have HR1_1 := A_ hr1_1
 have HC1_1 := A_ hc1_1
 clear hr1_1 hc1_1
 have HR1_2 := A_ hr1_2
 have HC1_2 := A_ hc1_2
 clear hr1_2 hc1_2
 have HB := A_ (Below.refl w.heap.size w)
 have H : ((laws_eqStringS.f k l0_0 l1_0).bind fun t158 => (if t158 = true then ((laws_eqStringS.f k l0_1 l1_1).bind fun t159 => (if t159 = true then ((laws_eqIntS.f k l0_2 l1_2).bind fun t160 => (if t160 = true then (some true) else (some false))) else (some false))) else (some false))) = some r := h
 clear h
 replace H := Option.bind_eq_some_iff.mp H
 obtain ⟨t158, A30, H⟩ := H
 replace H : (if t158 = true then ((laws_eqStringS.f k l0_1 l1_1).bind fun t159 => (if t159 = true then ((laws_eqIntS.f k l0_2 l1_2).bind fun t160 => (if t160 = true then (some true) else (some false))) else (some false))) else (some false)) = some r := H
 have A3 := A_ A30
 clear A30
 by_cases c4 : t158 = true
 ·subst c4
  have H1 : ((laws_eqStringS.f k l0_1 l1_1).bind fun t159 => (if t159 = true then ((laws_eqIntS.f k l0_2 l1_2).bind fun t160 => (if t160 = true then (some true) else (some false))) else (some false))) = some r := by rw [if_pos rfl] at H; exact H
  clear H
  have H := H1
  clear H1
  replace H := Option.bind_eq_some_iff.mp H
  obtain ⟨t159, A50, H⟩ := H
  replace H : (if t159 = true then ((laws_eqIntS.f k l0_2 l1_2).bind fun t160 => (if t160 = true then (some true) else (some false))) else (some false)) = some r := H
  have A5 := A_ A50
  clear A50
  by_cases c6 : t159 = true
  ·subst c6
   have H1 : ((laws_eqIntS.f k l0_2 l1_2).bind fun t160 => (if t160 = true then (some true) else (some false))) = some r := by rw [if_pos rfl] at H; exact H
   clear H
   have H := H1
   clear H1
   replace H := Option.bind_eq_some_iff.mp H
   obtain ⟨t160, A70, H⟩ := H
   replace H : (if t160 = true then (some true) else (some false)) = some r := H
   have A7 := A_ A70
   clear A70
   by_cases c8 : t160 = true
   ·subst c8
    have H1 : (some true) = some r := by rw [if_pos rfl] at H; exact H
    clear H
    have H := H1
    clear H1
    obtain rfl := Option.some.inj H
    go_enter Try.func98, Try.ntmps98
    go_wp2_with (first | ((with_reducible refine gate_dst (N := 2) rfl ?_); refine box_event ?hg (N := 2) ?hd (cs := #[.slice A0_0 l0_0.length c0_0, .slice A0_1 l0_1.length c0_1, .slice A0_2 l0_2.length c0_2]) (t := 110) ?hr ?_; (case hd => rfl); (case hg => rfl); (case hr => first | (go_simp; done) | (go_simp; rfl)); intro gb156 hg w9 hbox hb; have n0_ := A_ (bs_ HB.out hb); have n1_ := A_ (hbox); have n2_ := A_ ((by rw [hg]; exact (bw_ HB.out) : w.heap.size <= gb156)); have n3_ := A_ ((by rw [hg]; exact (bw_ HB.out) : w.heap.size <= gb156)); clear HB; have HB := n0_; have BK156 := n1_; have GW156 := n2_; have GE156 := n3_; clear n0_ n1_ n2_ n3_; clear hb hbox hg) | ((with_reducible refine gate_dst (N := 3) rfl ?_); refine box_event ?hg (N := 3) ?hd (cs := #[.slice A1_0 l1_0.length c1_0, .slice A1_1 l1_1.length c1_1, .slice A1_2 l1_2.length c1_2]) (t := 110) ?hr ?_; (case hd => rfl); (case hg => rfl); (case hr => first | (go_simp; done) | (go_simp; rfl)); intro gb157 hg w10 hbox hb; have n0_ := A_ (blk_below (g := gb156) (o := .cells #[.slice A0_0 l0_0.length c0_0, .slice A0_1 l0_1.length c0_1, .slice A0_2 l0_2.length c0_2] 110 (0, 0)) (pk_ BK156.out) hb); have n1_ := A_ (bs_ HB.out hb); have n2_ := A_ (hbox); have n3_ := A_ ((by rw [hg]; exact (bw_ HB.out) : w.heap.size <= gb157)); have n4_ := A_ ((by rw [hg]; exact (bw_ HB.out) : w.heap.size <= gb157)); have n5_ := A_ ((by rw [hg]; exact Nat.ne_of_lt (blk_lt (g := gb156) (o := .cells #[.slice A0_0 l0_0.length c0_0, .slice A0_1 l0_1.length c0_1, .slice A0_2 l0_2.length c0_2] 110 (0, 0)) (pk_ BK156.out)) : gb156 ≠ gb157)); have n6_ := A_ ((by rw [hg]; exact Nat.ne_of_gt (blk_lt (g := gb156) (o := .cells #[.slice A0_0 l0_0.length c0_0, .slice A0_1 l0_1.length c0_1, .slice A0_2 l0_2.length c0_2] 110 (0, 0)) (pk_ BK156.out)) : gb157 ≠ gb156)); clear BK156; clear HB; have BK156 := n0_; have HB := n1_; have BK157 := n2_; have GW157 := n3_; have GE157 := n4_; have NB156_157 := n5_; have NB157_156 := n6_; clear n0_ n1_ n2_ n3_ n4_ n5_ n6_; clear hb hbox hg; have hnb11 := NB156_157.out; have hnc11 := NB157_156.out; have hcz12_0 : w10.cell? ⟨gb156, 0, none⟩ = some (.slice A0_0 l0_0.length c0_0) := (blk_cell BK156.out 0).trans rfl; have hcz12_1 : w10.cell? ⟨gb156, 1, none⟩ = some (.slice A0_1 l0_1.length c0_1) := (blk_cell BK156.out 1).trans rfl; have hcz12_2 : w10.cell? ⟨gb156, 2, none⟩ = some (.slice A0_2 l0_2.length c0_2) := (blk_cell BK156.out 2).trans rfl; have hfz12_0 := blk_frozen BK156.out 0; have hfz12_1 := blk_frozen BK156.out 1; have hfz12_2 := blk_frozen BK156.out 2; have hcz13_0 : w10.cell? ⟨gb157, 0, none⟩ = some (.slice A1_0 l1_0.length c1_0) := (blk_cell BK157.out 0).trans rfl; have hcz13_1 : w10.cell? ⟨gb157, 1, none⟩ = some (.slice A1_1 l1_1.length c1_1) := (blk_cell BK157.out 1).trans rfl; have hcz13_2 : w10.cell? ⟨gb157, 2, none⟩ = some (.slice A1_2 l1_2.length c1_2) := (blk_cell BK157.out 2).trans rfl; have hfz13_0 := blk_frozen BK157.out 0; have hfz13_1 := blk_frozen BK157.out 1; have hfz13_2 := blk_frozen BK157.out 2) | ((with_reducible refine gate_callee (f := 26) rfl ?_); refine goesL_ (some 9) rfl rfl Try.func26 (by kernel_rfl) rfl #[.slice A0_0 l0_0.length c0_0, .slice A1_0 l1_0.length c1_0] rfl (ag_) ?_; (with_reducible refine (laws_eqStringS.calls k _ _ l0_0 _ _ l1_0 true _ ?side1 ?side2 ?side3 ?side4 A3.out).mono ?_); (case side1 => refine cd_ ?_; exact (Kd.C_below HR0_0.out HB.out)); (case side2 => exact HC0_0.out); (case side3 => refine cd_ ?_; exact (Kd.C_below HR1_0.out HB.out)); (case side4 => exact HC1_0.out); rintro e w' ⟨rfl, ⟨nd, rfl⟩⟩; refine ⟨_, rfl, ?_⟩) | ((with_reducible refine gate_callee (f := 26) rfl ?_); refine goesL_ (some 15) rfl rfl Try.func26 (by kernel_rfl) rfl #[.slice A0_1 l0_1.length c0_1, .slice A1_1 l1_1.length c1_1] rfl (ag_) ?_; (with_reducible refine (laws_eqStringS.calls k _ _ l0_1 _ _ l1_1 true _ ?side1 ?side2 ?side3 ?side4 A5.out).mono ?_); (case side1 => repeat (first | exact (Kd.C_below HR0_1.out (be_ HB.out)) | (with_reducible refine Kd.C_alloc ?_ _) | (with_reducible refine Kd.C_drewN ?_ _) | (with_reducible refine Kd.C_drew ?_))); (case side2 => exact HC0_1.out); (case side3 => repeat (first | exact (Kd.C_below HR1_1.out (be_ HB.out)) | (with_reducible refine Kd.C_alloc ?_ _) | (with_reducible refine Kd.C_drewN ?_ _) | (with_reducible refine Kd.C_drew ?_))); (case side4 => exact HC1_1.out); rintro e w' ⟨rfl, ⟨nd, rfl⟩⟩; refine ⟨_, rfl, ?_⟩) | ((with_reducible refine gate_callee (f := 121) rfl ?_); refine goesL_ (some 21) rfl rfl Try.func121 (by kernel_rfl) rfl #[.slice A0_2 l0_2.length c0_2, .slice A1_2 l1_2.length c1_2] rfl (ag_) ?_; (with_reducible refine (laws_eqIntS.calls k _ _ l0_2 _ _ l1_2 true _ ?side1 ?side2 ?side3 ?side4 A7.out).mono ?_); (case side1 => repeat (first | exact (Kd.C_below HR0_2.out (be_ HB.out)) | (with_reducible refine Kd.C_alloc ?_ _) | (with_reducible refine Kd.C_drewN ?_ _) | (with_reducible refine Kd.C_drew ?_))); (case side2 => exact HC0_2.out); (case side3 => repeat (first | exact (Kd.C_below HR1_2.out (be_ HB.out)) | (with_reducible refine Kd.C_alloc ?_ _) | (with_reducible refine Kd.C_drewN ?_ _) | (with_reducible refine Kd.C_drew ?_))); (case side4 => exact HC1_2.out); rintro e w' ⟨rfl, ⟨nd, rfl⟩⟩; refine ⟨_, rfl, ?_⟩))
    go_ret
    exact ⟨ew_, by repeat (first | (with_reducible first | exact HB.out | apply below_alloc | apply pw_below_drewN | apply below_drew1 | refine below_set ?_ GE156.out | refine below_set ?_ GE157.out) | exact HB.out)⟩
   ·replace c8 := Bool.eq_false_iff.mpr c8
    subst c8
    have H1 : (some false) = some r := by rw [if_neg (show ¬ (false = true) by decide)] at H; exact H
    clear H
    have H := H1
    clear H1
    obtain rfl := Option.some.inj H
    go_enter Try.func98, Try.ntmps98
    go_wp2_with (first | ((with_reducible refine gate_dst (N := 2) rfl ?_); refine box_event ?hg (N := 2) ?hd (cs := #[.slice A0_0 l0_0.length c0_0, .slice A0_1 l0_1.length c0_1, .slice A0_2 l0_2.length c0_2]) (t := 110) ?hr ?_; (case hd => rfl); (case hg => rfl); (case hr => first | (go_simp; done) | (go_simp; rfl)); intro gb156 hg w14 hbox hb; have n0_ := A_ (bs_ HB.out hb); have n1_ := A_ (hbox); have n2_ := A_ ((by rw [hg]; exact (bw_ HB.out) : w.heap.size <= gb156)); have n3_ := A_ ((by rw [hg]; exact (bw_ HB.out) : w.heap.size <= gb156)); clear HB; have HB := n0_; have BK156 := n1_; have GW156 := n2_; have GE156 := n3_; clear n0_ n1_ n2_ n3_; clear hb hbox hg) | ((with_reducible refine gate_dst (N := 3) rfl ?_); refine box_event ?hg (N := 3) ?hd (cs := #[.slice A1_0 l1_0.length c1_0, .slice A1_1 l1_1.length c1_1, .slice A1_2 l1_2.length c1_2]) (t := 110) ?hr ?_; (case hd => rfl); (case hg => rfl); (case hr => first | (go_simp; done) | (go_simp; rfl)); intro gb157 hg w15 hbox hb; have n0_ := A_ (blk_below (g := gb156) (o := .cells #[.slice A0_0 l0_0.length c0_0, .slice A0_1 l0_1.length c0_1, .slice A0_2 l0_2.length c0_2] 110 (0, 0)) (pk_ BK156.out) hb); have n1_ := A_ (bs_ HB.out hb); have n2_ := A_ (hbox); have n3_ := A_ ((by rw [hg]; exact (bw_ HB.out) : w.heap.size <= gb157)); have n4_ := A_ ((by rw [hg]; exact (bw_ HB.out) : w.heap.size <= gb157)); have n5_ := A_ ((by rw [hg]; exact Nat.ne_of_lt (blk_lt (g := gb156) (o := .cells #[.slice A0_0 l0_0.length c0_0, .slice A0_1 l0_1.length c0_1, .slice A0_2 l0_2.length c0_2] 110 (0, 0)) (pk_ BK156.out)) : gb156 ≠ gb157)); have n6_ := A_ ((by rw [hg]; exact Nat.ne_of_gt (blk_lt (g := gb156) (o := .cells #[.slice A0_0 l0_0.length c0_0, .slice A0_1 l0_1.length c0_1, .slice A0_2 l0_2.length c0_2] 110 (0, 0)) (pk_ BK156.out)) : gb157 ≠ gb156)); clear BK156; clear HB; have BK156 := n0_; have HB := n1_; have BK157 := n2_; have GW157 := n3_; have GE157 := n4_; have NB156_157 := n5_; have NB157_156 := n6_; clear n0_ n1_ n2_ n3_ n4_ n5_ n6_; clear hb hbox hg; have hnb16 := NB156_157.out; have hnc16 := NB157_156.out; have hcz17_0 : w15.cell? ⟨gb156, 0, none⟩ = some (.slice A0_0 l0_0.length c0_0) := (blk_cell BK156.out 0).trans rfl; have hcz17_1 : w15.cell? ⟨gb156, 1, none⟩ = some (.slice A0_1 l0_1.length c0_1) := (blk_cell BK156.out 1).trans rfl; have hcz17_2 : w15.cell? ⟨gb156, 2, none⟩ = some (.slice A0_2 l0_2.length c0_2) := (blk_cell BK156.out 2).trans rfl; have hfz17_0 := blk_frozen BK156.out 0; have hfz17_1 := blk_frozen BK156.out 1; have hfz17_2 := blk_frozen BK156.out 2; have hcz18_0 : w15.cell? ⟨gb157, 0, none⟩ = some (.slice A1_0 l1_0.length c1_0) := (blk_cell BK157.out 0).trans rfl; have hcz18_1 : w15.cell? ⟨gb157, 1, none⟩ = some (.slice A1_1 l1_1.length c1_1) := (blk_cell BK157.out 1).trans rfl; have hcz18_2 : w15.cell? ⟨gb157, 2, none⟩ = some (.slice A1_2 l1_2.length c1_2) := (blk_cell BK157.out 2).trans rfl; have hfz18_0 := blk_frozen BK157.out 0; have hfz18_1 := blk_frozen BK157.out 1; have hfz18_2 := blk_frozen BK157.out 2) | ((with_reducible refine gate_callee (f := 26) rfl ?_); refine goesL_ (some 9) rfl rfl Try.func26 (by kernel_rfl) rfl #[.slice A0_0 l0_0.length c0_0, .slice A1_0 l1_0.length c1_0] rfl (ag_) ?_; (with_reducible refine (laws_eqStringS.calls k _ _ l0_0 _ _ l1_0 true _ ?side1 ?side2 ?side3 ?side4 A3.out).mono ?_); (case side1 => refine cd_ ?_; exact (Kd.C_below HR0_0.out HB.out)); (case side2 => exact HC0_0.out); (case side3 => refine cd_ ?_; exact (Kd.C_below HR1_0.out HB.out)); (case side4 => exact HC1_0.out); rintro e w' ⟨rfl, ⟨nd, rfl⟩⟩; refine ⟨_, rfl, ?_⟩) | ((with_reducible refine gate_callee (f := 26) rfl ?_); refine goesL_ (some 15) rfl rfl Try.func26 (by kernel_rfl) rfl #[.slice A0_1 l0_1.length c0_1, .slice A1_1 l1_1.length c1_1] rfl (ag_) ?_; (with_reducible refine (laws_eqStringS.calls k _ _ l0_1 _ _ l1_1 true _ ?side1 ?side2 ?side3 ?side4 A5.out).mono ?_); (case side1 => repeat (first | exact (Kd.C_below HR0_1.out (be_ HB.out)) | (with_reducible refine Kd.C_alloc ?_ _) | (with_reducible refine Kd.C_drewN ?_ _) | (with_reducible refine Kd.C_drew ?_))); (case side2 => exact HC0_1.out); (case side3 => repeat (first | exact (Kd.C_below HR1_1.out (be_ HB.out)) | (with_reducible refine Kd.C_alloc ?_ _) | (with_reducible refine Kd.C_drewN ?_ _) | (with_reducible refine Kd.C_drew ?_))); (case side4 => exact HC1_1.out); rintro e w' ⟨rfl, ⟨nd, rfl⟩⟩; refine ⟨_, rfl, ?_⟩) | ((with_reducible refine gate_callee (f := 121) rfl ?_); refine goesL_ (some 21) rfl rfl Try.func121 (by kernel_rfl) rfl #[.slice A0_2 l0_2.length c0_2, .slice A1_2 l1_2.length c1_2] rfl (ag_) ?_; (with_reducible refine (laws_eqIntS.calls k _ _ l0_2 _ _ l1_2 false _ ?side1 ?side2 ?side3 ?side4 A7.out).mono ?_); (case side1 => repeat (first | exact (Kd.C_below HR0_2.out (be_ HB.out)) | (with_reducible refine Kd.C_alloc ?_ _) | (with_reducible refine Kd.C_drewN ?_ _) | (with_reducible refine Kd.C_drew ?_))); (case side2 => exact HC0_2.out); (case side3 => repeat (first | exact (Kd.C_below HR1_2.out (be_ HB.out)) | (with_reducible refine Kd.C_alloc ?_ _) | (with_reducible refine Kd.C_drewN ?_ _) | (with_reducible refine Kd.C_drew ?_))); (case side4 => exact HC1_2.out); rintro e w' ⟨rfl, ⟨nd, rfl⟩⟩; refine ⟨_, rfl, ?_⟩))
    go_ret
    exact ⟨ew_, by repeat (first | (with_reducible first | exact HB.out | apply below_alloc | apply pw_below_drewN | apply below_drew1 | refine below_set ?_ GE156.out | refine below_set ?_ GE157.out) | exact HB.out)⟩
  ·replace c6 := Bool.eq_false_iff.mpr c6
   subst c6
   have H1 : (some false) = some r := by rw [if_neg (show ¬ (false = true) by decide)] at H; exact H
   clear H
   have H := H1
   clear H1
   obtain rfl := Option.some.inj H
   go_enter Try.func98, Try.ntmps98
   go_wp2_with (first | ((with_reducible refine gate_dst (N := 2) rfl ?_); refine box_event ?hg (N := 2) ?hd (cs := #[.slice A0_0 l0_0.length c0_0, .slice A0_1 l0_1.length c0_1, .slice A0_2 l0_2.length c0_2]) (t := 110) ?hr ?_; (case hd => rfl); (case hg => rfl); (case hr => first | (go_simp; done) | (go_simp; rfl)); intro gb156 hg w19 hbox hb; have n0_ := A_ (bs_ HB.out hb); have n1_ := A_ (hbox); have n2_ := A_ ((by rw [hg]; exact (bw_ HB.out) : w.heap.size <= gb156)); have n3_ := A_ ((by rw [hg]; exact (bw_ HB.out) : w.heap.size <= gb156)); clear HB; have HB := n0_; have BK156 := n1_; have GW156 := n2_; have GE156 := n3_; clear n0_ n1_ n2_ n3_; clear hb hbox hg) | ((with_reducible refine gate_dst (N := 3) rfl ?_); refine box_event ?hg (N := 3) ?hd (cs := #[.slice A1_0 l1_0.length c1_0, .slice A1_1 l1_1.length c1_1, .slice A1_2 l1_2.length c1_2]) (t := 110) ?hr ?_; (case hd => rfl); (case hg => rfl); (case hr => first | (go_simp; done) | (go_simp; rfl)); intro gb157 hg w20 hbox hb; have n0_ := A_ (blk_below (g := gb156) (o := .cells #[.slice A0_0 l0_0.length c0_0, .slice A0_1 l0_1.length c0_1, .slice A0_2 l0_2.length c0_2] 110 (0, 0)) (pk_ BK156.out) hb); have n1_ := A_ (bs_ HB.out hb); have n2_ := A_ (hbox); have n3_ := A_ ((by rw [hg]; exact (bw_ HB.out) : w.heap.size <= gb157)); have n4_ := A_ ((by rw [hg]; exact (bw_ HB.out) : w.heap.size <= gb157)); have n5_ := A_ ((by rw [hg]; exact Nat.ne_of_lt (blk_lt (g := gb156) (o := .cells #[.slice A0_0 l0_0.length c0_0, .slice A0_1 l0_1.length c0_1, .slice A0_2 l0_2.length c0_2] 110 (0, 0)) (pk_ BK156.out)) : gb156 ≠ gb157)); have n6_ := A_ ((by rw [hg]; exact Nat.ne_of_gt (blk_lt (g := gb156) (o := .cells #[.slice A0_0 l0_0.length c0_0, .slice A0_1 l0_1.length c0_1, .slice A0_2 l0_2.length c0_2] 110 (0, 0)) (pk_ BK156.out)) : gb157 ≠ gb156)); clear BK156; clear HB; have BK156 := n0_; have HB := n1_; have BK157 := n2_; have GW157 := n3_; have GE157 := n4_; have NB156_157 := n5_; have NB157_156 := n6_; clear n0_ n1_ n2_ n3_ n4_ n5_ n6_; clear hb hbox hg; have hnb21 := NB156_157.out; have hnc21 := NB157_156.out; have hcz22_0 : w20.cell? ⟨gb156, 0, none⟩ = some (.slice A0_0 l0_0.length c0_0) := (blk_cell BK156.out 0).trans rfl; have hcz22_1 : w20.cell? ⟨gb156, 1, none⟩ = some (.slice A0_1 l0_1.length c0_1) := (blk_cell BK156.out 1).trans rfl; have hcz22_2 : w20.cell? ⟨gb156, 2, none⟩ = some (.slice A0_2 l0_2.length c0_2) := (blk_cell BK156.out 2).trans rfl; have hfz22_0 := blk_frozen BK156.out 0; have hfz22_1 := blk_frozen BK156.out 1; have hfz22_2 := blk_frozen BK156.out 2; have hcz23_0 : w20.cell? ⟨gb157, 0, none⟩ = some (.slice A1_0 l1_0.length c1_0) := (blk_cell BK157.out 0).trans rfl; have hcz23_1 : w20.cell? ⟨gb157, 1, none⟩ = some (.slice A1_1 l1_1.length c1_1) := (blk_cell BK157.out 1).trans rfl; have hcz23_2 : w20.cell? ⟨gb157, 2, none⟩ = some (.slice A1_2 l1_2.length c1_2) := (blk_cell BK157.out 2).trans rfl; have hfz23_0 := blk_frozen BK157.out 0; have hfz23_1 := blk_frozen BK157.out 1; have hfz23_2 := blk_frozen BK157.out 2) | ((with_reducible refine gate_callee (f := 26) rfl ?_); refine goesL_ (some 9) rfl rfl Try.func26 (by kernel_rfl) rfl #[.slice A0_0 l0_0.length c0_0, .slice A1_0 l1_0.length c1_0] rfl (ag_) ?_; (with_reducible refine (laws_eqStringS.calls k _ _ l0_0 _ _ l1_0 true _ ?side1 ?side2 ?side3 ?side4 A3.out).mono ?_); (case side1 => refine cd_ ?_; exact (Kd.C_below HR0_0.out HB.out)); (case side2 => exact HC0_0.out); (case side3 => refine cd_ ?_; exact (Kd.C_below HR1_0.out HB.out)); (case side4 => exact HC1_0.out); rintro e w' ⟨rfl, ⟨nd, rfl⟩⟩; refine ⟨_, rfl, ?_⟩) | ((with_reducible refine gate_callee (f := 26) rfl ?_); refine goesL_ (some 15) rfl rfl Try.func26 (by kernel_rfl) rfl #[.slice A0_1 l0_1.length c0_1, .slice A1_1 l1_1.length c1_1] rfl (ag_) ?_; (with_reducible refine (laws_eqStringS.calls k _ _ l0_1 _ _ l1_1 false _ ?side1 ?side2 ?side3 ?side4 A5.out).mono ?_); (case side1 => repeat (first | exact (Kd.C_below HR0_1.out (be_ HB.out)) | (with_reducible refine Kd.C_alloc ?_ _) | (with_reducible refine Kd.C_drewN ?_ _) | (with_reducible refine Kd.C_drew ?_))); (case side2 => exact HC0_1.out); (case side3 => repeat (first | exact (Kd.C_below HR1_1.out (be_ HB.out)) | (with_reducible refine Kd.C_alloc ?_ _) | (with_reducible refine Kd.C_drewN ?_ _) | (with_reducible refine Kd.C_drew ?_))); (case side4 => exact HC1_1.out); rintro e w' ⟨rfl, ⟨nd, rfl⟩⟩; refine ⟨_, rfl, ?_⟩))
   go_ret
   exact ⟨ew_, by repeat (first | (with_reducible first | exact HB.out | apply below_alloc | apply pw_below_drewN | apply below_drew1 | refine below_set ?_ GE156.out | refine below_set ?_ GE157.out) | exact HB.out)⟩
 ·replace c4 := Bool.eq_false_iff.mpr c4
  subst c4
  have H1 : (some false) = some r := by rw [if_neg (show ¬ (false = true) by decide)] at H; exact H
  clear H
  have H := H1
  clear H1
  obtain rfl := Option.some.inj H
  go_enter Try.func98, Try.ntmps98
  go_wp2_with (first | ((with_reducible refine gate_dst (N := 2) rfl ?_); refine box_event ?hg (N := 2) ?hd (cs := #[.slice A0_0 l0_0.length c0_0, .slice A0_1 l0_1.length c0_1, .slice A0_2 l0_2.length c0_2]) (t := 110) ?hr ?_; (case hd => rfl); (case hg => rfl); (case hr => first | (go_simp; done) | (go_simp; rfl)); intro gb156 hg w24 hbox hb; have n0_ := A_ (bs_ HB.out hb); have n1_ := A_ (hbox); have n2_ := A_ ((by rw [hg]; exact (bw_ HB.out) : w.heap.size <= gb156)); have n3_ := A_ ((by rw [hg]; exact (bw_ HB.out) : w.heap.size <= gb156)); clear HB; have HB := n0_; have BK156 := n1_; have GW156 := n2_; have GE156 := n3_; clear n0_ n1_ n2_ n3_; clear hb hbox hg) | ((with_reducible refine gate_dst (N := 3) rfl ?_); refine box_event ?hg (N := 3) ?hd (cs := #[.slice A1_0 l1_0.length c1_0, .slice A1_1 l1_1.length c1_1, .slice A1_2 l1_2.length c1_2]) (t := 110) ?hr ?_; (case hd => rfl); (case hg => rfl); (case hr => first | (go_simp; done) | (go_simp; rfl)); intro gb157 hg w25 hbox hb; have n0_ := A_ (blk_below (g := gb156) (o := .cells #[.slice A0_0 l0_0.length c0_0, .slice A0_1 l0_1.length c0_1, .slice A0_2 l0_2.length c0_2] 110 (0, 0)) (pk_ BK156.out) hb); have n1_ := A_ (bs_ HB.out hb); have n2_ := A_ (hbox); have n3_ := A_ ((by rw [hg]; exact (bw_ HB.out) : w.heap.size <= gb157)); have n4_ := A_ ((by rw [hg]; exact (bw_ HB.out) : w.heap.size <= gb157)); have n5_ := A_ ((by rw [hg]; exact Nat.ne_of_lt (blk_lt (g := gb156) (o := .cells #[.slice A0_0 l0_0.length c0_0, .slice A0_1 l0_1.length c0_1, .slice A0_2 l0_2.length c0_2] 110 (0, 0)) (pk_ BK156.out)) : gb156 ≠ gb157)); have n6_ := A_ ((by rw [hg]; exact Nat.ne_of_gt (blk_lt (g := gb156) (o := .cells #[.slice A0_0 l0_0.length c0_0, .slice A0_1 l0_1.length c0_1, .slice A0_2 l0_2.length c0_2] 110 (0, 0)) (pk_ BK156.out)) : gb157 ≠ gb156)); clear BK156; clear HB; have BK156 := n0_; have HB := n1_; have BK157 := n2_; have GW157 := n3_; have GE157 := n4_; have NB156_157 := n5_; have NB157_156 := n6_; clear n0_ n1_ n2_ n3_ n4_ n5_ n6_; clear hb hbox hg; have hnb26 := NB156_157.out; have hnc26 := NB157_156.out; have hcz27_0 : w25.cell? ⟨gb156, 0, none⟩ = some (.slice A0_0 l0_0.length c0_0) := (blk_cell BK156.out 0).trans rfl; have hcz27_1 : w25.cell? ⟨gb156, 1, none⟩ = some (.slice A0_1 l0_1.length c0_1) := (blk_cell BK156.out 1).trans rfl; have hcz27_2 : w25.cell? ⟨gb156, 2, none⟩ = some (.slice A0_2 l0_2.length c0_2) := (blk_cell BK156.out 2).trans rfl; have hfz27_0 := blk_frozen BK156.out 0; have hfz27_1 := blk_frozen BK156.out 1; have hfz27_2 := blk_frozen BK156.out 2; have hcz28_0 : w25.cell? ⟨gb157, 0, none⟩ = some (.slice A1_0 l1_0.length c1_0) := (blk_cell BK157.out 0).trans rfl; have hcz28_1 : w25.cell? ⟨gb157, 1, none⟩ = some (.slice A1_1 l1_1.length c1_1) := (blk_cell BK157.out 1).trans rfl; have hcz28_2 : w25.cell? ⟨gb157, 2, none⟩ = some (.slice A1_2 l1_2.length c1_2) := (blk_cell BK157.out 2).trans rfl; have hfz28_0 := blk_frozen BK157.out 0; have hfz28_1 := blk_frozen BK157.out 1; have hfz28_2 := blk_frozen BK157.out 2) | ((with_reducible refine gate_callee (f := 26) rfl ?_); refine goesL_ (some 9) rfl rfl Try.func26 (by kernel_rfl) rfl #[.slice A0_0 l0_0.length c0_0, .slice A1_0 l1_0.length c1_0] rfl (ag_) ?_; (with_reducible refine (laws_eqStringS.calls k _ _ l0_0 _ _ l1_0 false _ ?side1 ?side2 ?side3 ?side4 A3.out).mono ?_); (case side1 => refine cd_ ?_; exact (Kd.C_below HR0_0.out HB.out)); (case side2 => exact HC0_0.out); (case side3 => refine cd_ ?_; exact (Kd.C_below HR1_0.out HB.out)); (case side4 => exact HC1_0.out); rintro e w' ⟨rfl, ⟨nd, rfl⟩⟩; refine ⟨_, rfl, ?_⟩))
  go_ret
  exact ⟨ew_, by repeat (first | (with_reducible first | exact HB.out | apply below_alloc | apply pw_below_drewN | apply below_drew1 | refine below_set ?_ GE156.out | refine below_set ?_ GE157.out) | exact HB.out)⟩
def laws_eqPageS.l0 : Nat -> List (S110) -> List (S110) -> Int -> Option (Bool)
 | 0, _, _, _ => none
 | k + 1, x0, x1, x5 => if x5 < (x0.length : Int) then (if 0 <= x5 then (if x5 < (x1.length : Int) then ((laws_eqPage.f k ((rd_T110 x0 x5).f0) ((rd_T110 x0 x5).f1) ((rd_T110 x0 x5).f2) ((rd_T110 x1 x5).f0) ((rd_T110 x1 x5).f1) ((rd_T110 x1 x5).f2)).bind fun t163 => (if t163 = true then (laws_eqPageS.l0 k x0 x1 (wrap64 (x5 + 1))) else (some false))) else (none)) else (none)) else (some true)
def laws_eqPageS.f (k : Nat) (l0 : List (S110)) (l1 : List (S110)) : Option (Bool) := if (l0.length : Int) = (l1.length : Int) then (laws_eqPageS.l0 k l0 l1 0) else (some false)
def laws_eqPageS.T6 : Bool × List (List Nat × List Nat) := (true, [([], []), ([], []), ([0, 1], [0, 1]), ([2], [2]), ([], []), ([], []), ([4, 5], [4, 5]), ([6], [6]), ([3, 7], [3, 7]), ([8], [8])])
def laws_eqPageS.B6 : List Nat := [0, 0, 3, 7, 0, 0, 48, 112, 255, 511]
theorem laws_eqPageS.tab6 : rtab .any (opsOf Try.f60 6) = laws_eqPageS.T6 := by kernel_rfl
theorem laws_eqPageS.bits6 : waitsOk laws_eqPageS.T6.2 laws_eqPageS.B6 = true := by kernel_rfl
theorem laws_eqPageS.calls (k : Nat) (A0 : Option Addr) (c0 : Nat) (l0 : List (S110)) (A1 : Option Addr) (c1 : Nat) (l1 : List (S110)) (r : Bool) (w : World) (hr0 : Kd.C k110 w A0 l0.length l0) (hc0 : l0.length <= c0) (hr1 : Kd.C k110 w A1 l1.length l1) (hc1 : l1.length <= c1) (h : laws_eqPageS.f k l0 l1 = some r) :
  Calls Try.prog 60 #[.slice A0 l0.length c0, .slice A1 l1.length c1] w fun e w' => e = .returned (.bool r) /\ Below w.heap.size w w' := by
 have hu110 := Try.underlying110
 have HR0 := A_ hr0
 have HC0 := A_ hc0
 clear hr0 hc0
 have HR1 := A_ hr1
 have HC1 := A_ hc1
 clear hr1 hc1
 have HB := A_ (Below.refl w.heap.size w)
 have H : (if (l0.length : Int) = (l1.length : Int) then (laws_eqPageS.l0 k l0 l1 0) else (some false)) = some r := h
 clear h
 by_cases c3 : (l0.length : Int) = (l1.length : Int)
 ·rw [if_pos c3] at H
  have c3b0 : ((l0.length : Int) == (l1.length : Int)) = true := beq_iff_eq.mpr c3
  have c3b1 : ((l0.length : Int) != (l1.length : Int)) = false := bne_eq_false_iff_eq.mpr c3
  have c3b2 : (l0.length == l1.length) = true := by first | simpa using c3 | (simp at c3 ⊢; omega)
  clear c3
  have H' := A_ H
  clear H
  go_enter Try.func60, Try.ntmps60
  go_wp2
  go_loopg [5] k (fun kq v5 w' => ∃ (x5_1 : Int), v5 = .int .i64 x5_1 /\ Aside0 (laws_eqPageS.l0 kq l0 l1 x5_1 = some r) /\ Aside0 (kq <= k) /\ Aside0 (Below w.heap.size w w'))
  case atStart => exact ⟨(0), (by first | rfl | (simp; done) | (simp [*]; done)), H', ⟨Nat.le_refl _⟩, ⟨be_ HB.out⟩⟩
  case round =>
   clear H'
   (try clear c1); (try clear p2); (try clear c3); (try clear c3b0); (try clear c3b1); (try clear c3b2)
   obtain ⟨x5_1, rfl, HA, HK1, HB⟩ := hrel
   cases gk with
   | zero => exact absurd HA.out (by simp [laws_eqPageS.l0])
   | succ k1 =>
    have H := HA.out
    clear HA
    simp only [laws_eqPageS.l0] at H
    by_cases c4 : x5_1 < (l0.length : Int)
    ·rw [if_pos c4] at H
     have c4b0 : decide (x5_1 < (l0.length : Int)) = true := decide_eq_true c4
     clear c4
     by_cases c5 : 0 <= x5_1
     ·rw [if_pos c5] at H
      have c5b0 : decide (0 <= x5_1) = true := decide_eq_true c5
      clear c5
      by_cases c6 : x5_1 < (l1.length : Int)
      ·rw [if_pos c6] at H
       have c6b0 : decide (x5_1 < (l1.length : Int)) = true := decide_eq_true c6
       clear c6
       replace H := Option.bind_eq_some_iff.mp H
       obtain ⟨t163, A70, H⟩ := H
       replace H : (if t163 = true then (laws_eqPageS.l0 k1 l0 l1 (wrap64 (x5_1 + 1))) else (some false)) = some r := H
       have A7 := A_ A70
       clear A70
       by_cases c8 : t163 = true
       ·subst c8
        have H1 : (laws_eqPageS.l0 k1 l0 l1 (wrap64 (x5_1 + 1))) = some r := by rw [if_pos rfl] at H; exact H
        clear H
        have H := H1
        clear H1
        have H' := A_ H
        clear H
        try go_wp2
        replace HB := A_ (below_drew1 HB.out)
        have p161 : 0 <= (x5_1 : Int) := of_decide_eq_true as_
        have q161 : x5_1 < (l0.length : Int) := of_decide_eq_true as_
        obtain ⟨ad161, A161_0, c161_0, A161_1, c161_1, A161_2, c161_2, e161, hx161_0, hx161_1, hx161_2, hl161_0, hi161_0, hl161_1, hi161_1, hl161_2, hi161_2⟩ := at_T110 HR0.out x5_1 p161 q161
        have hw161_2 := hx161_2
        have hw161_1 := hx161_1
        have hw161_0 := hx161_0
        cases e161
        replace hx161_0 := (HB.out.cell (World.block_lt_of_cell? w _ hx161_0)).trans hx161_0
        replace hx161_1 := (HB.out.cell (World.block_lt_of_cell? w _ hx161_1)).trans hx161_1
        replace hx161_2 := (HB.out.cell (World.block_lt_of_cell? w _ hx161_2)).trans hx161_2
        have HR161_0 := A_ hi161_0
        have HC161_0 := A_ hl161_0
        clear hi161_0 hl161_0
        have HR161_1 := A_ hi161_1
        have HC161_1 := A_ hl161_1
        clear hi161_1 hl161_1
        have HR161_2 := A_ hi161_2
        have HC161_2 := A_ hl161_2
        clear hi161_2 hl161_2
        replace p161 := eq_true p161
        replace q161 := eq_true q161
        have p162 : 0 <= (x5_1 : Int) := of_decide_eq_true as_
        have q162 : x5_1 < (l1.length : Int) := of_decide_eq_true as_
        obtain ⟨ad162, A162_0, c162_0, A162_1, c162_1, A162_2, c162_2, e162, hx162_0, hx162_1, hx162_2, hl162_0, hi162_0, hl162_1, hi162_1, hl162_2, hi162_2⟩ := at_T110 HR1.out x5_1 p162 q162
        have hw162_2 := hx162_2
        have hw162_1 := hx162_1
        have hw162_0 := hx162_0
        cases e162
        replace hx162_0 := (HB.out.cell (World.block_lt_of_cell? w _ hx162_0)).trans hx162_0
        replace hx162_1 := (HB.out.cell (World.block_lt_of_cell? w _ hx162_1)).trans hx162_1
        replace hx162_2 := (HB.out.cell (World.block_lt_of_cell? w _ hx162_2)).trans hx162_2
        have HR162_0 := A_ hi162_0
        have HC162_0 := A_ hl162_0
        clear hi162_0 hl162_0
        have HR162_1 := A_ hi162_1
        have HC162_1 := A_ hl162_1
        clear hi162_1 hl162_1
        have HR162_2 := A_ hi162_2
        have HC162_2 := A_ hl162_2
        clear hi162_2 hl162_2
        replace p162 := eq_true p162
        replace q162 := eq_true q162
        refine start_ (n := 10) (S := fun w' => w'.cell? (ad161.add ((x5_1).toNat * 3)) = some (.slice A161_0 ((rd_T110 l0 x5_1).f0).length c161_0) /\ w'.cell? ⟨(ad161.add ((x5_1).toNat * 3)).block, (ad161.add ((x5_1).toNat * 3)).off + 1, none⟩ = some (.slice A161_1 ((rd_T110 l0 x5_1).f1).length c161_1) /\ w'.cell? ⟨(ad161.add ((x5_1).toNat * 3)).block, (ad161.add ((x5_1).toNat * 3)).off + 2, none⟩ = some (.slice A161_2 ((rd_T110 l0 x5_1).f2).length c161_2) /\ w'.cell? (ad162.add ((x5_1).toNat * 3)) = some (.slice A162_0 ((rd_T110 l1 x5_1).f0).length c162_0) /\ w'.cell? ⟨(ad162.add ((x5_1).toNat * 3)).block, (ad162.add ((x5_1).toNat * 3)).off + 1, none⟩ = some (.slice A162_1 ((rd_T110 l1 x5_1).f1).length c162_1) /\ w'.cell? ⟨(ad162.add ((x5_1).toNat * 3)).block, (ad162.add ((x5_1).toNat * 3)).off + 2, none⟩ = some (.slice A162_2 ((rd_T110 l1 x5_1).f2).length c162_2)) (ds := []) (bt 10 0) (by kernel_rfl) rfl rfl ⟨((HB.out.cell (World.block_lt_of_cell? w _ hw161_0)).trans hw161_0), ((HB.out.cell (World.block_lt_of_cell? w _ hw161_1)).trans hw161_1), ((HB.out.cell (World.block_lt_of_cell? w _ hw161_2)).trans hw161_2), ((HB.out.cell (World.block_lt_of_cell? w _ hw162_0)).trans hw162_0), ((HB.out.cell (World.block_lt_of_cell? w _ hw162_1)).trans hw162_1), ((HB.out.cell (World.block_lt_of_cell? w _ hw162_2)).trans hw162_2)⟩ (fun hHeld => ?_); refine with_tabW laws_eqPageS.tab6 laws_eqPageS.bits6 (fun HT_ HW_ => ?_)
        generalize wr.drew = w9 at HB HR161_0 HR161_1 HR161_2 HR162_0 HR162_1 HR162_2 hx161_0 hx161_1 hx161_2 hx162_0 hx162_1 hx162_2 hHeld ⊢
        refine pure_ (i := 0) (N := some 17) (v := ?_) (a' := ?_) (bt 10 1) rfl rfl (any_of HT_.out (by kernel_rfl)) (fun _ _ _ h => h) (Or.inl ⟨by rfl, ?_⟩) ?_ ?_
        rotate_left; · (intro w'; go_simp; with_reducible rfl)
        rotate_left; · (simp only [Act.put, sx_, wx_]; rfl)
        refine pure_ (i := 1) (N := some 18) (v := ?_) (a' := ?_) (bt 10 3) rfl rfl (any_of HT_.out (by kernel_rfl)) (fun _ _ _ h => h) (Or.inl ⟨by rfl, ?_⟩) ?_ ?_
        rotate_left; · (intro w'; go_simp; with_reducible rfl)
        rotate_left; · (simp only [Act.put, sx_, wx_]; rfl)
        refine pure_ (i := 2) (N := some 19) (v := ?_) (a' := ?_) (bt 10 7) rfl rfl (any_of HT_.out (by kernel_rfl)) (fun _ _ _ h => h) (Or.inl ⟨by rfl, ?_⟩) ?_ ?_
        rotate_left; · (intro w'; go_simp; with_reducible rfl)
        rotate_left; · (simp only [Act.put, sx_, wx_]; rfl)
        refine pure_ (i := 4) (N := some 21) (v := ?_) (a' := ?_) (bt 10 23) rfl rfl (any_of HT_.out (by kernel_rfl)) (fun _ _ _ h => h) (Or.inl ⟨by rfl, ?_⟩) ?_ ?_
        rotate_left; · (intro w'; go_simp; with_reducible rfl)
        rotate_left; · (simp only [Act.put, sx_, wx_]; rfl)
        refine pure_ (i := 5) (N := some 22) (v := ?_) (a' := ?_) (bt 10 55) rfl rfl (any_of HT_.out (by kernel_rfl)) (fun _ _ _ h => h) (Or.inl ⟨by rfl, ?_⟩) ?_ ?_
        rotate_left; · (intro w'; go_simp; with_reducible rfl)
        rotate_left; · (simp only [Act.put, sx_, wx_]; rfl)
        refine pure_ (i := 6) (N := some 23) (v := ?_) (a' := ?_) (bt 10 119) rfl rfl (any_of HT_.out (by kernel_rfl)) (fun _ _ _ h => h) (Or.inl ⟨by rfl, ?_⟩) ?_ ?_
        rotate_left; · (intro w'; go_simp; with_reducible rfl)
        rotate_left; · (simp only [Act.put, sx_, wx_]; rfl)
        refine take_ (i := 3) (N := some 20) (v := ?_) (a' := ?_) (bt 10 127) rfl rfl (take_ofW HT_.out HW_.out (by kernel_rfl)) (fun _ _ _ h => h) (Or.inl ⟨by rfl, ?_⟩) hHeld ?_ ?_
        rotate_left
        ·rintro w' ⟨s0, s1, s2, s3, s4, s5⟩
         go_simp
         with_reducible rfl
        rotate_left
        ·simp only [Act.put, sx_, wx_]
         rfl
        refine take_ (i := 7) (N := some 24) (v := ?_) (a' := ?_) (bt 10 255) rfl rfl (take_ofW HT_.out HW_.out (by kernel_rfl)) (fun _ _ _ h => h) (Or.inl ⟨by rfl, ?_⟩) hHeld ?_ ?_
        rotate_left
        ·rintro w' ⟨s0, s1, s2, s3, s4, s5⟩
         go_simp
         with_reducible rfl
        rotate_left
        ·simp only [Act.put, sx_, wx_]
         rfl
        refine one_ (i := 8) (N := some 25) (bt 10 511) rfl rfl (one_of HT_.out (by kernel_rfl)) (by decide) (fun K hK => ?_)
        refine goes_ Try.func98 (by kernel_rfl) rfl #[.agg #[.slice A161_0 ((rd_T110 l0 x5_1).f0).length c161_0, .slice A161_1 ((rd_T110 l0 x5_1).f1).length c161_1, .slice A161_2 ((rd_T110 l0 x5_1).f2).length c161_2], .agg #[.slice A162_0 ((rd_T110 l1 x5_1).f0).length c162_0, .slice A162_1 ((rd_T110 l1 x5_1).f1).length c162_1, .slice A162_2 ((rd_T110 l1 x5_1).f2).length c162_2]] (by rfl) rfl rfl (ag_) ?_
        with_reducible refine (laws_eqPage.calls k1 _ _ ((rd_T110 l0 x5_1).f0) _ _ ((rd_T110 l0 x5_1).f1) _ _ ((rd_T110 l0 x5_1).f2) _ _ ((rd_T110 l1 x5_1).f0) _ _ ((rd_T110 l1 x5_1).f1) _ _ ((rd_T110 l1 x5_1).f2) true _ ?side1 ?side2 ?side3 ?side4 ?side5 ?side6 ?side7 ?side8 ?side9 ?side10 ?side11 ?side12 A7.out).mono ?_
        (case side1 => refine cd_ ?_; exact (Kd.C_below HR161_0.out HB.out))
        (case side2 => exact HC161_0.out)
        (case side3 => refine cd_ ?_; exact (Kd.C_below HR161_1.out HB.out))
        (case side4 => exact HC161_1.out)
        (case side5 => refine cd_ ?_; exact (Kd.C_below HR161_2.out HB.out))
        (case side6 => exact HC161_2.out)
        (case side7 => refine cd_ ?_; exact (Kd.C_below HR162_0.out HB.out))
        (case side8 => exact HC162_0.out)
        (case side9 => refine cd_ ?_; exact (Kd.C_below HR162_1.out HB.out))
        (case side10 => exact HC162_1.out)
        (case side11 => refine cd_ ?_; exact (Kd.C_below HR162_2.out HB.out))
        (case side12 => exact HC162_2.out)
        rintro e w10 ⟨rfl, hb⟩
        refine ⟨_, rfl, ?_⟩
        replace HB := A_ (bs_ HB.out hb)
        (try clear hb)
        (try clear hb2)
        (try clear hk)
        (try clear hi)
        refine hK.out _ _ ⟨((HB.out.cell (World.block_lt_of_cell? w _ hw161_0)).trans hw161_0), ((HB.out.cell (World.block_lt_of_cell? w _ hw161_1)).trans hw161_1), ((HB.out.cell (World.block_lt_of_cell? w _ hw161_2)).trans hw161_2), ((HB.out.cell (World.block_lt_of_cell? w _ hw162_0)).trans hw162_0), ((HB.out.cell (World.block_lt_of_cell? w _ hw162_1)).trans hw162_1), ((HB.out.cell (World.block_lt_of_cell? w _ hw162_2)).trans hw162_2)⟩ (fun hHeld => ?_)
        clear hK K
        refine no_ 25 ?_
        refine pure_ (i := 9) (N := some 26) (v := ?_) (a' := ?_) (bt 10 1023) rfl rfl (any_of HT_.out (by kernel_rfl)) (fun _ _ _ h => h) (Or.inl ⟨by rfl, ?_⟩) ?_ ?_
        rotate_left; · (intro w'; go_simp; with_reducible rfl)
        rotate_left; · (simp only [Act.put, sx_, wx_]; rfl)
        refine done_ (done_of HT_.out (by kernel_rfl)) ?_
        try go_wp2
        go_roundg k1
        case measure => have := HK1.out; omega
        case rel => exact ⟨(wrap64 (x5_1 + 1)), (by first | rfl | (simp; done) | (simp [*]; done)), H', ⟨by have := HK1.out; omega⟩, ⟨be_ HB.out⟩⟩
       ·replace c8 := Bool.eq_false_iff.mpr c8
        subst c8
        have H1 : (some false) = some r := by rw [if_neg (show ¬ (false = true) by decide)] at H; exact H
        clear H
        have H := H1
        clear H1
        obtain rfl := Option.some.inj H
        try go_wp2
        replace HB := A_ (below_drew1 HB.out)
        have p161 : 0 <= (x5_1 : Int) := of_decide_eq_true as_
        have q161 : x5_1 < (l0.length : Int) := of_decide_eq_true as_
        obtain ⟨ad161, A161_0, c161_0, A161_1, c161_1, A161_2, c161_2, e161, hx161_0, hx161_1, hx161_2, hl161_0, hi161_0, hl161_1, hi161_1, hl161_2, hi161_2⟩ := at_T110 HR0.out x5_1 p161 q161
        have hw161_2 := hx161_2
        have hw161_1 := hx161_1
        have hw161_0 := hx161_0
        cases e161
        replace hx161_0 := (HB.out.cell (World.block_lt_of_cell? w _ hx161_0)).trans hx161_0
        replace hx161_1 := (HB.out.cell (World.block_lt_of_cell? w _ hx161_1)).trans hx161_1
        replace hx161_2 := (HB.out.cell (World.block_lt_of_cell? w _ hx161_2)).trans hx161_2
        have HR161_0 := A_ hi161_0
        have HC161_0 := A_ hl161_0
        clear hi161_0 hl161_0
        have HR161_1 := A_ hi161_1
        have HC161_1 := A_ hl161_1
        clear hi161_1 hl161_1
        have HR161_2 := A_ hi161_2
        have HC161_2 := A_ hl161_2
        clear hi161_2 hl161_2
        replace p161 := eq_true p161
        replace q161 := eq_true q161
        have p162 : 0 <= (x5_1 : Int) := of_decide_eq_true as_
        have q162 : x5_1 < (l1.length : Int) := of_decide_eq_true as_
        obtain ⟨ad162, A162_0, c162_0, A162_1, c162_1, A162_2, c162_2, e162, hx162_0, hx162_1, hx162_2, hl162_0, hi162_0, hl162_1, hi162_1, hl162_2, hi162_2⟩ := at_T110 HR1.out x5_1 p162 q162
        have hw162_2 := hx162_2
        have hw162_1 := hx162_1
        have hw162_0 := hx162_0
        cases e162
        replace hx162_0 := (HB.out.cell (World.block_lt_of_cell? w _ hx162_0)).trans hx162_0
        replace hx162_1 := (HB.out.cell (World.block_lt_of_cell? w _ hx162_1)).trans hx162_1
        replace hx162_2 := (HB.out.cell (World.block_lt_of_cell? w _ hx162_2)).trans hx162_2
        have HR162_0 := A_ hi162_0
        have HC162_0 := A_ hl162_0
        clear hi162_0 hl162_0
        have HR162_1 := A_ hi162_1
        have HC162_1 := A_ hl162_1
        clear hi162_1 hl162_1
        have HR162_2 := A_ hi162_2
        have HC162_2 := A_ hl162_2
        clear hi162_2 hl162_2
        replace p162 := eq_true p162
        replace q162 := eq_true q162
        refine start_ (n := 10) (S := fun w' => w'.cell? (ad161.add ((x5_1).toNat * 3)) = some (.slice A161_0 ((rd_T110 l0 x5_1).f0).length c161_0) /\ w'.cell? ⟨(ad161.add ((x5_1).toNat * 3)).block, (ad161.add ((x5_1).toNat * 3)).off + 1, none⟩ = some (.slice A161_1 ((rd_T110 l0 x5_1).f1).length c161_1) /\ w'.cell? ⟨(ad161.add ((x5_1).toNat * 3)).block, (ad161.add ((x5_1).toNat * 3)).off + 2, none⟩ = some (.slice A161_2 ((rd_T110 l0 x5_1).f2).length c161_2) /\ w'.cell? (ad162.add ((x5_1).toNat * 3)) = some (.slice A162_0 ((rd_T110 l1 x5_1).f0).length c162_0) /\ w'.cell? ⟨(ad162.add ((x5_1).toNat * 3)).block, (ad162.add ((x5_1).toNat * 3)).off + 1, none⟩ = some (.slice A162_1 ((rd_T110 l1 x5_1).f1).length c162_1) /\ w'.cell? ⟨(ad162.add ((x5_1).toNat * 3)).block, (ad162.add ((x5_1).toNat * 3)).off + 2, none⟩ = some (.slice A162_2 ((rd_T110 l1 x5_1).f2).length c162_2)) (ds := []) (bt 10 0) (by kernel_rfl) rfl rfl ⟨((HB.out.cell (World.block_lt_of_cell? w _ hw161_0)).trans hw161_0), ((HB.out.cell (World.block_lt_of_cell? w _ hw161_1)).trans hw161_1), ((HB.out.cell (World.block_lt_of_cell? w _ hw161_2)).trans hw161_2), ((HB.out.cell (World.block_lt_of_cell? w _ hw162_0)).trans hw162_0), ((HB.out.cell (World.block_lt_of_cell? w _ hw162_1)).trans hw162_1), ((HB.out.cell (World.block_lt_of_cell? w _ hw162_2)).trans hw162_2)⟩ (fun hHeld => ?_); refine with_tabW laws_eqPageS.tab6 laws_eqPageS.bits6 (fun HT_ HW_ => ?_)
        generalize wr.drew = w11 at HB HR161_0 HR161_1 HR161_2 HR162_0 HR162_1 HR162_2 hx161_0 hx161_1 hx161_2 hx162_0 hx162_1 hx162_2 hHeld ⊢
        refine pure_ (i := 0) (N := some 17) (v := ?_) (a' := ?_) (bt 10 1) rfl rfl (any_of HT_.out (by kernel_rfl)) (fun _ _ _ h => h) (Or.inl ⟨by rfl, ?_⟩) ?_ ?_
        rotate_left; · (intro w'; go_simp; with_reducible rfl)
        rotate_left; · (simp only [Act.put, sx_, wx_]; rfl)
        refine pure_ (i := 1) (N := some 18) (v := ?_) (a' := ?_) (bt 10 3) rfl rfl (any_of HT_.out (by kernel_rfl)) (fun _ _ _ h => h) (Or.inl ⟨by rfl, ?_⟩) ?_ ?_
        rotate_left; · (intro w'; go_simp; with_reducible rfl)
        rotate_left; · (simp only [Act.put, sx_, wx_]; rfl)
        refine pure_ (i := 2) (N := some 19) (v := ?_) (a' := ?_) (bt 10 7) rfl rfl (any_of HT_.out (by kernel_rfl)) (fun _ _ _ h => h) (Or.inl ⟨by rfl, ?_⟩) ?_ ?_
        rotate_left; · (intro w'; go_simp; with_reducible rfl)
        rotate_left; · (simp only [Act.put, sx_, wx_]; rfl)
        refine pure_ (i := 4) (N := some 21) (v := ?_) (a' := ?_) (bt 10 23) rfl rfl (any_of HT_.out (by kernel_rfl)) (fun _ _ _ h => h) (Or.inl ⟨by rfl, ?_⟩) ?_ ?_
        rotate_left; · (intro w'; go_simp; with_reducible rfl)
        rotate_left; · (simp only [Act.put, sx_, wx_]; rfl)
        refine pure_ (i := 5) (N := some 22) (v := ?_) (a' := ?_) (bt 10 55) rfl rfl (any_of HT_.out (by kernel_rfl)) (fun _ _ _ h => h) (Or.inl ⟨by rfl, ?_⟩) ?_ ?_
        rotate_left; · (intro w'; go_simp; with_reducible rfl)
        rotate_left; · (simp only [Act.put, sx_, wx_]; rfl)
        refine pure_ (i := 6) (N := some 23) (v := ?_) (a' := ?_) (bt 10 119) rfl rfl (any_of HT_.out (by kernel_rfl)) (fun _ _ _ h => h) (Or.inl ⟨by rfl, ?_⟩) ?_ ?_
        rotate_left; · (intro w'; go_simp; with_reducible rfl)
        rotate_left; · (simp only [Act.put, sx_, wx_]; rfl)
        refine take_ (i := 3) (N := some 20) (v := ?_) (a' := ?_) (bt 10 127) rfl rfl (take_ofW HT_.out HW_.out (by kernel_rfl)) (fun _ _ _ h => h) (Or.inl ⟨by rfl, ?_⟩) hHeld ?_ ?_
        rotate_left
        ·rintro w' ⟨s0, s1, s2, s3, s4, s5⟩
         go_simp
         with_reducible rfl
        rotate_left
        ·simp only [Act.put, sx_, wx_]
         rfl
        refine take_ (i := 7) (N := some 24) (v := ?_) (a' := ?_) (bt 10 255) rfl rfl (take_ofW HT_.out HW_.out (by kernel_rfl)) (fun _ _ _ h => h) (Or.inl ⟨by rfl, ?_⟩) hHeld ?_ ?_
        rotate_left
        ·rintro w' ⟨s0, s1, s2, s3, s4, s5⟩
         go_simp
         with_reducible rfl
        rotate_left
        ·simp only [Act.put, sx_, wx_]
         rfl
        refine one_ (i := 8) (N := some 25) (bt 10 511) rfl rfl (one_of HT_.out (by kernel_rfl)) (by decide) (fun K hK => ?_)
        refine goes_ Try.func98 (by kernel_rfl) rfl #[.agg #[.slice A161_0 ((rd_T110 l0 x5_1).f0).length c161_0, .slice A161_1 ((rd_T110 l0 x5_1).f1).length c161_1, .slice A161_2 ((rd_T110 l0 x5_1).f2).length c161_2], .agg #[.slice A162_0 ((rd_T110 l1 x5_1).f0).length c162_0, .slice A162_1 ((rd_T110 l1 x5_1).f1).length c162_1, .slice A162_2 ((rd_T110 l1 x5_1).f2).length c162_2]] (by rfl) rfl rfl (ag_) ?_
        with_reducible refine (laws_eqPage.calls k1 _ _ ((rd_T110 l0 x5_1).f0) _ _ ((rd_T110 l0 x5_1).f1) _ _ ((rd_T110 l0 x5_1).f2) _ _ ((rd_T110 l1 x5_1).f0) _ _ ((rd_T110 l1 x5_1).f1) _ _ ((rd_T110 l1 x5_1).f2) false _ ?side1 ?side2 ?side3 ?side4 ?side5 ?side6 ?side7 ?side8 ?side9 ?side10 ?side11 ?side12 A7.out).mono ?_
        (case side1 => refine cd_ ?_; exact (Kd.C_below HR161_0.out HB.out))
        (case side2 => exact HC161_0.out)
        (case side3 => refine cd_ ?_; exact (Kd.C_below HR161_1.out HB.out))
        (case side4 => exact HC161_1.out)
        (case side5 => refine cd_ ?_; exact (Kd.C_below HR161_2.out HB.out))
        (case side6 => exact HC161_2.out)
        (case side7 => refine cd_ ?_; exact (Kd.C_below HR162_0.out HB.out))
        (case side8 => exact HC162_0.out)
        (case side9 => refine cd_ ?_; exact (Kd.C_below HR162_1.out HB.out))
        (case side10 => exact HC162_1.out)
        (case side11 => refine cd_ ?_; exact (Kd.C_below HR162_2.out HB.out))
        (case side12 => exact HC162_2.out)
        rintro e w12 ⟨rfl, hb⟩
        refine ⟨_, rfl, ?_⟩
        replace HB := A_ (bs_ HB.out hb)
        (try clear hb)
        (try clear hb2)
        (try clear hk)
        (try clear hi)
        refine hK.out _ _ ⟨((HB.out.cell (World.block_lt_of_cell? w _ hw161_0)).trans hw161_0), ((HB.out.cell (World.block_lt_of_cell? w _ hw161_1)).trans hw161_1), ((HB.out.cell (World.block_lt_of_cell? w _ hw161_2)).trans hw161_2), ((HB.out.cell (World.block_lt_of_cell? w _ hw162_0)).trans hw162_0), ((HB.out.cell (World.block_lt_of_cell? w _ hw162_1)).trans hw162_1), ((HB.out.cell (World.block_lt_of_cell? w _ hw162_2)).trans hw162_2)⟩ (fun hHeld => ?_)
        clear hK K
        refine no_ 25 ?_
        refine pure_ (i := 9) (N := some 26) (v := ?_) (a' := ?_) (bt 10 1023) rfl rfl (any_of HT_.out (by kernel_rfl)) (fun _ _ _ h => h) (Or.inl ⟨by rfl, ?_⟩) ?_ ?_
        rotate_left; · (intro w'; go_simp; with_reducible rfl)
        rotate_left; · (simp only [Act.put, sx_, wx_]; rfl)
        refine done_ (done_of HT_.out (by kernel_rfl)) ?_
        try go_wp2
        go_ret
        exact ⟨ew_, by repeat (first | (with_reducible first | exact HB.out | apply below_alloc | apply pw_below_drewN | apply below_drew1) | exact HB.out)⟩
      ·rw [if_neg c6] at H
       exact absurd H (by simp)
     ·rw [if_neg c5] at H
      exact absurd H (by simp)
    ·rw [if_neg c4] at H
     have c4b0 : decide (x5_1 < (l0.length : Int)) = false := decide_eq_false c4
     clear c4
     obtain rfl := Option.some.inj H
     go_wp2
     go_ret
     exact ⟨ew_, by repeat (first | (with_reducible first | exact HB.out | apply below_alloc | apply pw_below_drewN | apply below_drew1) | exact HB.out)⟩
 ·rw [if_neg c3] at H
  have c3b0 : ((l0.length : Int) == (l1.length : Int)) = false := beq_eq_false_iff_ne.mpr c3
  have c3b1 : ((l0.length : Int) != (l1.length : Int)) = true := bne_iff_ne.mpr c3
  have c3b2 : (l0.length == l1.length) = false := by first | simpa using c3 | (simp at c3 ⊢; omega)
  obtain rfl := Option.some.inj H
  go_enter Try.func60, Try.ntmps60
  go_wp2
  go_ret
  exact ⟨ew_, by repeat (first | (with_reducible first | exact HB.out | apply below_alloc | apply pw_below_drewN | apply below_drew1) | exact HB.out)⟩
def laws_eqTree.f (k : Nat) (l0_0 : List (S110)) (l1_0 : List (S110)) : Option (Bool) := (laws_eqPageS.f k l0_0 l1_0).bind fun t166 => (if t166 = true then (some true) else (some false))
theorem laws_eqTree.calls (k : Nat) (A0_0 : Option Addr) (c0_0 : Nat) (l0_0 : List (S110)) (A1_0 : Option Addr) (c1_0 : Nat) (l1_0 : List (S110)) (r : Bool) (w : World) (hr0_0 : Kd.C k110 w A0_0 l0_0.length l0_0) (hc0_0 : l0_0.length <= c0_0) (hr1_0 : Kd.C k110 w A1_0 l1_0.length l1_0) (hc1_0 : l1_0.length <= c1_0) (h : laws_eqTree.f k l0_0 l1_0 = some r) :
  Calls Try.prog 19 #[.agg #[.slice A0_0 l0_0.length c0_0], .agg #[.slice A1_0 l1_0.length c1_0]] w fun e w' => e = .returned (.bool r) /\ Below w.heap.size w w' := by
 have hu29 := Try.underlying29
 have HR0_0 := A_ hr0_0
 have HC0_0 := A_ hc0_0
 clear hr0_0 hc0_0
 have HR1_0 := A_ hr1_0
 have HC1_0 := A_ hc1_0
 clear hr1_0 hc1_0
 have HB := A_ (Below.refl w.heap.size w)
 have H : ((laws_eqPageS.f k l0_0 l1_0).bind fun t166 => (if t166 = true then (some true) else (some false))) = some r := h
 clear h
 replace H := Option.bind_eq_some_iff.mp H
 obtain ⟨t166, A30, H⟩ := H
 replace H : (if t166 = true then (some true) else (some false)) = some r := H
 have A3 := A_ A30
 clear A30
 by_cases c4 : t166 = true
 ·subst c4
  have H1 : (some true) = some r := by rw [if_pos rfl] at H; exact H
  clear H
  have H := H1
  clear H1
  obtain rfl := Option.some.inj H
  go_enter Try.func19, Try.ntmps19
  go_wp2_with (first | ((with_reducible refine gate_dst (N := 2) rfl ?_); refine box_event ?hg (N := 2) ?hd (cs := #[.slice A0_0 l0_0.length c0_0]) (t := 29) ?hr ?_; (case hd => rfl); (case hg => rfl); (case hr => first | (go_simp; done) | (go_simp; rfl)); intro gb164 hg w5 hbox hb; have n0_ := A_ (bs_ HB.out hb); have n1_ := A_ (hbox); have n2_ := A_ ((by rw [hg]; exact (bw_ HB.out) : w.heap.size <= gb164)); have n3_ := A_ ((by rw [hg]; exact (bw_ HB.out) : w.heap.size <= gb164)); clear HB; have HB := n0_; have BK164 := n1_; have GW164 := n2_; have GE164 := n3_; clear n0_ n1_ n2_ n3_; clear hb hbox hg) | ((with_reducible refine gate_dst (N := 3) rfl ?_); refine box_event ?hg (N := 3) ?hd (cs := #[.slice A1_0 l1_0.length c1_0]) (t := 29) ?hr ?_; (case hd => rfl); (case hg => rfl); (case hr => first | (go_simp; done) | (go_simp; rfl)); intro gb165 hg w6 hbox hb; have n0_ := A_ (blk_below (g := gb164) (o := .cells #[.slice A0_0 l0_0.length c0_0] 29 (0, 0)) (pk_ BK164.out) hb); have n1_ := A_ (bs_ HB.out hb); have n2_ := A_ (hbox); have n3_ := A_ ((by rw [hg]; exact (bw_ HB.out) : w.heap.size <= gb165)); have n4_ := A_ ((by rw [hg]; exact (bw_ HB.out) : w.heap.size <= gb165)); have n5_ := A_ ((by rw [hg]; exact Nat.ne_of_lt (blk_lt (g := gb164) (o := .cells #[.slice A0_0 l0_0.length c0_0] 29 (0, 0)) (pk_ BK164.out)) : gb164 ≠ gb165)); have n6_ := A_ ((by rw [hg]; exact Nat.ne_of_gt (blk_lt (g := gb164) (o := .cells #[.slice A0_0 l0_0.length c0_0] 29 (0, 0)) (pk_ BK164.out)) : gb165 ≠ gb164)); clear BK164; clear HB; have BK164 := n0_; have HB := n1_; have BK165 := n2_; have GW165 := n3_; have GE165 := n4_; have NB164_165 := n5_; have NB165_164 := n6_; clear n0_ n1_ n2_ n3_ n4_ n5_ n6_; clear hb hbox hg; have hnb7 := NB164_165.out; have hnc7 := NB165_164.out; have hcz8_0 : w6.cell? ⟨gb164, 0, none⟩ = some (.slice A0_0 l0_0.length c0_0) := (blk_cell BK164.out 0).trans rfl; have hfz8_0 := blk_frozen BK164.out 0; have hcz9_0 : w6.cell? ⟨gb165, 0, none⟩ = some (.slice A1_0 l1_0.length c1_0) := (blk_cell BK165.out 0).trans rfl; have hfz9_0 := blk_frozen BK165.out 0) | ((with_reducible refine gate_callee (f := 60) rfl ?_); refine goesL_ (some 9) rfl rfl Try.func60 (by kernel_rfl) rfl #[.slice A0_0 l0_0.length c0_0, .slice A1_0 l1_0.length c1_0] rfl (ag_) ?_; (with_reducible refine (laws_eqPageS.calls k _ _ l0_0 _ _ l1_0 true _ ?side1 ?side2 ?side3 ?side4 A3.out).mono ?_); (case side1 => refine cd_ ?_; exact (Kd.C_below HR0_0.out HB.out)); (case side2 => exact HC0_0.out); (case side3 => refine cd_ ?_; exact (Kd.C_below HR1_0.out HB.out)); (case side4 => exact HC1_0.out); rintro e w10 ⟨rfl, hb⟩; refine ⟨_, rfl, ?_⟩; have n0_ := A_ (blk_below (g := gb164) (o := .cells #[.slice A0_0 l0_0.length c0_0] 29 (0, 0)) (pk_ BK164.out) hb); have n1_ := A_ (blk_below (g := gb165) (o := .cells #[.slice A1_0 l1_0.length c1_0] 29 (0, 0)) (pk_ BK165.out) hb); have n2_ := A_ (bs_ HB.out hb); clear BK164; clear BK165; clear HB; have BK164 := n0_; have BK165 := n1_; have HB := n2_; clear n0_ n1_ n2_; (try clear hb); (try clear hb2); (try clear hk); (try clear hi)))
  go_ret
  exact ⟨ew_, by repeat (first | (with_reducible first | exact HB.out | apply below_alloc | apply pw_below_drewN | apply below_drew1 | refine below_set ?_ GE164.out | refine below_set ?_ GE165.out) | exact HB.out)⟩
 ·replace c4 := Bool.eq_false_iff.mpr c4
  subst c4
  have H1 : (some false) = some r := by rw [if_neg (show ¬ (false = true) by decide)] at H; exact H
  clear H
  have H := H1
  clear H1
  obtain rfl := Option.some.inj H
  go_enter Try.func19, Try.ntmps19
  go_wp2_with (first | ((with_reducible refine gate_dst (N := 2) rfl ?_); refine box_event ?hg (N := 2) ?hd (cs := #[.slice A0_0 l0_0.length c0_0]) (t := 29) ?hr ?_; (case hd => rfl); (case hg => rfl); (case hr => first | (go_simp; done) | (go_simp; rfl)); intro gb164 hg w11 hbox hb; have n0_ := A_ (bs_ HB.out hb); have n1_ := A_ (hbox); have n2_ := A_ ((by rw [hg]; exact (bw_ HB.out) : w.heap.size <= gb164)); have n3_ := A_ ((by rw [hg]; exact (bw_ HB.out) : w.heap.size <= gb164)); clear HB; have HB := n0_; have BK164 := n1_; have GW164 := n2_; have GE164 := n3_; clear n0_ n1_ n2_ n3_; clear hb hbox hg) | ((with_reducible refine gate_dst (N := 3) rfl ?_); refine box_event ?hg (N := 3) ?hd (cs := #[.slice A1_0 l1_0.length c1_0]) (t := 29) ?hr ?_; (case hd => rfl); (case hg => rfl); (case hr => first | (go_simp; done) | (go_simp; rfl)); intro gb165 hg w12 hbox hb; have n0_ := A_ (blk_below (g := gb164) (o := .cells #[.slice A0_0 l0_0.length c0_0] 29 (0, 0)) (pk_ BK164.out) hb); have n1_ := A_ (bs_ HB.out hb); have n2_ := A_ (hbox); have n3_ := A_ ((by rw [hg]; exact (bw_ HB.out) : w.heap.size <= gb165)); have n4_ := A_ ((by rw [hg]; exact (bw_ HB.out) : w.heap.size <= gb165)); have n5_ := A_ ((by rw [hg]; exact Nat.ne_of_lt (blk_lt (g := gb164) (o := .cells #[.slice A0_0 l0_0.length c0_0] 29 (0, 0)) (pk_ BK164.out)) : gb164 ≠ gb165)); have n6_ := A_ ((by rw [hg]; exact Nat.ne_of_gt (blk_lt (g := gb164) (o := .cells #[.slice A0_0 l0_0.length c0_0] 29 (0, 0)) (pk_ BK164.out)) : gb165 ≠ gb164)); clear BK164; clear HB; have BK164 := n0_; have HB := n1_; have BK165 := n2_; have GW165 := n3_; have GE165 := n4_; have NB164_165 := n5_; have NB165_164 := n6_; clear n0_ n1_ n2_ n3_ n4_ n5_ n6_; clear hb hbox hg; have hnb13 := NB164_165.out; have hnc13 := NB165_164.out; have hcz14_0 : w12.cell? ⟨gb164, 0, none⟩ = some (.slice A0_0 l0_0.length c0_0) := (blk_cell BK164.out 0).trans rfl; have hfz14_0 := blk_frozen BK164.out 0; have hcz15_0 : w12.cell? ⟨gb165, 0, none⟩ = some (.slice A1_0 l1_0.length c1_0) := (blk_cell BK165.out 0).trans rfl; have hfz15_0 := blk_frozen BK165.out 0) | ((with_reducible refine gate_callee (f := 60) rfl ?_); refine goesL_ (some 9) rfl rfl Try.func60 (by kernel_rfl) rfl #[.slice A0_0 l0_0.length c0_0, .slice A1_0 l1_0.length c1_0] rfl (ag_) ?_; (with_reducible refine (laws_eqPageS.calls k _ _ l0_0 _ _ l1_0 false _ ?side1 ?side2 ?side3 ?side4 A3.out).mono ?_); (case side1 => refine cd_ ?_; exact (Kd.C_below HR0_0.out HB.out)); (case side2 => exact HC0_0.out); (case side3 => refine cd_ ?_; exact (Kd.C_below HR1_0.out HB.out)); (case side4 => exact HC1_0.out); rintro e w16 ⟨rfl, hb⟩; refine ⟨_, rfl, ?_⟩; have n0_ := A_ (blk_below (g := gb164) (o := .cells #[.slice A0_0 l0_0.length c0_0] 29 (0, 0)) (pk_ BK164.out) hb); have n1_ := A_ (blk_below (g := gb165) (o := .cells #[.slice A1_0 l1_0.length c1_0] 29 (0, 0)) (pk_ BK165.out) hb); have n2_ := A_ (bs_ HB.out hb); clear BK164; clear BK165; clear HB; have BK164 := n0_; have BK165 := n1_; have HB := n2_; clear n0_ n1_ n2_; (try clear hb); (try clear hb2); (try clear hk); (try clear hi)))
  go_ret
  exact ⟨ew_, by repeat (first | (with_reducible first | exact HB.out | apply below_alloc | apply pw_below_drewN | apply below_drew1 | refine below_set ?_ GE164.out | refine below_set ?_ GE165.out) | exact HB.out)⟩
end Go.Proofs.Ytoddejmlcnbdmaa.Fn
namespace Go.Proofs.Ytoddejmlcnbdmaa.Pure
open Go.Proofs.Ytoddejmlcnbdmaa.Fn
def cvP (p : S115) : S110 := ⟨p.f0, p.f1, p.f2⟩
def shortP (a : Int) (p : S115) : Prop := (p.f0.length : Int) <= a /\ (p.f1.length : Int) <= a /\ (p.f2.length : Int) <= a /\ (∀ y ∈ p.f0, (y.size : Int) <= a) /\ (∀ y ∈ p.f1, (y.size : Int) <= a)
def wfP (p : S115) : Prop := (p.f0.length <= maxLen /\ ∀ y ∈ p.f0, y.size <= maxLen) /\ (p.f1.length <= maxLen /\ ∀ y ∈ p.f1, y.size <= maxLen) /\ p.f2.length <= maxLen
def lenP (p : S110) : Prop := p.f0.length <= 1048576 /\ p.f1.length <= 1048576 /\ p.f2.length <= 1048576
theorem toTree_ev (P : List S115) (hl : P.length <= 1048576) (hw : ∀ p ∈ P, p.f0.length <= 1048576 /\ p.f1.length <= 1048576 /\ p.f2.length <= 1048576) : Ev (fun k => laws_toTree.f k P) (P.map cvP) := by
 have h := copy_ev (fun k x3 i => laws_toPageS.l0 k P x3 i) cvP z110 P ?_ ?_
 ·simp only [laws_toTree.f, laws_toPageS.f, Int.toNat_natCast]
  refine Ev.bind (a := P.map cvP) ?_ ?_
  ·(repeat (first | with_reducible refine Ev.bindS ?_ | (with_reducible refine Ev.ifp ?_ ?_; (· exact cnd_)) | (with_reducible refine Ev.ifn ?_ ?_; (· exact cnd_))))
   exact h
  ·exact Ev.val rfl
 ·intro k x3
  simp only [laws_toPageS.l0]
  rw [if_neg (by omega)]
 ·intro i x hx
  have hlt := (List.getElem?_eq_some_iff.1 hx).1
  obtain ⟨w1, w2, w3⟩ := hw x (List.mem_of_getElem? hx)
  have hrd : rd_T115 P (i : Int) = x := rdOf_at (z := z115) hx
  obtain ⟨K1, g1⟩ := toStrs_ev x.f0 w1
  obtain ⟨K2, g2⟩ := toStrs_ev x.f1 w2
  refine ⟨max (max K1 K2) (x.f2.length + 1), fun k x3 hk h3 => ?_⟩
  simp only [laws_toPageS.l0]
  rw [if_pos (by omega), if_pos (by omega), hrd, wrap_succ (by omega), Int.toNat_natCast]
  have e1 := g1 k (by omega)
  have e2 := g2 k (by omega)
  have e3 := toInt_eq x.f2 (by omega) k (by omega)
  dsimp only at e1 e2
  simp only [laws_toPage.f, e1, e2, e3, Option.bind_some]
  rw [if_pos (by omega)]
  rfl
theorem eqTree_ev (P : List S110) (hl : P.length <= 1048576) (hw : ∀ p ∈ P, lenP p) : Ev (fun k => laws_eqTree.f k P P) true := by
 have h := all_ev (fun k i => laws_eqPageS.l0 k P P i) P.length true ?_ ?_
 ·simp only [laws_eqTree.f, laws_eqPageS.f]
  refine Ev.bind (a := true) ?_ ?_
  ·(repeat (first | with_reducible refine Ev.bindS ?_ | (with_reducible refine Ev.ifp ?_ ?_; (· exact cnd_)) | (with_reducible refine Ev.ifn ?_ ?_; (· exact cnd_))))
   exact h
  ·(repeat (first | with_reducible refine Ev.bindS ?_ | (with_reducible refine Ev.ifp ?_ ?_; (· exact cnd_)) | (with_reducible refine Ev.ifn ?_ ?_; (· exact cnd_))))
   exact Ev.val rfl
 ·intro k
  simp only [laws_eqPageS.l0]
  rw [if_neg (by omega)]
 ·intro i hi
  have hx : P[i]? = some P[i] := List.getElem?_eq_getElem hi
  obtain ⟨w1, w2, w3⟩ := hw _ (List.mem_of_getElem? hx)
  have hrd : rd_T110 P (i : Int) = P[i] := rdOf_at (z := z110) hx
  generalize P[i] = x at *
  obtain ⟨K1, g1⟩ := eqStrs_ev x.f0 w1
  obtain ⟨K2, g2⟩ := eqStrs_ev x.f1 w2
  refine ⟨max (max K1 K2) (x.f2.length + 1), fun k hk => ?_⟩
  simp only [laws_eqPageS.l0]
  rw [if_pos (by omega), if_pos (by omega), if_pos (by omega), hrd, wrap_succ (by omega)]
  have e1 := g1 k (by omega)
  have e2 := g2 k (by omega)
  have e3 := eqInt_self x.f2 (by omega) k (by omega)
  dsimp only at e1 e2
  simp only [laws_eqPage.f, e1, e2, e3, Option.bind_some]
  rfl
theorem weave_sum {α : Type} : ∀ (cs : List (List α)) (ks : List α), cs.length = ks.length + 1 -> (weave cs ks).length + 1 = (cs.map fun c => c.length + 1).sum
 | [], ks, h => by simp at h
 | [c], [], _ => by simp [weave]
 | c :: d :: cs, [], h => by simp at h
 | c :: cs, k :: ks, h => by
  have := weave_sum cs ks (by simpa using h)
  simp only [weave, List.length_append, List.length_cons, List.map_cons, List.sum_cons]
  omega
theorem sum_ge {α : Type} (f : α -> Nat) (m : Nat) : ∀ l : List α, (∀ x ∈ l, m <= f x) -> l.length * m <= (l.map f).sum
 | [], _ => by simp
 | x :: l, h => by
  have := sum_ge f m l fun y hy => h y (List.mem_cons_of_mem _ hy)
  have := h x List.mem_cons_self
  simp only [List.length_cons, List.map_cons, List.sum_cons, Nat.succ_mul]
  omega
theorem cnt_lev : ∀ (h : Nat) (t : PT), Shp t -> Lev (h + 1) t -> (t.keys.length + 1) * 3 ^ h <= (allK t).length + 1
 | h, t, hs, hl => by
  have h1 := hs.one
  unfold Shp1 at h1
  rcases hl with ⟨a1, a2⟩ | ⟨a1, a2⟩
  ·subst a2
   rw [allK_eq, a1]
   simp [weave]
  ·have hkl : t.kids.length = t.keys.length + 1 := h1.2.2.resolve_left (by
    intro h0
    exact a1 (List.length_eq_zero_iff.1 h0))
   cases h with
   | zero =>
    cases hk : t.kids with
    | nil => exact absurd hk a1
    | cons c cs => exact (a2 c (by rw [hk]; exact List.mem_cons_self)).1.elim
   | succ h =>
    rw [allK_eq, weave_sum _ _ (by rw [List.length_map]; exact hkl), List.map_map]
    have := sum_ge ((fun c : List ByteArray => c.length + 1) ∘ allK) (3 ^ (h + 1)) t.kids fun s hm => by
     obtain ⟨l1, l2⟩ := a2 s hm
     obtain ⟨i, hi⟩ := List.getElem?_of_mem hm
     have hr := cnt_lev h s (hs.kid hi) l1
     show 3 ^ (h + 1) <= (allK s).length + 1
     have h3 : 3 * 3 ^ h <= (s.keys.length + 1) * 3 ^ h := Nat.mul_le_mul_right _ (by omega)
     rw [Nat.pow_succ, Nat.mul_comm]
     omega
    rw [hkl] at this
    exact this
theorem readK_mem {rd : Nat -> Option (PT × Nat)} : ∀ (l : List Int) (next : Nat) (acc ts : List PT) (n : Nat), readK rd l next acc = some (ts, n) -> ∀ x ∈ acc, x ∈ ts
 | [], next, acc, ts, n, h, x, hx => by
  rw [readK] at h
  injection h with h
  injection h with e1 e2
  rw [<- e1]
  exact hx
 | k :: ks, next, acc, ts, n, h, x, hx => by
  rw [readK] at h
  split at h
  ·cases h
  ·cases hr : rd next with
   | none => rw [hr] at h; cases h
   | some r =>
    rw [hr] at h
    exact readK_mem ks r.2 _ ts n h x (List.mem_append_left _ hx)
theorem readK_sub {rd rd' : Nat -> Option (PT × Nat)} {Q : PT -> Prop} (hrd : ∀ a t n, rd a = some (t, n) -> Q t -> rd' a = some (t, n)) : ∀ (l : List Int) (next : Nat) (acc ts : List PT) (n : Nat), readK rd l next acc = some (ts, n) -> (∀ s ∈ ts, Q s) -> readK rd' l next acc = some (ts, n)
 | [], next, acc, ts, n, h, _ => h
 | k :: ks, next, acc, ts, n, h, hq => by
  rw [readK] at h ⊢
  split at h
  ·cases h
  ·rename_i hk
   rw [if_neg hk]
   cases hr : rd next with
   | none => rw [hr] at h; cases h
   | some r =>
    rw [hr] at h
    have hm := readK_mem ks r.2 _ ts n h r.1 (List.mem_append_right _ (List.mem_singleton_self _))
    rw [hrd next r.1 r.2 hr (hq _ hm)]
    exact readK_sub hrd ks r.2 _ ts n h hq
theorem readS_parts {P : List S110} {f a n : Nat} {t : PT} (h : readS P (f + 1) a = some (t, n)) : ¬ P.length <= a /\ badP (P.getD a z110) = false /\ t.keys = (P.getD a z110).f0 /\ t.vals = (P.getD a z110).f1 /\ readK (readS P f) (P.getD a z110).f2 (a + 1) [] = some (t.kids, n) := by
 rw [readS] at h
 split at h
 ·cases h
 ·rename_i hl
  split at h
  ·cases h
  ·rename_i hb
   unfold fin at h
   obtain ⟨r, hr, e⟩ := Option.map_eq_some_iff.1 h
   injection e with e1 e2
   subst e1
   refine ⟨hl, by cases hbb : badP (P.getD a z110) <;> simp_all, rfl, rfl, ?_⟩
   rw [hr, <- e2]
   rfl
theorem readS_back {P : List S110} {f a n : Nat} {t : PT} (h1 : ¬ P.length <= a) (h2 : badP (P.getD a z110) = false) (h3 : t.keys = (P.getD a z110).f0) (h4 : t.vals = (P.getD a z110).f1) (h5 : readK (readS P f) (P.getD a z110).f2 (a + 1) [] = some (t.kids, n)) : readS P (f + 1) a = some (t, n) := by
 rw [readS, if_neg h1, if_neg (by rw [h2]; decide), h5]
 unfold fin
 rw [Option.map_some, <- h3, <- h4, PT.eta]
theorem readS_mono {P : List S110} : ∀ (f g a : Nat) (t : PT) (n : Nat), f <= g -> readS P f a = some (t, n) -> readS P g a = some (t, n)
 | 0, g, a, t, n, _, h => by cases h
 | f + 1, 0, a, t, n, hg, h => by omega
 | f + 1, g + 1, a, t, n, hg, h => by
  obtain ⟨h1, h2, h3, h4, h5⟩ := readS_parts h
  exact readS_back h1 h2 h3 h4 (readK_sub (Q := fun _ => True) (fun a t n h _ => readS_mono f g a t n (by omega) h) _ _ _ _ _ h5 fun _ _ => trivial)
theorem readS_lev {P : List S110} : ∀ (h f g a : Nat) (t : PT) (n : Nat), h <= g -> Lev h t -> readS P f a = some (t, n) -> readS P g a = some (t, n)
 | 0, f, g, a, t, n, _, hl, _ => hl.elim
 | h + 1, 0, g, a, t, n, _, _, hr => by cases hr
 | h + 1, f + 1, 0, a, t, n, hg, _, _ => by omega
 | h + 1, f + 1, g + 1, a, t, n, hg, hl, hr => by
  obtain ⟨h1, h2, h3, h4, h5⟩ := readS_parts hr
  refine readS_back h1 h2 h3 h4 (readK_sub (Q := Lev h) (fun a t n hr hl => readS_lev h f g a t n (by omega) hl hr) _ _ _ _ _ h5 fun s hs => ?_)
  rcases hl with ⟨a1, _⟩ | ⟨_, a2⟩
  ·rw [a1] at hs
   cases hs
  ·exact (a2 s hs).1
theorem readS_enough {P : List S110} : ∀ (f g a : Nat) (t : PT) (n : Nat), P.length < a + g -> readS P f a = some (t, n) -> readS P g a = some (t, n)
 | 0, g, a, t, n, _, h => by cases h
 | f + 1, g, a, t, n, hg, h => by
  obtain ⟨h1, h2, h3, h4, h5⟩ := readS_parts h
  cases g with
  | zero => omega
  | succ g =>
   refine readS_back h1 h2 h3 h4 ?_
   have : ∀ (l : List Int) (next : Nat) (acc ts : List PT) (n : Nat), a + 1 <= next -> readK (readS P f) l next acc = some (ts, n) -> readK (readS P g) l next acc = some (ts, n) := by
    intro l
    induction l with
    | nil => intro next acc ts n _ h; exact h
    | cons k ks ih =>
     intro next acc ts n hn h
     rw [readK] at h ⊢
     split at h
     ·cases h
     ·rename_i hk
      rw [if_neg hk]
      cases hr : readS P f next with
      | none => rw [hr] at h; cases h
      | some r =>
       rw [hr] at h
       rw [readS_enough f g next r.1 r.2 (by omega) hr]
       have := readS_le f next r.1 r.2 hr
       exact ih r.2 _ ts n (by omega) h
   exact this _ _ _ _ _ (Nat.le_refl _) h5
theorem readK_big {P : List S110} {rd : Nat -> Option (PT × Nat)} (hrd : ∀ a t n, rd a = some (t, n) -> a < n /\ t.big <= n - a) : ∀ (l : List Int) (next : Nat) (acc ts : List PT) (n : Nat), readK rd l next acc = some (ts, n) -> next <= n /\ PT.bigL ts <= PT.bigL acc + (n - next)
 | [], next, acc, ts, n, h => by
  rw [readK] at h
  injection h with h
  injection h with e1 e2
  subst e1; subst e2
  omega
 | k :: ks, next, acc, ts, n, h => by
  rw [readK] at h
  split at h
  ·cases h
  ·cases hr : rd next with
   | none => rw [hr] at h; cases h
   | some r =>
    rw [hr] at h
    have h1 := hrd next r.1 r.2 hr
    have h2 := readK_big (P := P) hrd ks r.2 _ ts n h
    have h3 : ∀ (l : List PT) (x : PT), PT.bigL (l ++ [x]) = PT.bigL l + x.big := by
     intro l x
     induction l with
     | nil => simp [PT.bigL]
     | cons y l ih => rw [List.cons_append, PT.bigL, PT.bigL, ih]; omega
    rw [h3] at h2
    omega
theorem readS_big {P : List S110} : ∀ (f a : Nat) (t : PT) (n : Nat), readS P f a = some (t, n) -> a < n /\ t.big <= n - a
 | 0, a, t, n, h => by cases h
 | f + 1, a, t, n, h => by
  obtain ⟨h1, h2, h3, h4, h5⟩ := readS_parts h
  have := readK_big (P := P) (fun a t n h => readS_big f a t n h) _ _ _ _ _ h5
  cases t with | mk keys vals kids =>
  rw [PT.big]
  simp only [PT.kids, PT.bigL] at this
  omega
theorem rootOk_iff (t : PT) : rootOk t = true ↔ ¬ (t.kids.length ≠ 0 /\ t.keys.length = 0) := by
 unfold rootOk
 cases hk : t.kids with
 | nil => simp
 | cons c cs =>
  simp only [List.isEmpty_cons, Bool.false_or, decide_eq_true_eq, List.length_cons]
  omega
theorem root_ev (P : List S110) (hP : P.length <= 1048576) : Ev (fun k => rootI k P) (ofS P) := by
 unfold rootI ofS
 cases h1 : readS P (P.length + 1) 0 with
 | none =>
  have h2 : readS P 10 0 = none := by
   cases h : readS P 10 0 with
   | none => rfl
   | some r => have := readS_enough 10 (P.length + 1) 0 r.1 r.2 (by omega) h; rw [h1] at this; cases this
  rw [h2]
  exact Ev.val rfl
 | some r =>
  obtain ⟨t, n⟩ := r
  obtain ⟨hlt, hfits⟩ := readS_fits _ 0 t n h1
  have hle := readS_le _ 0 t n h1
  have hbig := readS_big _ 0 t n h1
  have hk := hfits.k
  have hv := hfits.v
  have hvl := allV_len hfits.shp
  have hap := arePairs_ev (allK t) (allV t) (by omega) (by omega)
  have he := even_lev _ t (Nat.le_refl _) (by omega)
  have hd := depth_lev _ t (Nat.le_refl _) (by omega)
  simp only
  by_cases hn : n = P.length
  ·refine Ev.ifn (by simp [hn]) ?_
   have hpc := pairs_chk (allK t) (allV t) hvl
   rcases hd with ⟨h, hl, hdp⟩ | ⟨hno, hdp⟩
   ·-- level h
    by_cases hh : h <= 10
    ·have h2 := readS_lev h (P.length + 1) 10 0 t n hh hl h1
     rw [h2]
     simp only
     rw [if_neg (by simp [hn]), hdp]
     have hev : evenS t = (h : Int) := by
      rcases he with ⟨g, gl, ge⟩ | ⟨hno, _⟩
      ·rw [ge, lev_uniq gl hl]
      ·exact absurd hl (hno h)
     cases hro : rootOk t with
     | false =>
      have : ¬ ¬ (t.kids.length ≠ 0 /\ t.keys.length = 0) := fun h => by rw [(rootOk_iff t).2 h] at hro; cases hro
      have := Decidable.not_not.1 this
      refine Ev.ifp rfl (Ev.val ?_)
      split
      ·rfl
      ·rw [if_pos (.inr (.inl this))]
     | true =>
      have hr2 := (rootOk_iff t).1 hro
      refine Ev.ifn (by simp) (Ev.bind hap (Ev.val ?_))
      rw [hpc]
      cases hc : chkS (allK t) (allV t) none with
      | false =>
       rw [if_pos rfl, Bool.and_false]
       rfl
      | true =>
       rw [Bool.and_true]
       by_cases h40 : (allK t).length <= 40
       ·rw [if_pos (decide_eq_true h40), if_neg (show ¬ (true = false) by decide), if_neg (by rw [hev]; omega)]
       ·rw [if_neg (show ¬ decide ((allK t).length <= 40) = true by simpa using h40), if_neg (show ¬ (true = false) by decide), if_pos (.inr (.inr (by omega)))]
    ·-- too deep: too many keys
     have h2 : readS P 10 0 = none ∨ ∃ r, readS P 10 0 = some r := by
      cases readS P 10 0 with
      | none => exact .inl rfl
      | some r => exact .inr ⟨r, rfl⟩
     obtain ⟨g, rfl⟩ : ∃ g, h = g + 1 := ⟨h - 1, by omega⟩
     have hcnt := cnt_lev g t hfits.shp hl
     have h3 : 3 ^ 10 <= 3 ^ g := Nat.pow_le_pow_right (by omega) (by omega)
     have h310 : (3 : Nat) ^ 10 = 59049 := by decide
     have hmany : 40 < (allK t).length := by
      have : 1 * 3 ^ g <= (t.keys.length + 1) * 3 ^ g := Nat.mul_le_mul_right _ (by omega)
      omega
     have hfalse : pairsOk (allK t) (allV t) = false := by rw [hpc, decide_eq_false (by omega), Bool.false_and]
     rcases h2 with h2 | ⟨r, h2⟩
     ·rw [h2]
      cases hro : rootOk t with
      | false =>
       rw [hdp, hro]
       exact Ev.ifp rfl (Ev.val rfl)
      | true =>
       rw [hdp, hro]
       refine Ev.ifn (by simp) (Ev.bind hap (Ev.val ?_))
       rw [hfalse]
       rfl
     ·have h4 := readS_enough 10 (P.length + 1) 0 r.1 r.2 (by omega) h2
      rw [h1] at h4
      injection h4 with h4
      injection h4 with e1 e2
      rw [h2]
      simp only
      rw [<- e1, <- e2, if_neg (by simp [hn])]
      have : (if chkS (allK t) (allV t) none = false then (none : Option PT) else if evenS t < 0 ∨ (t.kids.length ≠ 0 /\ t.keys.length = 0) ∨ 40 < (allK t).length then none else some t) = none := by
       split
       ·rfl
       ·rw [if_pos (.inr (.inr hmany))]
      rw [this]
      cases hro : rootOk t with
      | false =>
       rw [hdp, hro]
       exact Ev.ifp rfl (Ev.val rfl)
      | true =>
       rw [hdp, hro]
       refine Ev.ifn (by simp) (Ev.bind hap (Ev.val ?_))
       rw [hfalse]
       rfl
   ·rw [hdp]
    refine Ev.ifp rfl (Ev.val ?_)
    cases h2 : readS P 10 0 with
    | none => rfl
    | some r =>
     have h4 := readS_enough 10 (P.length + 1) 0 r.1 r.2 (by omega) h2
     rw [h1] at h4
     injection h4 with h4
     injection h4 with e1 e2
     simp only
     rw [<- e1, <- e2, if_neg (by simp [hn])]
     have hev : evenS t = -1 := by
      rcases he with ⟨g, gl, _⟩ | ⟨_, h⟩
      ·exact absurd gl (hno g)
      ·exact h
     split
     ·rfl
     ·rw [if_pos (.inl (by rw [hev]; decide))]
  ·refine Ev.ifp (by simpa using hn) (Ev.val ?_)
   cases h2 : readS P 10 0 with
   | none => rfl
   | some r =>
    have h4 := readS_enough 10 (P.length + 1) 0 r.1 r.2 (by omega) h2
    rw [h1] at h4
    injection h4 with h4
    injection h4 with e1 e2
    simp only
    rw [<- e2, if_pos (by simpa using hn)]
theorem pages_ok (l : List S115) (hl : l.length <= 1048576) (hs : ∀ p ∈ l, shortP 1048576 p) :
  okP (l.map cvP) = true /\ (l.map cvP).length <= 1048576 /\ Ev (fun k => laws_toTree.f k l) (l.map cvP) /\ Ev (fun k => laws_eqTree.f k (l.map cvP) (l.map cvP)) true := by
 have hm : ∀ q ∈ l.map cvP, lenP q := fun q hq => by
  obtain ⟨p, hp, rfl⟩ := List.mem_map.1 hq
  obtain ⟨a1, a2, a3, _⟩ := hs p hp
  exact ⟨by show p.f0.length <= _; omega, by show p.f1.length <= _; omega, by show p.f2.length <= _; omega⟩
 refine ⟨?_, by rw [List.length_map]; exact hl, toTree_ev l hl (fun p hp => by obtain ⟨a1, a2, a3, _⟩ := hs p hp; omega), eqTree_ev _ (by rw [List.length_map]; exact hl) hm⟩
 unfold okP
 simp only [Bool.and_eq_true, decide_eq_true_eq, List.all_eq_true, List.length_map]
 refine ⟨by omega, fun q hq => ?_⟩
 obtain ⟨a1, a2, a3⟩ := hm q hq
 omega
structure Good (t : PT) : Prop where
 shp : Shp t
 srt : Srt (allK t)
 few : (allK t).length <= 40
 big : t.big <= 1048576
 four : t.keys.length <= 4
 lev : ∃ h, Lev h t /\ evenS t = (h : Int) /\ depthP t = ((h : Int), true)
 keys : (allK t).all keyOk = true
 vals : (allV t).all valOk = true
theorem rise_keys : ∀ (K : List ByteArray) (prev : Option ByteArray), riseP K prev = true -> K.all keyOk = true
 | [], _, _ => rfl
 | k :: ks, prev, h => by
  rw [riseP, Bool.and_eq_true, Bool.and_eq_true] at h
  rw [List.all_cons, h.1, rise_keys ks (some k) h.2.2]
  rfl
theorem of_good {P : List S110} {t : PT} (hP : P.length <= 1048576) (h : ofS P = some t) : Good t := by
 unfold ofS at h
 cases hrs : readS P 10 0 with
 | none => rw [hrs] at h; cases h
 | some r =>
  rw [hrs] at h
  simp only at h
  obtain ⟨r1, r2⟩ := r
  have hf := (readS_fits 10 0 r1 r2 hrs).2
  have hbig := readS_big 10 0 r1 r2 hrs
  have hle := readS_le 10 0 r1 r2 hrs
  split at h
  ·cases h
  ·split at h
   ·cases h
   ·split at h
    ·cases h
    ·rename_i hc hno
     obtain rfl := Option.some.inj h
     have hc' : chkS (allK r1) (allV r1) none = true := by cases hcc : chkS (allK r1) (allV r1) none <;> simp_all
     rw [chk_split _ _ _ (allV_len hf.shp).symm, Bool.and_eq_true] at hc'
     have hno' : ¬ evenS r1 < 0 /\ ¬ (r1.kids.length ≠ 0 /\ r1.keys.length = 0) /\ ¬ 40 < (allK r1).length := ⟨fun h => hno (.inl h), fun h => hno (.inr (.inl h)), fun h => hno (.inr (.inr h))⟩
     refine ⟨hf.shp, (rise_srt _ _ hc'.1).1, by have := hno'.2.2; show (allK r1).length <= 40; omega, by show r1.big <= 1048576; omega, hf.four, ?_, rise_keys _ _ hc'.1, hc'.2⟩
     rcases even_lev _ r1 (Nat.le_refl _) (by omega) with ⟨g, gl, ge⟩ | ⟨_, ge⟩
     ·refine ⟨g, gl, ge, ?_⟩
      rcases depth_lev _ r1 (Nat.le_refl _) (by omega) with ⟨f, fl, fe⟩ | ⟨hno2, _⟩
      ·rw [fe, lev_uniq fl gl, (rootOk_iff r1).2 hno'.2.1]
      ·exact absurd gl (hno2 g)
     ·omega
end Go.Proofs.Ytoddejmlcnbdmaa.Pure

