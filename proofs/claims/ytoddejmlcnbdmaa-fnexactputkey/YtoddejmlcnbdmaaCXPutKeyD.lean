/- The law FnExactPutKey holds of the given program: at every input it answers true and leaves its arguments as they were; no condition. This text: part 4 of what its proof reaches. -/
import Derived.Deep.QuietTactic
import Derived.BigQuiet
import Derived.Laws.IdiomCopy
import Derived.Lib.AppendZerosOnto
import Derived.Lib.Overlaps
import Derived.Laws.Externs
import Derived.Shelf.Spec.SlicesInsert
import Derived.Lib.SliceRun
import Derived.Lib.AppendZeros
import Derived.Test.YtoddejmlcnbdmaaCXPutKeyA
import Derived.Test.YtoddejmlcnbdmaaCXPutKeyB
import Derived.Test.YtoddejmlcnbdmaaCXPutKeyC
set_option maxHeartbeats 8000000
set_option maxRecDepth 100000
set_option linter.unusedSimpArgs false
set_option linter.unusedVariables false
open Go.Proofs.Ytoddejmlcnbdmaa.Fn
open Go.Lib Go.Proofs.Ytoddejmlcnbdmaa.Fn
open Go.RowKit Go.Proofs.YtoddejmlcnbdmaaW.PrintWords Go.Proofs.YtoddejmlcnbdmaaW.PrintLast Go.Proofs.YtoddejmlcnbdmaaW.PrintMore Go.Proofs.Ytoddejmlcnbdmaa.Gen
namespace Go.Proofs.Ytoddejmlcnbdmaa.Pure
open Go.Proofs.Ytoddejmlcnbdmaa.Fn Go.Proofs.Ytoddejmlcnbdmaa.Tree
structure OkT (t : PT) : Prop where
 bnd : Bnd t
 srt : SrtP (allP t)
 lev : ∃ h, Lev h t
 root : t.kids ≠ [] -> 0 < t.keys.length
theorem readK_all {rd : Nat -> Option (PT × Nat)} {Q : PT -> Prop} (hrd : ∀ a t n, rd a = some (t, n) -> Q t) : ∀ (l : List Int) (next : Nat) (acc ts : List PT) (n : Nat), readK rd l next acc = some (ts, n) -> (∀ s ∈ acc, Q s) -> (∀ s ∈ ts, Q s) /\ ts.length = acc.length + l.length
 | [], next, acc, ts, n, h, hq => by
  rw [readK] at h
  injection h with h
  injection h with e1 e2
  subst e1
  exact ⟨hq, by simp⟩
 | k :: ks, next, acc, ts, n, h, hq => by
  rw [readK] at h
  split at h
  ·cases h
  ·cases hr : rd next with
   | none => rw [hr] at h; cases h
   | some r =>
    rw [hr] at h
    obtain ⟨t, m⟩ := r
    obtain ⟨h1, h2⟩ := readK_all hrd ks m (acc ++ [t]) ts n h fun s hs => by
     rcases List.mem_append.1 hs with hs | hs
     ·exact hq s hs
     ·rw [List.mem_singleton.1 hs]; exact hrd next t m hr
    refine ⟨h1, ?_⟩
    rw [h2, List.length_append]
    simp only [List.length_cons, List.length_nil]
    omega
theorem readS_bnd {P : List S110} : ∀ (f a : Nat) (t : PT) (n : Nat), readS P f a = some (t, n) -> Bnd t
 | 0, a, t, n, h => by cases h
 | f + 1, a, t, n, h => by
  obtain ⟨h1, h2, h3, h4, h5⟩ := readS_parts h
  obtain ⟨g1, g2⟩ := readK_all (Q := Bnd) (fun a t n h => readS_bnd f a t n h) _ _ _ _ _ h5 (fun s hs => by cases hs)
  unfold badP at h2
  simp only [Bool.or_eq_false_iff, Bool.and_eq_false_iff, decide_eq_false_iff_not, bne_eq_false_iff_eq] at h2
  rw [<- h3, <- h4] at h2
  rw [List.length_nil, Nat.zero_add] at g2
  refine Bnd_iff.2 ⟨⟨h2.1.2, by omega, ?_⟩, g1⟩
  rcases h2.2 with e | e
  ·exact .inl (by omega)
  ·exact .inr (by omega)
theorem ofS_okT {P : List S110} {t : PT} (hP : P.length <= 1048576) (h : ofS P = some t) : OkT t /\ (allP t).length <= 40 := by
 have hg := of_good hP h
 unfold ofS at h
 cases hrs : readS P 10 0 with
 | none => rw [hrs] at h; cases h
 | some r =>
  rw [hrs] at h
  simp only at h
  obtain ⟨r1, r2⟩ := r
  have hb := readS_bnd 10 0 r1 r2 hrs
  have e : r1 = t /\ ¬ (r1.kids.length ≠ 0 /\ r1.keys.length = 0) := by
   split at h
   ·cases h
   ·split at h
    ·cases h
    ·split at h
     ·cases h
     ·rename_i hno
      exact ⟨Option.some.inj h, fun h => hno (.inr (.inl h))⟩
  obtain ⟨rfl, hr⟩ := e
  obtain ⟨g, gl, _⟩ := hg.lev
  exact ⟨⟨hb, (srtP_iff hg.shp).1 hg.srt, ⟨g, gl⟩, fun e => Nat.pos_of_ne_zero fun c => hr ⟨fun e' => e (List.length_eq_zero_iff.1 e'), c⟩⟩, by rw [allP_len hg.shp]; exact hg.few⟩
theorem bigL_sum : ∀ l : List PT, PT.bigL l = (l.map PT.big).sum
 | [] => rfl
 | c :: cs => by rw [PT.bigL, bigL_sum cs, List.map_cons, List.sum_cons]
theorem big_eq (t : PT) : t.big = 1 + (t.kids.map PT.big).sum := by
 cases t with | mk k v c =>
 rw [PT.big, bigL_sum]
 rfl
theorem lev_small : ∀ (h : Nat) (t : PT), Bnd t -> Lev h t -> t.big <= (allK t).length + 1 /\ (2 <= t.keys.length -> t.big + 1 <= (allK t).length)
 | 0, t, hb, hl => hl.elim
 | h + 1, t, hb, hl => by
  obtain ⟨⟨h1, h2, h3⟩, h4⟩ := Bnd_iff.1 hb
  rw [big_eq, allK_eq]
  rcases hl with ⟨a, _⟩ | ⟨a, b⟩
  ·rw [a, List.map_nil, List.map_nil, weave_nil, List.sum_nil]
   exact ⟨by omega, fun h => by omega⟩
  ·have hkl : t.kids.length = t.keys.length + 1 := h3.resolve_left fun e => a (List.length_eq_zero_iff.1 e)
   have hw := weave_sum (t.kids.map allK) t.keys (by rw [List.length_map]; exact hkl)
   have key : ∀ l : List PT, (∀ s ∈ l, s.big + 1 <= (allK s).length) -> (l.map PT.big).sum + 2 * l.length <= ((l.map allK).map fun c => c.length + 1).sum := by
    intro l
    induction l with
    | nil => intro _; simp
    | cons c cs ih =>
     intro hq
     have h5 := ih fun s hs => hq s (List.mem_cons_of_mem _ hs)
     have h6 := hq c List.mem_cons_self
     simp only [List.map_cons, List.sum_cons, List.length_cons]
     omega
   have h5 := key t.kids fun s hs => (lev_small h s (h4 s hs) (b s hs).1).2 (b s hs).2
   exact ⟨by omega, fun h => by omega⟩
theorem OkT.small {t : PT} (h : OkT t) : t.big <= (allP t).length + 1 := by
 obtain ⟨g, hg⟩ := h.lev
 rw [allP_len (bnd_shp h.bnd)]
 exact (lev_small g t h.bnd hg).1
theorem insKV_len {k v : ByteArray} : ∀ l : List KV, (insKV k v l).length <= l.length + 1
 | [] => by simp [insKV]
 | x :: l => by
  have := insKV_len (k := k) (v := v) l
  rw [insKV]
  split
  ·simp only [List.length_cons]; omega
  ·split <;> simp only [List.length_cons] <;> omega
theorem lev_half {h : Nat} {p : PT} (hl : Lev h p) (h5 : Bnd5 p) (hk : p.keys.length = 5) (k v : List ByteArray) (b : Bool) : Lev h (.mk k v (if b then p.kids.take 3 else p.kids.drop 3)) := by
 cases h with
 | zero => exact hl.elim
 | succ h =>
  rcases hl with ⟨a, a'⟩ | ⟨a, a'⟩
  ·refine .inl ⟨?_, a'⟩
   show (if b then _ else _) = []
   rw [a]
   cases b <;> rfl
  ·have hl6 := h5.1.2.2.resolve_left (fun e => a (List.length_eq_zero_iff.1 e))
   refine .inr ⟨?_, fun c hc => a' c ?_⟩
   ·intro e
    have e' : (if b then p.kids.take 3 else p.kids.drop 3).length = 0 := congrArg List.length e
    cases b
    ·simp only [Bool.false_eq_true, if_false, List.length_drop] at e'; omega
    ·simp only [if_true, List.length_take] at e'; omega
   ·cases b
    ·exact List.mem_of_mem_drop hc
    ·exact List.mem_of_mem_take hc
theorem put_root : ∀ (n : Nat) (t : PT) (key val : ByteArray), t.big <= n -> Bnd t -> (t.kids ≠ [] -> 0 < t.keys.length) -> (putP n t key val).kids ≠ [] -> 0 < (putP n t key val).keys.length
 | 0, t, key, val, h, _, _ => absurd t.big_pos (by omega)
 | n + 1, t, key, val, h, hb, h0 => by
  have hle := atI_le key t.keys
  rw [putP]
  split
  ·exact h0
  ·split
   ·rename_i hk
    intro e
    exact absurd (List.length_eq_zero_iff.1 hk) e
   ·rename_i hk
    have hk0 : t.kids ≠ [] := fun e => hk (by rw [e]; rfl)
    cases hs : t.kids[atI key t.keys]? with
    | none => exact fun _ => h0 hk0
    | some s =>
     simp only
     split
     ·intro _
      show 0 < (insAt _ _ _).length
      rw [insAt_len _ hle]
      omega
     ·exact fun _ => h0 hk0
theorem with_ok {t : PT} (h : OkT t) (k v : ByteArray) : OkT (withP t k v) /\ allP (withP t k v) = insKV k v (allP t) := by
 have h5 := putP_bnd t.big t k v h.bnd
 have ha := put_all t.big t k v (Nat.le_refl _) h.bnd h.srt
 have hr := put_root t.big t k v (Nat.le_refl _) h.bnd h.root
 obtain ⟨g, hg⟩ := h.lev
 have hl := (put_lev t.big t k v g (Nat.le_refl _) h.bnd hg).1
 have hsr := srt_insKV (k := k) (v := v) h.srt
 unfold withP
 generalize putP t.big t k v = p at h5 ha hl hr ⊢
 obtain ⟨⟨h1, h2, h3⟩, h4⟩ := h5
 by_cases h6 : 4 < p.keys.length
 ·rw [if_pos h6]
  have hk5 : p.keys.length = 5 := by omega
  have hb5 : Bnd5 p := ⟨⟨h1, h2, h3⟩, h4⟩
  have hsp := split_bnd (t := .mk [] [] [p]) (k := p) (i := 0) ⟨rfl, (by show 0 <= 4; omega), rfl⟩ (Nat.zero_le _) rfl (fun j c hj hc => by
   cases j with
   | zero => exact absurd rfl hj
   | succ j => simp [PT.kids] at hc) hb5 hk5
  have e : splitK (.mk [] [] [p]) p 0 = .mk [p.keys.getD 2 ByteArray.empty] [p.vals.getD 2 ByteArray.empty] [.mk (p.keys.take 2) (p.vals.take 2) (p.kids.take 3), .mk (p.keys.drop 3) (p.vals.drop 3) (p.kids.drop 3)] := rfl
  rw [e] at hsp ⊢
  have hbd : Bnd (.mk [p.keys.getD 2 ByteArray.empty] [p.vals.getD 2 ByteArray.empty] [.mk (p.keys.take 2) (p.vals.take 2) (p.kids.take 3), .mk (p.keys.drop 3) (p.vals.drop 3) (p.kids.drop 3)]) := Bnd_iff.2 ⟨⟨rfl, (by show 1 <= 4; omega), .inr rfl⟩, hsp.2⟩
  have hall : allP (.mk [p.keys.getD 2 ByteArray.empty] [p.vals.getD 2 ByteArray.empty] [.mk (p.keys.take 2) (p.vals.take 2) (p.kids.take 3), .mk (p.keys.drop 3) (p.vals.drop 3) (p.kids.drop 3)]) = allP p := by
   rw [allP_eq (bnd_shp hbd), split_all hb5 hk5]
   rfl
  refine ⟨⟨hbd, by rw [hall, ha]; exact hsr, ⟨g + 1, (.inr ⟨fun e => (by cases e), fun s hs => ?_⟩)⟩, fun _ => Nat.zero_lt_one⟩, by rw [hall, ha]⟩
  have hs : s = .mk (p.keys.take 2) (p.vals.take 2) (p.kids.take 3) ∨ s = .mk (p.keys.drop 3) (p.vals.drop 3) (p.kids.drop 3) := by simpa [PT.kids] using hs
  rcases hs with rfl | rfl
  ·exact ⟨lev_half hl hb5 hk5 _ _ true, by show 2 <= (p.keys.take 2).length; rw [List.length_take]; omega⟩
  ·exact ⟨lev_half hl hb5 hk5 _ _ false, by show 2 <= (p.keys.drop 3).length; rw [List.length_drop]; omega⟩
 ·rw [if_neg h6]
  exact ⟨⟨Bnd_iff.2 ⟨⟨h1, by omega, h3⟩, h4⟩, by rw [ha]; exact hsr, ⟨g, hl⟩, hr⟩, ha⟩
end Go.Proofs.Ytoddejmlcnbdmaa.Pure
namespace Go.Proofs.Ytoddejmlcnbdmaa.Tree
def starts : List PT -> Nat -> List Int
 | [], _ => []
 | c :: cs, a => (a : Int) :: starts cs (a + c.big)
mutual
def flatP : PT -> Nat -> List S110
 | .mk ks vs cs, a => ⟨ks, vs, starts cs (a + 1)⟩ :: flatL cs (a + 1)
def flatL : List PT -> Nat -> List S110
 | [], _ => []
 | c :: cs, a => flatP c a ++ flatL cs (a + c.big)
end
mutual
theorem flat_len : ∀ (t : PT) (a : Nat), (flatP t a).length = t.big
 | .mk ks vs cs, a => by rw [flatP, PT.big, List.length_cons, flatL_len cs]; omega
theorem flatL_len : ∀ (l : List PT) (a : Nat), (flatL l a).length = PT.bigL l
 | [], a => rfl
 | c :: cs, a => by rw [flatL, PT.bigL, List.length_append, flat_len c, flatL_len cs]
end
theorem starts_len : ∀ (l : List PT) (a : Nat), (starts l a).length = l.length
 | [], _ => rfl
 | c :: cs, a => by rw [starts, List.length_cons, List.length_cons, starts_len cs]
theorem starts_snoc : ∀ (l : List PT) (c : PT) (a : Nat), starts (l ++ [c]) a = starts l a ++ [((a + PT.bigL l : Nat) : Int)]
 | [], c, a => by simp [starts, PT.bigL]
 | d :: l, c, a => by
  rw [List.cons_append, starts, starts, starts_snoc l c, PT.bigL, List.cons_append, Nat.add_assoc]
theorem bigL_snoc : ∀ (l : List PT) (c : PT), PT.bigL (l ++ [c]) = PT.bigL l + c.big
 | [], c => by simp [PT.bigL]
 | d :: l, c => by rw [List.cons_append, PT.bigL, PT.bigL, bigL_snoc l c, Nat.add_assoc]
theorem flatL_snoc : ∀ (l : List PT) (c : PT) (a : Nat), flatL (l ++ [c]) a = flatL l a ++ flatP c (a + PT.bigL l)
 | [], c, a => by simp [flatL, PT.bigL]
 | d :: l, c, a => by
  rw [List.cons_append, flatL, flatL, flatL_snoc l c, PT.bigL, List.append_assoc, Nat.add_assoc]
theorem take_snoc {α : Type} {l : List α} {i : Nat} {x : α} (h : l[i]? = some x) : l.take (i + 1) = l.take i ++ [x] := by
 rw [List.take_add_one, h]
 rfl
theorem bigL_take {l : List PT} {i : Nat} {x : PT} (h : l[i]? = some x) : PT.bigL (l.take (i + 1)) = PT.bigL (l.take i) + x.big := by rw [take_snoc h, bigL_snoc]
theorem bigL_take_le : ∀ (l : List PT) (i : Nat), PT.bigL (l.take i) <= PT.bigL l
 | [], i => by simp
 | c :: cs, 0 => by simp [PT.bigL]
 | c :: cs, i + 1 => by
  rw [List.take_succ_cons, PT.bigL, PT.bigL]
  have := bigL_take_le cs i
  omega
structure Pg where
 kv : Value
 vv : Value
 cv : Value
 ks : List ByteArray
 vs : List ByteArray
 cs : List Int
def Pg.erase (p : Pg) : S110 := ⟨p.ks, p.vs, p.cs⟩
def Pg.cells (p : Pg) : List Value := [p.kv, p.vv, p.cv]
abbrev ints (v : Value) (l : List Int) : Ck := .own 3 v (encs (Value.int .i64) l)
def Pg.cks (p : Pg) : List Ck := [txt p.kv p.ks, txt p.vv p.vs, ints p.cv p.cs]
abbrev prow (v : Value) (l : List Pg) : Ck := .row 110 3 v l.length (l.flatMap Pg.cells)
def pgsCks (l : List Pg) : List Ck := l.flatMap Pg.cks
def outCks (v : Value) (l : List Pg) : List Ck := prow v l :: pgsCks l
theorem pgs_append (a b : List Pg) : pgsCks (a ++ b) = pgsCks a ++ pgsCks b := by unfold pgsCks; rw [List.flatMap_append]
theorem pgs_cons (p : Pg) (b : List Pg) : pgsCks (p :: b) = p.cks ++ pgsCks b := by unfold pgsCks; rw [List.flatMap_cons]
section
variable {w w1 W : World} {base : Nat} {gs : List (List Ck)}
theorem ok_ir {v : Value} {l : List Int} (h : Ck.ok w base (ints v l)) : (Kd.int .i64).R 3 w base (fun _ => True) v l :=
 Kd.R_of_own (enc := Value.int .i64) (h1 := fun _ => rfl) (by have h2 : w.ownsRow base 3 1 v (encs (Value.int .i64) l).length (encs (Value.int .i64) l) := h; rw [encs_length] at h2; exact h2) (fun _ _ => trivial)
theorem ir_ok {v : Value} {l : List Int} (h : (Kd.int .i64).R 3 w base (fun _ => True) v l) : Ck.ok w base (ints v l) := by
 have h2 := Kd.own_of_R (enc := Value.int .i64) (h1 := fun _ => rfl) h
 show w.ownsRow base 3 1 v (encs (Value.int .i64) l).length (encs (Value.int .i64) l)
 rw [encs_length]
 exact h2
theorem SatG.ir (h : SatG w base gs) (i : Nat) {v : Value} {l : List Int} (hi : gs[i]? = some [ints v l]) : (Kd.int .i64).R 3 w base (fun _ => True) v l := ok_ir ((h.at i hi).ok _ List.mem_cons_self)
theorem intC (h : SatG w base gs) (i : Nat) {Ad : Option Addr} {n c : Nat} {l : List Int} (hi : gs[i]? = some [ints (.slice Ad n c) l]) : (Kd.int .i64).C w Ad n l := by
 obtain ⟨rfl, _, h3⟩ := Kd.R_reads' (h.ir i hi)
 exact h3
theorem SatG.appI {x y : List Int} {u u1 : Value} (i : Nat) (h : SatG W base gs) (hi : gs[i]? = some [ints u x]) (ho : (Kd.int .i64).R 3 w1 base (fun _ => True) u1 y) (hg : W.grownBy w1 u.ownBlock) (hat : u1.ownBlock = u.ownBlock ∨ ∃ b, u1.ownBlock = some b /\ W.heap.size <= b) : SatG w1 base (gs.set i [ints u1 y]) :=
 h.turn i hi (Sat.one (ir_ok ho)) ⟨hg.size, fun k hk hnot => hg.block k hk fun he => hnot ⟨_, List.mem_singleton_self _, he.symm⟩⟩ (one_blk hat)
theorem SatG.rowOk (h : SatG w base gs) (i : Nat) {e sz n : Nat} {v : Value} {xs : List Value} (hi : gs[i]? = some [.row e sz v n xs]) : w.ownsRow base e sz v n xs := (h.at i hi).ok _ List.mem_cons_self
theorem SatG.rowz (h : SatG w base gs) (i : Nat) {e sz n m c g j : Nat} {xs : List Value} {u : Value} (hi : gs[i]? = some [.row e sz (.slice (some ⟨g, 0, none⟩) m c) n xs]) (hj : xs[j]? = some u) : w.cell? ⟨g, j, none⟩ = some u := by
 have := (h.rowOk i hi).cells (g := g) (by simp [Value.ownBlock]) j u hj
 have e1 : (⟨g, 0, none⟩ : Addr).add j = ⟨g, j, none⟩ := by simp only [Addr.add]; split <;> simp_all
 rw [e1] at this
 exact this
theorem own_parts {e sz n m c g : Nat} {xs : List Value} (h : w.ownsRow base e sz (.slice (some ⟨g, 0, none⟩) m c) n xs) : m = n /\ n <= c /\ base <= g /\ ∃ cur, w.heap[g]? = some (.cells cur e (0, 0)) /\ cur.size = c * sz /\ c <= maxLen /\ cur.toList.take (n * sz) = xs := by
 rcases h.2 with ⟨e1, _⟩ | ⟨g', cap, cur, e1, hb, hh, hnc, hcm, hcs, ht⟩
 ·cases e1
 ·injection e1 with e2 e3 e4
  injection e2 with e2
  injection e2 with e2
  subst e2
  subst e3
  subst e4
  exact ⟨rfl, hnc, hb, cur, hh, hcs, hcm, ht⟩
theorem SatG.rowf (h : SatG w base gs) (i : Nat) {e sz n m c g : Nat} {xs : List Value} (hi : gs[i]? = some [.row e sz (.slice (some ⟨g, 0, none⟩) m c) n xs]) (j : Nat) : w.frozen? ⟨g, j, none⟩ = false := by
 obtain ⟨_, _, _, cur, hh, _⟩ := own_parts (h.rowOk i hi)
 exact blk_frozen hh j
theorem SatG.rowge (h : SatG w base gs) (i : Nat) {e sz n m c g : Nat} {xs : List Value} (hi : gs[i]? = some [.row e sz (.slice (some ⟨g, 0, none⟩) m c) n xs]) : base <= g := (own_parts (h.rowOk i hi)).2.2.1
theorem own_set {e sz n m c g j : Nat} {xs : List Value} (h : w.ownsRow base e sz (.slice (some ⟨g, 0, none⟩) m c) n xs) (hj : j < xs.length) (u : Value) : (w.setCell ⟨g, j, none⟩ u).ownsRow base e sz (.slice (some ⟨g, 0, none⟩) m c) n (xs.set j u) := by
 obtain ⟨rfl, h2, h3, cur, h4, h5, h6, h7⟩ := own_parts h
 refine ⟨by rw [List.length_set]; exact h.1, .inr ⟨g, c, cur.setIfInBounds j u, rfl, h3, blk_put h4 j u rfl, h2, h6, by rw [Array.size_setIfInBounds]; exact h5, ?_⟩⟩
 rw [Array.toList_setIfInBounds, List.take_set, h7]
theorem SatG.putRow (h : SatG w base gs) (i : Nat) {e sz n m c g : Nat} {xs xs' : List Value} (hi : gs[i]? = some [.row e sz (.slice (some ⟨g, 0, none⟩) m c) n xs]) (j : Nat) (u : Value) (hj : j < xs.length) (hx : xs' = xs.set j u) : SatG (w.setCell ⟨g, j, none⟩ u) base (gs.set i [.row e sz (.slice (some ⟨g, 0, none⟩) m c) n xs']) := by
 have h1 := h.rowOk i hi
 subst hx
 refine h.turn i hi (Sat.one (c := .row e sz (.slice (some ⟨g, 0, none⟩) m c) n (xs.set j u)) (own_set h1 hj u)) ((Kept.refl w _).setCell (.inl ⟨_, List.mem_singleton_self _, rfl⟩) u) ?_
 rintro k ⟨d, hd, hb⟩
 rw [List.mem_singleton.1 hd] at hb
 exact .inl ⟨_, List.mem_singleton_self _, hb⟩
end
section
variable {P : Program} {ops : Array Oper} {rest : List Oper} {o : Oper} {a : Act} {Q' : Exit -> Act -> World -> Prop} {Kc : Act -> World -> Prop} {w0 W : World} {base : Nat}
theorem row_new (e sz : Nat) (cs : List Value) (hsz : cs.length = sz) (hm : 1 <= maxLen) : (W.alloc (.cells cs.toArray e)).ownsRow W.heap.size e sz (.slice (some ⟨W.heap.size, 0, none⟩) 1 1) 1 cs := by
 refine ⟨by rw [hsz, Nat.one_mul], .inr ⟨W.heap.size, 1, cs.toArray, rfl, Nat.le_refl _, blk_new W _, Nat.le_refl _, hm, by rw [Nat.one_mul]; exact hsz, ?_⟩⟩
 rw [Nat.one_mul]
 exact List.take_of_length_le (show cs.length <= sz by omega)
theorem row_lit_step (e sz : Nat) (cs : List Value) (hsz : cs.length = sz) (hw : Region.wanted o (yielded ops a.tmps) = true) {N : Tmp} (_hd : o.dst = some N) (hrun : (execOp a.eval o).run P W = .ok (.value (.slice (some ⟨W.heap.size, 0, none⟩) 1 1)) (W.alloc (.cells cs.toArray e)))
  (h : ∀ g w1, g = W.heap.size -> w1.ownsRow W.heap.size e sz (.slice (some ⟨g, 0, none⟩) 1 1) 1 cs -> Below W.heap.size W w1 -> Kc (a.put o.dst (.slice (some ⟨g, 0, none⟩) 1 1)) w1) : if Region.wanted o (yielded ops a.tmps) = true then Oper.wp P o a W Kc Q' else Kc (a.put o.dst undef) W :=
 event_step hw hrun (h _ _ rfl (row_new e sz cs hsz (by decide)) (below_alloc (Below.refl _ _) _))
theorem row_run (t ty e sz bytes : Nat) (z : Value) (ht : P.underlying t = some (.slice e)) (hinfo : (P.info? e).map (fun i => (i.zero, i.size, i.bytes)) = some (some z, sz, bytes)) (hzs : z.cells.size = sz) (hs0 : 0 < sz) (hb0 : 0 < bytes) (v : Value) (n m c g2 : Nat) (xs ys : List Value) (HO : W.ownsRow base e sz v n xs) (HR : W.ownsRow base e sz (.slice (some ⟨g2, 0, none⟩) m c) m ys) (hone : ∀ u ∈ ys, u.oneCell' = true) (hbase : base <= W.heap.size) (hl : (n + m) * bytes <= 140737488355328) :
  ∃ v1 w1, (Builtin.append_ #[t, t] ty #[v, .slice (some ⟨g2, 0, none⟩) m c]).run P W = .ok v1 w1 /\ w1.ownsRow base e sz v1 (n + m) (xs ++ ys) /\ W.grownBy w1 v.ownBlock /\ (v1.ownBlock = v.ownBlock ∨ ∃ b, v1.ownBlock = some b /\ W.heap.size <= b) := by
 obtain ⟨i0, hi, hzz⟩ := Option.map_eq_some_iff.1 hinfo
 simp only [Prod.mk.injEq] at hzz
 obtain ⟨hz0, hz1, hz2⟩ := hzz
 have hlen : n + m <= 140737488355328 := Nat.le_trans (Nat.le_mul_of_pos_right _ hb0) hl
 obtain ⟨v1, w1, hrun, h2, hg, _, hat⟩ := run_append_own_at (P := P) W base t ty e i0 z sz bytes ht hi hz0 hz1 hz2 hzs hs0 v n xs HO ⟨g2, 0, none⟩ m c ys HR.1 (HR.cells (g := g2) (by simp [Value.ownBlock])) hone (by simp only [maxLen]; omega) hl hbase
 refine ⟨v1, w1, hrun, h2, hg, ?_⟩
 rcases hat with hat | hat
 ·exact .inl hat
 ·exact .inr ⟨_, hat, Nat.le_refl _⟩
theorem row_append_step (hw : Region.wanted o (yielded ops a.tmps) = true) (s x : Operand) (t e sz bytes : Nat) (z : Value) (ho : o.op = .call { callee := .builtin .append, args := #[s, x], argTypes := #[t, t] })
  (ht : P.underlying t = some (.slice e)) (hinfo : (P.info? e).map (fun i => (i.zero, i.size, i.bytes)) = some (some z, sz, bytes)) (hzs : z.cells.size = sz) (hs0 : 0 < sz) (hb0 : 0 < bytes) (v : Value) (n m c g2 : Nat) (xs ys : List Value) (hs : a.eval s = v) (hx : a.eval x = .slice (some ⟨g2, 0, none⟩) m c) (HO : W.ownsRow base e sz v n xs) (HR : W.ownsRow base e sz (.slice (some ⟨g2, 0, none⟩) m c) m ys) (hone : ∀ u ∈ ys, u.oneCell' = true) (HB : Below base w0 W) (hbase : base <= W.heap.size) (hl : (n + m) * bytes <= 140737488355328)
  (h : ∀ v1 w1, w1.ownsRow base e sz v1 (n + m) (xs ++ ys) -> Below base w0 w1 -> W.grownBy w1 v.ownBlock -> (v1.ownBlock = v.ownBlock ∨ ∃ b, v1.ownBlock = some b /\ W.heap.size <= b) -> Kc (a.put o.dst v1) w1) : if Region.wanted o (yielded ops a.tmps) = true then Oper.wp P o a W Kc Q' else Kc (a.put o.dst undef) W := by
 obtain ⟨v1, w1, hr, h1, h3, h4⟩ := row_run (P := P) t o.type e sz bytes z ht hinfo hzs hs0 hb0 v n m c g2 xs ys HO HR hone hbase hl
 rw [if_pos hw]
 unfold Oper.wp execOp
 simp only [ho, resolve, invoke, builtin, Sem.run_bind, Sem.run_pure, Result.andThen_ok, List.map_toArray, List.map_cons, List.map_nil, hs, hx, hr]
 exact h v1 w1 h1 (HB.grown h3 hbase (fun k hk => own_base HO k hk)) h3 h4
end
section
variable {w w1 W : World} {base : Nat} {gs : List (List Ck)}
theorem SatG.newRow {e sz n : Nat} {v : Value} {xs : List Value} (h : SatG w base gs) (hb : Below w.heap.size w w1) (hbase : base <= w.heap.size) (ho : w1.ownsRow w.heap.size e sz v n xs) : SatG w1 base (gs ++ [[.row e sz v n xs]]) :=
 h.new hb hbase (Sat.one (c := .row e sz v n xs) ho)
theorem SatG.appRow {e sz n n' : Nat} {x y : List Value} {u u1 : Value} (i : Nat) (h : SatG W base gs) (hi : gs[i]? = some [.row e sz u n x]) (ho : w1.ownsRow base e sz u1 n' y) (hg : W.grownBy w1 u.ownBlock) (hat : u1.ownBlock = u.ownBlock ∨ ∃ b, u1.ownBlock = some b /\ W.heap.size <= b) : SatG w1 base (gs.set i [.row e sz u1 n' y]) :=
 h.turn i hi (Sat.one (c := .row e sz u1 n' y) ho) ⟨hg.size, fun k hk hnot => hg.block k hk fun he => hnot ⟨_, List.mem_singleton_self _, he.symm⟩⟩ (one_blk hat)
theorem row_slice {e sz n : Nat} {v : Value} {xs : List Value} (h : w.ownsRow base e sz v n xs) : ∃ A c, v = .slice A n c := by
 rcases h.2 with ⟨rfl, rfl⟩ | ⟨g, cap, cur, rfl, _⟩
 ·exact ⟨none, 0, rfl⟩
 ·exact ⟨_, cap, rfl⟩
theorem row_some {e sz n c : Nat} {A : Option Addr} {xs : List Value} (h : w.ownsRow base e sz (.slice A n c) n xs) (h0 : 0 < n) : ∃ g, A = some ⟨g, 0, none⟩ := by
 rcases h.2 with ⟨e1, e2⟩ | ⟨g, cap, cur, e1, _⟩
 ·omega
 ·injection e1 with e1
  exact ⟨g, e1⟩
end
theorem cells_len : ∀ l : List Pg, (l.flatMap Pg.cells).length = l.length * 3
 | [] => rfl
 | p :: l => by rw [List.flatMap_cons, List.length_append, cells_len l, List.length_cons]; show 3 + _ = _; omega
theorem cells_at (A B : List Pg) (p : Pg) (j : Nat) (hj : j < 3) : ((A ++ p :: B).flatMap Pg.cells)[A.length * 3 + j]? = p.cells[j]? := by
 rw [List.flatMap_append, List.flatMap_cons, List.getElem?_append_right (by rw [cells_len]; omega), cells_len, Nat.add_sub_cancel_left, List.getElem?_append_left (show j < p.cells.length from hj)]
theorem cells_set (A B : List Pg) (p : Pg) (j : Nat) (u : Value) (hj : j < 3) : ((A ++ p :: B).flatMap Pg.cells).set (A.length * 3 + j) u = A.flatMap Pg.cells ++ (p.cells.set j u ++ B.flatMap Pg.cells) := by
 rw [List.flatMap_append, List.flatMap_cons, List.set_append_right _ _ (by rw [cells_len]; omega), cells_len, Nat.add_sub_cancel_left, List.set_append_left _ _ (show j < p.cells.length from hj)]
section
variable {w w1 W : World} {base : Nat} {gs : List (List Ck)} {g n c a : Nat} {A B : List Pg} {p : Pg}
theorem pageZ0 (h : SatG w base gs) (i : Nat) (hi : gs[i]? = some [prow (.slice (some ⟨g, 0, none⟩) n c) (A ++ p :: B)]) (ha : A.length = a) : w.cell? ⟨g, a * 3, none⟩ = some p.kv := by
 subst ha
 exact h.rowz i hi (cells_at A B p 0 (by decide))
theorem pageZ1 (h : SatG w base gs) (i : Nat) (hi : gs[i]? = some [prow (.slice (some ⟨g, 0, none⟩) n c) (A ++ p :: B)]) (ha : A.length = a) : w.cell? ⟨g, a * 3 + 1, none⟩ = some p.vv := by
 subst ha
 exact h.rowz i hi (cells_at A B p 1 (by decide))
theorem pageZ2 (h : SatG w base gs) (i : Nat) (hi : gs[i]? = some [prow (.slice (some ⟨g, 0, none⟩) n c) (A ++ p :: B)]) (ha : A.length = a) : w.cell? ⟨g, a * 3 + 2, none⟩ = some p.cv := by
 subst ha
 exact h.rowz i hi (cells_at A B p 2 (by decide))
theorem SatG.putCell (h : SatG w base gs) (i : Nat) (hi : gs[i]? = some [prow (.slice (some ⟨g, 0, none⟩) n c) (A ++ p :: B)]) (ha : A.length = a) (p' : Pg) (j : Nat) (u : Value) (hj : j < 3) (hp : p'.cells = p.cells.set j u) :
  SatG (w.setCell ⟨g, a * 3 + j, none⟩ u) base (gs.set i [prow (.slice (some ⟨g, 0, none⟩) n c) (A ++ p' :: B)]) := by
 subst ha
 have e : (A ++ p' :: B).length = (A ++ p :: B).length := by simp only [List.length_append, List.length_cons]
 have := h.putRow i (xs' := (A ++ p' :: B).flatMap Pg.cells) hi (A.length * 3 + j) u (by rw [cells_len]; simp only [List.length_append, List.length_cons]; omega) (by rw [cells_set A B p j u hj, List.flatMap_append, List.flatMap_cons, hp])
 show SatG _ base (gs.set i [.row 110 3 _ (A ++ p' :: B).length _])
 rw [e]
 exact this
theorem SatG.putPage (h : SatG w base gs) (i : Nat) (hi : gs[i]? = some [prow (.slice (some ⟨g, 0, none⟩) n c) (A ++ p :: B)]) (ha : A.length = a) (p' : Pg) :
  SatG (((w.setCell ⟨g, a * 3, none⟩ p'.kv).setCell ⟨g, a * 3 + 1, none⟩ p'.vv).setCell ⟨g, a * 3 + 2, none⟩ p'.cv) base (gs.set i [prow (.slice (some ⟨g, 0, none⟩) n c) (A ++ p' :: B)]) := by
 have hl : i < gs.length := (List.getElem?_eq_some_iff.1 hi).1
 have h1 := h.putCell i hi ha ⟨p'.kv, p.vv, p.cv, p.ks, p.vs, p.cs⟩ 0 p'.kv (by decide) rfl
 have h2 := h1.putCell i (List.getElem?_set_self hl) ha ⟨p'.kv, p'.vv, p.cv, p.ks, p.vs, p.cs⟩ 1 p'.vv (by decide) rfl
 rw [List.set_set] at h2
 have h3 := h2.putCell i (List.getElem?_set_self hl) ha p' 2 p'.cv (by decide) rfl
 rw [List.set_set] at h3
 exact h3
end
section
variable {w : World} {base : Nat}
theorem pg_mem {l : List Pg} {j : Nat} {p : Pg} (h : l[j]? = some p) {c : Ck} (hc : c ∈ p.cks) : c ∈ pgsCks l := List.mem_flatMap.2 ⟨p, List.mem_of_getElem? h, hc⟩
theorem txt_R {v : Value} {l : List ByteArray} {ok : Nat -> Prop} (h : Ck.ok w base (txt v l)) (hk : ∀ k, v.ownBlock = some k -> ok k) : Kd.string.R 9 w base ok v l :=
 Kd.R_of_own (enc := Value.string) (h1 := fun _ => rfl) (by have h2 : w.ownsRow base 9 1 v (encs Value.string l).length (encs Value.string l) := h; rw [encs_length] at h2; exact h2) hk
theorem ints_R {v : Value} {l : List Int} {ok : Nat -> Prop} (h : Ck.ok w base (ints v l)) (hk : ∀ k, v.ownBlock = some k -> ok k) : (Kd.int .i64).R 3 w base ok v l :=
 Kd.R_of_own (enc := Value.int .i64) (h1 := fun _ => rfl) (by have h2 : w.ownsRow base 3 1 v (encs (Value.int .i64) l).length (encs (Value.int .i64) l) := h; rw [encs_length] at h2; exact h2) hk
theorem pages_S {v : Value} {l : List Pg} (h : Sat w base (outCks v l)) : Kd.S kp110 110 w base (fun _ => True) v (l.map Pg.erase) := by
 have hrow : w.ownsRow base 110 3 v l.length (l.flatMap Pg.cells) := h.ok (prow v l) List.mem_cons_self
 obtain ⟨hp1, hp2⟩ := List.pairwise_cons.1 h.ap
 have hp3 := List.pairwise_flatMap.1 hp2
 obtain ⟨f, hr⟩ := Kd.reps_tag (d := kp110) (w := w) (base := base) (ok := fun k => True /\ some k ≠ v.ownBlock) (xs := l.map Pg.erase) (inner := l.flatMap Pg.cells) (fun j k => ∃ p, l[j]? = some p /\ blks p.cks k) (by
   rintro i j k ⟨p, hp, c, hc, hck⟩ ⟨q, hq, d, hd, hdk⟩
   obtain ⟨hi, ei⟩ := List.getElem?_eq_some_iff.1 hp
   obtain ⟨hj, ej⟩ := List.getElem?_eq_some_iff.1 hq
   have key : ∀ (i j : Nat) (hi : i < l.length) (hj : j < l.length) (c d : Ck), c ∈ (l[i]).cks -> d ∈ (l[j]).cks -> c.blk = some k -> d.blk = some k -> ¬ i < j := fun i j hi hj c d hc hd h1 h2 hlt => List.pairwise_iff_getElem.1 hp3.2 i j hi hj hlt c hc d hd k h1 h2
   rw [<- ei] at hc
   rw [<- ej] at hd
   have h1 := key i j hi hj c d hc hd hck hdk
   have h2 := key j i hj hi d c hd hc hdk hck
   omega) (by
   rintro j k ⟨p, hp, c, hc, hck⟩
   exact ⟨trivial, fun e => hp1 c (pg_mem hp hc) k e.symm hck⟩) (by rw [cells_len, List.length_map]; rfl) (by
   intro j x hx
   rw [List.getElem?_map] at hx
   obtain ⟨p, hp, rfl⟩ := Option.map_eq_some_iff.1 hx
   have hsp : l = l.take j ++ p :: l.drop (j + 1) := by rw [<- drop_of hp, List.take_append_drop]
   have hl : (l.take j).length = j := by rw [List.length_take]; have := (List.getElem?_eq_some_iff.1 hp).1; omega
   have hc : ((l.flatMap Pg.cells).drop (j * kp110.sz)).take kp110.sz = p.cells := by
    conv => lhs; rw [hsp]
    show ((List.flatMap Pg.cells _).drop (j * 3)).take 3 = _
    rw [List.flatMap_append, List.flatMap_cons, List.drop_append_of_le_length (by rw [cells_len, hl]; exact Nat.le_refl _), List.drop_eq_nil_of_le (by rw [cells_len, hl]; exact Nat.le_refl _), List.nil_append, List.take_append_of_le_length (show 3 <= p.cells.length from Nat.le_refl _)]
    exact List.take_of_length_le (show p.cells.length <= 3 from Nat.le_refl _)
   rw [hc]
   have m : ∀ c ∈ p.cks, c.ok w base := fun c hc => h.ok c (List.mem_cons_of_mem _ (pg_mem hp hc))
   have hb : ∀ c ∈ p.cks, ∀ k, c.blk = some k -> ∃ q, l[j]? = some q /\ blks q.cks k := fun c hc k hk => ⟨p, hp, c, hc, hk⟩
   have m0 : txt p.kv p.ks ∈ p.cks := List.mem_cons_self
   have m1 : txt p.vv p.vs ∈ p.cks := List.mem_cons_of_mem _ List.mem_cons_self
   have m2 : ints p.cv p.cs ∈ p.cks := List.mem_cons_of_mem _ (List.mem_cons_of_mem _ List.mem_cons_self)
   refine kp110_mkM w base _ p.erase (txt_R (m _ m0) fun k hk => hb _ m0 k hk) (txt_R (m _ m1) fun k hk => hb _ m1 k hk) (ints_R (m _ m2) fun k hk => hb _ m2 k hk) ?_
   intro k hk e
   have hap := (hp3.1 p (List.mem_of_getElem? hp))
   exact (List.pairwise_cons.1 hap).1 (txt p.vv p.vs) List.mem_cons_self k hk e.symm)
 exact ⟨f, fun _ _ => trivial, _, by rw [List.length_zipIdx, List.length_map]; exact hrow, hr⟩
end
set_option maxHeartbeats 8000000
set_option maxRecDepth 100000
def PGR (w : World) (base T E : Nat) (t : NT) (L : List Ck) (pgs : List Pg) (e : Ending) (w' : World) : Prop :=
 ∃ (vo : Value) (pgs' : List Pg), e = .returned vo /\ pgs'.map Pg.erase = pgs.map Pg.erase ++ flatP t.erase pgs.length /\ Sat w' base (t.cks T E ++ (outCks vo pgs' ++ L)) /\ Below base w w'
theorem open_pages {w : World} {base T E : Nat} {t : NT} {v : Value} {pgs : List Pg} {L : List Ck} (h : Sat w base (t.cks T E ++ (outCks v pgs ++ L))) :
  SatG w base [[.box T t.p #[t.kv, t.vv, t.cv]], [txt t.kv t.keys], [txt t.vv t.vals], [.que E t.cv (ptrs t.kids)], NT.cksL T E t.kids, [prow v pgs], pgsCks pgs, L] := by
 rw [NT.cks_eq] at h
 unfold SatG NT.head outCks at *
 simp only [List.flatten_cons, List.flatten_nil, List.append_assoc, List.cons_append, List.nil_append, List.append_nil] at h ⊢
 exact h
theorem SatG.addOwnNil {w : World} {base : Nat} {gs : List (List Ck)} (h : SatG w base gs) (e : Nat) : SatG w base (gs ++ [[.own e (.slice none 0 0) []]]) := by
 have hq : Ck.ok w base (.own e (.slice none 0 0) []) := ⟨by simp, .inl ⟨rfl, rfl⟩⟩
 unfold SatG
 rw [List.flatten_append, List.flatten_singleton]
 refine (Sat.add (A := [.own e (.slice none 0 0) []]) h (Kept.refl _ _) (Sat.one hq) ?_).perm List.perm_append_comm
 rintro k ⟨c, hc, hb⟩
 rw [List.mem_singleton.1 hc] at hb
 cases hb
theorem split_pages {l : List Pg} {X Z : List S110} {y : S110} (h : l.map Pg.erase = X ++ y :: Z) : ∃ A p B, l = A ++ p :: B /\ A.map Pg.erase = X /\ p.erase = y /\ B.map Pg.erase = Z := by
 obtain ⟨A, C, rfl, hA, hC⟩ := List.map_eq_append_iff.1 h
 obtain ⟨p, B, rfl, hp, hB⟩ := List.map_eq_cons_iff.1 hC
 exact ⟨A, p, B, rfl, hA, hp, hB⟩
theorem permK (T S D O R : List Ck) : (T ++ (S ++ (D ++ (O ++ R)))).Perm (S ++ (O ++ (R ++ (T ++ D)))) := by
 refine List.perm_append_comm.trans ?_
 rw [List.append_assoc]
 refine .append_left S ?_
 rw [List.append_assoc]
 refine List.perm_append_comm.trans ?_
 simp only [List.append_assoc]
 exact .refl _
def pgGs (T E : Nat) (t : NT) (v : Value) (A B : List Pg) (p : Pg) (L : List Ck) : List (List Ck) :=
 [[.box T t.p #[t.kv, t.vv, t.cv]], [txt t.kv t.keys], [txt t.vv t.vals], [.que E t.cv (ptrs t.kids)], NT.cksL T E t.kids, [prow v (A ++ p :: B)], [txt p.kv p.ks], [txt p.vv p.vs], [ints p.cv p.cs], pgsCks A, pgsCks B, L]
theorem shut_pages {w : World} {base T E : Nat} {t : NT} {v : Value} {A B : List Pg} {p : Pg} {L : List Ck} (h : SatG w base (pgGs T E t v A B p L)) : Sat w base (t.cks T E ++ (outCks v (A ++ p :: B) ++ L)) := by
 have h2 : SatG w base [[.box T t.p #[t.kv, t.vv, t.cv]], [txt t.kv t.keys], [txt t.vv t.vals], [.que E t.cv (ptrs t.kids)], NT.cksL T E t.kids, [prow v (A ++ p :: B)], pgsCks A, [txt p.kv p.ks], [txt p.vv p.vs], [ints p.cv p.cs], pgsCks B, L] := SatG.sel h [0, 1, 2, 3, 4, 5, 9, 6, 7, 8, 10, 11] (by decide)
 rw [NT.cks_eq]
 unfold SatG at h2
 unfold NT.head outCks
 rw [pgs_append, pgs_cons]
 unfold Pg.cks
 simp only [List.flatten_cons, List.flatten_nil, List.append_assoc, List.cons_append, List.nil_append, List.append_nil] at h2 ⊢
 exact h2
theorem lend_pages {w : World} {base T E i : Nat} {t s : NT} {v : Value} {A B : List Pg} {p : Pg} {L : List Ck} (hs : t.kids[i]? = some s) (h : SatG w base (pgGs T E t v A B p L)) :
  Sat w base (s.cks T E ++ (outCks v (A ++ p :: B) ++ ((t.head T E ++ L) ++ (NT.cksL T E (t.kids.take i) ++ NT.cksL T E (t.kids.drop (i + 1)))))) := by
 have h2 : SatG w base [NT.cksL T E t.kids, [prow v (A ++ p :: B)], pgsCks A, [txt p.kv p.ks], [txt p.vv p.vs], [ints p.cv p.cs], pgsCks B, [.box T t.p #[t.kv, t.vv, t.cv]], [txt t.kv t.keys], [txt t.vv t.vals], [.que E t.cv (ptrs t.kids)], L] := SatG.sel h [4, 5, 9, 6, 7, 8, 10, 0, 1, 2, 3, 11] (by decide)
 have h3 : Sat w base (NT.cksL T E (t.kids.take i) ++ (s.cks T E ++ (NT.cksL T E (t.kids.drop (i + 1)) ++ (outCks v (A ++ p :: B) ++ (t.head T E ++ L))))) := by
  unfold SatG at h2
  rw [cksL_kid T E hs] at h2
  unfold NT.head outCks
  rw [pgs_append, pgs_cons]
  unfold Pg.cks
  simp only [List.flatten_cons, List.flatten_nil, List.append_assoc, List.cons_append, List.nil_append, List.append_nil] at h2 ⊢
  exact h2
 exact h3.perm (permK _ _ _ _ _)
theorem back_pages {w : World} {base T E i : Nat} {t s : NT} {v : Value} {A B : List Pg} {p : Pg} {L : List Ck} (hs : t.kids[i]? = some s) (h : Sat w base (s.cks T E ++ (outCks v (A ++ p :: B) ++ ((t.head T E ++ L) ++ (NT.cksL T E (t.kids.take i) ++ NT.cksL T E (t.kids.drop (i + 1))))))) :
  SatG w base (pgGs T E t v A B p L) := by
 have h3 := h.perm (permK (NT.cksL T E (t.kids.take i)) (s.cks T E) (NT.cksL T E (t.kids.drop (i + 1))) (outCks v (A ++ p :: B)) (t.head T E ++ L)).symm
 have h2 : SatG w base [NT.cksL T E t.kids, [prow v (A ++ p :: B)], pgsCks A, [txt p.kv p.ks], [txt p.vv p.vs], [ints p.cv p.cs], pgsCks B, [.box T t.p #[t.kv, t.vv, t.cv]], [txt t.kv t.keys], [txt t.vv t.vals], [.que E t.cv (ptrs t.kids)], L] := by
  unfold SatG
  rw [cksL_kid T E hs]
  unfold NT.head outCks at h3
  rw [pgs_append, pgs_cons] at h3
  unfold Pg.cks at h3
  simp only [List.flatten_cons, List.flatten_nil, List.append_assoc, List.cons_append, List.nil_append, List.append_nil] at h3 ⊢
  exact h3
 exact SatG.sel h2 [7, 8, 9, 10, 0, 1, 3, 4, 5, 2, 6, 11] (by decide)
theorem spec_pages.calls : ∀ (n : Nat) (t : NT), t.erase.big <= n -> Bnd t.erase -> ∀ (base : Nat) (vo : Value) (pgs : List Pg) (L : List Ck) (w : World), Sat w base (t.cks 96 70 ++ (outCks vo pgs ++ L)) -> base <= w.heap.size -> pgs.length + t.erase.big <= 100000 ->
  Calls Try.prog 107 #[ptrv t.p, vo] w (PGR w base 96 70 t L pgs) := by
 intro n
 induction n with
 | zero =>
  intro t hb
  exact absurd t.erase.big_pos (by omega)
 | succ n ih =>
  intro t hbig hbd base vo pgs L w hs hbs hpl
  have h0 := open_pages hs
  obtain ⟨⟨ho1, ho2, ho3⟩, ho4⟩ := Bnd_iff.1 hbd
  cases t with | mk tp tkv tvv tcv tks tvs tcs =>
  have e0 : (NT.mk tp tkv tvv tcv tks tvs tcs).erase = .mk tks tvs (NT.eraseL tcs) := rfl
  rw [e0] at hbig ho1 ho2 ho3 ho4 hpl
  simp only [NT.keys, NT.vals, NT.kids, NT.p, NT.kv, NT.vv, NT.cv] at h0 ⊢
  simp only [PT.keys, PT.vals, PT.kids] at ho1 ho2 ho3 ho4
  obtain ⟨Atk, ctk, rfl⟩ := Kd.R_slice (h0.sr 1 rfl)
  obtain ⟨Atv, ctv, rfl⟩ := Kd.R_slice (h0.sr 2 rfl)
  obtain ⟨Atc, ctc, rfl, _, _⟩ := q_slice (h0.q 3 rfl)
  obtain ⟨Ao, co, rfl⟩ := row_slice (h0.rowOk 5 rfl)
  have HS := A_ h0
  have HB := A_ (Below.refl base w)
  have HBS := A_ hbs
  have HBG := A_ hbig
  have HPL := A_ hpl
  have HO4 := A_ ho4
  have hnl : (NT.eraseL tcs).length = tcs.length := by rw [eraseL_map, List.length_map]
  have htv : tvs.length <= 4 /\ tcs.length <= 5 := by omega
  have hpn : pgs.length + 1 <= 100000 := by have := (PT.mk tks tvs (NT.eraseL tcs)).big_pos; omega
  clear h0 hs hbs hbig hpl ho1 ho3 ho4 hbd hnl e0
  go_enter Try.func107, Try.ntmps107
  go_upto_region 2 with fail
  refine start_ (n := 17) (S := fun w' => w'.cell? ⟨tp, 0, none⟩ = some (.slice Atk tks.length ctk) /\ w'.cell? ⟨tp, 1, none⟩ = some (.slice Atv tvs.length ctv)) (ds := []) (bt 17 0) (by kernel_rfl) rfl rfl ⟨(SatG.z0 (SatG.drew HS.out) 0 rfl), (SatG.z1 (SatG.drew HS.out) 0 rfl)⟩ (fun hHeld => ?_)
  refine pu_ 0 11 1 ?_
  refine pu_ 2 13 5 ?_
  refine pu_ 3 14 13 ?_
  refine pu_ 4 15 29 ?_
  refine pu_ 8 19 285 ?_
  refine pu_ 9 20 797 ?_
  refine pu_ 10 21 1821 ?_
  refine ta_ 5 16 1853 hHeld ?_
  refine ta_ 11 22 3901 hHeld ?_
  refine join_ (σ := Value × Value × Value) 5 (bt 17 4095) (fun z => [(12, z.1), (17, z.2.1), (18, z.2.2)]) (fun z w' => Below base w w' /\ SatG w' base [bx_ 96 tp Atk tks.length ctk Atv tvs.length ctv Atc tcs.length ctc, tz_ Atk ctk tks, tz_ Atv ctv tvs, qz_ 70 Atc ctc tcs, (NT.cksL 96 70 tcs), [prow (.slice Ao pgs.length co) pgs], (pgsCks pgs), L, [txt z.2.1 ([] ++ tks)], [txt z.2.2 []]]) ?_ ?_
  rotate_left
  ·intro hCont
   refine tw_ 1 7 (some 12) (some 18) 3903 4029 (fun K hK => ?_) (fun K hK => ?_)
   ·skip
    refine Kd.R_lit_step Kd.string (w0 := w) base 9 (by rfl) (N := 12) rfl (xs := ([] : List ByteArray)) (inner := []) (ok := fun _ => True) (okp := fun _ => False) ?hr (Reps.none _ _) (fun _ h => h.elim) trivial (below_drew HB.out) (Nat.le_trans HBS.out (Below.size (below_drew HB.out))) (by simp) ?_
    (case hr => first | (go_simp; done) | (go_simp; rfl))
    intro vb1 w_1 hob hbb hgb hnb
    have HB_1 := A_ hbb
    have HS_1 := A_ (SatG.lit (SatG.drew HS.out) hob hgb hnb)
    obtain ⟨vb1A, vb1c, rfl⟩ : ∃ A c, vb1 = .slice A 0 c := Kd.R_slice hob
    clear hob hbb hgb hnb
    refine hK.out _ _ ⟨(SatG.z0 HS_1.out 0 rfl), (SatG.z1 HS_1.out 0 rfl)⟩ (fun hHeld => ?_)
    clear hK K
    refine no_ 12 ?_
    refine tw_ 6 7 (some 17) (some 18) 3967 4031 (fun K hK => ?_) (fun K hK => ?_)
    ·skip
     refine Kd.R_append_rows_step Kd.string (w0 := w) base (by rfl) (.tmp 12) (.tmp 16) 38 9 (.string ⟨#[]⟩) 16 rfl Try.underlying38 info9 rfl (by decide) (by omega) (.slice vb1A 0 vb1c) [] tks Atk tks.length ctk (fun _ => True) (fun _ => False) rfl rfl (SatG.sr HS_1.out 8 rfl) (txtC HS_1.out 1 rfl) (fun _ _ h => h) (fun _ h => h.elim) (fun _ _ => trivial) HB_1.out (Nat.le_trans HBS.out (Below.size HB_1.out)) (by simp only [List.length_nil]; omega) ?_
     intro u1 w_1_6 ho hb hg hat
     have HB_1_6 := A_ hb
     have HS_1_6 := A_ (SatG.app 8 HS_1.out rfl ho hg hat)
     clear ho hb hg hat
     refine hK.out _ _ ⟨(SatG.z0 HS_1_6.out 0 rfl), (SatG.z1 HS_1_6.out 0 rfl)⟩ (fun hHeld => ?_)
     clear hK K
     refine no_ 17 ?_
     refine on_ 7 (some 18) 4095 (fun K hK => ?_)
     refine Kd.R_lit_step Kd.string (w0 := w) base 9 (by rfl) (N := 18) rfl (xs := ([] : List ByteArray)) (inner := []) (ok := fun _ => True) (okp := fun _ => False) ?hr (Reps.none _ _) (fun _ h => h.elim) trivial HB_1_6.out (Nat.le_trans HBS.out (Below.size HB_1_6.out)) (by simp) ?_
     (case hr => first | (go_simp; done) | (go_simp; rfl))
     intro vb2 w_1_6_7 hob hbb hgb hnb
     have HB_1_6_7 := A_ hbb
     have HS_1_6_7 := A_ (SatG.lit HS_1_6.out hob hgb hnb)
     obtain ⟨vb2A, vb2c, rfl⟩ : ∃ A c, vb2 = .slice A 0 c := Kd.R_slice hob
     clear hob hbb hgb hnb
     refine hK.out _ _ ⟨(SatG.z0 HS_1_6_7.out 0 rfl), (SatG.z1 HS_1_6_7.out 0 rfl)⟩ (fun hHeld => ?_)
     clear hK K
     refine no_ 18 ?_
     exact norm_ (by simp only [putAll, Act.put, List.setIfInBounds_toArray, List.set_cons_zero, List.set_cons_succ]) (hCont ⟨.slice vb1A 0 vb1c, u1, .slice vb2A 0 vb2c⟩ _ ⟨HB_1_6_7.out, SatG.sel HS_1_6_7.out [0, 1, 2, 3, 4, 5, 6, 7, 8, 9] (by decide)⟩)
    ·skip
     refine Kd.R_lit_step Kd.string (w0 := w) base 9 (by rfl) (N := 18) rfl (xs := ([] : List ByteArray)) (inner := []) (ok := fun _ => True) (okp := fun _ => False) ?hr (Reps.none _ _) (fun _ h => h.elim) trivial HB_1.out (Nat.le_trans HBS.out (Below.size HB_1.out)) (by simp) ?_
     (case hr => first | (go_simp; done) | (go_simp; rfl))
     intro vb2 w_1_7 hob hbb hgb hnb
     have HB_1_7 := A_ hbb
     have HS_1_7 := A_ (SatG.lit HS_1.out hob hgb hnb)
     obtain ⟨vb2A, vb2c, rfl⟩ : ∃ A c, vb2 = .slice A 0 c := Kd.R_slice hob
     clear hob hbb hgb hnb
     refine hK.out _ _ ⟨(SatG.z0 HS_1_7.out 0 rfl), (SatG.z1 HS_1_7.out 0 rfl)⟩ (fun hHeld => ?_)
     clear hK K
     refine no_ 18 ?_
     refine on_ 6 (some 17) 4095 (fun K hK => ?_)
     refine Kd.R_append_rows_step Kd.string (w0 := w) base (by rfl) (.tmp 12) (.tmp 16) 38 9 (.string ⟨#[]⟩) 16 rfl Try.underlying38 info9 rfl (by decide) (by omega) (.slice vb1A 0 vb1c) [] tks Atk tks.length ctk (fun _ => True) (fun _ => False) rfl rfl (SatG.sr HS_1_7.out 8 rfl) (txtC HS_1_7.out 1 rfl) (fun _ _ h => h) (fun _ h => h.elim) (fun _ _ => trivial) HB_1_7.out (Nat.le_trans HBS.out (Below.size HB_1_7.out)) (by simp only [List.length_nil]; omega) ?_
     intro u1 w_1_7_6 ho hb hg hat
     have HB_1_7_6 := A_ hb
     have HS_1_7_6 := A_ (SatG.app 8 HS_1_7.out rfl ho hg hat)
     clear ho hb hg hat
     refine hK.out _ _ ⟨(SatG.z0 HS_1_7_6.out 0 rfl), (SatG.z1 HS_1_7_6.out 0 rfl)⟩ (fun hHeld => ?_)
     clear hK K
     refine no_ 17 ?_
     exact norm_ (by simp only [putAll, Act.put, List.setIfInBounds_toArray, List.set_cons_zero, List.set_cons_succ]) (hCont ⟨.slice vb1A 0 vb1c, u1, .slice vb2A 0 vb2c⟩ _ ⟨HB_1_7_6.out, SatG.sel HS_1_7_6.out [0, 1, 2, 3, 4, 5, 6, 7, 8, 9] (by decide)⟩)
   ·skip
    refine Kd.R_lit_step Kd.string (w0 := w) base 9 (by rfl) (N := 18) rfl (xs := ([] : List ByteArray)) (inner := []) (ok := fun _ => True) (okp := fun _ => False) ?hr (Reps.none _ _) (fun _ h => h.elim) trivial (below_drew HB.out) (Nat.le_trans HBS.out (Below.size (below_drew HB.out))) (by simp) ?_
    (case hr => first | (go_simp; done) | (go_simp; rfl))
    intro vb2 w_7 hob hbb hgb hnb
    have HB_7 := A_ hbb
    have HS_7 := A_ (SatG.lit (SatG.drew HS.out) hob hgb hnb)
    obtain ⟨vb2A, vb2c, rfl⟩ : ∃ A c, vb2 = .slice A 0 c := Kd.R_slice hob
    clear hob hbb hgb hnb
    refine hK.out _ _ ⟨(SatG.z0 HS_7.out 0 rfl), (SatG.z1 HS_7.out 0 rfl)⟩ (fun hHeld => ?_)
    clear hK K
    refine no_ 18 ?_
    refine on_ 1 (some 12) 4031 (fun K hK => ?_)
    refine Kd.R_lit_step Kd.string (w0 := w) base 9 (by rfl) (N := 12) rfl (xs := ([] : List ByteArray)) (inner := []) (ok := fun _ => True) (okp := fun _ => False) ?hr (Reps.none _ _) (fun _ h => h.elim) trivial HB_7.out (Nat.le_trans HBS.out (Below.size HB_7.out)) (by simp) ?_
    (case hr => first | (go_simp; done) | (go_simp; rfl))
    intro vb1 w_7_1 hob hbb hgb hnb
    have HB_7_1 := A_ hbb
    have HS_7_1 := A_ (SatG.lit HS_7.out hob hgb hnb)
    obtain ⟨vb1A, vb1c, rfl⟩ : ∃ A c, vb1 = .slice A 0 c := Kd.R_slice hob
    clear hob hbb hgb hnb
    refine hK.out _ _ ⟨(SatG.z0 HS_7_1.out 0 rfl), (SatG.z1 HS_7_1.out 0 rfl)⟩ (fun hHeld => ?_)
    clear hK K
    refine no_ 12 ?_
    refine on_ 6 (some 17) 4095 (fun K hK => ?_)
    refine Kd.R_append_rows_step Kd.string (w0 := w) base (by rfl) (.tmp 12) (.tmp 16) 38 9 (.string ⟨#[]⟩) 16 rfl Try.underlying38 info9 rfl (by decide) (by omega) (.slice vb1A 0 vb1c) [] tks Atk tks.length ctk (fun _ => True) (fun _ => False) rfl rfl (SatG.sr HS_7_1.out 9 rfl) (txtC HS_7_1.out 1 rfl) (fun _ _ h => h) (fun _ h => h.elim) (fun _ _ => trivial) HB_7_1.out (Nat.le_trans HBS.out (Below.size HB_7_1.out)) (by simp only [List.length_nil]; omega) ?_
    intro u1 w_7_1_6 ho hb hg hat
    have HB_7_1_6 := A_ hb
    have HS_7_1_6 := A_ (SatG.app 9 HS_7_1.out rfl ho hg hat)
    clear ho hb hg hat
    refine hK.out _ _ ⟨(SatG.z0 HS_7_1_6.out 0 rfl), (SatG.z1 HS_7_1_6.out 0 rfl)⟩ (fun hHeld => ?_)
    clear hK K
    refine no_ 17 ?_
    exact norm_ (by simp only [putAll, Act.put, List.setIfInBounds_toArray, List.set_cons_zero, List.set_cons_succ]) (hCont ⟨.slice vb1A 0 vb1c, u1, .slice vb2A 0 vb2c⟩ _ ⟨HB_7_1_6.out, SatG.sel HS_7_1_6.out [0, 1, 2, 3, 4, 5, 6, 7, 9, 8] (by decide)⟩)
  rintro ⟨vb1, u1, vb2⟩ w8 ⟨hb, hs⟩
  obtain ⟨vb2A, vb2c, rfl⟩ : ∃ A c, vb2 = .slice A 0 c := Kd.R_slice (SatG.sr hs 9 rfl)
  have hHeld : (w8.cell? ⟨tp, 0, none⟩ = some (.slice Atk tks.length ctk)) /\ (w8.cell? ⟨tp, 1, none⟩ = some (.slice Atv tvs.length ctv)) := ⟨SatG.z0 hs 0 rfl, SatG.z1 hs 0 rfl⟩
  clear HS HB
  have HB := A_ hb
  have HS := A_ hs
  clear hb hs
  refine norm_ (a' := ?_) ?_ ?_
  rotate_left
  ·simp only [putAll, Act.put, List.setIfInBounds_toArray, List.set_cons_zero, List.set_cons_succ]
   rfl
  refine on_ 12 (some 23) 8191 (fun K hK => ?_)
  refine Kd.R_append_rows_step Kd.string (w0 := w) base (by rfl) (.tmp 18) (.tmp 22) 38 9 (.string ⟨#[]⟩) 16 rfl Try.underlying38 info9 rfl (by decide) (by omega) (.slice vb2A 0 vb2c) [] tvs Atv tvs.length ctv (fun _ => True) (fun _ => False) rfl rfl (SatG.sr HS.out 9 rfl) (txtC HS.out 2 rfl) (fun _ _ h => h) (fun _ h => h.elim) (fun _ _ => trivial) HB.out (Nat.le_trans HBS.out (Below.size HB.out)) (by simp only [List.length_nil]; omega) ?_
  intro u2 w9 ho hb hg hat
  have HB9 := A_ hb
  have HS9 := A_ (SatG.app 9 HS.out rfl ho hg hat)
  clear ho hb hg hat
  clear HS HB
  have HS := HS9
  have HB := HB9
  clear HS9 HB9
  obtain ⟨Ar1, cr1, er1⟩ := Kd.R_slice (SatG.sr HS.out 8 rfl)
  obtain ⟨Ar2, cr2, er2⟩ := Kd.R_slice (SatG.sr HS.out 9 rfl)
  rw [List.nil_append] at er1 er2
  subst er1
  subst er2
  have n1_ : Aside0 (SatG w9 base [bx_ 96 tp Atk tks.length ctk Atv tvs.length ctv Atc tcs.length ctc, tz_ Atk ctk tks, tz_ Atv ctv tvs, qz_ 70 Atc ctc tcs, (NT.cksL 96 70 tcs), [prow (.slice Ao pgs.length co) pgs], (pgsCks pgs), L, tz_ Ar1 cr1 tks, tz_ Ar2 cr2 tvs]) := ⟨HS.out⟩
  clear HS
  have HS := n1_
  clear n1_
  refine hK.out _ _ ⟨(SatG.z0 HS.out 0 rfl), (SatG.z1 HS.out 0 rfl)⟩ (fun hHeld => ?_)
  clear hK K
  refine no_ 23 ?_
  refine pu_ 13 24 16383 ?_
  refine on_ 14 (some 25) 32767 (fun K hK => ?_)
  refine row_lit_step 110 3 [.slice Ar1 tks.length cr1, .slice Ar2 tvs.length cr2, .slice none 0 0] rfl (by rfl) (N := 25) rfl ?hr ?_
  (case hr => first | (go_simp; done) | (go_simp; rfl))
  intro gp w10 hg ho hb
  have n1_ : Aside0 (SatG w10 base [bx_ 96 tp Atk tks.length ctk Atv tvs.length ctv Atc tcs.length ctc, tz_ Atk ctk tks, tz_ Atv ctv tvs, qz_ 70 Atc ctc tcs, (NT.cksL 96 70 tcs), [prow (.slice Ao pgs.length co) pgs], (pgsCks pgs), L, tz_ Ar1 cr1 tks, tz_ Ar2 cr2 tvs, [.row 110 3 (.slice (some ⟨gp, 0, none⟩) 1 1) 1 [.slice Ar1 tks.length cr1, .slice Ar2 tvs.length cr2, .slice none 0 0]]]) := ⟨SatG.newRow HS.out hb (Nat.le_trans HBS.out (Below.size HB.out)) (by rw [<- hg] at *; exact ho)⟩
  have n2_ : Aside0 (Below base w w10) := ⟨HB.out.trans (hb.mono (Nat.le_trans HBS.out (Below.size HB.out)))⟩
  clear HS HB hg ho hb; have HS := n1_; have HB := n2_; clear n1_ n2_
  refine hK.out _ _ ⟨(SatG.z0 HS.out 0 rfl), (SatG.z1 HS.out 0 rfl)⟩ (fun hHeld => ?_)
  clear hK K
  refine no_ 25 ?_
  refine on_ 15 (some 26) 65535 (fun K hK => ?_)
  refine row_append_step (w0 := w) (base := base) (by rfl) (.tmp 11) (.tmp 25) 27 110 3 72 _ rfl Try.underlying27 info110 rfl (by decide) (by decide) (.slice Ao pgs.length co) pgs.length 1 1 gp (pgs.flatMap Pg.cells) [.slice Ar1 tks.length cr1, .slice Ar2 tvs.length cr2, .slice none 0 0] rfl rfl (SatG.rowOk HS.out 5 rfl) (SatG.rowOk HS.out 10 rfl) (by intro u hu; simp only [List.mem_cons, List.not_mem_nil, or_false] at hu; rcases hu with rfl | rfl | rfl <;> rfl) HB.out (Nat.le_trans HBS.out (Below.size HB.out)) (by omega) ?_
  intro vo1 w11 ho hb hg hat
  obtain ⟨A1, c1, rfl⟩ := row_slice ho
  have n1_ : Aside0 (SatG w11 base [bx_ 96 tp Atk tks.length ctk Atv tvs.length ctv Atc tcs.length ctc, tz_ Atk ctk tks, tz_ Atv ctv tvs, qz_ 70 Atc ctc tcs, (NT.cksL 96 70 tcs), [.row 110 3 (.slice A1 (pgs.length + 1) c1) (pgs.length + 1) (pgs.flatMap Pg.cells ++ [.slice Ar1 tks.length cr1, .slice Ar2 tvs.length cr2, .slice none 0 0])], (pgsCks pgs), L, tz_ Ar1 cr1 tks, tz_ Ar2 cr2 tvs, [.row 110 3 (.slice (some ⟨gp, 0, none⟩) 1 1) 1 [.slice Ar1 tks.length cr1, .slice Ar2 tvs.length cr2, .slice none 0 0]]]) := ⟨SatG.appRow 5 HS.out rfl ho hg hat⟩
  have n2_ : Aside0 (Below base w w11) := ⟨hb⟩
  clear HS HB ho hb hg hat; have HS := n1_; have HB := n2_; clear n1_ n2_
  refine hK.out _ _ ⟨(SatG.z0 HS.out 0 rfl), (SatG.z1 HS.out 0 rfl)⟩ (fun hHeld => ?_)
  clear hK K
  refine no_ 26 ?_
  refine pu_ 16 1 131071 ?_
  refine done_ (by kernel_rfl) ?_
  obtain ⟨K, hK⟩ : ∃ K, K = NT.eraseL tcs := ⟨_, rfl⟩
  have HK := A_ hK
  have HKL := A_ (show K.length = tcs.length by rw [hK, eraseL_map, List.length_map])
  obtain ⟨go1, rfl⟩ := row_some (SatG.rowOk HS.out 5 rfl) (by omega)
  have n1_ : Aside0 (SatG w11 base (pgGs 96 70 (NT.mk tp (.slice Atk tks.length ctk) (.slice Atv tvs.length ctv) (.slice Atc tcs.length ctc) tks tvs tcs) (.slice (some ⟨go1, 0, none⟩) (pgs.length + 1) c1) pgs [] ⟨.slice Ar1 tks.length cr1, .slice Ar2 tvs.length cr2, .slice none 0 0, tks, tvs, []⟩ L)) := ⟨by
   have h1 := (SatG.addNo (SatG.addOwnNil HS.out 3)).sel [0, 1, 2, 3, 4, 5, 8, 9, 11, 6, 12, 7] (by decide)
   unfold pgGs
   show SatG _ _ [_, _, _, _, _, [.row 110 3 (.slice (some ⟨go1, 0, none⟩) (pgs.length + 1) c1) (pgs ++ [_]).length ((pgs ++ [_]).flatMap Pg.cells)], _, _, _, _, _, _]
   rw [List.length_append, List.flatMap_append, List.flatMap_cons, List.flatMap_nil, List.append_nil]
   exact h1⟩
  clear HS hK
  have HS := n1_
  clear n1_
  obtain ⟨t0, ht0⟩ : ∃ t0, t0 = NT.mk tp (.slice Atk tks.length ctk) (.slice Atv tvs.length ctv) (.slice Atc tcs.length ctc) tks tvs tcs := ⟨_, rfl⟩
  have HT0 := A_ ht0
  rw [<- ht0] at HS
  clear ht0
  go_upto_region 3 with fail
  have z2_ : w11.cell? ⟨tp, 2, none⟩ = some (.slice Atc tcs.length ctc) := by
   have h1 := HS.out
   rw [HT0.out] at h1
   exact SatG.z2 h1 0 rfl
  go_wp2_with fail
  clear z2_
  go_loopg [1, 32] tcs.length (fun kq u1 u32 w' => ∃ (i m go co : Nat) (A B : List Pg) (kv vv cv : Value) (cs : List Int), u1 = .slice (some ⟨go, 0, none⟩) m co /\ u32 = .int .i64 (i : Int) /\ Aside0 (kq + i = tcs.length) /\ Aside0 (cs = starts (K.take i) (pgs.length + 1)) /\ Aside0 (A.map Pg.erase = pgs.map Pg.erase) /\ Aside0 (B.map Pg.erase = flatL (K.take i) (pgs.length + 1)) /\ Aside0 (m = pgs.length + 1 + PT.bigL (K.take i)) /\ Aside0 (SatG w' base (pgGs 96 70 t0 (.slice (some ⟨go, 0, none⟩) m co) A B ⟨kv, vv, cv, tks, tvs, cs⟩ L)) /\ Aside0 (Below base w w'))
  case atStart => exact ⟨0, pgs.length + 1, go1, c1, pgs, [], _, _, _, [], by first | rfl | (simp; done), by first | rfl | (simp; done), ⟨Nat.add_zero _⟩, ⟨rfl⟩, ⟨rfl⟩, ⟨rfl⟩, ⟨rfl⟩, HS, HB⟩
  case round =>
   clear HS HB
   obtain ⟨i, m, go, co1, A, B, kv, vv, cv, cs, rfl, rfl, HKQ, HCS, HA, HBB, HM, HS, HB⟩ := hrel
   have HAL := A_ (show A.length = pgs.length by have := congrArg List.length HA.out; rw [List.length_map, List.length_map] at this; exact this)
   have hbt : PT.bigL (K.take i) + 1 <= (PT.mk tks tvs (NT.eraseL tcs)).big := by rw [PT.big, <- HK.out]; have := bigL_take_le K i; omega
   have hm : pgs.length + 1 <= m /\ m <= 100000 := by have := HM.out; have := HPL.out; omega
   have ci : (0 <= (i : Int)) = True := eq_true (by omega)
   have hcl0 : cs.length <= 5 := by rw [HCS.out, starts_len, List.length_take, HKL.out]; omega
   by_cases hi : i < tcs.length
   ·have ce : decide ((i : Int) < (tcs.length : Int)) = true := decide_eq_true (by omega)
    have ceb : (i < tcs.length) = True := eq_true hi
    obtain ⟨s, hsx⟩ : ∃ s, tcs[i]? = some s := ⟨tcs[i], List.getElem?_eq_getElem hi⟩
    have HSX := A_ hsx
    have HKS : Aside0 (K[i]? = some s.erase) := ⟨by rw [HK.out, eraseL_map, List.getElem?_map, hsx]; rfl⟩
    have n1_ := HS.out
    rw [HT0.out] at n1_
    unfold pgGs at n1_
    simp only [NT.keys, NT.vals, NT.kids, NT.p, NT.kv, NT.vv, NT.cv] at n1_
    obtain ⟨Ac, cc, rfl⟩ := Kd.R_slice (SatG.ir n1_ 8 rfl)
    obtain ⟨Ak1, ck1, rfl⟩ := Kd.R_slice (SatG.sr n1_ 6 rfl)
    obtain ⟨Av1, cv1, rfl⟩ := Kd.R_slice (SatG.sr n1_ 7 rfl)
    clear HS
    have HS := A_ n1_
    clear n1_ hsx
    obtain ⟨adt, rfl⟩ := que_some (SatG.q HS.out 3 rfl) (by omega)
    have z1_ := ptrAt (SatG.rowQ HS.out 3 rfl) (And.intro HSX.out rfl)
    go_upto_region 6 with fail
    clear z1_
    obtain ⟨l1, hl1⟩ : ∃ r : List Int, r = ([] : List Int) ++ cs := ⟨_, rfl⟩
    have Hl1 := A_ hl1
    clear hl1
    have hl1_ : l1.length <= 5 := by rw [Hl1.out, List.nil_append]; exact hcl0
    obtain ⟨l2, hl2⟩ : ∃ r : List Int, r = l1 ++ [(m : Int)] := ⟨_, rfl⟩
    have Hl2 := A_ hl2
    clear hl2
    have b3 : (0 <= (pgs.length : Int)) = True := eq_true (by omega)
    have b4 : ((pgs.length : Int) < (m : Int)) = True := eq_true (by omega)
    have b5 : (pgs.length < m) = True := eq_true (by omega)
    have z0_ := (pageZ0 HS.out 5 rfl HAL.out)
    have z1_ := (pageZ1 HS.out 5 rfl HAL.out)
    have z2_ := (pageZ2 HS.out 5 rfl HAL.out)
    go_upto_region 7 with (first | ((with_reducible refine gate_dst (N := 8) rfl ?_); refine box_event ?hg (N := 8) ?hd (cs := #[.slice none 0 0, .slice none 0 0, .slice none 0 0]) (t := 110) ?hr ?_; (case hd => rfl); (case hg => rfl); (case hr => first | (go_simp; done) | (go_simp; rfl)); intro g6 hg w13 hbox hb; have n1_ : Aside0 (SatG w13 base [bx_ 96 tp Atk tks.length ctk Atv tvs.length ctv (some adt) tcs.length ctc, tz_ Atk ctk tks, tz_ Atv ctv tvs, qz_ 70 (some adt) ctc tcs, (NT.cksL 96 70 tcs), [prow (.slice (some ⟨go, 0, none⟩) m co1) (A ++ ⟨.slice Ak1 tks.length ck1, .slice Av1 tvs.length cv1, .slice Ac cs.length cc, tks, tvs, cs⟩ :: B)], tz_ Ak1 ck1 tks, tz_ Av1 cv1 tvs, [ints (.slice Ac cs.length cc) cs], (pgsCks A), (pgsCks B), L, bx_ 110 g6 none 0 0 none 0 0 none 0 0]) := ⟨SatG.newBox HS.out hg hbox hb (Nat.le_trans HBS.out (Below.size HB.out))⟩; have n2_ : Aside0 (Below base w w13) := ⟨(HB.out).trans (hb.mono (Nat.le_trans HBS.out (Below.size HB.out)))⟩; clear HS HB hg hbox hb; have HS := n1_; have HB := n2_; clear n1_ n2_; clear z0_ z1_ z2_; have z0_ := (pageZ0 HS.out 5 rfl HAL.out); have z1_ := (pageZ1 HS.out 5 rfl HAL.out); have z2_ := (pageZ2 HS.out 5 rfl HAL.out); have zs0_0 := SatG.z0 HS.out 12 rfl; have fs0_0 := SatG.f HS.out 12 rfl 0; have zs0_1 := SatG.z1 HS.out 12 rfl; have fs0_1 := SatG.f HS.out 12 rfl 1; have zs0_2 := SatG.z2 HS.out 12 rfl; have fs0_2 := SatG.f HS.out 12 rfl 2))
    have n1_ : Aside0 (SatG (World.setCell (World.setCell (World.setCell w13 ⟨g6, 0, none⟩ (.slice Ak1 tks.length ck1)) ⟨g6, 1, none⟩ (.slice Av1 tvs.length cv1)) ⟨g6, 2, none⟩ (.slice Ac cs.length cc)) base [bx_ 96 tp Atk tks.length ctk Atv tvs.length ctv (some adt) tcs.length ctc, tz_ Atk ctk tks, tz_ Atv ctv tvs, qz_ 70 (some adt) ctc tcs, (NT.cksL 96 70 tcs), [prow (.slice (some ⟨go, 0, none⟩) m co1) (A ++ ⟨.slice Ak1 tks.length ck1, .slice Av1 tvs.length cv1, .slice Ac cs.length cc, tks, tvs, cs⟩ :: B)], tz_ Ak1 ck1 tks, tz_ Av1 cv1 tvs, [ints (.slice Ac cs.length cc) cs], (pgsCks A), (pgsCks B), L, bx_ 110 g6 Ak1 tks.length ck1 Av1 tvs.length cv1 Ac cs.length cc]) := ⟨SatG.put2 (SatG.put1 (SatG.put0 HS.out 12 rfl (.slice Ak1 tks.length ck1)) 12 rfl (.slice Av1 tvs.length cv1)) 12 rfl (.slice Ac cs.length cc)⟩
    have n2_ : Aside0 (Below base w (World.setCell (World.setCell (World.setCell w13 ⟨g6, 0, none⟩ (.slice Ak1 tks.length ck1)) ⟨g6, 1, none⟩ (.slice Av1 tvs.length cv1)) ⟨g6, 2, none⟩ (.slice Ac cs.length cc))) := ⟨(((HB.out).setCell (p := ⟨g6, 0, none⟩) (SatG.ge HS.out 12 rfl) _).setCell (p := ⟨g6, 1, none⟩) (SatG.ge HS.out 12 rfl) _).setCell (p := ⟨g6, 2, none⟩) (SatG.ge HS.out 12 rfl) _⟩
    generalize World.setCell (World.setCell (World.setCell w13 ⟨g6, 0, none⟩ (.slice Ak1 tks.length ck1)) ⟨g6, 1, none⟩ (.slice Av1 tvs.length cv1)) ⟨g6, 2, none⟩ (.slice Ac cs.length cc) = w14 at n1_ n2_ ⊢
    clear HS HB z0_ z1_ z2_ zs0_0 fs0_0 zs0_1 fs0_1 zs0_2 fs0_2; have HS := n1_; have HB := n2_; clear n1_ n2_
    have sd13 : (([] : List Int).length + cs.length) * 8 <= 140737488355328 := by simp only [List.length_cons, List.length_nil]; omega
    have sd20 : (l1.length + 1) * 8 <= 140737488355328 := by omega
    have z0_ := (SatG.z2 HS.out 12 rfl)
    go_upto_region 8 with (first | ((with_reducible refine gate_dst (N := 40) rfl ?_); refine Kd.R_lit (Kd.int .i64) (w0 := w) base 3 ?hg (N := 40) ?hd (xs := ([] : List Int)) (inner := []) (ok := fun _ => True) (okp := fun _ => False) ?hr (Reps.none _ _) (fun _ h => h.elim) trivial HB.out (Nat.le_trans HBS.out (Below.size HB.out)) (by simp) ?_; (case hd => rfl); (case hg => rfl); (case hr => first | (go_simp; done) | (go_simp; rfl)); intro v7 w15 ho hb hg hn; obtain ⟨A8, c9, rfl⟩ : ∃ A c, v7 = .slice A 0 c := Kd.R_slice ho; have n1_ : Aside0 (SatG w15 base [bx_ 96 tp Atk tks.length ctk Atv tvs.length ctv (some adt) tcs.length ctc, tz_ Atk ctk tks, tz_ Atv ctv tvs, qz_ 70 (some adt) ctc tcs, (NT.cksL 96 70 tcs), [prow (.slice (some ⟨go, 0, none⟩) m co1) (A ++ ⟨.slice Ak1 tks.length ck1, .slice Av1 tvs.length cv1, .slice Ac cs.length cc, tks, tvs, cs⟩ :: B)], tz_ Ak1 ck1 tks, tz_ Av1 cv1 tvs, [ints (.slice Ac cs.length cc) cs], (pgsCks A), (pgsCks B), L, bx_ 110 g6 Ak1 tks.length ck1 Av1 tvs.length cv1 Ac cs.length cc, [ints (.slice A8 0 c9) ([] : List Int)]]) := ⟨SatG.litC HS.out (ir_ok ho) hg hn⟩; have n2_ : Aside0 (Below base w w15) := ⟨hb⟩; clear HS HB ho hb hg hn; have HS := n1_; have HB := n2_; clear n1_ n2_; clear z0_; have z0_ := (SatG.z2 HS.out 12 rfl)) | ((with_reducible refine gate_builtin (b := .append) (xs := #[.tmp 40, .tmp 42]) rfl ?_); at_builtin; refine Kd.R_append_rows (Kd.int .i64) (w0 := w) base rfl (.tmp 40) (.tmp 42) 108 3 (.int .i64 0) 8 rfl Try.underlying108 info3 rfl (by decide) (by omega) (.slice A8 0 c9) ([] : List Int) cs Ac cs.length cc (fun _ => True) (fun _ => False) rfl rfl (SatG.ir HS.out 13 rfl) (intC HS.out 8 rfl) (fun _ _ h => h) (fun _ h => h.elim) (fun _ _ => trivial) HB.out (Nat.le_trans HBS.out (Below.size HB.out)) sd13 ?_; intro u10 w16 ho hb hg hat; rw [<- Hl1.out] at ho; obtain ⟨A11, c12, rfl⟩ := Kd.R_slice ho; have n1_ : Aside0 (SatG w16 base [bx_ 96 tp Atk tks.length ctk Atv tvs.length ctv (some adt) tcs.length ctc, tz_ Atk ctk tks, tz_ Atv ctv tvs, qz_ 70 (some adt) ctc tcs, (NT.cksL 96 70 tcs), [prow (.slice (some ⟨go, 0, none⟩) m co1) (A ++ ⟨.slice Ak1 tks.length ck1, .slice Av1 tvs.length cv1, .slice Ac cs.length cc, tks, tvs, cs⟩ :: B)], tz_ Ak1 ck1 tks, tz_ Av1 cv1 tvs, [ints (.slice Ac cs.length cc) cs], (pgsCks A), (pgsCks B), L, bx_ 110 g6 Ak1 tks.length ck1 Av1 tvs.length cv1 Ac cs.length cc, [ints (.slice A11 l1.length c12) l1]]) := ⟨SatG.appI 13 HS.out rfl ho hg hat⟩; have n2_ : Aside0 (Below base w w16) := ⟨hb⟩; clear HS HB ho hb hg hat; have HS := n1_; have HB := n2_; clear n1_ n2_; clear z0_; have z0_ := (SatG.z2 HS.out 12 rfl)) | ((with_reducible refine gate_dst (N := 46) rfl ?_); refine Kd.R_lit (Kd.int .i64) (w0 := w) base 3 ?hg (N := 46) ?hd (xs := [(m : Int)]) (inner := [.int .i64 (m : Int)]) (ok := fun _ => True) (okp := fun _ => False) ?hr (Kd.reps_scalar (enc := (Value.int .i64)) [(m : Int)]) (fun _ h => h.elim) trivial HB.out (Nat.le_trans HBS.out (Below.size HB.out)) (by simp) ?_; (case hd => rfl); (case hg => rfl); (case hr => first | (go_simp; done) | (go_simp; rfl)); intro v14 w17 ho hb hg hn; obtain ⟨A15, c16, rfl⟩ : ∃ A c, v14 = .slice A 1 c := Kd.R_slice ho; have n1_ : Aside0 (SatG w17 base [bx_ 96 tp Atk tks.length ctk Atv tvs.length ctv (some adt) tcs.length ctc, tz_ Atk ctk tks, tz_ Atv ctv tvs, qz_ 70 (some adt) ctc tcs, (NT.cksL 96 70 tcs), [prow (.slice (some ⟨go, 0, none⟩) m co1) (A ++ ⟨.slice Ak1 tks.length ck1, .slice Av1 tvs.length cv1, .slice Ac cs.length cc, tks, tvs, cs⟩ :: B)], tz_ Ak1 ck1 tks, tz_ Av1 cv1 tvs, [ints (.slice Ac cs.length cc) cs], (pgsCks A), (pgsCks B), L, bx_ 110 g6 Ak1 tks.length ck1 Av1 tvs.length cv1 Ac cs.length cc, [ints (.slice A11 l1.length c12) l1], [ints (.slice A15 1 c16) [(m : Int)]]]) := ⟨SatG.litC HS.out (ir_ok ho) hg hn⟩; have n2_ : Aside0 (Below base w w17) := ⟨hb⟩; clear HS HB ho hb hg hn; have HS := n1_; have HB := n2_; clear n1_ n2_; clear z0_; have z0_ := (SatG.z2 HS.out 12 rfl)) | ((with_reducible refine gate_builtin (b := .append) (xs := #[.tmp 43, .tmp 46]) rfl ?_); at_builtin; refine Kd.R_append_rows (Kd.int .i64) (w0 := w) base rfl (.tmp 43) (.tmp 46) 108 3 (.int .i64 0) 8 rfl Try.underlying108 info3 rfl (by decide) (by omega) (.slice A11 l1.length c12) l1 [(m : Int)] A15 1 c16 (fun _ => True) (fun _ => False) rfl rfl (SatG.ir HS.out 13 rfl) (intC HS.out 14 rfl) (fun _ _ h => h) (fun _ h => h.elim) (fun _ _ => trivial) HB.out (Nat.le_trans HBS.out (Below.size HB.out)) sd20 ?_; intro u17 w18 ho hb hg hat; rw [<- Hl2.out] at ho; obtain ⟨A18, c19, rfl⟩ := Kd.R_slice ho; have n1_ : Aside0 (SatG w18 base [bx_ 96 tp Atk tks.length ctk Atv tvs.length ctv (some adt) tcs.length ctc, tz_ Atk ctk tks, tz_ Atv ctv tvs, qz_ 70 (some adt) ctc tcs, (NT.cksL 96 70 tcs), [prow (.slice (some ⟨go, 0, none⟩) m co1) (A ++ ⟨.slice Ak1 tks.length ck1, .slice Av1 tvs.length cv1, .slice Ac cs.length cc, tks, tvs, cs⟩ :: B)], tz_ Ak1 ck1 tks, tz_ Av1 cv1 tvs, [ints (.slice Ac cs.length cc) cs], (pgsCks A), (pgsCks B), L, bx_ 110 g6 Ak1 tks.length ck1 Av1 tvs.length cv1 Ac cs.length cc, [ints (.slice A18 l2.length c19) l2], [ints (.slice A15 1 c16) [(m : Int)]]]) := ⟨SatG.appI 13 HS.out rfl ho hg hat⟩; have n2_ : Aside0 (Below base w w18) := ⟨hb⟩; clear HS HB ho hb hg hat; have HS := n1_; have HB := n2_; clear n1_ n2_; clear z0_; have z0_ := (SatG.z2 HS.out 12 rfl); have zs0 := SatG.z2 HS.out 12 rfl; have fs0 := SatG.f HS.out 12 rfl 2))
    have n1_ : Aside0 (SatG (World.setCell w18 ⟨g6, 2, none⟩ (.slice A18 l2.length c19)) base [bx_ 96 tp Atk tks.length ctk Atv tvs.length ctv (some adt) tcs.length ctc, tz_ Atk ctk tks, tz_ Atv ctv tvs, qz_ 70 (some adt) ctc tcs, (NT.cksL 96 70 tcs), [prow (.slice (some ⟨go, 0, none⟩) m co1) (A ++ ⟨.slice Ak1 tks.length ck1, .slice Av1 tvs.length cv1, .slice Ac cs.length cc, tks, tvs, cs⟩ :: B)], tz_ Ak1 ck1 tks, tz_ Av1 cv1 tvs, [ints (.slice A18 l2.length c19) l2], (pgsCks A), (pgsCks B), L, bx_ 110 g6 Ak1 tks.length ck1 Av1 tvs.length cv1 A18 l2.length c19, [ints (.slice A15 1 c16) [(m : Int)]]]) := ⟨SatG.sel (SatG.put2 HS.out 12 rfl (.slice A18 l2.length c19)) [0, 1, 2, 3, 4, 5, 6, 7, 13, 9, 10, 11, 12, 14] (by decide)⟩
    have n2_ : Aside0 (Below base w (World.setCell w18 ⟨g6, 2, none⟩ (.slice A18 l2.length c19))) := ⟨(HB.out).setCell (p := ⟨g6, 2, none⟩) (SatG.ge HS.out 12 rfl) _⟩
    generalize World.setCell w18 ⟨g6, 2, none⟩ (.slice A18 l2.length c19) = w19 at n1_ n2_ ⊢
    clear HS HB z0_ zs0 fs0; have HS := n1_; have HB := n2_; clear n1_ n2_
    have z0_ := (SatG.z0 HS.out 12 rfl)
    have z1_ := (SatG.z1 HS.out 12 rfl)
    have z2_ := (SatG.z2 HS.out 12 rfl)
    have zs0_0 := pageZ0 HS.out 5 rfl HAL.out
    have fs0_0 := SatG.rowf HS.out 5 rfl (pgs.length * 3)
    have zs0_1 := pageZ1 HS.out 5 rfl HAL.out
    have fs0_1 := SatG.rowf HS.out 5 rfl (pgs.length * 3 + 1)
    have zs0_2 := pageZ2 HS.out 5 rfl HAL.out
    have fs0_2 := SatG.rowf HS.out 5 rfl (pgs.length * 3 + 2)
    go_upto_region 9 with fail
    have n1_ : Aside0 (SatG (World.setCell (World.setCell (World.setCell w19 ⟨go, pgs.length * 3, none⟩ (.slice Ak1 tks.length ck1)) ⟨go, pgs.length * 3 + 1, none⟩ (.slice Av1 tvs.length cv1)) ⟨go, pgs.length * 3 + 2, none⟩ (.slice A18 l2.length c19)) base [bx_ 96 tp Atk tks.length ctk Atv tvs.length ctv (some adt) tcs.length ctc, tz_ Atk ctk tks, tz_ Atv ctv tvs, qz_ 70 (some adt) ctc tcs, (NT.cksL 96 70 tcs), [prow (.slice (some ⟨go, 0, none⟩) m co1) (A ++ ⟨.slice Ak1 tks.length ck1, .slice Av1 tvs.length cv1, .slice A18 l2.length c19, tks, tvs, l2⟩ :: B)], tz_ Ak1 ck1 tks, tz_ Av1 cv1 tvs, [ints (.slice A18 l2.length c19) l2], (pgsCks A), (pgsCks B), L, bx_ 110 g6 Ak1 tks.length ck1 Av1 tvs.length cv1 A18 l2.length c19, [ints (.slice A15 1 c16) [(m : Int)]]]) := ⟨SatG.putPage HS.out 5 rfl HAL.out ⟨.slice Ak1 tks.length ck1, .slice Av1 tvs.length cv1, .slice A18 l2.length c19, tks, tvs, l2⟩⟩
    have n2_ : Aside0 (Below base w (World.setCell (World.setCell (World.setCell w19 ⟨go, pgs.length * 3, none⟩ (.slice Ak1 tks.length ck1)) ⟨go, pgs.length * 3 + 1, none⟩ (.slice Av1 tvs.length cv1)) ⟨go, pgs.length * 3 + 2, none⟩ (.slice A18 l2.length c19))) := ⟨(((HB.out).setCell (p := ⟨go, pgs.length * 3, none⟩) (SatG.rowge HS.out 5 rfl) _).setCell (p := ⟨go, pgs.length * 3 + 1, none⟩) (SatG.rowge HS.out 5 rfl) _).setCell (p := ⟨go, pgs.length * 3 + 2, none⟩) (SatG.rowge HS.out 5 rfl) _⟩
    generalize World.setCell (World.setCell (World.setCell w19 ⟨go, pgs.length * 3, none⟩ (.slice Ak1 tks.length ck1)) ⟨go, pgs.length * 3 + 1, none⟩ (.slice Av1 tvs.length cv1)) ⟨go, pgs.length * 3 + 2, none⟩ (.slice A18 l2.length c19) = w20 at n1_ n2_ ⊢
    clear HS HB z0_ z1_ z2_ zs0_0 fs0_0 zs0_1 fs0_1 zs0_2 fs0_2; have HS := n1_; have HB := n2_; clear n1_ n2_
    obtain ⟨p', hp'⟩ : ∃ p' : Pg, p' = ⟨.slice Ak1 tks.length ck1, .slice Av1 tvs.length cv1, .slice A18 l2.length c19, tks, tvs, l2⟩ := ⟨_, rfl⟩
    have HP' := A_ hp'
    have n1_ : SatG w20 base (pgGs 96 70 (NT.mk tp (.slice Atk tks.length ctk) (.slice Atv tvs.length ctv) (.slice (some adt) tcs.length ctc) tks tvs tcs) (.slice (some ⟨go, 0, none⟩) m co1) A B p' L) := by
     rw [hp']
     exact SatG.sel HS.out [0, 1, 2, 3, 4, 5, 6, 7, 8, 9, 10, 11] (by decide)
    have hpl : (A ++ p' :: B).length = m := by
     have h1 := congrArg List.length HBB.out
     rw [List.length_map, flatL_len] at h1
     rw [List.length_append, List.length_cons, h1, HAL.out, HM.out]
     omega
    have HPN := A_ hpl
    have hbs : s.erase.big <= n /\ m + s.erase.big <= 100000 := by
     have h1 := bigL_take HKS.out
     have h2 := bigL_take_le K (i + 1)
     have h3 := HBG.out
     have h4 := HPL.out
     rw [PT.big, <- HK.out] at h3 h4
     have := HM.out
     omega
    have hC := ih s hbs.1 (HO4.out _ (by rw [<- HK.out]; exact List.mem_of_getElem? HKS.out)) base _ _ _ w20 (lend_pages HSX.out n1_) (Nat.le_trans HBS.out (Below.size HB.out)) (by rw [hpl]; exact hbs.2)
    have HC := A_ hC
    clear hC n1_ hp' hpl hbs
    go_upto_region 10 with (first | (go_at_call 107; (with_reducible refine HC.out.mono ?_); rintro e w30 ⟨vo2, pgs2, rfl, he, hs2, hb2⟩))
    clear HC HS
    rw [List.map_append, List.map_cons, List.append_assoc, List.cons_append, HPN.out] at he
    obtain ⟨A2, p2, B2, rfl, hA2, hp2, hB2⟩ := split_pages he
    have h5 := back_pages HSX.out hs2
    obtain ⟨Ao2, co2, rfl⟩ := row_slice (SatG.rowOk h5 5 rfl)
    obtain ⟨go2, rfl⟩ := row_some (SatG.rowOk h5 5 rfl) (by rw [List.length_append, List.length_cons]; omega)
    cases p2 with | mk kv2 vv2 cv2 ks2 vs2 cs2 =>
    have e6 : (⟨ks2, vs2, cs2⟩ : S110) = ⟨tks, tvs, l2⟩ := by rw [show (⟨ks2, vs2, cs2⟩ : S110) = p'.erase from hp2, HP'.out]; rfl
    injection e6 with e7 e8 e9
    subst e7
    subst e8
    subst e9
    have HS := A_ h5
    have HB3 := A_ (HB.out.trans hb2)
    have HA2 := A_ (hA2.trans HA.out)
    have HB2 := A_ (show B2.map Pg.erase = flatL (K.take (i + 1)) (pgs.length + 1) by rw [hB2, HBB.out, take_snoc HKS.out, flatL_snoc, HM.out])
    have HM2 := A_ (show (A2 ++ ⟨kv2, vv2, cv2, ks2, vs2, cs2⟩ :: B2).length = pgs.length + 1 + PT.bigL (K.take (i + 1)) by
     have h1 := congrArg List.length HB2.out
     have h2 := congrArg List.length HA2.out
     rw [List.length_map, flatL_len] at h1
     rw [List.length_map, List.length_map] at h2
     rw [List.length_append, List.length_cons, h1, h2]
     omega)
    have HC2 := A_ (show cs2 = starts (K.take (i + 1)) (pgs.length + 1) by rw [Hl2.out, Hl1.out, List.nil_append, take_snoc HKS.out, starts_snoc, <- HCS.out, HM.out])
    clear he hs2 hb2 hA2 hp2 hB2 h5 HB
    go_wp2_with fail
    go_roundg (tcs.length - (i + 1))
    case measure => have := HKQ.out; omega
    case rel => exact ⟨i + 1, _, go2, co2, A2, B2, kv2, vv2, cv2, cs2, by first | rfl | (simp; done), by first | rfl | go_num | (simp; done), ⟨by have := HKQ.out; omega⟩, HC2, HA2, HB2, HM2, ⟨by rw [HT0.out]; exact HS.out⟩, HB3⟩
   ·have ce : decide ((i : Int) < (tcs.length : Int)) = false := decide_eq_false (by omega)
    have ceb : (i < tcs.length) = False := eq_false hi
    have hKi : K.take i = K := List.take_of_length_le (by rw [HKL.out]; omega)
    have HKI := A_ hKi
    clear hKi hi
    go_wp2_with fail
    go_ret
    refine ⟨_, A ++ ⟨kv, vv, cv, tks, tvs, cs⟩ :: B, rfl, ?_, by rw [<- HT0.out]; exact shut_pages HS.out, HB.out⟩
    rw [List.map_append, List.map_cons, HA.out, HBB.out, HKI.out]
    show _ = pgs.map Pg.erase ++ flatP (.mk tks tvs (NT.eraseL tcs)) pgs.length
    rw [flatP, <- HK.out]
    show _ ++ (⟨tks, tvs, cs⟩ : S110) :: _ = _
    rw [HCS.out, HKI.out]
def TRR (w : World) (base T E : Nat) (t : NT) (L : List Ck) (e : Ending) (w' : World) : Prop :=
 ∃ (vo : Value) (pgs : List Pg), e = .returned (.agg #[vo]) /\ pgs.map Pg.erase = flatP t.erase 0 /\ Sat w' base (t.cks T E ++ (outCks vo pgs ++ L)) /\ Below base w w'
theorem out_nil {w : World} {base : Nat} {A L : List Ck} (h : Sat w base (A ++ L)) : Sat w base (A ++ (outCks (.slice none 0 0) [] ++ L)) := by
 have hq : Ck.ok w base (.row 110 3 (.slice none 0 0) 0 []) := ⟨by simp, .inl ⟨rfl, rfl⟩⟩
 refine (Sat.add (A := [.row 110 3 (.slice none 0 0) 0 []]) h (Kept.refl _ _) (Sat.one hq) ?_).perm ?_
 ·rintro k ⟨c, hc, hb⟩
  rw [List.mem_singleton.1 hc] at hb
  cases hb
 ·exact List.perm_append_comm_assoc [Ck.row 110 3 (.slice none 0 0) 0 []] A L
theorem spec_l5Tree.calls (t : NT) (hbd : Bnd t.erase) (hbig : t.erase.big <= 100000) (base : Nat) (L : List Ck) (w : World) (hs : Sat w base (t.cks 96 70 ++ L)) (hbs : base <= w.heap.size) :
  Calls Try.prog 77 #[ptrv t.p] w (TRR w base 96 70 t L) := by
 have HS0 : Aside0 (Sat w base (L ++ t.cks 96 70)) := ⟨hs.perm List.perm_append_comm⟩
 have HB := A_ (Below.refl base w)
 have HBS := A_ hbs
 have HBD := A_ hbd
 clear hs hbs hbd
 obtain ⟨tp, htp⟩ : ∃ p, t.p = p := ⟨_, rfl⟩
 have HTP := A_ htp
 rw [htp]
 clear htp
 go_enter Try.func77, Try.ntmps77
 go_upto_region 1 with (first | ((with_reducible refine gate_dst (N := 2) rfl ?_); refine box_event ?hg (N := 2) ?hd (cs := #[.slice none 0 0]) (t := 29) ?hr ?_; (case hd => rfl); (case hg => rfl); (case hr => first | (go_simp; done) | (go_simp; rfl)); intro g hg w2 hbox hb; have n1_ : Aside0 (Sat w2 base (t.cks 96 70 ++ (outCks (.slice none 0 0) [] ++ (.box 29 g #[.slice none 0 0] :: L)))) := ⟨out_nil ((Sat.newBox HS0.out hg hbox hb HBS.out).perm ((List.perm_append_comm (l₁ := L)).cons _ |>.trans List.perm_middle.symm))⟩; have n2_ := A_ (HB.out.trans (hb.mono HBS.out)); clear HS0 HB hg hbox hb; have HS := n1_; have HB := n2_; clear n1_ n2_))
 have hC := spec_pages.calls t.erase.big t (Nat.le_refl _) HBD.out base _ [] _ w2 HS.out (Nat.le_trans HBS.out (Below.size HB.out)) (by rw [List.length_nil]; omega)
 rw [HTP.out] at hC
 have HC := A_ hC
 clear hC HS
 go_wp2_with (first | (go_at_call 107; (with_reducible refine HC.out.mono ?_); rintro e w3 ⟨vo, pgs, rfl, he, hs3, hb3⟩; obtain ⟨Ao, co, rfl⟩ := row_slice (hs3.ok (prow vo pgs) (List.mem_append_right _ List.mem_cons_self)); have HZ := A_ (hs3.cell (T := 29) (p := g) (cs := #[.slice none 0 0]) (List.mem_append_right _ (List.mem_append_right _ List.mem_cons_self))); have hz := hs3.cell (T := 29) (p := g) (cs := #[.slice none 0 0]) (List.mem_append_right _ (List.mem_append_right _ List.mem_cons_self)); have hz1 : w3.cell? ⟨g, 0, none⟩ = some (.slice none 0 0) := (blk_cell hz 0).trans rfl; have hf1 := blk_frozen hz 0; have HE := A_ he; have HS3 := A_ hs3; have HB3 := A_ hb3; clear hz he hs3 hb3))
 refine bodyPost_ret (results_cell_row rfl _ _ g 29 #[.slice Ao pgs.length co] (0, 0) _ rfl (blk_put (cs := #[.slice none 0 0]) HZ.out 0 _ rfl) Try.underlying29 rfl (by kernel_rfl)) rfl ?_
 have hX : Sat (w3.setCell ⟨g, 0, none⟩ (.slice Ao pgs.length co)) base (.box 29 g #[.slice Ao pgs.length co] :: (t.cks 96 70 ++ (outCks (.slice Ao pgs.length co) pgs ++ L))) := Sat.put (cs := #[.slice none 0 0]) (HS3.out.perm (by
  rw [<- List.append_assoc]
  refine List.perm_middle.trans ?_
  rw [List.append_assoc])) 0 _ rfl
 exact ⟨_, pgs, rfl, by rw [HE.out]; rfl, hX.tail, (HB.out.trans HB3.out).setCell (p := ⟨g, 0, none⟩) (HS3.out.ok (.box 29 g #[.slice none 0 0]) (List.mem_append_right _ (List.mem_append_right _ List.mem_cons_self))).1 _⟩
set_option maxHeartbeats 8000000
set_option maxRecDepth 100000
def WP (w : World) (base T E : Nat) (L : List Ck) (r : PT) (e : Ending) (w' : World) : Prop := ∃ t' : NT, e = .returned (ptrv t'.p) /\ t'.erase = r /\ Sat w' base (t'.cks T E ++ L) /\ Below base w w'
theorem Sat.consNo {w : World} {base : Nat} {c : Ck} {L : List Ck} (h : Sat w base L) (hc : c.ok w base) (hb : c.blk = none) : Sat w base (c :: L) :=
 ⟨fun d hd => by
  rcases List.mem_cons.1 hd with rfl | hd
  ·exact hc
  ·exact h.ok d hd, List.pairwise_cons.2 ⟨fun d _ k hk => (by rw [hb] at hk; cases hk), h.ap⟩⟩
theorem two_groups {w : World} {base : Nat} {A B : List Ck} (h : Sat w base (A ++ B)) : SatG w base [A, B] := by
 unfold SatG
 simp only [List.flatten_cons, List.flatten_nil, List.append_nil]
 exact h
theorem new_top {w : World} {base T E g : Nat} {t : NT} {L : List Ck} {v : Value} (h : SatG w base [t.cks T E, L, [.own E v (encs ptrv [t.p])], [.box T g #[.slice none 0 0, .slice none 0 0, v]]]) :
  Sat w base ((NT.mk g (.slice none 0 0) (.slice none 0 0) v [] [] [t]).cks T E ++ L) := by
 have h1 : SatG w base [t.cks T E, L, [.que E v (ptrs [t])], [.box T g #[.slice none 0 0, .slice none 0 0, v]]] := by
  have hq : PQ E w base v [t.p] := Kd.Q_of_R (h.ptrR 2 rfl)
  have h3 := pq_ok hq
  refine h.turn 2 rfl (Sat.one h3) (Kept.refl _ _) ?_
  rintro k ⟨d, hd, hb⟩
  rw [List.mem_singleton.1 hd] at hb
  exact .inl ⟨_, List.mem_singleton_self _, hb⟩
 have h2 : SatG w base [[.box T g #[.slice none 0 0, .slice none 0 0, v]], [.que E v (ptrs [t])], t.cks T E, L] := SatG.sel h1 [3, 2, 0, 1] (by decide)
 unfold SatG at h2
 simp only [List.flatten_cons, List.flatten_nil, List.append_nil, List.cons_append, List.nil_append] at h2
 have hn : Ck.ok w base (txt (.slice none 0 0) []) := sr_ok (Kd.R_nil _ _ _ _ _)
 have h3 := (h2.consNo hn rfl).consNo hn rfl
 refine h3.perm ?_
 rw [NT.cks, NT.cksL, NT.cksL, List.append_nil]
 show List.Perm (_ :: _ :: _ :: _ :: _) (_ :: _ :: _ :: _ :: _)
 exact ((List.Perm.swap _ _ _).cons _).trans (List.Perm.swap _ _ _)
theorem spec_l5Put.calls (t : NT) (key val : ByteArray) (hbd : Bnd t.erase) (base : Nat) (L : List Ck) (w : World) (hs : Sat w base (t.cks 96 70 ++ L)) (hbs : base <= w.heap.size) :
  Calls Try.prog 76 #[ptrv t.p, .string key, .string val] w (WP w base 96 70 L (withP t.erase key val)) := by
 have HBS := A_ hbs
 have HBD := A_ hbd
 have hC := spec_put.calls key val t.erase.big t (Nat.le_refl _) hbd base L w hs hbs
 obtain ⟨R, hR⟩ : ∃ R, R = withP t.erase key val := ⟨_, rfl⟩
 rw [<- hR]
 unfold withP at hR
 have HR := A_ hR
 have hp5 := putP_bnd t.erase.big t.erase key val hbd
 generalize putP t.erase.big t.erase key val = P1 at hC hR hp5 HR
 obtain ⟨tp, htp⟩ : ∃ p, t.p = p := ⟨_, rfl⟩
 rw [htp] at hC ⊢
 have HTP := A_ htp
 clear hR hbd hs hbs htp
 go_enter Try.func76, Try.ntmps76
 go_upto_region 2 with (first | (go_at_call 105; (with_reducible refine hC.mono ?_); rintro e w1 ⟨rfl, t1, ht1, ht2, ht3, ht4⟩))
 rw [HTP.out] at ht1
 cases t1 with | mk p1 kv1 vv1 cv1 ks1 vs1 cs1 =>
 have ht1 : p1 = tp := ht1
 subst ht1
 obtain ⟨Ak1, ck1, ek1⟩ := Kd.R_slice ((open_node ht3).sr 1 rfl)
 have ek1 : kv1 = .slice Ak1 ks1.length ck1 := ek1
 subst ek1
 obtain ⟨lk, hlk⟩ : ∃ n, ks1.length = n := ⟨_, rfl⟩
 have z0_ : w1.cell? ⟨p1, 0, none⟩ = some (.slice Ak1 lk ck1) := by rw [<- hlk]; exact (open_node ht3).z0 0 rfl
 obtain ⟨t1, ht0⟩ : ∃ t1, t1 = NT.mk p1 (.slice Ak1 ks1.length ck1) vv1 cv1 ks1 vs1 cs1 := ⟨_, rfl⟩
 rw [<- ht0] at ht2 ht3
 have hk1 : t1.keys.length = lk := by rw [ht0]; exact hlk
 have htp1 : t1.p = p1 := by rw [ht0]; rfl
 have HT := A_ (And.intro ht2 (And.intro hk1 htp1))
 rw [<- ht2] at hp5
 have HP5 := A_ hp5
 have hl5 : lk <= 5 := by have := hp5.1.2.1; rw [erase_keys] at this; omega
 have HB := A_ ht4
 have HS := A_ (two_groups ht3)
 have HSS := A_ ht3
 clear ht0 hk1 htp1 ht2 ht3 ht4 hlk hp5 hC
 by_cases h4 : 4 < lk
 ·have ct : decide ((4 : Int) < (lk : Int)) = true := decide_eq_true (by omega)
  go_upto_region 3 with fail
  clear z0_ HSS
  go_upto_region 4 with (first | ((with_reducible refine gate_dst (N := 18) rfl ?_); refine Kd.R_lit kptr (w0 := w) base 70 ?hg (N := 18) ?hd (xs := [p1]) (inner := [ptrv p1]) (ok := fun _ => True) (okp := fun _ => False) ?hr (Kd.reps_scalar (enc := ptrv) [p1]) (fun _ h => h.elim) trivial HB.out (Nat.le_trans HBS.out (Below.size HB.out)) (by simp) ?_; (case hd => rfl); (case hg => rfl); (case hr => first | (go_simp; done) | (go_simp; rfl)); intro v1 w2 ho hb hg hn; obtain ⟨A2, c3, rfl⟩ : ∃ A c, v1 = .slice A 1 c := Kd.R_slice ho; have n1_ : Aside0 (SatG w2 base [(t1.cks 96 70), L, [.own 70 (.slice A2 1 c3) (encs ptrv [p1])]]) := ⟨SatG.litC HS.out (own_ptr ho) hg hn⟩; have n2_ : Aside0 (Below base w w2) := ⟨hb⟩; clear HS HB ho hb hg hn; have HS := n1_; have HB := n2_; clear n1_ n2_) | ((with_reducible refine gate_dst (N := 20) rfl ?_); refine box_event ?hg (N := 20) ?hd (cs := #[.slice none 0 0, .slice none 0 0, .slice A2 1 c3]) (t := 96) ?hr ?_; (case hd => rfl); (case hg => rfl); (case hr => first | (go_simp; done) | (go_simp; rfl)); intro g4 hg w3 hbox hb; have n1_ : Aside0 (SatG w3 base [(t1.cks 96 70), L, [.own 70 (.slice A2 1 c3) (encs ptrv [p1])], bx_ 96 g4 none 0 0 none 0 0 A2 1 c3]) := ⟨SatG.newBox HS.out hg hbox hb (Nat.le_trans HBS.out (Below.size HB.out))⟩; have n2_ : Aside0 (Below base w w3) := ⟨(HB.out).trans (hb.mono (Nat.le_trans HBS.out (Below.size HB.out)))⟩; clear HS HB hg hbox hb; have HS := n1_; have HB := n2_; clear n1_ n2_))
  have hT : Sat w3 base ((NT.mk g4 (.slice none 0 0) (.slice none 0 0) (.slice A2 1 c3) [] [] [t1]).cks 96 70 ++ L) := new_top (by rw [HT.out.2.2]; exact HS.out)
  have HT2 := A_ hT
  have hC := spec_split.calls (NT.mk g4 (.slice none 0 0) (.slice none 0 0) (.slice A2 1 c3) [] [] [t1]) t1 0 rfl (by have := HT.out.2.1; omega) (by have := HT.out.2.1; omega) (by have := HP5.out.1.1; rw [erase_keys, erase_vals] at this; exact this) (by have := HP5.out.1.2.2; rw [erase_keys, erase_kids_len] at this; have := HT.out.2.1; omega) (by have := HP5.out.1.2.2; rw [erase_keys, erase_kids_len] at this; have := HT.out.2.1; omega) (Nat.le_refl _) (Nat.zero_le _) rfl (show (1 : Nat) <= 1001 by decide) base L w3 hT (Nat.le_trans HBS.out (Below.size HB.out))
  clear hT
  replace hC : Calls Try.prog 106 #[ptrv g4, .int .i64 0] w3 (WR w3 base 96 70 _ L _) := hC
  go_wp2_with (first | (go_at_call 106; (with_reducible refine hC.mono ?_); rintro e w9 ⟨rfl, t2, hu1, hu2, hu3, hu4⟩))
  have hu1 : t2.p = g4 := hu1
  rw [<- hu1]
  go_ret
  refine ⟨t2, rfl, ?_, hu3, HB.out.trans hu4⟩
  rw [hu2, HR.out, <- HT.out.1, erase_keys, HT.out.2.1, if_pos h4]
  rfl
 ·have ct : decide ((4 : Int) < (lk : Int)) = false := decide_eq_false (by omega)
  go_wp2_with fail
  rw [<- HT.out.2.2]
  go_ret
  refine ⟨t1, rfl, ?_, HSS.out, HB.out⟩
  rw [HR.out, <- HT.out.1, erase_keys, HT.out.2.1, if_neg h4]
theorem list_ins {α : Type} {A cs Z : List α} {z x : α} {i : Nat} (hi : i < cs.length) :
  ((((A ++ (cs ++ z :: Z)).take (A.length + (i + 1)) ++ cs.drop i ++ (A ++ (cs ++ z :: Z)).drop (A.length + (i + 1) + (cs.drop i).length)).take (A.length + i) ++ [x] ++
   ((A ++ (cs ++ z :: Z)).take (A.length + (i + 1)) ++ cs.drop i ++ (A ++ (cs ++ z :: Z)).drop (A.length + (i + 1) + (cs.drop i).length)).drop (A.length + i + [x].length)).drop A.length).take (cs.length + 1) = insAt cs i x := by
 have e1 : (A ++ (cs ++ z :: Z)).take (A.length + (i + 1)) = A ++ cs.take (i + 1) := by
  rw [List.take_append, Nat.add_sub_cancel_left, List.take_of_length_le (by omega), List.take_append_of_le_length (by omega)]
 have e2 : (A ++ (cs ++ z :: Z)).drop (A.length + (i + 1) + (cs.drop i).length) = Z := by
  rw [List.length_drop, show A.length + (i + 1) + (cs.length - i) = A.length + (cs.length + 1) by omega, List.drop_append, List.drop_eq_nil_of_le (by omega), Nat.add_sub_cancel_left, List.nil_append, List.drop_append, List.drop_eq_nil_of_le (by omega), Nat.add_sub_cancel_left]
  rfl
 rw [e1, e2]
 have hl : (A ++ cs.take i).length = A.length + i := by rw [List.length_append, List.length_take]; omega
 have hk : cs[i]? = some (cs[i]) := List.getElem?_eq_getElem hi
 have e3 : (A ++ cs.take (i + 1) ++ cs.drop i ++ Z).take (A.length + i) = A ++ cs.take i := by
  rw [List.take_add_one, hk]
  show (A ++ (cs.take i ++ [cs[i]]) ++ cs.drop i ++ Z).take (A.length + i) = _
  rw [<- hl, show A ++ (cs.take i ++ [cs[i]]) ++ cs.drop i ++ Z = (A ++ cs.take i) ++ ([cs[i]] ++ (cs.drop i ++ Z)) by simp only [List.append_assoc]]
  exact List.take_left
 have e4 : (A ++ cs.take (i + 1) ++ cs.drop i ++ Z).drop (A.length + i + [x].length) = cs.drop i ++ Z := by
  have h2 : (A ++ cs.take (i + 1)).length = A.length + i + [x].length := by rw [List.length_append, List.length_take]; simp only [List.length_cons, List.length_nil]; omega
  rw [<- h2, show A ++ cs.take (i + 1) ++ cs.drop i ++ Z = (A ++ cs.take (i + 1)) ++ (cs.drop i ++ Z) by simp only [List.append_assoc]]
  exact List.drop_left
 rw [e3, e4, show A ++ cs.take i ++ [x] ++ (cs.drop i ++ Z) = A ++ (insAt cs i x ++ Z) by unfold insAt; simp only [List.append_assoc, List.cons_append, List.nil_append], List.drop_left]
 rw [<- insAt_len x (Nat.le_of_lt hi)]
 exact List.take_left
theorem row_split {α : Type} {l cs : List α} {off n : Nat} (ht : (l.drop off).take n = cs) (hn : off + n + 1 <= l.length) : ∃ A z Z, l = A ++ (cs ++ z :: Z) /\ A.length = off /\ cs.length = n := by
 have h1 : (l.take off).length = off := by rw [List.length_take]; omega
 have h2 : cs.length = n := by rw [<- ht, List.length_take, List.length_drop]; omega
 have h3 : l.drop off = cs ++ (l.drop off).drop n := by rw [<- ht, List.take_append_drop]
 cases h4 : (l.drop off).drop n with
 | nil =>
  have := congrArg List.length h4
  rw [List.length_drop, List.length_drop, List.length_nil] at this
  omega
 | cons z Z =>
  refine ⟨l.take off, z, Z, ?_, h1, h2⟩
  rw [<- h4, <- h3, List.take_append_drop]
theorem ins_cells {w : World} {b E off n c i : Nat} {cur : Array Value} {cs : List Value} {x : Value} (hb : w.heap[b]? = some (.cells cur E (0, 0))) (hs : cur.size = off + c) (ht : (cur.toList.drop off).take n = cs) (hroom : n + 1 <= c) (hi : i < n) :
  ∃ cur', ((w.setCells b (off + (i + 1)) (cs.drop i)).setCells b (off + i) [x]).heap[b]? = some (.cells cur' E (0, 0)) /\ cur'.size = off + c /\ (cur'.toList.drop off).take (n + 1) = insAt cs i x := by
 have hl : cur.toList.length = off + c := by rw [Array.length_toList]; exact hs
 obtain ⟨A, z, Z, e, hA, hcl⟩ := row_split ht (by omega)
 have hd : (cs.drop i).length = n - i := by rw [List.length_drop]; omega
 obtain ⟨c1, h1, h2, h3⟩ := setCells_row (cs.drop i) (off + (i + 1)) w cur hb (by rw [hd]; omega)
 obtain ⟨c2, h4, h5, h6⟩ := setCells_row [x] (off + i) _ c1 h1 (by simp only [List.length_cons, List.length_nil]; omega)
 refine ⟨c2, h4, by omega, ?_⟩
 rw [h6, h3, e]
 subst hA
 rw [<- hcl]
 exact list_ins (by omega)
theorem q_of_cells {w : World} {base b E off n c : Nat} {cur : Array Value} {xs : List Value} (hb : w.heap[b]? = some (.cells cur E (0, 0))) (hs : cur.size = off + c) (ht : (cur.toList.drop off).take n = xs) (hn : n <= c) (hm : off + c <= maxLen) (hbase : base <= b) : QRow w base E 1 (.slice (some ⟨b, off, none⟩) n c) n xs := by
 refine ⟨?_, .inr ⟨b, off, c, cur, by rw [Nat.mul_one], hbase, hb, hn, hm, by rw [Nat.mul_one]; exact hs, by rw [Nat.mul_one, Nat.mul_one]; exact ht⟩⟩
 rw [<- ht, List.length_take, List.length_drop, Array.length_toList]
 omega
theorem size_of_info {e : TypeId} {z : Option Value} {by_ : Nat} (h : (Try.prog.info? e).map (fun i => (i.zero, i.size, i.bytes)) = some (z, 1, by_)) : (Try.prog.info? e).map (·.size) = some 1 := by
 obtain ⟨i0, hi, hz⟩ := Option.map_eq_some_iff.1 h
 simp only [Prod.mk.injEq] at hz
 rw [hi]
 simp [hz.2.1]
theorem run_sizeOf {e : TypeId} {z : Option Value} {by_ : Nat} (h : (Try.prog.info? e).map (fun i => (i.zero, i.size, i.bytes)) = some (z, 1, by_)) (w : World) : (Go.sizeOf e).run Try.prog w = .ok 1 w := by
 obtain ⟨i0, hi, hz⟩ := Option.map_eq_some_iff.1 h
 simp only [Prod.mk.injEq] at hz
 simp [Go.sizeOf, typeInfo, hi, hz.2.1]
theorem blk_shape {w : World} {b E : Nat} {cs : Array Value} (h : w.heap[b]? = some (.cells cs E (0, 0))) : w.shape? b = some (E, cs.size) := by
 simp [World.shape?, h]
theorem blk_cellAt {w : World} {b E : Nat} {cs : Array Value} (h : w.heap[b]? = some (.cells cs E (0, 0))) (j : Nat) : w.cell? ⟨b, j, none⟩ = cs[j]? := by
 simp [World.cell?, h]
theorem blk_frozenAt {w : World} {b E : Nat} {cs : Array Value} (h : w.heap[b]? = some (.cells cs E (0, 0))) (j : Nat) : w.frozen? ⟨b, j, none⟩ = false := by
 simp [World.frozen?, h]
theorem drop_take_at {α : Type} {l xs : List α} {o n j : Nat} {v : α} (h : (l.drop o).take n = xs) (hj : xs[j]? = some v) : l[o + j]? = some v := by
 subst h
 rw [List.getElem?_take] at hj
 split at hj
 ·rwa [List.getElem?_drop] at hj
 ·cases hj
set_option maxHeartbeats 4000000 in
theorem ins_txt_end (A : Option Addr) (n c : Nat) (vb vo vc : Nat) (w : World) {v1 : Value} {w1 : World} (hrun : ∀ ty, (Builtin.append_ #[38, 38] ty #[.slice A n c, .slice (some ⟨vb, vo, none⟩) 1 vc]).run Try.prog w = .ok v1 w1) :
  Calls Try.prog 136 #[.slice A n c, .int .i64 (n : Int), .slice (some ⟨vb, vo, none⟩) 1 vc] w fun e w' => e = .returned v1 /\ w' = w1 := by
 go_enter Try.func136, Try.ntmps136
 cases A with
 | none =>
  go_wp2_with (at_builtin; refine Lib.wpList_append_run _ rfl _ _ _ _ rfl _ _ rfl rfl _ _ (hrun _) ?_)
  all_goals (go_ret; exact ⟨rfl, rfl⟩)
 | some a =>
  obtain ⟨ab, ao, asp⟩ := a
  go_wp2_with (at_builtin; refine Lib.wpList_append_run _ rfl _ _ _ _ rfl _ _ rfl rfl _ _ (hrun _) ?_)
  all_goals (go_ret; exact ⟨rfl, rfl⟩)
set_option maxHeartbeats 4000000 in
theorem ins_txt_shift (b off n c i vb vo vc : Nat) (cs : List Value) (x : Value) (w : World) (curV cur : Array Value) (hi : i < n) (hroom : n + 1 <= c) (hc63 : off + c <= maxLen) (hvb : vb ≠ b)
  (hbV : w.heap[vb]? = some (.cells curV 9 (0, 0))) (hx : curV[vo]? = some x) (hb : w.heap[b]? = some (.cells cur 9 (0, 0))) (hsz : cur.size = off + c) (hcs : (cur.toList.drop off).take n = cs) (hcl : cs.length = n)
  (h1c : ∀ v ∈ cs, v.oneCell' = true) (h1v : x.oneCell' = true) :
  Calls Try.prog 136 #[.slice (some ⟨b, off, none⟩) n c, .int .i64 (i : Int), .slice (some ⟨vb, vo, none⟩) 1 vc] w fun e w' =>
   e = .returned (.slice (some ⟨b, off, none⟩) (n + 1) c) /\ w' = (w.drew.setCells b (off + (i + 1)) (cs.drop i)).setCells b (off + i) [x] := by
 have hc' : c <= 9223372036854775807 := by unfold maxLen at hc63; omega
 have hn63 : n <= 9223372036854775806 := by omega
 have hsz1 := size_of_info info9
 have hcc : ∀ j v, cs[j]? = some v -> w.cell? ⟨b, off + j, none⟩ = some v := fun j v hj => by
  rw [blk_cellAt hb, <- Array.getElem?_toList]
  exact drop_take_at hcs hj
 have hsp : ∀ j, j < n + 1 -> (w.cell? ⟨b, off + j, none⟩).isSome = true := fun j hj => by
  rw [blk_cellAt hb, Array.getElem?_eq_getElem (by omega)]
  rfl
 have hfz : ∀ j, w.frozen? ⟨b, j, none⟩ = false := blk_frozenAt hb
 have hov : ∀ lb cb, (callFunc 143 #[.slice (some ⟨vb, vo, none⟩) 1 vc, .slice (some ⟨b, off + (i + 1), none⟩) lb cb]).run Try.prog w = .ok (.value (.bool false)) w := fun lb cb => by
  rw [run_callFunc_extern Try.func143 (by kernel_rfl) (by kernel_rfl) (by kernel_rfl) (e := Extern.SlicesOverlaps.overlaps #[38, 38] #[4]) (by kernel_rfl),
   Lib.run_overlaps_apart w 38 4 9 Try.underlying38 1 (run_sizeOf info9) ⟨vb, vo, none⟩ ⟨b, off + (i + 1), none⟩ 1 vc lb cb hvb _ _ _ _ (blk_shape hbV) (blk_shape hb) (by omega) (blk_frozenAt hbV vo) (blk_frozenAt hbV _)]
  rfl
 have hdl : (cs.drop i).length = n - i := by rw [List.length_drop, hcl]
 have hz2 : ¬ ((i : Int) = (n : Int)) := by omega
 have hw1 : IntKind.i64.wrap ((i : Int) + 1) = (i : Int) + 1 := by rw [IntKind.wrap_i64]; omega
 have hw2 : IntKind.i64.wrap ((n : Int) + 1) = (n : Int) + 1 := by rw [IntKind.wrap_i64]; omega
 have hb1 : (0 : Int) <= (i : Int) + 1 := by omega
 have hin : i <= n := by omega
 have htn : ((i : Int) + 1).toNat = i + 1 := by omega
 have htn2 : ((n : Int) + 1).toNat = n + 1 := by omega
 have hb2 : ¬ (c = i + 1) := by omega
 have hb3 : (i : Int) <= (n : Int) + 1 := by omega
 have hb4 : ¬ (c = i) := by omega
 have hb5 : ¬ ((c : Int) < (n : Int) + 1) := by omega
 have hcp1 : ∀ ty dc sc, (Builtin.copy_ #[38, 38] ty #[.slice (some ⟨b, off + (i + 1), none⟩) (n - i) dc, .slice (some ⟨b, off + i, none⟩) (n + 1 - i) sc]).run Try.prog w.drew = .ok (goInt (cs.drop i).length) (w.drew.setCells b (off + (i + 1)) (cs.drop i)) := fun ty dc sc =>
  run_copy_cells w.drew _ _ ty 9 b (off + (i + 1)) (n - i) dc ⟨b, off + i, none⟩ (n + 1 - i) sc (cs.drop i) Try.underlying38 hsz1 (by rw [hdl]; simp only [Nat.min_def]; split <;> omega)
   (fun j v hj => by rw [Addr.add_lit, Nat.add_assoc]; exact hcc (i + j) v (by rwa [List.getElem?_drop] at hj))
   (fun j hj => by rw [Nat.add_assoc]; exact hsp _ (by omega)) (fun j hj => hfz _) (fun v hv => h1c v (List.mem_of_mem_drop hv))
 obtain ⟨W1, hW1⟩ : ∃ W1, W1 = w.drew.setCells b (off + (i + 1)) (cs.drop i) := ⟨_, rfl⟩
 obtain ⟨cur1, k1, k2, k3⟩ := setCells_row (cs.drop i) (off + (i + 1)) w.drew cur hb (by rw [hdl]; omega)
 rw [<- hW1] at k1
 have hcp2 : ∀ (W : World), (∀ x, W.cell? x = W1.cell? x) -> (∀ x, W.frozen? x = W1.frozen? x) -> ∀ ty dc, (Builtin.copy_ #[38, 38] ty #[.slice (some ⟨b, off + i, none⟩) (n + 1 - i) dc, .slice (some ⟨vb, vo, none⟩) 1 vc]).run Try.prog W = .ok (goInt 1) (W.setCells b (off + i) [x]) := fun W hWc hWf ty dc =>
  run_copy_cells W _ _ ty 9 b (off + i) (n + 1 - i) dc ⟨vb, vo, none⟩ 1 vc [x] Try.underlying38 hsz1 (by simp only [Nat.min_def, List.length_cons, List.length_nil]; split <;> omega)
   (fun j v hj => by
    cases j with
    | zero =>
     injection hj with hj
     subst hj
     rw [Addr.add_lit, hWc, hW1, World.cell?_setCells_out b _ _ _ _ (fun h _ => absurd h hvb)]
     exact (blk_cellAt hbV _).trans hx
    | succ j => cases hj)
   (fun j hj => by
    rw [hWc, blk_cellAt k1, Array.getElem?_eq_getElem (by simp only [List.length_cons, List.length_nil] at hj; omega)]
    rfl) (fun j hj => by rw [hWf]; exact blk_frozenAt k1 _) (fun v hv => by rw [List.mem_singleton.1 hv]; exact h1v)
 rw [<- hW1] at hcp1
 clear hcc hsp hfz k1 k2 k3 h1c h1v hbV hb hsz hcs hx
 go_enter Try.func136, Try.ntmps136
 go_wp2_with (simp only [hov])
 go_region_law (refine step_copy_runI rfl _ _ 38 38 rfl _ _ (by simp [Act.eval, Act.put]) (by simp [Act.eval, Act.put]) (hcp1 _ _ _) ?_)
 go_wp2_with (at_builtin; refine wpList_copy_runI _ rfl _ _ 38 38 rfl _ _ rfl rfl (hcp2 _ (fun _ => rfl) (fun _ => rfl) _ _) ?_)
 go_ret
 first | exact ⟨rfl, rfl⟩ | exact ⟨rfl, by rw [hW1]⟩
set_option maxHeartbeats 4000000 in
theorem ins_txt_grow (b off n c i vb vo vc : Nat) (cs : List Value) (x : Value) (w : World) (curV cur : Array Value) (hi : i < n) (hnc : n <= c) (hroom : c < n + 1) (hbig : (n + 1) * 16 <= 140737488355328)
  (hbV : w.heap[vb]? = some (.cells curV 9 (0, 0))) (hx : curV[vo]? = some x) (hb : w.heap[b]? = some (.cells cur 9 (0, 0))) (hcs : (cur.toList.drop off).take n = cs) (hcl : cs.length = n)
  (h1c : ∀ v ∈ cs, v.oneCell' = true) (h1v : x.oneCell' = true) :
  Calls Try.prog 136 #[.slice (some ⟨b, off, none⟩) n c, .int .i64 (i : Int), .slice (some ⟨vb, vo, none⟩) 1 vc] w fun e w' =>
   ∃ (G : Nat) (ROW : Array Value), n + 1 <= G /\ G <= maxLen /\ ROW.size = G /\ ROW.toList.take i = cs.take i /\ e = .returned (.slice (some ⟨w.heap.size, 0, none⟩) (n + 1) G) /\
   w' = (((w.alloc (.cells ROW 9)).drew.setCells w.heap.size i [x]).drew).setCells w.heap.size (i + 1) (cs.drop i) := by
 have hn63 : n <= 9223372036854775806 := by omega
 have hsz1 := size_of_info info9
 obtain ⟨i0, hi0, hzz⟩ := Option.map_eq_some_iff.1 info9
 simp only [Prod.mk.injEq] at hzz
 obtain ⟨hz0, hzs, hzb⟩ := hzz
 have hbw : b < w.heap.size := blk_lt hb
 have hvw : vb < w.heap.size := blk_lt hbV
 have hcc : ∀ j v, cs[j]? = some v -> w.cell? ⟨b, off + j, none⟩ = some v := fun j v hj => by
  rw [blk_cellAt hb, <- Array.getElem?_toList]
  exact drop_take_at hcs hj
 have hkk : (n : Int) + 1 - (i : Int) = ((n + 1 - i : Nat) : Int) := by omega
 have hik : i + (n + 1 - i) = n + 1 := by omega
 have hold : (Builtin.firstCells i0.size i (.slice (some ⟨b, off, none⟩) i c)).run Try.prog w.drew = .ok (cs.take i).toArray w.drew := by
  rw [hzs]
  exact run_firstCells_some w.drew 1 i ⟨b, off, none⟩ i c (cs.take i) (by rw [List.length_take]; omega) (fun j v hj => by
   rw [Addr.add_lit]
   rw [List.getElem?_take] at hj
   split at hj
   ·exact hcc j v hj
   ·cases hj)
 obtain ⟨G, hG⟩ : ∃ G, G = grownCap w (n + 1) c 9 := ⟨_, rfl⟩
 have hGn : n + 1 <= G := by rw [hG]; exact grownCap_ge w _ _ _
 have hG63 : G <= maxLen := by rw [hG]; exact grownCap_le_maxLen w (n + 1) c 9 (by unfold maxLen; omega)
 obtain ⟨ROW, hROW⟩ : ∃ ROW : Array Value, ROW = (cs.take i).toArray ++ Builtin.zeroCells (Value.cells (.string ⟨#[]⟩)) (n + 1 - i) ++ Builtin.zeroCells (Value.cells (.string ⟨#[]⟩)) (G - (n + 1)) := ⟨_, rfl⟩
 have hRs : ROW.size = G := by
  rw [hROW]
  simp [Builtin.zeroCells, Value.cells]
  omega
 have hRt : ROW.toList.take i = cs.take i := by
  have hlt : (cs.take i).length = i := by rw [List.length_take]; omega
  rw [hROW]
  simp only [Array.toList_append, List.append_assoc]
  rw [List.take_append_of_le_length (by rw [hlt]; exact Nat.le_refl _), List.take_of_length_le (by rw [hlt]; exact Nat.le_refl _)]
 have hrz : ∀ ty, (Builtin.append_ #[38, 3] ty #[.slice (some ⟨b, off, none⟩) i c, .int .i64 ((n : Int) + 1 - (i : Int))]).run Try.prog w = .ok (.slice (some ⟨w.heap.size, 0, none⟩) (n + 1) G) (w.drew.alloc (.cells ROW 9)) := fun ty => by
  have h := Lib.run_append_grow_zeros w 38 3 ty 9 i0 _ .i64 .i64 Try.underlying38 Try.underlying3 hi0 hz0 (some ⟨b, off, none⟩) i c (cs.take i) hold (n + 1 - i) (by omega) (by omega) (by omega) (by omega) (by rw [hzb]; omega) (by rw [hzb, hik]; exact growslice_fits hroom hbig)
  rw [hik, <- hG, <- hROW] at h
  rw [hkk]
  exact h
 clear hold hROW hG
 obtain ⟨W1, hW1⟩ : ∃ W1, W1 = w.drew.alloc (.cells ROW 9) := ⟨_, rfl⟩
 rw [<- hW1] at hrz
 have hnew : W1.heap[w.heap.size]? = some (.cells ROW 9 (0, 0)) := by rw [hW1]; exact heap_alloc_new w.drew _
 have hbN : b ≠ w.heap.size := by omega
 have hdl : (cs.drop i).length = n - i := by rw [List.length_drop, hcl]
 have hW1b : ∀ j, W1.cell? ⟨b, j, none⟩ = w.cell? ⟨b, j, none⟩ := fun j => by rw [hW1, World.cell?_alloc_past (w := w.drew) _ b j hbw]; rfl
 have hW1v : ∀ j, W1.cell? ⟨vb, j, none⟩ = w.cell? ⟨vb, j, none⟩ := fun j => by rw [hW1, World.cell?_alloc_past (w := w.drew) _ vb j hvw]; rfl
 have hcpA : ∀ (W : World), (∀ x, W.cell? x = W1.cell? x) -> (∀ x, W.frozen? x = W1.frozen? x) -> ∀ ty dc, (Builtin.copy_ #[38, 38] ty #[.slice (some ⟨w.heap.size, i, none⟩) (n + 1 - i) dc, .slice (some ⟨vb, vo, none⟩) 1 vc]).run Try.prog W = .ok (goInt 1) (W.setCells w.heap.size i [x]) := fun W hWc hWf ty dc =>
  run_copy_cells W _ _ ty 9 w.heap.size i (n + 1 - i) dc ⟨vb, vo, none⟩ 1 vc [x] Try.underlying38 hsz1 (by simp only [Nat.min_def, List.length_cons, List.length_nil]; split <;> omega)
   (fun j v hj => by
    cases j with
    | zero =>
     injection hj with hj
     subst hj
     rw [Addr.add_lit, hWc, hW1v]
     exact (blk_cellAt hbV _).trans hx
    | succ j => cases hj)
   (fun j hj => by
    rw [hWc, blk_cellAt hnew, Array.getElem?_eq_getElem (by simp only [List.length_cons, List.length_nil] at hj; omega)]
    rfl) (fun j hj => by rw [hWf]; exact blk_frozenAt hnew _) (fun v hv => by rw [List.mem_singleton.1 hv]; exact h1v)
 obtain ⟨cur1, k1, k2, k3⟩ := setCells_row [x] i W1 ROW hnew (by simp only [List.length_cons, List.length_nil]; omega)
 have hcpB : ∀ (W : World), (∀ x_, W.cell? x_ = (W1.setCells w.heap.size i [x]).cell? x_) -> (∀ x_, W.frozen? x_ = (W1.setCells w.heap.size i [x]).frozen? x_) -> ∀ ty dc sc, (Builtin.copy_ #[38, 38] ty #[.slice (some ⟨w.heap.size, i + 1, none⟩) (n - i) dc, .slice (some ⟨b, off + i, none⟩) (n - i) sc]).run Try.prog W = .ok (goInt (cs.drop i).length) (W.setCells w.heap.size (i + 1) (cs.drop i)) := fun W hWc hWf ty dc sc =>
  run_copy_cells W _ _ ty 9 w.heap.size (i + 1) (n - i) dc ⟨b, off + i, none⟩ (n - i) sc (cs.drop i) Try.underlying38 hsz1 (by rw [hdl]; simp only [Nat.min_def]; split <;> omega)
   (fun j v hj => by
    rw [Addr.add_lit, hWc, World.cell?_setCells_out _ _ _ _ _ (fun h _ => absurd h hbN), hW1b, Nat.add_assoc]
    exact hcc (i + j) v (by rwa [List.getElem?_drop] at hj))
   (fun j hj => by
    rw [hWc, blk_cellAt k1, Array.getElem?_eq_getElem (by omega)]
    rfl)
   (fun j hj => by rw [hWf]; exact blk_frozenAt k1 _) (fun v hv => h1c v (List.mem_of_mem_drop hv))
 subst hW1
 have hE1 : ∀ x, ((w.alloc (.cells ROW 9)).drew).cell? x = (w.drew.alloc (.cells ROW 9)).cell? x := fun x => rfl
 have hE2 : ∀ x, ((w.alloc (.cells ROW 9)).drew).frozen? x = (w.drew.alloc (.cells ROW 9)).frozen? x := fun x => rfl
 have hF1 : ∀ x_, (((w.alloc (.cells ROW 9)).drew.setCells w.heap.size i [x]).drew).cell? x_ = ((w.drew.alloc (.cells ROW 9)).setCells w.heap.size i [x]).cell? x_ := fun x => rfl
 have hF2 : ∀ x_, (((w.alloc (.cells ROW 9)).drew.setCells w.heap.size i [x]).drew).frozen? x_ = ((w.drew.alloc (.cells ROW 9)).setCells w.heap.size i [x]).frozen? x_ := fun x => rfl
 have hz2 : ¬ ((i : Int) = (n : Int)) := by omega
 have hz3 : (c : Int) < (n : Int) + 1 := by omega
 have hw1 : IntKind.i64.wrap ((i : Int) + 1) = (i : Int) + 1 := by rw [IntKind.wrap_i64]; omega
 have hw2 : IntKind.i64.wrap ((n : Int) + 1) = (n : Int) + 1 := by rw [IntKind.wrap_i64]; omega
 have hw3 : IntKind.i64.wrap ((n : Int) + 1 - (i : Int)) = (n : Int) + 1 - (i : Int) := by rw [IntKind.wrap_i64]; omega
 have hb1 : (0 : Int) <= (i : Int) + 1 := by omega
 have hin : i <= n := by omega
 have htn : ((i : Int) + 1).toNat = i + 1 := by omega
 have hb3 : (i : Int) <= (n : Int) := by omega
 have hGi : ¬ (G = i) := by omega
 have hGim : ¬ (G = i + 1) := by omega
 have hci : ¬ (c = i) := by omega
 have hG9 : G <= 9223372036854775807 := by unfold maxLen at hG63; omega
 have HX := A_ (show n + 1 <= G /\ G <= maxLen /\ ROW.size = G /\ ROW.toList.take i = cs.take i from ⟨hGn, hG63, hRs, hRt⟩)
 clear hkk hik hcc hRs hRt hnew hW1b hW1v k1 k2 k3 hbV hx hb hcs h1c h1v hG63
 go_enter Try.func136, Try.ntmps136
 go_wp2_with (first
  | (at_builtin; refine Lib.wpList_append_run _ rfl _ _ _ _ rfl _ _ rfl rfl _ _ (hrz _) ?_)
  | (at_builtin; refine wpList_copy_runI _ rfl _ _ 38 38 rfl _ _ rfl rfl (hcpA _ hE1 hE2 _ _) ?_)
  | (at_builtin; refine wpList_copy_runI _ rfl _ _ 38 38 rfl _ _ rfl rfl (hcpB _ (fun _ => rfl) (fun _ => rfl) _ _ _) ?_))
 go_region_law (refine step_copy_runI rfl _ _ 38 38 rfl (.slice (some ⟨w.heap.size, i + 1, none⟩) (n - i) (G - (i + 1))) (.slice (some ⟨b, off + i, none⟩) (n - i) (c - i)) (by simp [Act.eval, Act.put]) (by simp [Act.eval, Act.put]) (hcpB _ hF1 hF2 3 (G - (i + 1)) (c - i)) ?_)
 go_wp2
 go_ret
 exact ⟨G, ROW, HX.out.1, HX.out.2.1, HX.out.2.2.1, HX.out.2.2.2, rfl, rfl⟩
set_option maxHeartbeats 4000000 in
theorem ins_ptr_end (A : Option Addr) (n c : Nat) (vb vo vc : Nat) (w : World) {v1 : Value} {w1 : World} (hrun : ∀ ty, (Builtin.append_ #[99, 99] ty #[.slice A n c, .slice (some ⟨vb, vo, none⟩) 1 vc]).run Try.prog w = .ok v1 w1) :
  Calls Try.prog 128 #[.slice A n c, .int .i64 (n : Int), .slice (some ⟨vb, vo, none⟩) 1 vc] w fun e w' => e = .returned v1 /\ w' = w1 := by
 go_enter Try.func128, Try.ntmps128
 cases A with
 | none =>
  go_wp2_with (at_builtin; refine Lib.wpList_append_run _ rfl _ _ _ _ rfl _ _ rfl rfl _ _ (hrun _) ?_)
  all_goals (go_ret; exact ⟨rfl, rfl⟩)
 | some a =>
  obtain ⟨ab, ao, asp⟩ := a
  go_wp2_with (at_builtin; refine Lib.wpList_append_run _ rfl _ _ _ _ rfl _ _ rfl rfl _ _ (hrun _) ?_)
  all_goals (go_ret; exact ⟨rfl, rfl⟩)
set_option maxHeartbeats 4000000 in
theorem ins_ptr_shift (b off n c i vb vo vc : Nat) (cs : List Value) (x : Value) (w : World) (curV cur : Array Value) (hi : i < n) (hroom : n + 1 <= c) (hc63 : off + c <= maxLen) (hvb : vb ≠ b)
  (hbV : w.heap[vb]? = some (.cells curV 74 (0, 0))) (hx : curV[vo]? = some x) (hb : w.heap[b]? = some (.cells cur 74 (0, 0))) (hsz : cur.size = off + c) (hcs : (cur.toList.drop off).take n = cs) (hcl : cs.length = n)
  (h1c : ∀ v ∈ cs, v.oneCell' = true) (h1v : x.oneCell' = true) :
  Calls Try.prog 128 #[.slice (some ⟨b, off, none⟩) n c, .int .i64 (i : Int), .slice (some ⟨vb, vo, none⟩) 1 vc] w fun e w' =>
   e = .returned (.slice (some ⟨b, off, none⟩) (n + 1) c) /\ w' = (w.drew.setCells b (off + (i + 1)) (cs.drop i)).setCells b (off + i) [x] := by
 have hc' : c <= 9223372036854775807 := by unfold maxLen at hc63; omega
 have hn63 : n <= 9223372036854775806 := by omega
 have hsz1 := size_of_info info74
 have hcc : ∀ j v, cs[j]? = some v -> w.cell? ⟨b, off + j, none⟩ = some v := fun j v hj => by
  rw [blk_cellAt hb, <- Array.getElem?_toList]
  exact drop_take_at hcs hj
 have hsp : ∀ j, j < n + 1 -> (w.cell? ⟨b, off + j, none⟩).isSome = true := fun j hj => by
  rw [blk_cellAt hb, Array.getElem?_eq_getElem (by omega)]
  rfl
 have hfz : ∀ j, w.frozen? ⟨b, j, none⟩ = false := blk_frozenAt hb
 have hov : ∀ lb cb, (callFunc 137 #[.slice (some ⟨vb, vo, none⟩) 1 vc, .slice (some ⟨b, off + (i + 1), none⟩) lb cb]).run Try.prog w = .ok (.value (.bool false)) w := fun lb cb => by
  rw [run_callFunc_extern Try.func137 (by kernel_rfl) (by kernel_rfl) (by kernel_rfl) (e := Extern.SlicesOverlaps.overlaps #[99, 99] #[4]) (by kernel_rfl),
   Lib.run_overlaps_apart w 99 4 74 Try.underlying99 1 (run_sizeOf info74) ⟨vb, vo, none⟩ ⟨b, off + (i + 1), none⟩ 1 vc lb cb hvb _ _ _ _ (blk_shape hbV) (blk_shape hb) (by omega) (blk_frozenAt hbV vo) (blk_frozenAt hbV _)]
  rfl
 have hdl : (cs.drop i).length = n - i := by rw [List.length_drop, hcl]
 have hz2 : ¬ ((i : Int) = (n : Int)) := by omega
 have hw1 : IntKind.i64.wrap ((i : Int) + 1) = (i : Int) + 1 := by rw [IntKind.wrap_i64]; omega
 have hw2 : IntKind.i64.wrap ((n : Int) + 1) = (n : Int) + 1 := by rw [IntKind.wrap_i64]; omega
 have hb1 : (0 : Int) <= (i : Int) + 1 := by omega
 have hin : i <= n := by omega
 have htn : ((i : Int) + 1).toNat = i + 1 := by omega
 have htn2 : ((n : Int) + 1).toNat = n + 1 := by omega
 have hb2 : ¬ (c = i + 1) := by omega
 have hb3 : (i : Int) <= (n : Int) + 1 := by omega
 have hb4 : ¬ (c = i) := by omega
 have hb5 : ¬ ((c : Int) < (n : Int) + 1) := by omega
 have hcp1 : ∀ ty dc sc, (Builtin.copy_ #[99, 99] ty #[.slice (some ⟨b, off + (i + 1), none⟩) (n - i) dc, .slice (some ⟨b, off + i, none⟩) (n + 1 - i) sc]).run Try.prog w.drew = .ok (goInt (cs.drop i).length) (w.drew.setCells b (off + (i + 1)) (cs.drop i)) := fun ty dc sc =>
  run_copy_cells w.drew _ _ ty 74 b (off + (i + 1)) (n - i) dc ⟨b, off + i, none⟩ (n + 1 - i) sc (cs.drop i) Try.underlying99 hsz1 (by rw [hdl]; simp only [Nat.min_def]; split <;> omega)
   (fun j v hj => by rw [Addr.add_lit, Nat.add_assoc]; exact hcc (i + j) v (by rwa [List.getElem?_drop] at hj))
   (fun j hj => by rw [Nat.add_assoc]; exact hsp _ (by omega)) (fun j hj => hfz _) (fun v hv => h1c v (List.mem_of_mem_drop hv))
 obtain ⟨W1, hW1⟩ : ∃ W1, W1 = w.drew.setCells b (off + (i + 1)) (cs.drop i) := ⟨_, rfl⟩
 obtain ⟨cur1, k1, k2, k3⟩ := setCells_row (cs.drop i) (off + (i + 1)) w.drew cur hb (by rw [hdl]; omega)
 rw [<- hW1] at k1
 have hcp2 : ∀ (W : World), (∀ x, W.cell? x = W1.cell? x) -> (∀ x, W.frozen? x = W1.frozen? x) -> ∀ ty dc, (Builtin.copy_ #[99, 99] ty #[.slice (some ⟨b, off + i, none⟩) (n + 1 - i) dc, .slice (some ⟨vb, vo, none⟩) 1 vc]).run Try.prog W = .ok (goInt 1) (W.setCells b (off + i) [x]) := fun W hWc hWf ty dc =>
  run_copy_cells W _ _ ty 74 b (off + i) (n + 1 - i) dc ⟨vb, vo, none⟩ 1 vc [x] Try.underlying99 hsz1 (by simp only [Nat.min_def, List.length_cons, List.length_nil]; split <;> omega)
   (fun j v hj => by
    cases j with
    | zero =>
     injection hj with hj
     subst hj
     rw [Addr.add_lit, hWc, hW1, World.cell?_setCells_out b _ _ _ _ (fun h _ => absurd h hvb)]
     exact (blk_cellAt hbV _).trans hx
    | succ j => cases hj)
   (fun j hj => by
    rw [hWc, blk_cellAt k1, Array.getElem?_eq_getElem (by simp only [List.length_cons, List.length_nil] at hj; omega)]
    rfl) (fun j hj => by rw [hWf]; exact blk_frozenAt k1 _) (fun v hv => by rw [List.mem_singleton.1 hv]; exact h1v)
 rw [<- hW1] at hcp1
 clear hcc hsp hfz k1 k2 k3 h1c h1v hbV hb hsz hcs hx
 go_enter Try.func128, Try.ntmps128
 go_wp2_with (simp only [hov])
 go_region_law (refine step_copy_runI rfl _ _ 99 99 rfl _ _ (by simp [Act.eval, Act.put]) (by simp [Act.eval, Act.put]) (hcp1 _ _ _) ?_)
 go_wp2_with (at_builtin; refine wpList_copy_runI _ rfl _ _ 99 99 rfl _ _ rfl rfl (hcp2 _ (fun _ => rfl) (fun _ => rfl) _ _) ?_)
 go_ret
 first | exact ⟨rfl, rfl⟩ | exact ⟨rfl, by rw [hW1]⟩
set_option maxHeartbeats 4000000 in
theorem ins_ptr_grow (b off n c i vb vo vc : Nat) (cs : List Value) (x : Value) (w : World) (curV cur : Array Value) (hi : i < n) (hnc : n <= c) (hroom : c < n + 1) (hbig : (n + 1) * 8 <= 140737488355328)
  (hbV : w.heap[vb]? = some (.cells curV 74 (0, 0))) (hx : curV[vo]? = some x) (hb : w.heap[b]? = some (.cells cur 74 (0, 0))) (hcs : (cur.toList.drop off).take n = cs) (hcl : cs.length = n)
  (h1c : ∀ v ∈ cs, v.oneCell' = true) (h1v : x.oneCell' = true) :
  Calls Try.prog 128 #[.slice (some ⟨b, off, none⟩) n c, .int .i64 (i : Int), .slice (some ⟨vb, vo, none⟩) 1 vc] w fun e w' =>
   ∃ (G : Nat) (ROW : Array Value), n + 1 <= G /\ G <= maxLen /\ ROW.size = G /\ ROW.toList.take i = cs.take i /\ e = .returned (.slice (some ⟨w.heap.size, 0, none⟩) (n + 1) G) /\
   w' = (((w.alloc (.cells ROW 74)).drew.setCells w.heap.size i [x]).drew).setCells w.heap.size (i + 1) (cs.drop i) := by
 have hn63 : n <= 9223372036854775806 := by omega
 have hsz1 := size_of_info info74
 obtain ⟨i0, hi0, hzz⟩ := Option.map_eq_some_iff.1 info74
 simp only [Prod.mk.injEq] at hzz
 obtain ⟨hz0, hzs, hzb⟩ := hzz
 have hbw : b < w.heap.size := blk_lt hb
 have hvw : vb < w.heap.size := blk_lt hbV
 have hcc : ∀ j v, cs[j]? = some v -> w.cell? ⟨b, off + j, none⟩ = some v := fun j v hj => by
  rw [blk_cellAt hb, <- Array.getElem?_toList]
  exact drop_take_at hcs hj
 have hkk : (n : Int) + 1 - (i : Int) = ((n + 1 - i : Nat) : Int) := by omega
 have hik : i + (n + 1 - i) = n + 1 := by omega
 have hold : (Builtin.firstCells i0.size i (.slice (some ⟨b, off, none⟩) i c)).run Try.prog w.drew = .ok (cs.take i).toArray w.drew := by
  rw [hzs]
  exact run_firstCells_some w.drew 1 i ⟨b, off, none⟩ i c (cs.take i) (by rw [List.length_take]; omega) (fun j v hj => by
   rw [Addr.add_lit]
   rw [List.getElem?_take] at hj
   split at hj
   ·exact hcc j v hj
   ·cases hj)
 obtain ⟨G, hG⟩ : ∃ G, G = grownCap w (n + 1) c 74 := ⟨_, rfl⟩
 have hGn : n + 1 <= G := by rw [hG]; exact grownCap_ge w _ _ _
 have hG63 : G <= maxLen := by rw [hG]; exact grownCap_le_maxLen w (n + 1) c 74 (by unfold maxLen; omega)
 obtain ⟨ROW, hROW⟩ : ∃ ROW : Array Value, ROW = (cs.take i).toArray ++ Builtin.zeroCells (Value.cells (.pointer none)) (n + 1 - i) ++ Builtin.zeroCells (Value.cells (.pointer none)) (G - (n + 1)) := ⟨_, rfl⟩
 have hRs : ROW.size = G := by
  rw [hROW]
  simp [Builtin.zeroCells, Value.cells]
  omega
 have hRt : ROW.toList.take i = cs.take i := by
  have hlt : (cs.take i).length = i := by rw [List.length_take]; omega
  rw [hROW]
  simp only [Array.toList_append, List.append_assoc]
  rw [List.take_append_of_le_length (by rw [hlt]; exact Nat.le_refl _), List.take_of_length_le (by rw [hlt]; exact Nat.le_refl _)]
 have hrz : ∀ ty, (Builtin.append_ #[99, 3] ty #[.slice (some ⟨b, off, none⟩) i c, .int .i64 ((n : Int) + 1 - (i : Int))]).run Try.prog w = .ok (.slice (some ⟨w.heap.size, 0, none⟩) (n + 1) G) (w.drew.alloc (.cells ROW 74)) := fun ty => by
  have h := Lib.run_append_grow_zeros w 99 3 ty 74 i0 _ .i64 .i64 Try.underlying99 Try.underlying3 hi0 hz0 (some ⟨b, off, none⟩) i c (cs.take i) hold (n + 1 - i) (by omega) (by omega) (by omega) (by omega) (by rw [hzb]; omega) (by rw [hzb, hik]; exact growslice_fits hroom hbig)
  rw [hik, <- hG, <- hROW] at h
  rw [hkk]
  exact h
 clear hold hROW hG
 obtain ⟨W1, hW1⟩ : ∃ W1, W1 = w.drew.alloc (.cells ROW 74) := ⟨_, rfl⟩
 rw [<- hW1] at hrz
 have hnew : W1.heap[w.heap.size]? = some (.cells ROW 74 (0, 0)) := by rw [hW1]; exact heap_alloc_new w.drew _
 have hbN : b ≠ w.heap.size := by omega
 have hdl : (cs.drop i).length = n - i := by rw [List.length_drop, hcl]
 have hW1b : ∀ j, W1.cell? ⟨b, j, none⟩ = w.cell? ⟨b, j, none⟩ := fun j => by rw [hW1, World.cell?_alloc_past (w := w.drew) _ b j hbw]; rfl
 have hW1v : ∀ j, W1.cell? ⟨vb, j, none⟩ = w.cell? ⟨vb, j, none⟩ := fun j => by rw [hW1, World.cell?_alloc_past (w := w.drew) _ vb j hvw]; rfl
 have hcpA : ∀ (W : World), (∀ x, W.cell? x = W1.cell? x) -> (∀ x, W.frozen? x = W1.frozen? x) -> ∀ ty dc, (Builtin.copy_ #[99, 99] ty #[.slice (some ⟨w.heap.size, i, none⟩) (n + 1 - i) dc, .slice (some ⟨vb, vo, none⟩) 1 vc]).run Try.prog W = .ok (goInt 1) (W.setCells w.heap.size i [x]) := fun W hWc hWf ty dc =>
  run_copy_cells W _ _ ty 74 w.heap.size i (n + 1 - i) dc ⟨vb, vo, none⟩ 1 vc [x] Try.underlying99 hsz1 (by simp only [Nat.min_def, List.length_cons, List.length_nil]; split <;> omega)
   (fun j v hj => by
    cases j with
    | zero =>
     injection hj with hj
     subst hj
     rw [Addr.add_lit, hWc, hW1v]
     exact (blk_cellAt hbV _).trans hx
    | succ j => cases hj)
   (fun j hj => by
    rw [hWc, blk_cellAt hnew, Array.getElem?_eq_getElem (by simp only [List.length_cons, List.length_nil] at hj; omega)]
    rfl) (fun j hj => by rw [hWf]; exact blk_frozenAt hnew _) (fun v hv => by rw [List.mem_singleton.1 hv]; exact h1v)
 obtain ⟨cur1, k1, k2, k3⟩ := setCells_row [x] i W1 ROW hnew (by simp only [List.length_cons, List.length_nil]; omega)
 have hcpB : ∀ (W : World), (∀ x_, W.cell? x_ = (W1.setCells w.heap.size i [x]).cell? x_) -> (∀ x_, W.frozen? x_ = (W1.setCells w.heap.size i [x]).frozen? x_) -> ∀ ty dc sc, (Builtin.copy_ #[99, 99] ty #[.slice (some ⟨w.heap.size, i + 1, none⟩) (n - i) dc, .slice (some ⟨b, off + i, none⟩) (n - i) sc]).run Try.prog W = .ok (goInt (cs.drop i).length) (W.setCells w.heap.size (i + 1) (cs.drop i)) := fun W hWc hWf ty dc sc =>
  run_copy_cells W _ _ ty 74 w.heap.size (i + 1) (n - i) dc ⟨b, off + i, none⟩ (n - i) sc (cs.drop i) Try.underlying99 hsz1 (by rw [hdl]; simp only [Nat.min_def]; split <;> omega)
   (fun j v hj => by
    rw [Addr.add_lit, hWc, World.cell?_setCells_out _ _ _ _ _ (fun h _ => absurd h hbN), hW1b, Nat.add_assoc]
    exact hcc (i + j) v (by rwa [List.getElem?_drop] at hj))
   (fun j hj => by
    rw [hWc, blk_cellAt k1, Array.getElem?_eq_getElem (by omega)]
    rfl)
   (fun j hj => by rw [hWf]; exact blk_frozenAt k1 _) (fun v hv => h1c v (List.mem_of_mem_drop hv))
 subst hW1
 have hE1 : ∀ x, ((w.alloc (.cells ROW 74)).drew).cell? x = (w.drew.alloc (.cells ROW 74)).cell? x := fun x => rfl
 have hE2 : ∀ x, ((w.alloc (.cells ROW 74)).drew).frozen? x = (w.drew.alloc (.cells ROW 74)).frozen? x := fun x => rfl
 have hF1 : ∀ x_, (((w.alloc (.cells ROW 74)).drew.setCells w.heap.size i [x]).drew).cell? x_ = ((w.drew.alloc (.cells ROW 74)).setCells w.heap.size i [x]).cell? x_ := fun x => rfl
 have hF2 : ∀ x_, (((w.alloc (.cells ROW 74)).drew.setCells w.heap.size i [x]).drew).frozen? x_ = ((w.drew.alloc (.cells ROW 74)).setCells w.heap.size i [x]).frozen? x_ := fun x => rfl
 have hz2 : ¬ ((i : Int) = (n : Int)) := by omega
 have hz3 : (c : Int) < (n : Int) + 1 := by omega
 have hw1 : IntKind.i64.wrap ((i : Int) + 1) = (i : Int) + 1 := by rw [IntKind.wrap_i64]; omega
 have hw2 : IntKind.i64.wrap ((n : Int) + 1) = (n : Int) + 1 := by rw [IntKind.wrap_i64]; omega
 have hw3 : IntKind.i64.wrap ((n : Int) + 1 - (i : Int)) = (n : Int) + 1 - (i : Int) := by rw [IntKind.wrap_i64]; omega
 have hb1 : (0 : Int) <= (i : Int) + 1 := by omega
 have hin : i <= n := by omega
 have htn : ((i : Int) + 1).toNat = i + 1 := by omega
 have hb3 : (i : Int) <= (n : Int) := by omega
 have hGi : ¬ (G = i) := by omega
 have hGim : ¬ (G = i + 1) := by omega
 have hci : ¬ (c = i) := by omega
 have hG9 : G <= 9223372036854775807 := by unfold maxLen at hG63; omega
 have HX := A_ (show n + 1 <= G /\ G <= maxLen /\ ROW.size = G /\ ROW.toList.take i = cs.take i from ⟨hGn, hG63, hRs, hRt⟩)
 clear hkk hik hcc hRs hRt hnew hW1b hW1v k1 k2 k3 hbV hx hb hcs h1c h1v hG63
 go_enter Try.func128, Try.ntmps128
 go_wp2_with (first
  | (at_builtin; refine Lib.wpList_append_run _ rfl _ _ _ _ rfl _ _ rfl rfl _ _ (hrz _) ?_)
  | (at_builtin; refine wpList_copy_runI _ rfl _ _ 99 99 rfl _ _ rfl rfl (hcpA _ hE1 hE2 _ _) ?_)
  | (at_builtin; refine wpList_copy_runI _ rfl _ _ 99 99 rfl _ _ rfl rfl (hcpB _ (fun _ => rfl) (fun _ => rfl) _ _ _) ?_))
 go_region_law (refine step_copy_runI rfl _ _ 99 99 rfl (.slice (some ⟨w.heap.size, i + 1, none⟩) (n - i) (G - (i + 1))) (.slice (some ⟨b, off + i, none⟩) (n - i) (c - i)) (by simp [Act.eval, Act.put]) (by simp [Act.eval, Act.put]) (hcpB _ hF1 hF2 3 (G - (i + 1)) (c - i)) ?_)
 go_wp2
 go_ret
 exact ⟨G, ROW, HX.out.1, HX.out.2.1, HX.out.2.2.1, HX.out.2.2.2, rfl, rfl⟩
theorem grown_setCells (w : World) (b o : Nat) (vs : List Value) : w.grownBy (w.setCells b o vs) (some b) := by
 obtain ⟨h1, h2, h3, h4⟩ := setCells_same b vs o w
 exact ⟨h1, h2, h3, by omega, fun k _ hk => setCells_far vs o k fun e => hk (by rw [e])⟩
theorem grown_drew (w : World) (row : Option Nat) : w.grownBy w.drew row := ⟨rfl, rfl, rfl, Nat.le_refl _, fun _ _ _ => rfl⟩
theorem list_grow {α : Type} {R cs D : List α} {x : α} {i n : Nat} (h : R.take i = cs.take i) (hn : cs.length = n) (hi : i <= n) :
  ((R.take i ++ [x] ++ D).take (i + 1) ++ cs.drop i ++ (R.take i ++ [x] ++ D).drop (i + 1 + (cs.drop i).length)).take (n + 1) = insAt cs i x := by
 have hl : (cs.take i ++ [x]).length = i + 1 := by rw [List.length_append, List.length_take]; simp only [List.length_cons, List.length_nil]; omega
 have h2 : (cs.take i ++ [x] ++ D).take (i + 1) = cs.take i ++ [x] := by rw [<- hl]; exact List.take_left
 rw [h, h2]
 have e : cs.take i ++ [x] ++ cs.drop i = insAt cs i x := by unfold insAt; rw [List.append_assoc]; rfl
 rw [e, <- hn, <- insAt_len x (hn ▸ hi)]
 exact List.take_left
theorem own_one {w : World} {base E : Nat} {lv x : Value} (h : w.ownsRow base E 1 lv 1 [x]) : ∃ vb vc curV, lv = .slice (some ⟨vb, 0, none⟩) 1 vc /\ w.heap[vb]? = some (.cells curV E (0, 0)) /\ curV[0]? = some x := by
 rcases h.2 with ⟨_, h0⟩ | ⟨g, cap, cur, rfl, _, hh, _, _, _, ht⟩
 ·omega
 ·refine ⟨g, cap, cur, rfl, hh, ?_⟩
  rw [Nat.mul_one] at ht
  rw [<- Array.getElem?_toList]
  have := congrArg (fun l => l[0]?) ht
  simp only [List.getElem?_take] at this
  simpa using this
theorem news_one {w : World} {vb E : Nat} {curV : Array Value} {x : Value} (hbV : w.heap[vb]? = some (.cells curV E (0, 0))) (hx : curV[0]? = some x) : ∀ j u, [x][j]? = some u -> w.cell? ((⟨vb, 0, none⟩ : Addr).add j) = some u := fun j u hj => by
 cases j with
 | zero =>
  injection hj with hj
  subst hj
  rw [Addr.add_lit]
  exact (blk_cellAt hbV _).trans hx
 | succ j => cases hj
theorem grow_own {w : World} {base E n G i : Nat} {ROW : Array Value} {cs : List Value} {x : Value} (hbase : base <= w.heap.size) (hi : i <= n) (hcl : cs.length = n) (h1 : n + 1 <= G) (h2 : G <= maxLen) (h3 : ROW.size = G) (h4 : ROW.toList.take i = cs.take i) :
  ((((w.alloc (.cells ROW E)).drew.setCells w.heap.size i [x]).drew).setCells w.heap.size (i + 1) (cs.drop i)).ownsRow base E 1 (.slice (some ⟨w.heap.size, 0, none⟩) (n + 1) G) (n + 1) (insAt cs i x) /\
  ∀ row, w.grownBy ((((w.alloc (.cells ROW E)).drew.setCells w.heap.size i [x]).drew).setCells w.heap.size (i + 1) (cs.drop i)) row := by
 have hnew : (w.alloc (.cells ROW E)).drew.heap[w.heap.size]? = some (.cells ROW E (0, 0)) := heap_alloc_new w _
 have hdl : (cs.drop i).length = n - i := by rw [List.length_drop, hcl]
 obtain ⟨c1, k1, k2, k3⟩ := setCells_row [x] i _ ROW hnew (by simp only [List.length_cons, List.length_nil]; omega)
 obtain ⟨c2, k4, k5, k6⟩ := setCells_row (cs.drop i) (i + 1) (((w.alloc (.cells ROW E)).drew.setCells w.heap.size i [x]).drew) c1 k1 (by omega)
 refine ⟨⟨by rw [insAt_len x (by omega)]; omega, .inr ⟨_, G, c2, rfl, hbase, k4, h1, h2, by omega, ?_⟩⟩, fun row => ?_⟩
 ·rw [Nat.mul_one, k6, k3]
  exact list_grow h4 hcl hi
 ·obtain ⟨a1, a2, a3, a4⟩ := setCells_same w.heap.size [x] i (w.alloc (.cells ROW E)).drew
  obtain ⟨b1, b2, b3, b4⟩ := setCells_same w.heap.size (cs.drop i) (i + 1) (((w.alloc (.cells ROW E)).drew.setCells w.heap.size i [x]).drew)
  refine ⟨b1.trans a1, b2.trans a2, b3.trans a3, ?_, fun k hk _ => ?_⟩
  ·rw [b4]
   show w.heap.size <= ((w.alloc (.cells ROW E)).drew.setCells w.heap.size i [x]).heap.size
   rw [a4]
   show w.heap.size <= (w.alloc (.cells ROW E)).heap.size
   simp
  ·rw [setCells_far _ _ k (by omega)]
   show ((w.alloc (.cells ROW E)).drew.setCells w.heap.size i [x]).heap[k]? = _
   rw [setCells_far _ _ k (by omega)]
   exact (World.grownBy_alloc w (.cells ROW E) none).block k hk (by simp)
theorem own_of_cells {w : World} {base b E n c : Nat} {cur : Array Value} {xs : List Value} (hb : w.heap[b]? = some (.cells cur E (0, 0))) (hs : cur.size = 0 + c) (ht : (cur.toList.drop 0).take n = xs) (hn : n <= c) (hm : 0 + c <= maxLen) (hbase : base <= b) : w.ownsRow base E 1 (.slice (some ⟨b, 0, none⟩) n c) n xs := by
 refine ⟨?_, .inr ⟨b, c, cur, rfl, hbase, hb, hn, by omega, by omega, by rw [Nat.mul_one]; exact ht⟩⟩
 rw [<- ht, List.length_take, List.length_drop, Array.length_toList]
 omega
theorem ins_txt {base n c i : Nat} {A : Option Addr} {cs : List Value} {lv x : Value} {w : World} (hq : w.ownsRow base 9 1 (.slice A n c) n cs) (hl : w.ownsRow base 9 1 lv 1 [x]) (hne : ∀ k, (Value.slice A n c).ownBlock = some k -> lv.ownBlock ≠ some k)
  (hi : i <= n) (hbase : base <= w.heap.size) (hbig : (n + 1) * 16 <= 140737488355328) (h1c : ∀ v ∈ cs, v.oneCell' = true) (h1v : x.oneCell' = true) :
  Calls Try.prog 136 #[.slice A n c, .int .i64 (i : Int), lv] w fun e w' => ∃ A' c', e = .returned (.slice A' (n + 1) c') /\ w'.ownsRow base 9 1 (.slice A' (n + 1) c') (n + 1) (insAt cs i x) /\ w.grownBy w' (Value.slice A n c).ownBlock /\
   ((Value.slice A' (n + 1) c').ownBlock = (Value.slice A n c).ownBlock ∨ ∃ b, (Value.slice A' (n + 1) c').ownBlock = some b /\ w.heap.size <= b) := by
 obtain ⟨vb, vc, curV, rfl, hbV, hx⟩ := own_one hl
 have hcl : cs.length = n := by rw [hq.1, Nat.mul_one]
 obtain ⟨i0, hi0, hzz⟩ := Option.map_eq_some_iff.1 info9
 simp only [Prod.mk.injEq] at hzz
 obtain ⟨hz0, hzs, hzb⟩ := hzz
 rcases Nat.lt_or_ge i n with hin | hin
 ·rcases hq.2 with ⟨_, h0⟩ | ⟨b, cap, cur, e, hbb, hb, hnc, hmx, hsz, ht⟩
  ·omega
  injection e with e1 e2 e3
  subst e1 e3
  rw [Nat.mul_one] at hsz ht
  replace hmx : 0 + c <= maxLen := by omega
  replace hsz : cur.size = 0 + c := by omega
  rw [show cur.toList = cur.toList.drop 0 from rfl] at ht
  have hvb : vb ≠ b := fun e => hne b rfl (by rw [e]; rfl)
  rcases Nat.lt_or_ge c (n + 1) with hroom | hroom
  ·refine (ins_txt_grow b 0 n c i vb 0 vc cs x w curV cur hin hnc hroom hbig hbV hx hb ht hcl h1c h1v).mono ?_
   rintro e w' ⟨G, ROW, g1, g2, g3, g4, rfl, rfl⟩
   obtain ⟨o1, o2⟩ := grow_own (E := 9) (x := x) hbase hi hcl g1 g2 g3 g4
   exact ⟨_, _, rfl,  o1, o2 _, .inr ⟨_, rfl, Nat.le_refl _⟩⟩
  ·refine (ins_txt_shift b 0 n c i vb 0 vc cs x w curV cur hin hroom hmx hvb hbV hx hb hsz ht hcl h1c h1v).mono ?_
   rintro e w' ⟨rfl, rfl⟩
   obtain ⟨cur2, j1, j2, j3⟩ := ins_cells (w := w.drew) (x := x) hb hsz ht hroom hin
   refine ⟨_, _, rfl, own_of_cells j1 j2 j3 hroom hmx hbb, ?_, .inl rfl⟩
   exact ((grown_drew w _).trans (grown_setCells _ _ _ _)).trans (grown_setCells _ _ _ _)
 ·obtain rfl : i = n := Nat.le_antisymm hi hin
  have hnews := news_one hbV hx
  have h1w : ∀ u ∈ [x], u.oneCell' = true := fun u hu => by rw [List.mem_singleton.1 hu]; exact h1v
  have hrun0 := fun ty => run_append_own_at (P := Try.prog) w base 38 ty 9 i0 (.string ⟨#[]⟩) 1 16 Try.underlying38 hi0 hz0 hzs hzb rfl (by decide) (.slice A i c) i cs hq ⟨vb, 0, none⟩ 1 vc [x] rfl hnews h1w (by unfold maxLen; omega) hbig hbase
  obtain ⟨v1, w1, hrun, ho, hg, _, hat0⟩ := hrun0 0
  have hrun : ∀ ty, (Builtin.append_ #[38, 38] ty #[.slice A i c, .slice (some ⟨vb, 0, none⟩) 1 vc]).run Try.prog w = .ok v1 w1 := fun ty => hrun
  have hat : v1.ownBlock = (Value.slice A i c).ownBlock ∨ ∃ b, v1.ownBlock = some b /\ w.heap.size <= b := hat0.imp id fun h => ⟨_, h, Nat.le_refl _⟩
  have ein : insAt cs i x = cs ++ [x] := by unfold insAt; rw [List.take_of_length_le (by omega), List.drop_eq_nil_of_le (by omega)]
  obtain ⟨A', c', rfl⟩ : ∃ A' c', v1 = .slice A' (i + 1) c' := by
   rcases ho.2 with ⟨_, h0⟩ | ⟨g, cap, cur, e, _⟩
   ·omega
   ·exact ⟨_, _, e⟩
  refine (ins_txt_end A i c vb 0 vc w hrun).mono ?_
  rintro e w' ⟨rfl, rfl⟩
  exact ⟨A', c', rfl, by rw [ein]; exact ho, hg, hat⟩
theorem ins_ptr {base n c i : Nat} {A : Option Addr} {cs : List Value} {lv x : Value} {w : World} (hq : QRow w base 74 1 (.slice A n c) n cs) (hl : w.ownsRow base 74 1 lv 1 [x]) (hne : ∀ k, (Value.slice A n c).ownBlock = some k -> lv.ownBlock ≠ some k)
  (hi : i <= n) (hbase : base <= w.heap.size) (hbig : (n + 1) * 8 <= 140737488355328) (h1c : ∀ v ∈ cs, v.oneCell' = true) (h1v : x.oneCell' = true) :
  Calls Try.prog 128 #[.slice A n c, .int .i64 (i : Int), lv] w fun e w' => ∃ A' c', e = .returned (.slice A' (n + 1) c') /\ QRow w' base 74 1 (.slice A' (n + 1) c') (n + 1) (insAt cs i x) /\ w.grownBy w' (Value.slice A n c).ownBlock /\
   ((Value.slice A' (n + 1) c').ownBlock = (Value.slice A n c).ownBlock ∨ ∃ b, (Value.slice A' (n + 1) c').ownBlock = some b /\ w.heap.size <= b) := by
 obtain ⟨vb, vc, curV, rfl, hbV, hx⟩ := own_one hl
 have hcl : cs.length = n := by rw [hq.1, Nat.mul_one]
 obtain ⟨i0, hi0, hzz⟩ := Option.map_eq_some_iff.1 info74
 simp only [Prod.mk.injEq] at hzz
 obtain ⟨hz0, hzs, hzb⟩ := hzz
 rcases Nat.lt_or_ge i n with hin | hin
 ·rcases hq.2 with ⟨h0, _⟩ | ⟨b, off, cap, cur, e, hbb, hb, hnc, hmx, hsz, ht⟩
  ·omega
  rw [Nat.mul_one] at e
  injection e with e1 e2 e3
  subst e1 e3
  rw [Nat.mul_one] at hsz ht
  rw [Nat.mul_one] at ht
  have hvb : vb ≠ b := fun e => hne b rfl (by rw [e]; rfl)
  rcases Nat.lt_or_ge c (n + 1) with hroom | hroom
  ·refine (ins_ptr_grow b off n c i vb 0 vc cs x w curV cur hin hnc hroom hbig hbV hx hb ht hcl h1c h1v).mono ?_
   rintro e w' ⟨G, ROW, g1, g2, g3, g4, rfl, rfl⟩
   obtain ⟨o1, o2⟩ := grow_own (E := 74) (x := x) hbase hi hcl g1 g2 g3 g4
   exact ⟨_, _, rfl, q_of_own o1, o2 _, .inr ⟨_, rfl, Nat.le_refl _⟩⟩
  ·refine (ins_ptr_shift b off n c i vb 0 vc cs x w curV cur hin hroom hmx hvb hbV hx hb hsz ht hcl h1c h1v).mono ?_
   rintro e w' ⟨rfl, rfl⟩
   obtain ⟨cur2, j1, j2, j3⟩ := ins_cells (w := w.drew) (x := x) hb hsz ht hroom hin
   refine ⟨_, _, rfl, q_of_cells j1 j2 j3 hroom hmx hbb, ?_, .inl rfl⟩
   exact ((grown_drew w _).trans (grown_setCells _ _ _ _)).trans (grown_setCells _ _ _ _)
 ·obtain rfl : i = n := Nat.le_antisymm hi hin
  have hnews := news_one hbV hx
  have h1w : ∀ u ∈ [x], u.oneCell' = true := fun u hu => by rw [List.mem_singleton.1 hu]; exact h1v
  have hrun0 := fun ty => q_append (P := Try.prog) w base 99 ty 74 i0 (.pointer none) 1 8 Try.underlying99 hi0 hz0 hzs hzb rfl (by decide) (.slice A i c) i cs hq ⟨vb, 0, none⟩ 1 vc [x] rfl hnews h1w (by decide) (by unfold maxLen; omega) hbig hbase
  obtain ⟨v1, w1, hrun, ho, hg, hat⟩ := hrun0 0
  have hrun : ∀ ty, (Builtin.append_ #[99, 99] ty #[.slice A i c, .slice (some ⟨vb, 0, none⟩) 1 vc]).run Try.prog w = .ok v1 w1 := fun ty => hrun
  have ein : insAt cs i x = cs ++ [x] := by unfold insAt; rw [List.take_of_length_le (by omega), List.drop_eq_nil_of_le (by omega)]
  obtain ⟨A', c', rfl⟩ : ∃ A' c', v1 = .slice A' (i + 1) c' := by
   rcases ho.2 with ⟨h0, _⟩ | ⟨g, off, cap, cur, e, _⟩
   ·omega
   ·exact ⟨_, _, e⟩
  refine (ins_ptr_end A i c vb 0 vc w hrun).mono ?_
  rintro e w' ⟨rfl, rfl⟩
  exact ⟨A', c', rfl, by rw [ein]; exact ho, hg, hat⟩
section
variable {w w0 : World} {base : Nat} {gs : List (List Ck)}
theorem insTxt {ia ib i c : Nat} {A : Option Addr} {l : List ByteArray} {lv : Value} {x : ByteArray} (HS : SatG w base gs) (hia : gs[ia]? = some [txt (.slice A l.length c) l]) (hib : gs[ib]? = some [txt lv [x]]) (hne : ia ≠ ib) (hi : i <= l.length) (hbase : base <= w.heap.size) (hbig : l.length <= 1000000000000) (HB : Below base w0 w) :
  Calls Try.prog 136 #[.slice A l.length c, .int .i64 (i : Int), lv] w fun e w' => ∃ A' c', e = .returned (.slice A' (insAt l i x).length c') /\ SatG w' base (gs.set ia [txt (.slice A' (insAt l i x).length c') (insAt l i x)]) /\ Below base w0 w' := by
 have h1 : w.ownsRow base 9 1 (.slice A l.length c) l.length (encs Value.string l) := by
  have := (HS.at ia hia).ok _ List.mem_cons_self
  have h2 : w.ownsRow base 9 1 (.slice A l.length c) (encs Value.string l).length (encs Value.string l) := this
  rwa [encs_length] at h2
 have h2 : w.ownsRow base 9 1 lv 1 [Value.string x] := (HS.at ib hib).ok _ List.mem_cons_self
 have h3 := HS.apart2 hne hia hib _ List.mem_cons_self _ List.mem_cons_self
 have hin : insAt (encs Value.string l) i (Value.string x) = encs Value.string (insAt l i x) := by unfold encs; rw [insAt_map]
 have hln := insAt_len x hi
 refine (ins_txt h1 h2 (fun k hk => h3 k hk) hi hbase (by omega) (fun v hv => by
  obtain ⟨b, _, rfl⟩ := List.mem_map.1 hv
  rfl) rfl).mono ?_
 rintro e w' ⟨A', c', rfl, ho, hg, hat⟩
 rw [hin] at ho
 rw [<- hln] at ho hat ⊢
 refine ⟨A', c', rfl, HS.turn ia hia (Sat.one (c := txt (.slice A' (insAt l i x).length c') (insAt l i x)) ?_) ⟨hg.size, fun k hk hnot => hg.block k hk fun he => hnot ⟨_, List.mem_singleton_self _, he.symm⟩⟩ (one_blk hat), HB.grown hg hbase fun k hk => ((HS.at ia hia).ge ⟨_, List.mem_cons_self, hk⟩)⟩
 show w'.ownsRow base 9 1 _ (encs Value.string (insAt l i x)).length (encs Value.string (insAt l i x))
 rw [encs_length]
 exact ho
theorem insPtr {ia ib i c : Nat} {A : Option Addr} {l : List NT} {lv : Value} {r : NT} (HS : SatG w base gs) (hia : gs[ia]? = some [.que 74 (.slice A l.length c) (ptrs l)]) (hib : gs[ib]? = some [.own 74 lv [ptrv r.p]]) (hne : ia ≠ ib) (hi : i <= l.length) (hbase : base <= w.heap.size) (hbig : l.length <= 1000000000000) (HB : Below base w0 w) :
  Calls Try.prog 128 #[.slice A l.length c, .int .i64 (i : Int), lv] w fun e w' => ∃ A' c', e = .returned (.slice A' (insAt l i r).length c') /\ SatG w' base (gs.set ia [.que 74 (.slice A' (insAt l i r).length c') (ptrs (insAt l i r))]) /\ Below base w0 w' := by
 have hpl : ∀ m : List NT, (ptrs m).length = m.length := fun m => by rw [ptrs_encs, encs_length, List.length_map]
 have h1 : QRow w base 74 1 (.slice A l.length c) l.length (ptrs l) := by
  have := (HS.at ia hia).ok _ List.mem_cons_self
  have h2 : QRow w base 74 1 (.slice A l.length c) (ptrs l).length (ptrs l) := this
  rwa [hpl] at h2
 have h2 : w.ownsRow base 74 1 lv 1 [ptrv r.p] := (HS.at ib hib).ok _ List.mem_cons_self
 have h3 := HS.apart2 hne hia hib _ List.mem_cons_self _ List.mem_cons_self
 have hin : insAt (ptrs l) i (ptrv r.p) = ptrs (insAt l i r) := by rw [ptrs_encs, ptrs_encs]; unfold encs; rw [insAt_map, insAt_map]
 have hln := insAt_len r hi
 refine (ins_ptr h1 h2 (fun k hk => h3 k hk) hi hbase (by omega) (fun v hv => by
  rw [ptrs_encs] at hv
  obtain ⟨b, _, rfl⟩ := List.mem_map.1 hv
  rfl) rfl).mono ?_
 rintro e w' ⟨A', c', rfl, ho, hg, hat⟩
 rw [hin] at ho
 rw [<- hln] at ho hat ⊢
 refine ⟨A', c', rfl, HS.turn ia hia (Sat.one (c := .que 74 (.slice A' (insAt l i r).length c') (ptrs (insAt l i r))) ?_) ⟨hg.size, fun k hk hnot => hg.block k hk fun he => hnot ⟨_, List.mem_singleton_self _, he.symm⟩⟩ (one_blk hat), HB.grown hg hbase fun k hk => ((HS.at ia hia).ge ⟨_, List.mem_cons_self, hk⟩)⟩
 show QRow w' base 74 1 _ (ptrs (insAt l i r)).length (ptrs (insAt l i r))
 rw [hpl]
 exact ho
end
section
variable {w w0 : World} {base : Nat} {gs : List (List Ck)}
end
def clonePtr.f (l0 : List Nat) : Option (List Nat) := (some (([] : List Nat) : List Nat)).bind fun y179 => (if y179.length + l0.length < 8796093022208 then (some (y179 ++ l0)) else (none))
theorem clonePtr.nil_ (w : World) (a : Option Addr) (n c : Nat) : (binOp .eql 99 (.slice a n c) (.slice none 0 0)).run Try.prog w = .ok (.bool a.isNone) w := Go.Proofs.Ytoddejmlcnbdmaa.Gen.eql_nil w _ _ a n c Try.underlying99
attribute [local go_sem] clonePtr.nil_
theorem clonePtr.calls (A0 : Option Addr) (c0 : Nat) (l0 : List Nat) (r : List Nat) (w : World) (hr0 : Kd.C kptr w A0 l0.length l0) (hc0 : l0.length <= c0) (h : clonePtr.f l0 = some r) :
  Calls Try.prog 127 #[.slice A0 l0.length c0] w fun e w' => ∃ v0_ : Value, e = .returned (v0_) /\ Kd.R kptr 74 w' w.heap.size (fun _ => True) v0_ r /\ Below w.heap.size w w' := by
 have HR0 := A_ hr0
 have HC0 := A_ hc0
 clear hr0 hc0
 have HB := A_ (Below.refl w.heap.size w)
 have H : ((some (([] : List Nat) : List Nat)).bind fun y179 => (if y179.length + l0.length < 8796093022208 then (some (y179 ++ l0)) else (none))) = some r := h
 clear h
 obtain ⟨y179, hy179⟩ : ∃ y_ : List Nat, y_ = (([] : List Nat)) := ⟨_, rfl⟩
 replace H : (if y179.length + l0.length < 8796093022208 then (some (y179 ++ l0)) else (none)) = some r := by first | (rw [hy179]; with_reducible exact H) | (have H2_ := (Option.bind_some _ _).symm.trans H; rw [hy179]; with_reducible exact H2_) | (have H2_ := (Option.bind_some _ _).symm.trans H; with_reducible exact H2_) | with_reducible exact H | (rw [hy179]; exact H) | exact H
 have Ny179 := A_ hy179
 clear hy179
 by_cases c2 : y179.length + l0.length < 8796093022208
 ·rw [if_pos c2] at H
  have LMc2 := A_ c2
  clear c2
  obtain ⟨y182, hy182⟩ : ∃ y_ : List Nat, y_ = (y179 ++ l0) := ⟨_, rfl⟩
  replace H : (some y182) = some r := by first | (rw [hy182]; with_reducible exact H) | (have H2_ := (Option.bind_some _ _).symm.trans H; rw [hy182]; with_reducible exact H2_) | (have H2_ := (Option.bind_some _ _).symm.trans H; with_reducible exact H2_) | with_reducible exact H | (rw [hy182]; exact H) | exact H
  have Ny182 := A_ hy182
  clear hy182
  obtain rfl := Option.some.inj H
  rcases A0 with _ | ad_
  ·have e0_ : l0 = [] := by
    rcases Nat.eq_zero_or_pos l0.length with h_ | h_
    ·exact List.length_eq_zero_iff.1 h_
    ·obtain ⟨_, _, hz_⟩ := HR0.out
     obtain ⟨ad_, hz_, _⟩ := hz_ h_
     cases hz_
   subst e0_
   have e1_ : y182 = [] := by rw [Ny182.out, Ny179.out]; rfl
   subst e1_
   go_enter Try.func127, Try.ntmps127
   go_wp2
   go_ret
   exact ⟨_, rfl, Kd.R_nil _ _ _ _ _, HB.out⟩
  go_enter Try.func127, Try.ntmps127
  go_wp2_with (first | ((with_reducible refine gate_dst (N := 5) rfl ?_); refine Kd.R_lit kptr _ 74 ?hg (N := 5) ?hd (xs := ([] : List Nat)) (inner := []) (ok := fun _ => True) (okp := fun _ => True) ?hr ?hp (fun _ hk => hk) trivial (Below.refl _ _) (Nat.le_refl _) (by simp) ?_; (case hd => rfl); (case hg => rfl); (case hr => first | (go_simp; done) | (go_simp; rfl)); (case hp => exact (Reps.none _ _)); intro v180 w3 ho4 hb hg_ hnew_; clear hg_ hnew_; (first | rw [<- Ny179.out] at ho4 | (simp only [Int.reduceToNat] at ho4; rw [<- Ny179.out] at ho4)); have n0_ := A_ (Kd.R_lower ho4 (bw_ HB.out)); have n1_ := A_ (bs_ HB.out hb); clear HB; have HO181 := n0_; have HB := n1_; clear n0_ n1_; clear hb ho4) | ((with_reducible refine gate_builtin (b := .append) (xs := #[.tmp 5, .tmp 6]) rfl ?_); at_builtin; refine Kd.R_append_rows kptr (w0 := w) w.heap.size rfl (.tmp 5) (.tmp 6) 99 74 (.pointer none) 8 rfl Try.underlying99 info74 rfl (by decide) (by omega) v180 y179 l0 _ _ _ (fun _ => True) (fun _ => False) rfl rfl ?aO ?aR (fun _ _ h => h) (fun _ h => h.elim) ?aF ?aB ?aS ?aL ?_; (case aR => refine cd_ ?_; exact (Kd.C_below HR0.out HB.out)); (case aB => exact (be_ HB.out)); (case aF => exact (fun _ _ => trivial)); (case aO => exact (rk_ HO181.out)); (case aS => exact (bw_ HB.out)); (case aL => have := LMc2.out; omega); intro v183 w5 ho hb hg hat; rw [<- Ny182.out] at ho; have n0_ := A_ (hb); have n1_ := A_ (ho); clear HB; clear HO181; have HB := n0_; have HO184 := n1_; clear n0_ n1_; clear ho hb hg hat))
  go_ret
  exact ⟨_, ew_, by (with_reducible repeat (first | apply Kd.R_alloc | apply Kd.R_drewN | apply Kd.R_drew)); exact HO184.out, by repeat (first | (with_reducible first | exact HB.out | apply below_alloc | apply pw_below_drewN | apply below_drew1) | exact HB.out)⟩
 ·rw [if_neg c2] at H
  exact absurd H (by simp)
theorem clonePtr_n (A : Option Addr) (c : Nat) (l : List Nat) (n : Nat) (w : World) (hn : n = l.length) (hr : kptr.C w A n l) (hc : n <= c) (hl : l.length <= 1000000000000) :
  Calls Try.prog 127 #[.slice A n c] w fun e w' => ∃ v0_ : Value, e = .returned (v0_) /\ kptr.R 74 w' w.heap.size (fun _ => True) v0_ l /\ Below w.heap.size w w' := by
 subst hn
 refine clonePtr.calls A c l l w hr hc ?_
 unfold clonePtr.f
 rw [Option.bind_some, if_pos (by simp only [List.length_nil]; omega)]
 rfl
theorem cloneTxt_n (A : Option Addr) (c : Nat) (l : List ByteArray) (n : Nat) (w : World) (hn : n = l.length) (hr : Kd.string.C w A n l) (hc : n <= c) (hl : l.length <= 1000000000000) :
  Calls Try.prog 74 #[.slice A n c] w fun e w' => ∃ v0_ : Value, e = .returned (v0_) /\ Kd.string.R 9 w' w.heap.size (fun _ => True) v0_ l /\ Below w.heap.size w w' := by
 subst hn
 refine slices_Clone_string_string.calls A c l l w hr hc ?_
 unfold slices_Clone_string_string.f
 rw [Option.bind_some, if_pos (by simp only [List.length_nil]; omega)]
 rfl
set_option maxHeartbeats 8000000
set_option maxRecDepth 100000
theorem SatG.pack {w : World} {base : Nat} {a b c : List Ck} {R : List (List Ck)} (h : SatG w base (a :: b :: c :: R)) : SatG w base [a, b, c, R.flatten] := by
 unfold SatG at h ⊢
 simp only [List.flatten_cons, List.flatten_nil, List.append_nil] at h ⊢
 exact h
theorem SatG.unpack {w : World} {base : Nat} {a b c : List Ck} {R : List (List Ck)} (h : SatG w base [a, b, c, R.flatten]) : SatG w base (a :: b :: c :: R) := by
 unfold SatG at h ⊢
 simp only [List.flatten_cons, List.flatten_nil, List.append_nil] at h ⊢
 exact h
theorem impl_insert.calls {p : Nat} {Ak Av : Option Addr} {ck cv : Nat} {ks vs : List ByteArray} {cvv : Value} {i : Nat} {x y : ByteArray} (hi : i <= ks.length) (hv : i <= vs.length) (hk1 : ks.length <= 1000000000000) (hv1 : vs.length <= 1000000000000) (base : Nat) (R : List (List Ck)) (w : World)
  (hs : SatG w base ([.box 101 p #[.slice Ak ks.length ck, .slice Av vs.length cv, cvv]] :: [txt (.slice Ak ks.length ck) ks] :: [txt (.slice Av vs.length cv) vs] :: R)) (hbs : base <= w.heap.size) :
  Calls Try.prog 126 #[ptrv p, .int .i64 (i : Int), .string x, .string y] w fun e w' => e = .returned (.tuple #[]) /\ ∃ Ak' ck' Av' cv', SatG w' base ([.box 101 p #[.slice Ak' (insAt ks i x).length ck', .slice Av' (insAt vs i y).length cv', cvv]] :: [txt (.slice Ak' (insAt ks i x).length ck') (insAt ks i x)] :: [txt (.slice Av' (insAt vs i y).length cv') (insAt vs i y)] :: R) /\ Below base w w' := by
 have HS := A_ (SatG.pack hs)
 have HB := A_ (Below.refl base w)
 have HBS := A_ hbs
 obtain ⟨GR, hGR⟩ : ∃ G, G = R.flatten := ⟨_, rfl⟩
 rw [<- hGR] at HS
 have HGR := A_ hGR
 clear hs hbs hGR
 go_enter Try.func126, Try.ntmps126
 refine start_ (n := 24) (S := fun w' => w'.cell? ⟨p, 0, none⟩ = some (.slice Ak ks.length ck) /\ w'.cell? ⟨p, 1, none⟩ = some (.slice Av vs.length cv)) (ds := [20, 23]) (bt 24 0) (by kernel_rfl) rfl rfl ⟨(SatG.z0 (SatG.drew HS.out) 0 rfl), (SatG.z1 (SatG.drew HS.out) 0 rfl)⟩ (fun hHeld => ?_)
 refine pu_ 0 8 1 ?_
 refine pu_ 1 9 3 ?_
 refine pu_ 2 10 7 ?_
 refine pu_ 3 11 15 ?_
 refine pu_ 4 12 31 ?_
 refine pu_ 6 14 95 ?_
 refine pu_ 7 15 223 ?_
 refine pu_ 10 18 1247 ?_
 refine pu_ 11 19 3295 ?_
 refine pu_ 12 20 7391 ?_
 refine pu_ 14 22 23775 ?_
 refine pu_ 15 23 56543 ?_
 refine ta_ 5 13 56575 hHeld ?_
 refine ta_ 13 21 64767 hHeld ?_
 refine join_ (σ := Value × Value × Value) 7 (bt 24 131071) (fun z => [(16, z.1), (17, z.2.1), (24, z.2.2)]) (fun z w' => Below base w w' /\ SatG w' base [[.box 101 p #[.slice Ak ks.length ck, .slice Av vs.length cv, cvv]], [txt z.2.1 (insAt ks i x)], tz_ Av cv vs, GR, [txt z.2.2 [y]]]) ?_ ?_
 rotate_left
 ·intro hCont
  refine tw_ 8 16 (some 16) (some 24) 65023 130303 (fun K hK => ?_) (fun K hK => ?_)
  ·skip
   refine Kd.R_lit_step Kd.string (w0 := w) base 9 (by rfl) (N := 16) rfl (xs := [x]) (inner := [.string x]) (ok := fun _ => True) (okp := fun _ => False) ?hr (Kd.reps_scalar (enc := Value.string) [x]) (fun _ h => h.elim) trivial (below_drew HB.out) (Nat.le_trans HBS.out (Below.size (below_drew HB.out))) (by simp) ?_
   (case hr => first | (go_simp; done) | (go_simp; rfl))
   intro vb1 w_8 hob hbb hgb hnb
   have HB_8 := A_ hbb
   have HS_8 := A_ (SatG.lit (SatG.drew HS.out) hob hgb hnb)
   obtain ⟨vb1A, vb1c, rfl⟩ : ∃ A c, vb1 = .slice A 1 c := Kd.R_slice hob
   clear hob hbb hgb hnb
   refine hK.out _ _ ⟨(SatG.z0 HS_8.out 0 rfl), (SatG.z1 HS_8.out 0 rfl)⟩ (fun hHeld => ?_)
   clear hK K
   refine no_ 16 ?_
   refine tw_ 9 16 (some 17) (some 24) 65535 130559 (fun K hK => ?_) (fun K hK => ?_)
   ·skip
    refine go_ Try.func136 #[.slice Ak ks.length ck, .int .i64 (i : Int), .slice vb1A 1 vb1c] ?_
    with_reducible refine (insTxt (ia := 1) (ib := 4) (i := i) HS_8.out rfl rfl (by decide) hi (Nat.le_trans HBS.out (Below.size HB_8.out)) hk1 HB_8.out).mono ?_
    rintro e w_8_9 ⟨A1, c1, rfl, hs_, hb_⟩
    refine ⟨_, rfl, ?_⟩
    have HB_8_9 := A_ hb_
    have HS_8_9 := A_ hs_
    clear hs_ hb_
    refine hK.out _ _ ⟨(SatG.z0 HS_8_9.out 0 rfl), (SatG.z1 HS_8_9.out 0 rfl)⟩ (fun hHeld => ?_)
    clear hK K
    refine no_ 17 ?_
    refine on_ 16 (some 24) 131071 (fun K hK => ?_)
    refine Kd.R_lit_step Kd.string (w0 := w) base 9 (by rfl) (N := 24) rfl (xs := [y]) (inner := [.string y]) (ok := fun _ => True) (okp := fun _ => False) ?hr (Kd.reps_scalar (enc := Value.string) [y]) (fun _ h => h.elim) trivial HB_8_9.out (Nat.le_trans HBS.out (Below.size HB_8_9.out)) (by simp) ?_
    (case hr => first | (go_simp; done) | (go_simp; rfl))
    intro vb2 w_8_9_16 hob hbb hgb hnb
    have HB_8_9_16 := A_ hbb
    have HS_8_9_16 := A_ (SatG.lit HS_8_9.out hob hgb hnb)
    obtain ⟨vb2A, vb2c, rfl⟩ : ∃ A c, vb2 = .slice A 1 c := Kd.R_slice hob
    clear hob hbb hgb hnb
    refine hK.out _ _ ⟨(SatG.z0 HS_8_9_16.out 0 rfl), (SatG.z1 HS_8_9_16.out 0 rfl)⟩ (fun hHeld => ?_)
    clear hK K
    refine no_ 24 ?_
    exact norm_ (by simp only [putAll, Act.put, List.setIfInBounds_toArray, List.set_cons_zero, List.set_cons_succ]) (hCont ⟨.slice vb1A 1 vb1c, .slice A1 (insAt ks i x).length c1, .slice vb2A 1 vb2c⟩ _ ⟨HB_8_9_16.out, SatG.sel HS_8_9_16.out [0, 1, 2, 3, 5] (by decide)⟩)
   ·skip
    refine Kd.R_lit_step Kd.string (w0 := w) base 9 (by rfl) (N := 24) rfl (xs := [y]) (inner := [.string y]) (ok := fun _ => True) (okp := fun _ => False) ?hr (Kd.reps_scalar (enc := Value.string) [y]) (fun _ h => h.elim) trivial HB_8.out (Nat.le_trans HBS.out (Below.size HB_8.out)) (by simp) ?_
    (case hr => first | (go_simp; done) | (go_simp; rfl))
    intro vb2 w_8_16 hob hbb hgb hnb
    have HB_8_16 := A_ hbb
    have HS_8_16 := A_ (SatG.lit HS_8.out hob hgb hnb)
    obtain ⟨vb2A, vb2c, rfl⟩ : ∃ A c, vb2 = .slice A 1 c := Kd.R_slice hob
    clear hob hbb hgb hnb
    refine hK.out _ _ ⟨(SatG.z0 HS_8_16.out 0 rfl), (SatG.z1 HS_8_16.out 0 rfl)⟩ (fun hHeld => ?_)
    clear hK K
    refine no_ 24 ?_
    refine on_ 9 (some 17) 131071 (fun K hK => ?_)
    refine go_ Try.func136 #[.slice Ak ks.length ck, .int .i64 (i : Int), .slice vb1A 1 vb1c] ?_
    with_reducible refine (insTxt (ia := 1) (ib := 4) (i := i) HS_8_16.out rfl rfl (by decide) hi (Nat.le_trans HBS.out (Below.size HB_8_16.out)) hk1 HB_8_16.out).mono ?_
    rintro e w_8_16_9 ⟨A1, c1, rfl, hs_, hb_⟩
    refine ⟨_, rfl, ?_⟩
    have HB_8_16_9 := A_ hb_
    have HS_8_16_9 := A_ hs_
    clear hs_ hb_
    refine hK.out _ _ ⟨(SatG.z0 HS_8_16_9.out 0 rfl), (SatG.z1 HS_8_16_9.out 0 rfl)⟩ (fun hHeld => ?_)
    clear hK K
    refine no_ 17 ?_
    exact norm_ (by simp only [putAll, Act.put, List.setIfInBounds_toArray, List.set_cons_zero, List.set_cons_succ]) (hCont ⟨.slice vb1A 1 vb1c, .slice A1 (insAt ks i x).length c1, .slice vb2A 1 vb2c⟩ _ ⟨HB_8_16_9.out, SatG.sel HS_8_16_9.out [0, 1, 2, 3, 5] (by decide)⟩)
  ·skip
   refine Kd.R_lit_step Kd.string (w0 := w) base 9 (by rfl) (N := 24) rfl (xs := [y]) (inner := [.string y]) (ok := fun _ => True) (okp := fun _ => False) ?hr (Kd.reps_scalar (enc := Value.string) [y]) (fun _ h => h.elim) trivial (below_drew HB.out) (Nat.le_trans HBS.out (Below.size (below_drew HB.out))) (by simp) ?_
   (case hr => first | (go_simp; done) | (go_simp; rfl))
   intro vb2 w_16 hob hbb hgb hnb
   have HB_16 := A_ hbb
   have HS_16 := A_ (SatG.lit (SatG.drew HS.out) hob hgb hnb)
   obtain ⟨vb2A, vb2c, rfl⟩ : ∃ A c, vb2 = .slice A 1 c := Kd.R_slice hob
   clear hob hbb hgb hnb
   refine hK.out _ _ ⟨(SatG.z0 HS_16.out 0 rfl), (SatG.z1 HS_16.out 0 rfl)⟩ (fun hHeld => ?_)
   clear hK K
   refine no_ 24 ?_
   refine on_ 8 (some 16) 130559 (fun K hK => ?_)
   refine Kd.R_lit_step Kd.string (w0 := w) base 9 (by rfl) (N := 16) rfl (xs := [x]) (inner := [.string x]) (ok := fun _ => True) (okp := fun _ => False) ?hr (Kd.reps_scalar (enc := Value.string) [x]) (fun _ h => h.elim) trivial HB_16.out (Nat.le_trans HBS.out (Below.size HB_16.out)) (by simp) ?_
   (case hr => first | (go_simp; done) | (go_simp; rfl))
   intro vb1 w_16_8 hob hbb hgb hnb
   have HB_16_8 := A_ hbb
   have HS_16_8 := A_ (SatG.lit HS_16.out hob hgb hnb)
   obtain ⟨vb1A, vb1c, rfl⟩ : ∃ A c, vb1 = .slice A 1 c := Kd.R_slice hob
   clear hob hbb hgb hnb
   refine hK.out _ _ ⟨(SatG.z0 HS_16_8.out 0 rfl), (SatG.z1 HS_16_8.out 0 rfl)⟩ (fun hHeld => ?_)
   clear hK K
   refine no_ 16 ?_
   refine on_ 9 (some 17) 131071 (fun K hK => ?_)
   refine go_ Try.func136 #[.slice Ak ks.length ck, .int .i64 (i : Int), .slice vb1A 1 vb1c] ?_
   with_reducible refine (insTxt (ia := 1) (ib := 5) (i := i) HS_16_8.out rfl rfl (by decide) hi (Nat.le_trans HBS.out (Below.size HB_16_8.out)) hk1 HB_16_8.out).mono ?_
   rintro e w_16_8_9 ⟨A1, c1, rfl, hs_, hb_⟩
   refine ⟨_, rfl, ?_⟩
   have HB_16_8_9 := A_ hb_
   have HS_16_8_9 := A_ hs_
   clear hs_ hb_
   refine hK.out _ _ ⟨(SatG.z0 HS_16_8_9.out 0 rfl), (SatG.z1 HS_16_8_9.out 0 rfl)⟩ (fun hHeld => ?_)
   clear hK K
   refine no_ 17 ?_
   exact norm_ (by simp only [putAll, Act.put, List.setIfInBounds_toArray, List.set_cons_zero, List.set_cons_succ]) (hCont ⟨.slice vb1A 1 vb1c, .slice A1 (insAt ks i x).length c1, .slice vb2A 1 vb2c⟩ _ ⟨HB_16_8_9.out, SatG.sel HS_16_8_9.out [0, 1, 2, 3, 4] (by decide)⟩)
 rintro ⟨vb1, u1, vb2⟩ w8 ⟨hb, hs⟩
 obtain ⟨vb2A, vb2c, rfl⟩ : ∃ A c, vb2 = .slice A 1 c := Kd.R_slice (SatG.sr hs 4 rfl)
 obtain ⟨A1, c1, rfl⟩ := Kd.R_slice (SatG.sr hs 1 rfl)
 have hHeld : (w8.cell? ⟨p, 0, none⟩ = some (.slice Ak ks.length ck)) /\ (w8.cell? ⟨p, 1, none⟩ = some (.slice Av vs.length cv)) := ⟨SatG.z0 hs 0 rfl, SatG.z1 hs 0 rfl⟩
 clear HS HB
 have HB := A_ hb
 have HS := A_ hs
 clear hb hs
 refine norm_ (a' := ?_) ?_ ?_
 rotate_left
 ·simp only [putAll, Act.put, List.setIfInBounds_toArray, List.set_cons_zero, List.set_cons_succ]
  rfl
 refine on_ 17 (some 25) 262143 (fun K hK => ?_)
 refine go_ Try.func136 #[.slice Av vs.length cv, .int .i64 (i : Int), .slice vb2A 1 vb2c] ?_
 with_reducible refine (insTxt (ia := 2) (ib := 4) (i := i) HS.out rfl rfl (by decide) hv (Nat.le_trans HBS.out (Below.size HB.out)) hv1 HB.out).mono ?_
 rintro e w9 ⟨A2, c2, rfl, hs_, hb_⟩
 refine ⟨_, rfl, ?_⟩
 clear HS HB
 have HB := A_ hb_
 have n1_ : Aside0 (SatG w9 base [[.box 101 p #[.slice Ak ks.length ck, .slice Av vs.length cv, cvv]], [txt (.slice A1 (insAt ks i x).length c1) (insAt ks i x)], [txt (.slice A2 (insAt vs i y).length c2) (insAt vs i y)], GR, [txt (.slice vb2A 1 vb2c) [y]]]) := ⟨hs_⟩
 have HS := n1_
 clear n1_ hs_ hb_
 have zs0 := SatG.z0 HS.out 0 rfl
 have fs0 := SatG.f HS.out 0 rfl 0
 have zs1 := SatG.z1 HS.out 0 rfl
 have fs1 := SatG.f HS.out 0 rfl 1
 refine hK.out _ _ ⟨(SatG.z0 HS.out 0 rfl), (SatG.z1 HS.out 0 rfl)⟩ (fun hHeld => ?_)
 clear hK K
 refine no_ 25 ?_
 refine pu_ 18 26 524287 ?_
 refine pu_ 19 27 1048575 ?_
 refine la_ 20 none 2097151 (fun K hK => ?_)
 refine skip_ (w1 := ?_) (by rfl) rfl ?_ ?_
 rotate_left
 ·go_simp
  rfl
 refine hK.out _ _ ?_
 clear hK K
 refine pu_ 21 28 4194303 ?_
 refine pu_ 22 29 8388607 ?_
 refine la_ 23 none 16777215 (fun K hK => ?_)
 refine skip_ (w1 := ?_) (by rfl) rfl ?_ ?_
 rotate_left
 ·go_simp
  rfl
 refine hK.out _ _ ?_
 clear hK K
 refine done_ (by kernel_rfl) ?_
 go_end0
 have hS := SatG.sel (SatG.put1 (SatG.put0 HS.out 0 rfl (.slice A1 (insAt ks i x).length c1)) 0 rfl (.slice A2 (insAt vs i y).length c2)) [0, 1, 2, 3] (by decide)
 exact ⟨rfl, A1, c1, A2, c2, SatG.unpack (by rw [<- HGR.out]; exact hS), (HB.out.setCell (p := ⟨p, 0, none⟩) (SatG.ge HS.out 0 rfl) _).setCell (p := ⟨p, 1, none⟩) (SatG.ge HS.out 0 rfl) _⟩
set_option maxHeartbeats 8000000
set_option maxRecDepth 100000
section
variable {w w0 : World} {base : Nat} {gs : List (List Ck)}
theorem cloneT {A A' : Option Addr} {n c c' n' : Nat} {l l' : List ByteArray} (hs : SatG w base gs) (k : Nat) (hk : gs[k]? = some [txt (.slice A n c) l]) (m : Nat) (hm : m <= l.length) (hA : A' = if c = m then A else A.map (·.add (m * 1))) (hc : c' = c - m) (hl : l' = l.drop m) (hn : n' = n - m) (hb : l.length <= 1000000000000) :
  Calls Try.prog 74 #[.slice A' n' c'] w fun e w' => ∃ v0_ : Value, e = .returned (v0_) /\ Kd.string.R 9 w' w.heap.size (fun _ => True) v0_ l' /\ Below w.heap.size w w' := by
 obtain ⟨h1, h2, _⟩ := hs.row k hk
 subst h1
 have h3 := cutC (hs.sr k hk) hm
 subst hA hc hl hn
 refine cloneTxt_n _ _ _ _ _ (by rw [List.length_drop]) ?_ (by omega) (by rw [List.length_drop]; omega)
 rw [List.length_drop] at h3
 exact h3
theorem cloneQ {A A' : Option Addr} {n c c' n' : Nat} {l l' : List NT} (hs : SatG w base gs) (k : Nat) (hk : gs[k]? = some [.que 74 (.slice A n c) (ptrs l)]) (m : Nat) (hm : m <= l.length) (hA : A' = if c = m then A else A.map (·.add (m * 1))) (hc : c' = c - m) (hl : l' = l.drop m) (hn : n' = n - m) (hb : l.length <= 1000000000000) :
  Calls Try.prog 127 #[.slice A' n' c'] w fun e w' => ∃ v0_ : Value, e = .returned (v0_) /\ kptr.R 74 w' w.heap.size (fun _ => True) v0_ (l'.map NT.p) /\ Below w.heap.size w w' := by
 obtain ⟨h1, h2, h3⟩ := hs.rowQ k hk
 subst h1
 have h3' : kptr.C w A (l.map NT.p).length (l.map NT.p) := by rw [List.length_map]; exact h3
 have h4 := Kd.C_drop (c := c) h3' (m := m) (by rw [List.length_map]; exact hm) (by rw [List.length_map]; omega)
 subst hA hc hl hn
 refine clonePtr_n _ _ _ _ _ (by rw [List.length_map, List.length_drop]) ?_ (by omega) (by rw [List.length_map, List.length_drop]; omega)
 rw [List.length_drop, List.length_map] at h4
 rw [List.map_drop]
 exact h4
theorem insPtrI {ia ib i c n xp : Nat} {ai : Int} {A : Option Addr} {l : List NT} {lv : Value} {r : NT} (HS : SatG w base gs) (hai : ai = (i : Int) /\ n = l.length) (hia : gs[ia]? = some [.que 74 (.slice A n c) (ptrs l)]) (hib : gs[ib]? = some [.own 74 lv (encs ptrv [xp])]) (hp : r.p = xp) (hne : ia ≠ ib) (hi : i <= l.length) (hbase : base <= w.heap.size) (hbig : l.length <= 1000000000000) (HB : Below base w0 w) :
  Calls Try.prog 128 #[.slice A n c, .int .i64 ai, lv] w fun e w' => ∃ A' c', e = .returned (.slice A' (insAt l i r).length c') /\ SatG w' base (gs.set ia [.que 74 (.slice A' (insAt l i r).length c') (ptrs (insAt l i r))]) /\ Below base w0 w' := by
 obtain ⟨rfl, rfl⟩ := hai
 subst hp
 exact insPtr HS hia hib hne hi hbase hbig HB
end
section
variable {w w0 : World} {base : Nat} {gs : List (List Ck)}
end
section
variable {P : Program} {ops : Array Oper} {o : Oper} {a : Act} {Q : Exit -> Act -> World -> Prop} {Kc : Act -> World -> Prop}
end
set_option maxHeartbeats 8000000
set_option maxRecDepth 100000
theorem impl_pages.calls : ∀ (n : Nat) (t : NT), t.erase.big <= n -> Bnd t.erase -> ∀ (base : Nat) (vo : Value) (pgs : List Pg) (L : List Ck) (w : World), Sat w base (t.cks 101 74 ++ (outCks vo pgs ++ L)) -> base <= w.heap.size -> pgs.length + t.erase.big <= 100000 ->
  Calls Try.prog 110 #[ptrv t.p, vo] w (PGR w base 101 74 t L pgs) := by
 intro n
 induction n with
 | zero =>
  intro t hb
  exact absurd t.erase.big_pos (by omega)
 | succ n ih =>
  intro t hbig hbd base vo pgs L w hs hbs hpl
  have h0 := open_pages hs
  obtain ⟨⟨ho1, ho2, ho3⟩, ho4⟩ := Bnd_iff.1 hbd
  cases t with | mk tp tkv tvv tcv tks tvs tcs =>
  have e0 : (NT.mk tp tkv tvv tcv tks tvs tcs).erase = .mk tks tvs (NT.eraseL tcs) := rfl
  rw [e0] at hbig ho1 ho2 ho3 ho4 hpl
  simp only [NT.keys, NT.vals, NT.kids, NT.p, NT.kv, NT.vv, NT.cv] at h0 ⊢
  simp only [PT.keys, PT.vals, PT.kids] at ho1 ho2 ho3 ho4
  obtain ⟨Atk, ctk, rfl⟩ := Kd.R_slice (h0.sr 1 rfl)
  obtain ⟨Atv, ctv, rfl⟩ := Kd.R_slice (h0.sr 2 rfl)
  obtain ⟨Atc, ctc, rfl, _, _⟩ := q_slice (h0.q 3 rfl)
  obtain ⟨Ao, co, rfl⟩ := row_slice (h0.rowOk 5 rfl)
  have HS := A_ h0
  have HB := A_ (Below.refl base w)
  have HBS := A_ hbs
  have HBG := A_ hbig
  have HPL := A_ hpl
  have HO4 := A_ ho4
  have hnl : (NT.eraseL tcs).length = tcs.length := by rw [eraseL_map, List.length_map]
  have htv : tvs.length <= 4 /\ tcs.length <= 5 := by omega
  have hpn : pgs.length + 1 <= 100000 := by have := (PT.mk tks tvs (NT.eraseL tcs)).big_pos; omega
  clear h0 hs hbs hbig hpl ho1 ho3 ho4 hbd hnl e0
  go_enter Try.func110, Try.ntmps110
  go_upto_region 2 with fail
  refine start_ (n := 15) (S := fun w' => w'.cell? ⟨tp, 0, none⟩ = some (.slice Atk tks.length ctk) /\ w'.cell? ⟨tp, 1, none⟩ = some (.slice Atv tvs.length ctv)) (ds := []) (bt 15 0) (by kernel_rfl) rfl rfl ⟨(SatG.z0 (SatG.drew HS.out) 0 rfl), (SatG.z1 (SatG.drew HS.out) 0 rfl)⟩ (fun hHeld => ?_)
  refine pu_ 0 10 1 ?_
  refine pu_ 1 11 3 ?_
  refine pu_ 2 12 7 ?_
  refine pu_ 3 13 15 ?_
  refine pu_ 6 16 79 ?_
  refine pu_ 7 17 207 ?_
  refine pu_ 8 18 463 ?_
  refine ta_ 4 14 479 hHeld ?_
  refine ta_ 9 19 991 hHeld ?_
  refine on_ 5 (some 15) 1023 (fun K hK => ?_)
  refine go_ Try.func74 #[.slice Atk tks.length ctk] ?_
  with_reducible refine (cloneTxt_n Atk ctk tks tks.length _ rfl (SatG.row (SatG.drew HS.out) 1 rfl).2.2 (SatG.row (SatG.drew HS.out) 1 rfl).2.1 (by omega)).mono ?_
  rintro e w8 ⟨v0_, rfl, ho, hb⟩
  refine ⟨_, rfl, ?_⟩
  obtain ⟨Ar1, cr1, rfl⟩ := Kd.R_slice ho
  have n1_ : Aside0 (SatG w8 base [bx_ 101 tp Atk tks.length ctk Atv tvs.length ctv Atc tcs.length ctc, tz_ Atk ctk tks, tz_ Atv ctv tvs, qz_ 74 Atc ctc tcs, (NT.cksL 101 74 tcs), [prow (.slice Ao pgs.length co) pgs], (pgsCks pgs), L, tz_ Ar1 cr1 tks]) := ⟨SatG.newTxt (SatG.drew HS.out) hb (Nat.le_trans HBS.out (Below.size (below_drew HB.out))) ho⟩
  have n2_ : Aside0 (Below base w w8) := ⟨((below_drew HB.out)).trans (hb.mono (Nat.le_trans HBS.out (Below.size (below_drew HB.out))))⟩
  clear HS HB ho hb; have HS := n1_; have HB := n2_; clear n1_ n2_
  refine hK.out _ _ ⟨(SatG.z0 HS.out 0 rfl), (SatG.z1 HS.out 0 rfl)⟩ (fun hHeld => ?_)
  clear hK K
  refine no_ 15 ?_
  refine on_ 10 (some 20) 2047 (fun K hK => ?_)
  refine go_ Try.func74 #[.slice Atv tvs.length ctv] ?_
  with_reducible refine (cloneTxt_n Atv ctv tvs tvs.length _ rfl (SatG.row HS.out 2 rfl).2.2 (SatG.row HS.out 2 rfl).2.1 (by omega)).mono ?_
  rintro e w9 ⟨v0_, rfl, ho, hb⟩
  refine ⟨_, rfl, ?_⟩
  obtain ⟨Ar2, cr2, rfl⟩ := Kd.R_slice ho
  have n1_ : Aside0 (SatG w9 base [bx_ 101 tp Atk tks.length ctk Atv tvs.length ctv Atc tcs.length ctc, tz_ Atk ctk tks, tz_ Atv ctv tvs, qz_ 74 Atc ctc tcs, (NT.cksL 101 74 tcs), [prow (.slice Ao pgs.length co) pgs], (pgsCks pgs), L, tz_ Ar1 cr1 tks, tz_ Ar2 cr2 tvs]) := ⟨SatG.newTxt HS.out hb (Nat.le_trans HBS.out (Below.size HB.out)) ho⟩
  have n2_ : Aside0 (Below base w w9) := ⟨(HB.out).trans (hb.mono (Nat.le_trans HBS.out (Below.size HB.out)))⟩
  clear HS HB ho hb; have HS := n1_; have HB := n2_; clear n1_ n2_
  refine hK.out _ _ ⟨(SatG.z0 HS.out 0 rfl), (SatG.z1 HS.out 0 rfl)⟩ (fun hHeld => ?_)
  clear hK K
  refine no_ 20 ?_
  refine pu_ 11 21 4095 ?_
  refine on_ 12 (some 22) 8191 (fun K hK => ?_)
  refine row_lit_step 110 3 [.slice Ar1 tks.length cr1, .slice Ar2 tvs.length cr2, .slice none 0 0] rfl (by rfl) (N := 22) rfl ?hr ?_
  (case hr => first | (go_simp; done) | (go_simp; rfl))
  intro gp w10 hg ho hb
  have n1_ : Aside0 (SatG w10 base [bx_ 101 tp Atk tks.length ctk Atv tvs.length ctv Atc tcs.length ctc, tz_ Atk ctk tks, tz_ Atv ctv tvs, qz_ 74 Atc ctc tcs, (NT.cksL 101 74 tcs), [prow (.slice Ao pgs.length co) pgs], (pgsCks pgs), L, tz_ Ar1 cr1 tks, tz_ Ar2 cr2 tvs, [.row 110 3 (.slice (some ⟨gp, 0, none⟩) 1 1) 1 [.slice Ar1 tks.length cr1, .slice Ar2 tvs.length cr2, .slice none 0 0]]]) := ⟨SatG.newRow HS.out hb (Nat.le_trans HBS.out (Below.size HB.out)) (by rw [<- hg] at *; exact ho)⟩
  have n2_ : Aside0 (Below base w w10) := ⟨HB.out.trans (hb.mono (Nat.le_trans HBS.out (Below.size HB.out)))⟩
  clear HS HB hg ho hb; have HS := n1_; have HB := n2_; clear n1_ n2_
  refine hK.out _ _ ⟨(SatG.z0 HS.out 0 rfl), (SatG.z1 HS.out 0 rfl)⟩ (fun hHeld => ?_)
  clear hK K
  refine no_ 22 ?_
  refine on_ 13 (some 23) 16383 (fun K hK => ?_)
  refine row_append_step (w0 := w) (base := base) (by rfl) (.tmp 10) (.tmp 22) 27 110 3 72 _ rfl Try.underlying27 info110 rfl (by decide) (by decide) (.slice Ao pgs.length co) pgs.length 1 1 gp (pgs.flatMap Pg.cells) [.slice Ar1 tks.length cr1, .slice Ar2 tvs.length cr2, .slice none 0 0] rfl rfl (SatG.rowOk HS.out 5 rfl) (SatG.rowOk HS.out 10 rfl) (by intro u hu; simp only [List.mem_cons, List.not_mem_nil, or_false] at hu; rcases hu with rfl | rfl | rfl <;> rfl) HB.out (Nat.le_trans HBS.out (Below.size HB.out)) (by omega) ?_
  intro vo1 w11 ho hb hg hat
  obtain ⟨A1, c1, rfl⟩ := row_slice ho
  have n1_ : Aside0 (SatG w11 base [bx_ 101 tp Atk tks.length ctk Atv tvs.length ctv Atc tcs.length ctc, tz_ Atk ctk tks, tz_ Atv ctv tvs, qz_ 74 Atc ctc tcs, (NT.cksL 101 74 tcs), [.row 110 3 (.slice A1 (pgs.length + 1) c1) (pgs.length + 1) (pgs.flatMap Pg.cells ++ [.slice Ar1 tks.length cr1, .slice Ar2 tvs.length cr2, .slice none 0 0])], (pgsCks pgs), L, tz_ Ar1 cr1 tks, tz_ Ar2 cr2 tvs, [.row 110 3 (.slice (some ⟨gp, 0, none⟩) 1 1) 1 [.slice Ar1 tks.length cr1, .slice Ar2 tvs.length cr2, .slice none 0 0]]]) := ⟨SatG.appRow 5 HS.out rfl ho hg hat⟩
  have n2_ : Aside0 (Below base w w11) := ⟨hb⟩
  clear HS HB ho hb hg hat; have HS := n1_; have HB := n2_; clear n1_ n2_
  refine hK.out _ _ ⟨(SatG.z0 HS.out 0 rfl), (SatG.z1 HS.out 0 rfl)⟩ (fun hHeld => ?_)
  clear hK K
  refine no_ 23 ?_
  refine pu_ 14 1 32767 ?_
  refine done_ (by kernel_rfl) ?_
  obtain ⟨K, hK⟩ : ∃ K, K = NT.eraseL tcs := ⟨_, rfl⟩
  have HK := A_ hK
  have HKL := A_ (show K.length = tcs.length by rw [hK, eraseL_map, List.length_map])
  obtain ⟨go1, rfl⟩ := row_some (SatG.rowOk HS.out 5 rfl) (by omega)
  have n1_ : Aside0 (SatG w11 base (pgGs 101 74 (NT.mk tp (.slice Atk tks.length ctk) (.slice Atv tvs.length ctv) (.slice Atc tcs.length ctc) tks tvs tcs) (.slice (some ⟨go1, 0, none⟩) (pgs.length + 1) c1) pgs [] ⟨.slice Ar1 tks.length cr1, .slice Ar2 tvs.length cr2, .slice none 0 0, tks, tvs, []⟩ L)) := ⟨by
   have h1 := (SatG.addNo (SatG.addOwnNil HS.out 3)).sel [0, 1, 2, 3, 4, 5, 8, 9, 11, 6, 12, 7] (by decide)
   unfold pgGs
   show SatG _ _ [_, _, _, _, _, [.row 110 3 (.slice (some ⟨go1, 0, none⟩) (pgs.length + 1) c1) (pgs ++ [_]).length ((pgs ++ [_]).flatMap Pg.cells)], _, _, _, _, _, _]
   rw [List.length_append, List.flatMap_append, List.flatMap_cons, List.flatMap_nil, List.append_nil]
   exact h1⟩
  clear HS hK
  have HS := n1_
  clear n1_
  obtain ⟨t0, ht0⟩ : ∃ t0, t0 = NT.mk tp (.slice Atk tks.length ctk) (.slice Atv tvs.length ctv) (.slice Atc tcs.length ctc) tks tvs tcs := ⟨_, rfl⟩
  have HT0 := A_ ht0
  rw [<- ht0] at HS
  clear ht0
  go_upto_region 3 with fail
  have z2_ : w11.cell? ⟨tp, 2, none⟩ = some (.slice Atc tcs.length ctc) := by
   have h1 := HS.out
   rw [HT0.out] at h1
   exact SatG.z2 h1 0 rfl
  go_wp2_with fail
  clear z2_
  go_loopg [1, 29] tcs.length (fun kq u1 u29 w' => ∃ (i m go co : Nat) (A B : List Pg) (kv vv cv : Value) (cs : List Int), u1 = .slice (some ⟨go, 0, none⟩) m co /\ u29 = .int .i64 (i : Int) /\ Aside0 (kq + i = tcs.length) /\ Aside0 (cs = starts (K.take i) (pgs.length + 1)) /\ Aside0 (A.map Pg.erase = pgs.map Pg.erase) /\ Aside0 (B.map Pg.erase = flatL (K.take i) (pgs.length + 1)) /\ Aside0 (m = pgs.length + 1 + PT.bigL (K.take i)) /\ Aside0 (SatG w' base (pgGs 101 74 t0 (.slice (some ⟨go, 0, none⟩) m co) A B ⟨kv, vv, cv, tks, tvs, cs⟩ L)) /\ Aside0 (Below base w w'))
  case atStart => exact ⟨0, pgs.length + 1, go1, c1, pgs, [], _, _, _, [], by first | rfl | (simp; done), by first | rfl | (simp; done), ⟨Nat.add_zero _⟩, ⟨rfl⟩, ⟨rfl⟩, ⟨rfl⟩, ⟨rfl⟩, HS, HB⟩
  case round =>
   clear HS HB
   obtain ⟨i, m, go, co1, A, B, kv, vv, cv, cs, rfl, rfl, HKQ, HCS, HA, HBB, HM, HS, HB⟩ := hrel
   have HAL := A_ (show A.length = pgs.length by have := congrArg List.length HA.out; rw [List.length_map, List.length_map] at this; exact this)
   have hbt : PT.bigL (K.take i) + 1 <= (PT.mk tks tvs (NT.eraseL tcs)).big := by rw [PT.big, <- HK.out]; have := bigL_take_le K i; omega
   have hm : pgs.length + 1 <= m /\ m <= 100000 := by have := HM.out; have := HPL.out; omega
   have ci : (0 <= (i : Int)) = True := eq_true (by omega)
   have hcl0 : cs.length <= 5 := by rw [HCS.out, starts_len, List.length_take, HKL.out]; omega
   by_cases hi : i < tcs.length
   ·have ce : decide ((i : Int) < (tcs.length : Int)) = true := decide_eq_true (by omega)
    have ceb : (i < tcs.length) = True := eq_true hi
    obtain ⟨s, hsx⟩ : ∃ s, tcs[i]? = some s := ⟨tcs[i], List.getElem?_eq_getElem hi⟩
    have HSX := A_ hsx
    have HKS : Aside0 (K[i]? = some s.erase) := ⟨by rw [HK.out, eraseL_map, List.getElem?_map, hsx]; rfl⟩
    have n1_ := HS.out
    rw [HT0.out] at n1_
    unfold pgGs at n1_
    simp only [NT.keys, NT.vals, NT.kids, NT.p, NT.kv, NT.vv, NT.cv] at n1_
    obtain ⟨Ac, cc, rfl⟩ := Kd.R_slice (SatG.ir n1_ 8 rfl)
    obtain ⟨Ak1, ck1, rfl⟩ := Kd.R_slice (SatG.sr n1_ 6 rfl)
    obtain ⟨Av1, cv1, rfl⟩ := Kd.R_slice (SatG.sr n1_ 7 rfl)
    clear HS
    have HS := A_ n1_
    clear n1_ hsx
    obtain ⟨adt, rfl⟩ := que_some (SatG.q HS.out 3 rfl) (by omega)
    have z1_ := ptrAt (SatG.rowQ HS.out 3 rfl) (And.intro HSX.out rfl)
    go_upto_region 6 with fail
    clear z1_
    obtain ⟨l1, hl1⟩ : ∃ r : List Int, r = cs ++ [(m : Int)] := ⟨_, rfl⟩
    have Hl1 := A_ hl1
    clear hl1
    have b2 : (0 <= (pgs.length : Int)) = True := eq_true (by omega)
    have b3 : ((pgs.length : Int) < (m : Int)) = True := eq_true (by omega)
    have b4 : (pgs.length < m) = True := eq_true (by omega)
    have sd11 : (cs.length + 1) * 8 <= 140737488355328 := by omega
    have z0_ := (pageZ2 HS.out 5 rfl HAL.out)
    go_upto_region 7 with (first | ((with_reducible refine gate_dst (N := 42) rfl ?_); refine Kd.R_lit (Kd.int .i64) (w0 := w) base 3 ?hg (N := 42) ?hd (xs := [(m : Int)]) (inner := [.int .i64 (m : Int)]) (ok := fun _ => True) (okp := fun _ => False) ?hr (Kd.reps_scalar (enc := (Value.int .i64)) [(m : Int)]) (fun _ h => h.elim) trivial HB.out (Nat.le_trans HBS.out (Below.size HB.out)) (by simp) ?_; (case hd => rfl); (case hg => rfl); (case hr => first | (go_simp; done) | (go_simp; rfl)); intro v5 w13 ho hb hg hn; obtain ⟨A6, c7, rfl⟩ : ∃ A c, v5 = .slice A 1 c := Kd.R_slice ho; have n1_ : Aside0 (SatG w13 base [bx_ 101 tp Atk tks.length ctk Atv tvs.length ctv (some adt) tcs.length ctc, tz_ Atk ctk tks, tz_ Atv ctv tvs, qz_ 74 (some adt) ctc tcs, (NT.cksL 101 74 tcs), [prow (.slice (some ⟨go, 0, none⟩) m co1) (A ++ ⟨.slice Ak1 tks.length ck1, .slice Av1 tvs.length cv1, .slice Ac cs.length cc, tks, tvs, cs⟩ :: B)], tz_ Ak1 ck1 tks, tz_ Av1 cv1 tvs, [ints (.slice Ac cs.length cc) cs], (pgsCks A), (pgsCks B), L, [ints (.slice A6 1 c7) [(m : Int)]]]) := ⟨SatG.litC HS.out (ir_ok ho) hg hn⟩; have n2_ : Aside0 (Below base w w13) := ⟨hb⟩; clear HS HB ho hb hg hn; have HS := n1_; have HB := n2_; clear n1_ n2_; clear z0_; have z0_ := (pageZ2 HS.out 5 rfl HAL.out)) | ((with_reducible refine gate_builtin (b := .append) (xs := #[.tmp 39, .tmp 42]) rfl ?_); at_builtin; refine Kd.R_append_rows (Kd.int .i64) (w0 := w) base rfl (.tmp 39) (.tmp 42) 108 3 (.int .i64 0) 8 rfl Try.underlying108 info3 rfl (by decide) (by omega) (.slice Ac cs.length cc) cs [(m : Int)] A6 1 c7 (fun _ => True) (fun _ => False) rfl rfl (SatG.ir HS.out 8 rfl) (intC HS.out 12 rfl) (fun _ _ h => h) (fun _ h => h.elim) (fun _ _ => trivial) HB.out (Nat.le_trans HBS.out (Below.size HB.out)) sd11 ?_; intro u8 w14 ho hb hg hat; rw [<- Hl1.out] at ho; obtain ⟨A9, c10, rfl⟩ := Kd.R_slice ho; have n1_ : Aside0 (SatG w14 base [bx_ 101 tp Atk tks.length ctk Atv tvs.length ctv (some adt) tcs.length ctc, tz_ Atk ctk tks, tz_ Atv ctv tvs, qz_ 74 (some adt) ctc tcs, (NT.cksL 101 74 tcs), [prow (.slice (some ⟨go, 0, none⟩) m co1) (A ++ ⟨.slice Ak1 tks.length ck1, .slice Av1 tvs.length cv1, .slice Ac cs.length cc, tks, tvs, cs⟩ :: B)], tz_ Ak1 ck1 tks, tz_ Av1 cv1 tvs, [ints (.slice A9 l1.length c10) l1], (pgsCks A), (pgsCks B), L, [ints (.slice A6 1 c7) [(m : Int)]]]) := ⟨SatG.appI 8 HS.out rfl ho hg hat⟩; have n2_ : Aside0 (Below base w w14) := ⟨hb⟩; clear HS HB ho hb hg hat; have HS := n1_; have HB := n2_; clear n1_ n2_; clear z0_; have z0_ := (pageZ2 HS.out 5 rfl HAL.out); have zs0_2 := pageZ2 HS.out 5 rfl HAL.out; have fs0_2 := SatG.rowf HS.out 5 rfl (pgs.length * 3 + 2)))
    have n1_ : Aside0 (SatG (World.setCell w14 ⟨go, pgs.length * 3 + 2, none⟩ (.slice A9 l1.length c10)) base [bx_ 101 tp Atk tks.length ctk Atv tvs.length ctv (some adt) tcs.length ctc, tz_ Atk ctk tks, tz_ Atv ctv tvs, qz_ 74 (some adt) ctc tcs, (NT.cksL 101 74 tcs), [prow (.slice (some ⟨go, 0, none⟩) m co1) (A ++ ⟨.slice Ak1 tks.length ck1, .slice Av1 tvs.length cv1, .slice A9 l1.length c10, tks, tvs, l1⟩ :: B)], tz_ Ak1 ck1 tks, tz_ Av1 cv1 tvs, [ints (.slice A9 l1.length c10) l1], (pgsCks A), (pgsCks B), L, [ints (.slice A6 1 c7) [(m : Int)]]]) := ⟨SatG.putCell HS.out 5 rfl HAL.out ⟨.slice Ak1 tks.length ck1, .slice Av1 tvs.length cv1, .slice A9 l1.length c10, tks, tvs, l1⟩ 2 (.slice A9 l1.length c10) (by decide) rfl⟩
    have n2_ : Aside0 (Below base w (World.setCell w14 ⟨go, pgs.length * 3 + 2, none⟩ (.slice A9 l1.length c10))) := ⟨(HB.out).setCell (p := ⟨go, pgs.length * 3 + 2, none⟩) (SatG.rowge HS.out 5 rfl) _⟩
    generalize World.setCell w14 ⟨go, pgs.length * 3 + 2, none⟩ (.slice A9 l1.length c10) = w15 at n1_ n2_ ⊢
    clear HS HB z0_ zs0_2 fs0_2; have HS := n1_; have HB := n2_; clear n1_ n2_
    obtain ⟨p', hp'⟩ : ∃ p' : Pg, p' = ⟨.slice Ak1 tks.length ck1, .slice Av1 tvs.length cv1, .slice A9 l1.length c10, tks, tvs, l1⟩ := ⟨_, rfl⟩
    have HP' := A_ hp'
    have n1_ : SatG w15 base (pgGs 101 74 (NT.mk tp (.slice Atk tks.length ctk) (.slice Atv tvs.length ctv) (.slice (some adt) tcs.length ctc) tks tvs tcs) (.slice (some ⟨go, 0, none⟩) m co1) A B p' L) := by
     rw [hp']
     exact SatG.sel HS.out [0, 1, 2, 3, 4, 5, 6, 7, 8, 9, 10, 11] (by decide)
    have hpl : (A ++ p' :: B).length = m := by
     have h1 := congrArg List.length HBB.out
     rw [List.length_map, flatL_len] at h1
     rw [List.length_append, List.length_cons, h1, HAL.out, HM.out]
     omega
    have HPN := A_ hpl
    have hbs : s.erase.big <= n /\ m + s.erase.big <= 100000 := by
     have h1 := bigL_take HKS.out
     have h2 := bigL_take_le K (i + 1)
     have h3 := HBG.out
     have h4 := HPL.out
     rw [PT.big, <- HK.out] at h3 h4
     have := HM.out
     omega
    have hC := ih s hbs.1 (HO4.out _ (by rw [<- HK.out]; exact List.mem_of_getElem? HKS.out)) base _ _ _ w15 (lend_pages HSX.out n1_) (Nat.le_trans HBS.out (Below.size HB.out)) (by rw [hpl]; exact hbs.2)
    have HC := A_ hC
    clear hC n1_ hp' hpl hbs
    go_upto_region 8 with (first | (go_at_call 110; (with_reducible refine HC.out.mono ?_); rintro e w30 ⟨vo2, pgs2, rfl, he, hs2, hb2⟩))
    clear HC HS
    rw [List.map_append, List.map_cons, List.append_assoc, List.cons_append, HPN.out] at he
    obtain ⟨A2, p2, B2, rfl, hA2, hp2, hB2⟩ := split_pages he
    have h5 := back_pages HSX.out hs2
    obtain ⟨Ao2, co2, rfl⟩ := row_slice (SatG.rowOk h5 5 rfl)
    obtain ⟨go2, rfl⟩ := row_some (SatG.rowOk h5 5 rfl) (by rw [List.length_append, List.length_cons]; omega)
    cases p2 with | mk kv2 vv2 cv2 ks2 vs2 cs2 =>
    have e6 : (⟨ks2, vs2, cs2⟩ : S110) = ⟨tks, tvs, l1⟩ := by rw [show (⟨ks2, vs2, cs2⟩ : S110) = p'.erase from hp2, HP'.out]; rfl
    injection e6 with e7 e8 e9
    subst e7
    subst e8
    subst e9
    have HS := A_ h5
    have HB3 := A_ (HB.out.trans hb2)
    have HA2 := A_ (hA2.trans HA.out)
    have HB2 := A_ (show B2.map Pg.erase = flatL (K.take (i + 1)) (pgs.length + 1) by rw [hB2, HBB.out, take_snoc HKS.out, flatL_snoc, HM.out])
    have HM2 := A_ (show (A2 ++ ⟨kv2, vv2, cv2, ks2, vs2, cs2⟩ :: B2).length = pgs.length + 1 + PT.bigL (K.take (i + 1)) by
     have h1 := congrArg List.length HB2.out
     have h2 := congrArg List.length HA2.out
     rw [List.length_map, flatL_len] at h1
     rw [List.length_map, List.length_map] at h2
     rw [List.length_append, List.length_cons, h1, h2]
     omega)
    have HC2 := A_ (show cs2 = starts (K.take (i + 1)) (pgs.length + 1) by rw [Hl1.out, take_snoc HKS.out, starts_snoc, <- HCS.out, HM.out])
    clear he hs2 hb2 hA2 hp2 hB2 h5 HB
    go_wp2_with fail
    go_roundg (tcs.length - (i + 1))
    case measure => have := HKQ.out; omega
    case rel => exact ⟨i + 1, _, go2, co2, A2, B2, kv2, vv2, cv2, cs2, by first | rfl | (simp; done), by first | rfl | go_num | (simp; done), ⟨by have := HKQ.out; omega⟩, HC2, HA2, HB2, HM2, ⟨by rw [HT0.out]; exact HS.out⟩, HB3⟩
   ·have ce : decide ((i : Int) < (tcs.length : Int)) = false := decide_eq_false (by omega)
    have ceb : (i < tcs.length) = False := eq_false hi
    have hKi : K.take i = K := List.take_of_length_le (by rw [HKL.out]; omega)
    have HKI := A_ hKi
    clear hKi hi
    go_wp2_with fail
    go_ret
    refine ⟨_, A ++ ⟨kv, vv, cv, tks, tvs, cs⟩ :: B, rfl, ?_, by rw [<- HT0.out]; exact shut_pages HS.out, HB.out⟩
    rw [List.map_append, List.map_cons, HA.out, HBB.out, HKI.out]
    show _ = pgs.map Pg.erase ++ flatP (.mk tks tvs (NT.eraseL tcs)) pgs.length
    rw [flatP, <- HK.out]
    show _ ++ (⟨tks, tvs, cs⟩ : S110) :: _ = _
    rw [HCS.out, HKI.out]
theorem impl_tree.calls (t : NT) (hbd : Bnd t.erase) (hbig : t.erase.big <= 100000) (base : Nat) (L : List Ck) (w : World) (hs : Sat w base (t.cks 101 74 ++ L)) (hbs : base <= w.heap.size) :
  Calls Try.prog 81 #[ptrv t.p] w (TRR w base 101 74 t L) := by
 have HS0 : Aside0 (Sat w base (L ++ t.cks 101 74)) := ⟨hs.perm List.perm_append_comm⟩
 have HB := A_ (Below.refl base w)
 have HBS := A_ hbs
 have HBD := A_ hbd
 clear hs hbs hbd
 obtain ⟨tp, htp⟩ : ∃ p, t.p = p := ⟨_, rfl⟩
 have HTP := A_ htp
 rw [htp]
 clear htp
 go_enter Try.func81, Try.ntmps81
 go_upto_region 1 with (first | ((with_reducible refine gate_dst (N := 2) rfl ?_); refine box_event ?hg (N := 2) ?hd (cs := #[.slice none 0 0]) (t := 29) ?hr ?_; (case hd => rfl); (case hg => rfl); (case hr => first | (go_simp; done) | (go_simp; rfl)); intro g hg w2 hbox hb; have n1_ : Aside0 (Sat w2 base (t.cks 101 74 ++ (outCks (.slice none 0 0) [] ++ (.box 29 g #[.slice none 0 0] :: L)))) := ⟨out_nil ((Sat.newBox HS0.out hg hbox hb HBS.out).perm ((List.perm_append_comm (l₁ := L)).cons _ |>.trans List.perm_middle.symm))⟩; have n2_ := A_ (HB.out.trans (hb.mono HBS.out)); clear HS0 HB hg hbox hb; have HS := n1_; have HB := n2_; clear n1_ n2_))
 have hC := impl_pages.calls t.erase.big t (Nat.le_refl _) HBD.out base _ [] _ w2 HS.out (Nat.le_trans HBS.out (Below.size HB.out)) (by rw [List.length_nil]; omega)
 rw [HTP.out] at hC
 have HC := A_ hC
 clear hC HS
 go_wp2_with (first | (go_at_call 110; (with_reducible refine HC.out.mono ?_); rintro e w3 ⟨vo, pgs, rfl, he, hs3, hb3⟩; obtain ⟨Ao, co, rfl⟩ := row_slice (hs3.ok (prow vo pgs) (List.mem_append_right _ List.mem_cons_self)); have HZ := A_ (hs3.cell (T := 29) (p := g) (cs := #[.slice none 0 0]) (List.mem_append_right _ (List.mem_append_right _ List.mem_cons_self))); have hz := hs3.cell (T := 29) (p := g) (cs := #[.slice none 0 0]) (List.mem_append_right _ (List.mem_append_right _ List.mem_cons_self)); have hz1 : w3.cell? ⟨g, 0, none⟩ = some (.slice none 0 0) := (blk_cell hz 0).trans rfl; have hf1 := blk_frozen hz 0; have HE := A_ he; have HS3 := A_ hs3; have HB3 := A_ hb3; clear hz he hs3 hb3))
 refine bodyPost_ret (results_cell_row rfl _ _ g 29 #[.slice Ao pgs.length co] (0, 0) _ rfl (blk_put (cs := #[.slice none 0 0]) HZ.out 0 _ rfl) Try.underlying29 rfl (by kernel_rfl)) rfl ?_
 have hX : Sat (w3.setCell ⟨g, 0, none⟩ (.slice Ao pgs.length co)) base (.box 29 g #[.slice Ao pgs.length co] :: (t.cks 101 74 ++ (outCks (.slice Ao pgs.length co) pgs ++ L))) := Sat.put (cs := #[.slice none 0 0]) (HS3.out.perm (by
  rw [<- List.append_assoc]
  refine List.perm_middle.trans ?_
  rw [List.append_assoc])) 0 _ rfl
 exact ⟨_, pgs, rfl, by rw [HE.out]; rfl, hX.tail, (HB.out.trans HB3.out).setCell (p := ⟨g, 0, none⟩) (HS3.out.ok (.box 29 g #[.slice none 0 0]) (List.mem_append_right _ (List.mem_append_right _ List.mem_cons_self))).1 _⟩
set_option maxHeartbeats 8000000
set_option maxRecDepth 100000
theorem impl_splitSmall.calls (t k : NT) (i : Nat) (hk : t.kids[i]? = some k) (h4 : k.keys.length <= 4) (htk : t.kids.length <= 1001) (base : Nat) (L : List Ck) (w : World) (hs : Sat w base (t.cks 101 74 ++ L)) (hbs : base <= w.heap.size) :
  Calls Try.prog 109 #[ptrv t.p, .int .i64 (i : Int)] w fun e w' => e = .returned (.tuple #[]) /\ w' = w := by
 have h0 := open_kid hk hs
 clear hs
 cases t with | mk tp tkv tvv tcv tks tvs tcs =>
 cases k with | mk kp kkv kvv kcv kks kvs kcs =>
 unfold kidGs at h0
 simp only [NT.keys, NT.vals, NT.kids, NT.p, NT.kv, NT.vv, NT.cv] at hk h4 h0 htk ⊢
 obtain ⟨Atc, ctc, rfl, _, _⟩ := q_slice (h0.q 3 rfl)
 have hil : i < tcs.length := (List.getElem?_eq_some_iff.1 hk).1
 obtain ⟨adt, rfl⟩ := que_some (h0.q 3 rfl) (by omega)
 obtain ⟨Akk, ckk, rfl⟩ := Kd.R_slice (h0.sr 6 rfl)
 have HK : Aside0 (tcs[i]? = some (NT.mk kp (.slice Akk kks.length ckk) kvv kcv kks kvs kcs) /\ (NT.mk kp (.slice Akk kks.length ckk) kvv kcv kks kvs kcs).p = kp) := ⟨hk, rfl⟩
 have z1_ := SatG.z2 h0 0 rfl
 have z2_ := ptrAt (SatG.rowQ h0 3 rfl) HK.out
 have z3_ := SatG.z0 h0 5 rfl
 have b1 : (0 <= (i : Int)) = True := eq_true (by omega)
 have b2 : ((i : Int) < (tcs.length : Int)) = True := eq_true (by omega)
 have b3 : (i < tcs.length) = True := eq_true (by omega)
 have c1 : decide ((kks.length : Int) <= 4) = true := decide_eq_true (by omega)
 have c2 : (kks.length <= 4) = True := eq_true (by omega)
 have c3 : ((kks.length : Int) <= 4) = True := eq_true (by omega)
 clear h0 hk HK hil h4
 go_enter Try.func109, Try.ntmps109
 go_wp2
 refine bodyPost_ret (results_none rfl _ _ _) rfl ?_
 exact ⟨rfl, rfl⟩
set_option maxHeartbeats 8000000
set_option maxRecDepth 100000
theorem ptrs_ins_set {l : List NT} {i : Nat} {k k' r : NT} (h : l[i]? = some k) (hp : k'.p = k.p) : ptrs (insAt (l.set i k') (i + 1) r) = ptrs (insAt l (i + 1) r) := by
 rw [ptrs_encs, ptrs_encs, insAt_map, insAt_map, List.map_set, hp]
 have e : (l.map NT.p).set i k.p = l.map NT.p := by
  apply List.ext_getElem?
  intro j
  rw [List.getElem?_set]
  split
  ·next hj =>
   subst hj
   rw [List.getElem?_map, h]
   split
   ·rfl
   ·next hh => exact absurd (by rw [List.length_map]; exact (List.getElem?_eq_some_iff.1 h).1) hh
  ·rfl
 rw [e]
theorem impl_splitBig.calls (t k : NT) (i : Nat) (hk : t.kids[i]? = some k) (hk5 : 5 <= k.keys.length) (hkm : k.keys.length <= 1000) (hkv : k.vals.length = k.keys.length) (hkk : k.kids.length = 0 ∨ 3 <= k.kids.length) (hkk2 : k.kids.length <= 1001) (hti : i <= t.keys.length) (htm : t.keys.length <= 1000) (htv : t.vals.length = t.keys.length) (htk : t.kids.length <= 1001)
  (base : Nat) (L : List Ck) (w : World) (hs : Sat w base (t.cks 101 74 ++ L)) (hbs : base <= w.heap.size) :
  Calls Try.prog 109 #[ptrv t.p, .int .i64 (i : Int)] w (WR w base 101 74 t L (splitK t.erase k.erase i)) := by
 have h0 := open_kid hk hs
 clear hs
 obtain ⟨R, hR⟩ : ∃ R, R = splitK t.erase k.erase i := ⟨_, rfl⟩
 rw [<- hR]
 have HRR := A_ hR
 clear hR
 cases t with | mk tp tkv tvv tcv tks tvs tcs =>
 cases k with | mk kp kkv kvv kcv kks kvs kcs =>
 unfold kidGs at h0
 simp only [NT.keys, NT.vals, NT.kids, NT.p, NT.kv, NT.vv, NT.cv] at hk hk5 hkm hkv hkk hkk2 hti htm htv htk h0 HRR ⊢
 obtain ⟨Atk, ctk, rfl⟩ := Kd.R_slice (h0.sr 1 rfl)
 obtain ⟨Atv, ctv, rfl⟩ := Kd.R_slice (h0.sr 2 rfl)
 obtain ⟨Atc, ctc, rfl, _, _⟩ := q_slice (h0.q 3 rfl)
 have hil : i < tcs.length := (List.getElem?_eq_some_iff.1 hk).1
 obtain ⟨adt, rfl⟩ := que_some (h0.q 3 rfl) (by omega)
 obtain ⟨Akk, ckk, rfl⟩ := Kd.R_slice (h0.sr 6 rfl)
 obtain ⟨Akv, ckv, rfl⟩ := Kd.R_slice (h0.sr 7 rfl)
 obtain ⟨Akc, ckc, rfl, _, _⟩ := q_slice (h0.q 8 rfl)
 obtain ⟨gkk, rfl⟩ := txt_some (h0.sr 6 rfl) (by omega)
 obtain ⟨gkv, rfl⟩ := txt_some (h0.sr 7 rfl) (by omega)
 obtain ⟨GA, hGA⟩ : ∃ G, G = NT.cksL 101 74 (tcs.take i) := ⟨_, rfl⟩
 obtain ⟨GD, hGD⟩ : ∃ G, G = NT.cksL 101 74 (tcs.drop (i + 1)) := ⟨_, rfl⟩
 rw [<- hGA, <- hGD] at h0
 have HS := A_ h0
 have HB := A_ (Below.refl base w)
 have HBS := A_ hbs
 have HGA := A_ hGA
 have HGD := A_ hGD
 have HKI := A_ hk
 have HK : Aside0 (tcs[i]? = some (NT.mk kp (.slice (some ⟨gkk, 0, none⟩) kks.length ckk) (.slice (some ⟨gkv, 0, none⟩) kvs.length ckv) (.slice Akc kcs.length ckc) kks kvs kcs) /\ (NT.mk kp (.slice (some ⟨gkk, 0, none⟩) kks.length ckk) (.slice (some ⟨gkv, 0, none⟩) kvs.length ckv) (.slice Akc kcs.length ckc) kks kvs kcs).p = kp) := ⟨hk, rfl⟩
 have HKV := A_ hkv
 have HTV := A_ htv
 have HKK := A_ (And.intro hkk hkk2)
 have h5 : 5 <= kvs.length /\ kvs.length <= 1000 := by omega
 have h6 : i <= tvs.length /\ tvs.length <= 1000 := by omega
 clear hGA hGD h0 hbs hk hkv htv hkk
 obtain ⟨x, hx⟩ : ∃ x, nthB kks 2 = x := ⟨_, rfl⟩
 have Hx : Aside0 (2 < kks.length /\ nthB kks 2 = x) := ⟨by omega, hx⟩
 clear hx
 obtain ⟨y, hy⟩ : ∃ x, nthB kvs 2 = x := ⟨_, rfl⟩
 have Hy : Aside0 (2 < kvs.length /\ nthB kvs 2 = y) := ⟨by omega, hy⟩
 clear hy
 obtain ⟨l1, hl1⟩ : ∃ r : List ByteArray, r = kks.drop 3 := ⟨_, rfl⟩
 have Hl1 := A_ hl1
 clear hl1
 obtain ⟨l2, hl2⟩ : ∃ r : List ByteArray, r = kvs.drop 3 := ⟨_, rfl⟩
 have Hl2 := A_ hl2
 clear hl2
 obtain ⟨l3, hl3⟩ : ∃ r : List ByteArray, r = kks.take 2 := ⟨_, rfl⟩
 have Hl3 := A_ hl3
 clear hl3
 obtain ⟨l4, hl4⟩ : ∃ r : List ByteArray, r = kvs.take 2 := ⟨_, rfl⟩
 have Hl4 := A_ hl4
 clear hl4
 obtain ⟨l5, hl5⟩ : ∃ r : List ByteArray, r = insAt tks i x := ⟨_, rfl⟩
 have Hl5 := A_ hl5
 clear hl5
 obtain ⟨l6, hl6⟩ : ∃ r : List ByteArray, r = insAt tvs i y := ⟨_, rfl⟩
 have Hl6 := A_ hl6
 clear hl6
 go_enter Try.func109, Try.ntmps109
 have b7 : (0 <= (i : Int)) = True := eq_true (by omega)
 have b8 : ((i : Int) < (tcs.length : Int)) = True := eq_true (by omega)
 have b9 : (i < tcs.length) = True := eq_true (by omega)
 have z0_ := (SatG.z2 HS.out 0 rfl)
 have z1_ := (ptrAt (SatG.rowQ HS.out 3 rfl) HK.out)
 go_upto_region 1 with fail
 clear z0_ z1_
 have c10 : decide ((kks.length : Int) <= (4 : Int)) = false := decide_eq_false (by omega)
 have z0_ := (SatG.z0 HS.out 5 rfl)
 go_upto_region 2 with fail
 clear z0_
 obtain ⟨i0_, hi0_, _, hsz_, _⟩ := info_parts info9
 have hcut11 := cut_from (P := Try.prog) 38 9 .i64 Try.underlying38 hi0_ 1 hsz_ (some ⟨gkk, 0, none⟩) kks.length ckk 3 (by omega) (by omega)
 simp only [show ((3 : Int)).toNat = 3 from by omega] at hcut11
 obtain ⟨A12, hA12⟩ : ∃ A : Option Addr, A = (if ckk = 3 then (some ⟨gkk, 0, none⟩) else ((some ⟨gkk, 0, none⟩) : Option Addr).map (·.add (3 * 1))) := ⟨_, rfl⟩
 obtain ⟨c13, hc13⟩ : ∃ c, c = ckk - 3 := ⟨_, rfl⟩
 rw [<- hA12, <- hc13] at hcut11
 have HA12 := A_ hA12
 have Hc13 := A_ hc13
 clear hA12 hc13
 clear hi0_ hsz_
 obtain ⟨i0_, hi0_, _, hsz_, _⟩ := info_parts info9
 have hcut16 := cut_from (P := Try.prog) 38 9 .i64 Try.underlying38 hi0_ 1 hsz_ (some ⟨gkv, 0, none⟩) kvs.length ckv 3 (by omega) (by omega)
 simp only [show ((3 : Int)).toNat = 3 from by omega] at hcut16
 obtain ⟨A17, hA17⟩ : ∃ A : Option Addr, A = (if ckv = 3 then (some ⟨gkv, 0, none⟩) else ((some ⟨gkv, 0, none⟩) : Option Addr).map (·.add (3 * 1))) := ⟨_, rfl⟩
 obtain ⟨c18, hc18⟩ : ∃ c, c = ckv - 3 := ⟨_, rfl⟩
 rw [<- hA17, <- hc18] at hcut16
 have HA17 := A_ hA17
 have Hc18 := A_ hc18
 clear hA17 hc18
 clear hi0_ hsz_
 refine start_ (n := 15) (S := fun w' => w'.cell? ⟨kp, 0, none⟩ = some (.slice (some ⟨gkk, 0, none⟩) kks.length ckk) /\ w'.cell? ⟨kp, 1, none⟩ = some (.slice (some ⟨gkv, 0, none⟩) kvs.length ckv)) (ds := []) (bt 15 0) (by kernel_rfl) rfl rfl ⟨(SatG.z0 (SatG.drew HS.out) 5 rfl), (SatG.z1 (SatG.drew HS.out) 5 rfl)⟩ (fun hHeld => ?_)
 refine pu_ 0 19 1 ?_
 refine pu_ 1 20 3 ?_
 refine pu_ 2 21 7 ?_
 refine pu_ 6 25 71 ?_
 refine pu_ 7 26 199 ?_
 refine pu_ 8 27 455 ?_
 refine ta_ 3 22 463 hHeld ?_
 refine pu_ 4 23 479 ?_
 refine ta_ 9 28 991 hHeld ?_
 refine pu_ 10 29 2015 ?_
 refine on_ 5 (some 24) 2047 (fun K hK => ?_)
 refine go_ Try.func74 #[.slice A12 (kks.length - 3) c13] ?_
 with_reducible refine (cloneT (SatG.drew HS.out) 6 rfl 3 (by omega) HA12.out Hc13.out Hl1.out rfl (by omega)).mono ?_
 rintro e w2 ⟨v0_, rfl, ho, hb⟩
 refine ⟨_, rfl, ?_⟩
 obtain ⟨A14, c15, rfl⟩ := Kd.R_slice ho
 have n1_ : Aside0 (SatG w2 base [bx_ 101 tp Atk tks.length ctk Atv tvs.length ctv (some adt) tcs.length ctc, tz_ Atk ctk tks, tz_ Atv ctv tvs, qz_ 74 (some adt) ctc tcs, GA, bx_ 101 kp (a0_ gkk) kks.length ckk (a0_ gkv) kvs.length ckv Akc kcs.length ckc, tz_ (a0_ gkk) ckk kks, tz_ (a0_ gkv) ckv kvs, qz_ 74 Akc ckc kcs, (NT.cksL 101 74 kcs), GD, L, tz_ A14 c15 l1]) := ⟨SatG.newTxt (SatG.drew HS.out) hb (Nat.le_trans HBS.out (Below.size (below_drew HB.out))) ho⟩
 have n2_ : Aside0 (Below base w w2) := ⟨((below_drew HB.out)).trans (hb.mono (Nat.le_trans HBS.out (Below.size (below_drew HB.out))))⟩
 clear HS HB ho hb; have HS := n1_; have HB := n2_; clear n1_ n2_
 refine hK.out _ _ ⟨(SatG.z0 HS.out 5 rfl), (SatG.z1 HS.out 5 rfl)⟩ (fun hHeld => ?_)
 clear hK K
 refine no_ 24 ?_
 refine on_ 11 (some 30) 4095 (fun K hK => ?_)
 refine go_ Try.func74 #[.slice A17 (kvs.length - 3) c18] ?_
 with_reducible refine (cloneT HS.out 7 rfl 3 (by omega) HA17.out Hc18.out Hl2.out rfl (by omega)).mono ?_
 rintro e w3 ⟨v0_, rfl, ho, hb⟩
 refine ⟨_, rfl, ?_⟩
 obtain ⟨A19, c20, rfl⟩ := Kd.R_slice ho
 have n1_ : Aside0 (SatG w3 base [bx_ 101 tp Atk tks.length ctk Atv tvs.length ctv (some adt) tcs.length ctc, tz_ Atk ctk tks, tz_ Atv ctv tvs, qz_ 74 (some adt) ctc tcs, GA, bx_ 101 kp (a0_ gkk) kks.length ckk (a0_ gkv) kvs.length ckv Akc kcs.length ckc, tz_ (a0_ gkk) ckk kks, tz_ (a0_ gkv) ckv kvs, qz_ 74 Akc ckc kcs, (NT.cksL 101 74 kcs), GD, L, tz_ A14 c15 l1, tz_ A19 c20 l2]) := ⟨SatG.newTxt HS.out hb (Nat.le_trans HBS.out (Below.size HB.out)) ho⟩
 have n2_ : Aside0 (Below base w w3) := ⟨(HB.out).trans (hb.mono (Nat.le_trans HBS.out (Below.size HB.out)))⟩
 clear HS HB ho hb; have HS := n1_; have HB := n2_; clear n1_ n2_
 refine hK.out _ _ ⟨(SatG.z0 HS.out 5 rfl), (SatG.z1 HS.out 5 rfl)⟩ (fun hHeld => ?_)
 clear hK K
 refine no_ 30 ?_
 refine pu_ 12 31 8191 ?_
 refine on_ 13 (some 32) 16383 (fun K hK => ?_)
 refine box_step (by rfl) (N := 32) rfl (cs := #[.slice A14 l1.length c15, .slice A19 l2.length c20, .slice none 0 0]) (t := 101) ?hr ?_
 (case hr => first | (go_simp; done) | (go_simp; rfl))
 intro g21 hg w4 hbox hb
 have n1_ : Aside0 (SatG w4 base [bx_ 101 tp Atk tks.length ctk Atv tvs.length ctv (some adt) tcs.length ctc, tz_ Atk ctk tks, tz_ Atv ctv tvs, qz_ 74 (some adt) ctc tcs, GA, bx_ 101 kp (a0_ gkk) kks.length ckk (a0_ gkv) kvs.length ckv Akc kcs.length ckc, tz_ (a0_ gkk) ckk kks, tz_ (a0_ gkv) ckv kvs, qz_ 74 Akc ckc kcs, (NT.cksL 101 74 kcs), GD, L, tz_ A14 c15 l1, tz_ A19 c20 l2, bx_ 101 g21 A14 l1.length c15 A19 l2.length c20 none 0 0]) := ⟨SatG.newBox HS.out hg hbox hb (Nat.le_trans HBS.out (Below.size HB.out))⟩
 have n2_ : Aside0 (Below base w w4) := ⟨(HB.out).trans (hb.mono (Nat.le_trans HBS.out (Below.size HB.out)))⟩
 clear HS HB hg hbox hb; have HS := n1_; have HB := n2_; clear n1_ n2_
 refine hK.out _ _ ⟨(SatG.z0 HS.out 5 rfl), (SatG.z1 HS.out 5 rfl)⟩ (fun hHeld => ?_)
 clear hK K
 refine no_ 32 ?_
 refine pu_ 14 5 32767 ?_
 refine done_ (by kernel_rfl) ?_
 clear hcut11 hcut16
 go_upto_region 3 with fail
 have b22 : ((2 : Int) < (kks.length : Int)) = True := eq_true (by omega)
 have b23 : (2 < kks.length) = True := eq_true (by omega)
 have b24 : ((2 : Int) < (kvs.length : Int)) = True := eq_true (by omega)
 have b25 : (2 < kvs.length) = True := eq_true (by omega)
 refine start_ (n := 15) (S := fun w' => w'.cell? ⟨kp, 0, none⟩ = some (.slice (some ⟨gkk, 0, none⟩) kks.length ckk) /\ w'.cell? ⟨gkk, 2, none⟩ = some (.string x) /\ w'.cell? ⟨kp, 1, none⟩ = some (.slice (some ⟨gkv, 0, none⟩) kvs.length ckv) /\ w'.cell? ⟨gkv, 2, none⟩ = some (.string y)) (ds := []) (bt 15 0) (by kernel_rfl) rfl rfl ⟨(SatG.z0 (SatG.drew HS.out) 5 rfl), (elAt (SatG.sr (SatG.drew HS.out) 6 rfl) Hx.out), (SatG.z1 (SatG.drew HS.out) 5 rfl), (elAt (SatG.sr (SatG.drew HS.out) 7 rfl) Hy.out)⟩ (fun hHeld => ?_)
 refine pu_ 0 33 1 ?_
 refine pu_ 1 34 3 ?_
 refine pu_ 2 35 7 ?_
 refine pu_ 3 36 15 ?_
 refine pu_ 4 37 31 ?_
 refine pu_ 8 41 287 ?_
 refine pu_ 9 42 799 ?_
 refine pu_ 10 43 1823 ?_
 refine ta_ 5 38 1855 hHeld ?_
 refine pu_ 6 39 1919 ?_
 refine ta_ 7 40 2047 hHeld ?_
 refine ta_ 11 44 4095 hHeld ?_
 refine pu_ 12 45 8191 ?_
 refine ta_ 13 46 16383 hHeld ?_
 refine on_ 14 (some 47) 32767 (fun K hK => ?_)
 have hq_ : SatG _ base [bx_ 101 tp Atk tks.length ctk Atv tvs.length ctv (some adt) tcs.length ctc, tz_ Atk ctk tks, tz_ Atv ctv tvs, qz_ 74 (some adt) ctc tcs, GA, bx_ 101 kp (a0_ gkk) kks.length ckk (a0_ gkv) kvs.length ckv Akc kcs.length ckc, tz_ (a0_ gkk) ckk kks, tz_ (a0_ gkv) ckv kvs, qz_ 74 Akc ckc kcs, (NT.cksL 101 74 kcs), GD, L, tz_ A14 c15 l1, tz_ A19 c20 l2, bx_ 101 g21 A14 l1.length c15 A19 l2.length c20 none 0 0] := SatG.sel (SatG.drew HS.out) [0, 1, 2, 3, 4, 5, 6, 7, 8, 9, 10, 11, 12, 13, 14] (by decide)
 refine go_ Try.func126 #[ptrv tp, .int .i64 (i : Int), .string x, .string y] ?_
 with_reducible refine (impl_insert.calls (i := i) (x := x) (y := y) (by omega) (by omega) (by omega) (by omega) base _ _ hq_ (Nat.le_trans HBS.out (Below.size (below_drew HB.out)))).mono ?_
 rintro e w5 ⟨rfl, A26, c27, A28, c29, hs_, hb_⟩
 refine ⟨_, rfl, ?_⟩
 rw [<- Hl5.out, <- Hl6.out] at hs_
 have n1_ : Aside0 (SatG w5 base [bx_ 101 tp A26 l5.length c27 A28 l6.length c29 (some adt) tcs.length ctc, tz_ A26 c27 l5, tz_ A28 c29 l6, qz_ 74 (some adt) ctc tcs, GA, bx_ 101 kp (a0_ gkk) kks.length ckk (a0_ gkv) kvs.length ckv Akc kcs.length ckc, tz_ (a0_ gkk) ckk kks, tz_ (a0_ gkv) ckv kvs, qz_ 74 Akc ckc kcs, (NT.cksL 101 74 kcs), GD, L, tz_ A14 c15 l1, tz_ A19 c20 l2, bx_ 101 g21 A14 l1.length c15 A19 l2.length c20 none 0 0]) := ⟨hs_⟩
 have n2_ : Aside0 (Below base w w5) := ⟨((below_drew HB.out)).trans hb_⟩
 clear HS HB hs_ hb_ hq_; have HS := n1_; have HB := n2_; clear n1_ n2_
 refine hK.out _ _ ⟨(SatG.z0 HS.out 5 rfl), (elAt (SatG.sr HS.out 6 rfl) Hx.out), (SatG.z1 HS.out 5 rfl), (elAt (SatG.sr HS.out 7 rfl) Hy.out)⟩ (fun hHeld => ?_)
 clear hK K
 refine no_ 47 ?_
 refine done_ (by kernel_rfl) ?_
 go_upto_region 4 with fail
 obtain ⟨i0_, hi0_, _, hsz_, _⟩ := info_parts info9
 have hcut30 := cut_to (P := Try.prog) 38 9 .i64 Try.underlying38 hi0_ (some ⟨gkk, 0, none⟩) kks.length ckk 2 (by omega) (by omega) (SatG.row HS.out 6 rfl).2.1
 simp only [show ((2 : Int)).toNat = 2 from by omega] at hcut30
 clear hi0_ hsz_
 obtain ⟨i0_, hi0_, _, hsz_, _⟩ := info_parts info9
 have hcut31 := cut_to (P := Try.prog) 38 9 .i64 Try.underlying38 hi0_ (some ⟨gkv, 0, none⟩) kvs.length ckv 2 (by omega) (by omega) (SatG.row HS.out 7 rfl).2.1
 simp only [show ((2 : Int)).toNat = 2 from by omega] at hcut31
 clear hi0_ hsz_
 have zs0 := SatG.z0 (SatG.drew HS.out) 5 rfl
 have fs0 := SatG.f (SatG.drew HS.out) 5 rfl 0
 have zs1 := SatG.z1 (SatG.drew HS.out) 5 rfl
 have fs1 := SatG.f (SatG.drew HS.out) 5 rfl 1
 have zs0x := SatG.z0 HS.out 5 rfl
 have fs0x := SatG.f HS.out 5 rfl 0
 have zs1x := SatG.z1 HS.out 5 rfl
 have fs1x := SatG.f HS.out 5 rfl 1
 refine start_ (n := 18) (S := fun w' => w'.cell? ⟨kp, 0, none⟩ = some (.slice (some ⟨gkk, 0, none⟩) kks.length ckk) /\ w'.cell? ⟨kp, 1, none⟩ = some (.slice (some ⟨gkv, 0, none⟩) kvs.length ckv)) (ds := [14, 17]) (bt 18 0) (by kernel_rfl) rfl rfl ⟨(SatG.z0 (SatG.drew HS.out) 5 rfl), (SatG.z1 (SatG.drew HS.out) 5 rfl)⟩ (fun hHeld => ?_)
 refine pu_ 0 48 1 ?_
 refine pu_ 1 49 3 ?_
 refine pu_ 2 50 7 ?_
 refine pu_ 3 51 15 ?_
 refine pu_ 4 52 31 ?_
 refine pu_ 7 55 159 ?_
 refine pu_ 8 56 415 ?_
 refine pu_ 9 57 927 ?_
 refine ta_ 5 53 959 hHeld ?_
 refine pu_ 6 54 1023 ?_
 refine ta_ 10 58 2047 hHeld ?_
 refine pu_ 11 59 4095 ?_
 refine pu_ 12 60 8191 ?_
 refine pu_ 13 61 16383 ?_
 refine la_ 14 none 32767 (fun K hK => ?_)
 refine skip_ (w1 := ?_) (by rfl) rfl ?_ ?_
 rotate_left
 ·go_simp
  rfl
 refine hK.out _ _ ?_
 clear hK K
 refine pu_ 15 62 65535 ?_
 refine pu_ 16 63 131071 ?_
 refine la_ 17 none 262143 (fun K hK => ?_)
 refine skip_ (w1 := ?_) (by rfl) rfl ?_ ?_
 rotate_left
 ·go_simp
  rfl
 refine hK.out _ _ ?_
 clear hK K
 refine done_ (by kernel_rfl) ?_
 have n1_ : Aside0 (SatG (World.drew (World.setCell (World.setCell w5 ⟨kp, 0, none⟩ (.slice (some ⟨gkk, 0, none⟩) 2 ckk)) ⟨kp, 1, none⟩ (.slice (some ⟨gkv, 0, none⟩) 2 ckv))) base [bx_ 101 tp A26 l5.length c27 A28 l6.length c29 (some adt) tcs.length ctc, tz_ A26 c27 l5, tz_ A28 c29 l6, qz_ 74 (some adt) ctc tcs, GA, bx_ 101 kp (a0_ gkk) 2 ckk (a0_ gkv) 2 ckv Akc kcs.length ckc, ty_ (a0_ gkk) 2 ckk l3, ty_ (a0_ gkv) 2 ckv l4, qz_ 74 Akc ckc kcs, (NT.cksL 101 74 kcs), GD, L, tz_ A14 c15 l1, tz_ A19 c20 l2, bx_ 101 g21 A14 l1.length c15 A19 l2.length c20 none 0 0]) := ⟨shrinkT (SatG.put1 (shrinkT (SatG.put0 (SatG.drew HS.out) 5 rfl (.slice (some ⟨gkk, 0, none⟩) 2 ckk)) 6 rfl Hl3.out (by omega)) 5 rfl (.slice (some ⟨gkv, 0, none⟩) 2 ckv)) 7 rfl Hl4.out (by omega)⟩
 have n2_ : Aside0 (Below base w (World.drew (World.setCell (World.setCell w5 ⟨kp, 0, none⟩ (.slice (some ⟨gkk, 0, none⟩) 2 ckk)) ⟨kp, 1, none⟩ (.slice (some ⟨gkv, 0, none⟩) 2 ckv)))) := ⟨(((below_drew HB.out)).setCell (p := ⟨kp, 0, none⟩) (SatG.ge (SatG.drew HS.out) 5 rfl) _).setCell (p := ⟨kp, 1, none⟩) (SatG.ge (SatG.drew HS.out) 5 rfl) _⟩
 generalize World.drew (World.setCell (World.setCell w5 ⟨kp, 0, none⟩ (.slice (some ⟨gkk, 0, none⟩) 2 ckk)) ⟨kp, 1, none⟩ (.slice (some ⟨gkv, 0, none⟩) 2 ckv)) = w6 at n1_ n2_ ⊢
 clear HS HB zs0 fs0 zs1 fs1 zs0x fs0x zs1x fs1x; have HS := n1_; have HB := n2_; clear n1_ n2_
 clear hcut30 hcut31
 go_upto_region 5 with fail
 by_cases hleaf : kcs.length = 0
 ·skip
  have hl0 : kcs = [] := List.length_eq_zero_iff.1 hleaf
  have HL0 := A_ hl0
  clear hl0
  have HRK := A_ ((SatG.sel HS.out [5, 6, 7, 8, 9] (by decide)).rd5)
  have hbl := A_ (show decide (((NT.mk kp (.slice (some ⟨gkk, 0, none⟩) 2 ckk) (.slice (some ⟨gkv, 0, none⟩) 2 ckv) (.slice Akc kcs.length ckc) l3 l4 kcs).erase.kids.length : Int) = 0) = true from decide_eq_true (by show ((NT.eraseL kcs).length : Int) = 0; rw [eraseL_map, List.length_map]; omega))
  go_upto_region 8 with (first | (go_at_call 99; (with_reducible refine (impl_isLeaf.callsB true hbl.out _ ?side1).mono ?_); (case side1 => repeat (first | exact HRK.out | (with_reducible refine Rd.drewN ?_ _) | (with_reducible refine Rd.drew ?_))); rintro e w' ⟨rfl, ⟨nd, rfl⟩⟩))
  generalize hW : World.drewN _ _ = w7
  have n1_ : Aside0 (SatG w7 base [bx_ 101 tp A26 l5.length c27 A28 l6.length c29 (some adt) tcs.length ctc, tz_ A26 c27 l5, tz_ A28 c29 l6, qz_ 74 (some adt) ctc tcs, GA, bx_ 101 kp (a0_ gkk) 2 ckk (a0_ gkv) 2 ckv Akc kcs.length ckc, ty_ (a0_ gkk) 2 ckk l3, ty_ (a0_ gkv) 2 ckv l4, qz_ 74 Akc ckc kcs, (NT.cksL 101 74 kcs), GD, L, tz_ A14 c15 l1, tz_ A19 c20 l2, bx_ 101 g21 A14 l1.length c15 A19 l2.length c20 none 0 0]) := ⟨by rw [<- hW]; exact SatG.drewN HS.out _⟩
  have n2_ : Aside0 (Below base w w7) := ⟨by rw [<- hW]; exact pw_below_drewN HB.out _⟩
  clear HS HB HRK hbl hW; have HS := n1_; have HB := n2_; clear n1_ n2_
  obtain ⟨rn, hrn⟩ : ∃ r, r = NT.mk g21 (.slice A14 l1.length c15) (.slice A19 l2.length c20) (.slice none 0 0) l1 l2 [] := ⟨_, rfl⟩
  have Hrn := A_ hrn
  have HrnP : Aside0 (rn.p = g21) := ⟨by rw [hrn]; rfl⟩
  clear hrn
  obtain ⟨l32, hl32⟩ : ∃ r : List NT, r = insAt tcs (i + 1) rn := ⟨_, rfl⟩
  have Hl32 := A_ hl32
  clear hl32
  have z0_ := (SatG.z2 HS.out 0 rfl)
  go_wp2_with (first | ((with_reducible refine gate_dst (N := 92) rfl ?_); refine Kd.R_lit kptr (w0 := w) base 74 ?hg (N := 92) ?hd (xs := [g21]) (inner := [ptrv g21]) (ok := fun _ => True) (okp := fun _ => False) ?hr (Kd.reps_scalar (enc := ptrv) [g21]) (fun _ h => h.elim) trivial HB.out (Nat.le_trans HBS.out (Below.size HB.out)) (by simp) ?_; (case hd => rfl); (case hg => rfl); (case hr => first | (go_simp; done) | (go_simp; rfl)); intro v33 w8 ho hb hg hn; obtain ⟨A34, c35, rfl⟩ : ∃ A c, v33 = .slice A 1 c := Kd.R_slice ho; have n1_ : Aside0 (SatG w8 base [bx_ 101 tp A26 l5.length c27 A28 l6.length c29 (some adt) tcs.length ctc, tz_ A26 c27 l5, tz_ A28 c29 l6, qz_ 74 (some adt) ctc tcs, GA, bx_ 101 kp (a0_ gkk) 2 ckk (a0_ gkv) 2 ckv Akc kcs.length ckc, ty_ (a0_ gkk) 2 ckk l3, ty_ (a0_ gkv) 2 ckv l4, qz_ 74 Akc ckc kcs, (NT.cksL 101 74 kcs), GD, L, tz_ A14 c15 l1, tz_ A19 c20 l2, bx_ 101 g21 A14 l1.length c15 A19 l2.length c20 none 0 0, [.own 74 (.slice A34 1 c35) (encs ptrv [g21])]]) := ⟨SatG.litC HS.out (own_ptr ho) hg hn⟩; have n2_ : Aside0 (Below base w w8) := ⟨hb⟩; clear HS HB ho hb hg hn; have HS := n1_; have HB := n2_; clear n1_ n2_; clear z0_; have z0_ := (SatG.z2 HS.out 0 rfl)) | (go_at_call 128; (with_reducible refine (insPtrI (ia := 3) (ib := 15) (i := (i + 1)) (r := rn) HS.out (by omega) rfl rfl HrnP.out (by decide) (by omega) (Nat.le_trans HBS.out (Below.size HB.out)) (by omega) HB.out).mono ?_); rintro e w9 ⟨A36, c37, rfl, hs_, hb_⟩; rw [<- Hl32.out] at hs_; rw [<- Hl32.out]; have n1_ : Aside0 (SatG w9 base [bx_ 101 tp A26 l5.length c27 A28 l6.length c29 (some adt) tcs.length ctc, tz_ A26 c27 l5, tz_ A28 c29 l6, qz_ 74 A36 c37 l32, GA, bx_ 101 kp (a0_ gkk) 2 ckk (a0_ gkv) 2 ckv Akc kcs.length ckc, ty_ (a0_ gkk) 2 ckk l3, ty_ (a0_ gkv) 2 ckv l4, qz_ 74 Akc ckc kcs, (NT.cksL 101 74 kcs), GD, L, tz_ A14 c15 l1, tz_ A19 c20 l2, bx_ 101 g21 A14 l1.length c15 A19 l2.length c20 none 0 0, [.own 74 (.slice A34 1 c35) (encs ptrv [g21])]]) := ⟨hs_⟩; have n2_ : Aside0 (Below base w w9) := ⟨hb_⟩; clear HS HB hs_ hb_; have HS := n1_; have HB := n2_; clear n1_ n2_; clear z0_; have z0_ := (SatG.z2 HS.out 0 rfl); have zs0 := SatG.z2 HS.out 0 rfl; have fs0 := SatG.f HS.out 0 rfl 2))
  have n1_ : Aside0 (SatG (World.setCell w9 ⟨tp, 2, none⟩ (.slice A36 l32.length c37)) base [bx_ 101 tp A26 l5.length c27 A28 l6.length c29 A36 l32.length c37, tz_ A26 c27 l5, tz_ A28 c29 l6, qz_ 74 A36 c37 l32, GA, bx_ 101 kp (a0_ gkk) 2 ckk (a0_ gkv) 2 ckv Akc kcs.length ckc, ty_ (a0_ gkk) 2 ckk l3, ty_ (a0_ gkv) 2 ckv l4, qz_ 74 Akc ckc kcs, (NT.cksL 101 74 kcs), GD, L, tz_ A14 c15 l1, tz_ A19 c20 l2, bx_ 101 g21 A14 l1.length c15 A19 l2.length c20 none 0 0, [.own 74 (.slice A34 1 c35) (encs ptrv [g21])]]) := ⟨SatG.put2 HS.out 0 rfl (.slice A36 l32.length c37)⟩
  have n2_ : Aside0 (Below base w (World.setCell w9 ⟨tp, 2, none⟩ (.slice A36 l32.length c37))) := ⟨(HB.out).setCell (p := ⟨tp, 2, none⟩) (SatG.ge HS.out 0 rfl) _⟩
  generalize World.setCell w9 ⟨tp, 2, none⟩ (.slice A36 l32.length c37) = w10 at n1_ n2_ ⊢
  clear HS HB z0_ zs0 fs0; have HS := n1_; have HB := n2_; clear n1_ n2_
  go_end0
  have HS2 := A_ (SatG.addNil HS.out 74)
  clear HS
  have HS := HS2
  clear HS2
  have hS : SatG _ base [bx_ 101 tp A26 l5.length c27 A28 l6.length c29 A36 l32.length c37, tz_ A26 c27 l5, tz_ A28 c29 l6, qz_ 74 A36 c37 l32, GA, bx_ 101 kp (a0_ gkk) 2 ckk (a0_ gkv) 2 ckv Akc kcs.length ckc, ty_ (a0_ gkk) 2 ckk l3, ty_ (a0_ gkv) 2 ckv l4, qz_ 74 Akc ckc kcs, (NT.cksL 101 74 kcs), bx_ 101 g21 A14 l1.length c15 A19 l2.length c20 none 0 0, tz_ A14 c15 l1, tz_ A19 c20 l2, [.que 74 (.slice none 0 0) []], GD, L] := SatG.sel HS.out [0, 1, 2, 3, 4, 5, 6, 7, 8, 9, 14, 12, 13, 16, 10, 11] (by decide)
  obtain ⟨k', hk'⟩ : ∃ k', k' = NT.mk kp (.slice (some ⟨gkk, 0, none⟩) 2 ckk) (.slice (some ⟨gkv, 0, none⟩) 2 ckv) (.slice Akc kcs.length ckc) l3 l4 kcs := ⟨_, rfl⟩
  have hq := ptrs_ins_set (k' := k') (r := rn) HK.out.1 (by rw [hk']; rfl)
  rw [<- Hl32.out] at hq
  refine ⟨rfl, NT.mk tp (.slice A26 l5.length c27) (.slice A28 l6.length c29) (.slice A36 l32.length c37) l5 l6 (insAt (tcs.set i k') (i + 1) rn), rfl, ?_, ?_, HB.out⟩
  ·rw [HRR.out]
   show PT.mk _ _ (NT.eraseL (insAt (tcs.set i k') (i + 1) rn)) = _
   rw [eraseL_ins, hk', Hrn.out]
   have el1 := Hl1.out
   subst el1
   have el2 := Hl2.out
   subst el2
   have el3 := Hl3.out
   subst el3
   have el4 := Hl4.out
   subst el4
   have el5 := Hl5.out
   subst el5
   have el6 := Hl6.out
   subst el6
   have ex := Hx.out.2
   have ey := Hy.out.2
   subst ex
   subst ey
   unfold splitK
   simp only [NT.erase, PT.keys, PT.vals, PT.kids, eraseL_map, List.map_take, List.map_drop, nthB]
   have e0 := HL0.out
   subst e0
   simp
  ·rw [NT.cks, cksL_ins HKI.out, hk', Hrn.out, NT.cks, NT.cks, <- HGA.out, <- HGD.out]
   rw [hk', Hrn.out] at hq
   rw [hq]
   unfold SatG at hS
   simp only [List.flatten_cons, List.flatten_nil, List.append_nil, List.cons_append, List.nil_append, List.append_assoc, NT.cksL] at hS ⊢
   exact hS
 ·skip
  have hc3 : 3 <= kcs.length := by have := HKK.out; omega
  have HRK := A_ ((SatG.sel HS.out [5, 6, 7, 8, 9] (by decide)).rd5)
  have hbl := A_ (show decide (((NT.mk kp (.slice (some ⟨gkk, 0, none⟩) 2 ckk) (.slice (some ⟨gkv, 0, none⟩) 2 ckv) (.slice Akc kcs.length ckc) l3 l4 kcs).erase.kids.length : Int) = 0) = false from decide_eq_false (by show ((NT.eraseL kcs).length : Int) ≠ 0; rw [eraseL_map, List.length_map]; omega))
  go_upto_region 6 with (first | (go_at_call 99; (with_reducible refine (impl_isLeaf.callsB false hbl.out _ ?side1).mono ?_); (case side1 => repeat (first | exact HRK.out | (with_reducible refine Rd.drewN ?_ _) | (with_reducible refine Rd.drew ?_))); rintro e w' ⟨rfl, ⟨nd, rfl⟩⟩))
  generalize hW : World.drewN _ _ = w7
  have n1_ : Aside0 (SatG w7 base [bx_ 101 tp A26 l5.length c27 A28 l6.length c29 (some adt) tcs.length ctc, tz_ A26 c27 l5, tz_ A28 c29 l6, qz_ 74 (some adt) ctc tcs, GA, bx_ 101 kp (a0_ gkk) 2 ckk (a0_ gkv) 2 ckv Akc kcs.length ckc, ty_ (a0_ gkk) 2 ckk l3, ty_ (a0_ gkv) 2 ckv l4, qz_ 74 Akc ckc kcs, (NT.cksL 101 74 kcs), GD, L, tz_ A14 c15 l1, tz_ A19 c20 l2, bx_ 101 g21 A14 l1.length c15 A19 l2.length c20 none 0 0]) := ⟨by rw [<- hW]; exact SatG.drewN HS.out _⟩
  have n2_ : Aside0 (Below base w w7) := ⟨by rw [<- hW]; exact pw_below_drewN HB.out _⟩
  clear HS HB HRK hbl hW; have HS := n1_; have HB := n2_; clear n1_ n2_
  obtain ⟨l32, hl32⟩ : ∃ r : List NT, r = kcs.drop 3 := ⟨_, rfl⟩
  have Hl32 := A_ hl32
  clear hl32
  obtain ⟨l33, hl33⟩ : ∃ r : List NT, r = kcs.take 3 := ⟨_, rfl⟩
  have Hl33 := A_ hl33
  clear hl33
  obtain ⟨i0_, hi0_, _, hsz_, _⟩ := info_parts info74
  have hcut34 := cut_from (P := Try.prog) 99 74 .i64 under99 hi0_ 1 hsz_ Akc kcs.length ckc 3 (by omega) (by omega)
  simp only [show ((3 : Int)).toNat = 3 from by omega] at hcut34
  obtain ⟨A35, hA35⟩ : ∃ A : Option Addr, A = (if ckc = 3 then Akc else (Akc : Option Addr).map (·.add (3 * 1))) := ⟨_, rfl⟩
  obtain ⟨c36, hc36⟩ : ∃ c, c = ckc - 3 := ⟨_, rfl⟩
  rw [<- hA35, <- hc36] at hcut34
  have HA35 := A_ hA35
  have Hc36 := A_ hc36
  clear hA35 hc36
  clear hi0_ hsz_
  have z0_ := (SatG.z2 HS.out 5 rfl)
  go_upto_region 7 with (first | (go_at_call 127; (with_reducible refine (cloneQ HS.out 8 rfl 3 (by omega) HA35.out Hc36.out Hl32.out rfl (by omega)).mono ?_); rintro e w8 ⟨v0_, rfl, ho, hb⟩; obtain ⟨A37, c38, eq_⟩ := Kd.R_slice ho; rw [List.length_map] at eq_; subst eq_; have n1_ : Aside0 (SatG w8 base [bx_ 101 tp A26 l5.length c27 A28 l6.length c29 (some adt) tcs.length ctc, tz_ A26 c27 l5, tz_ A28 c29 l6, qz_ 74 (some adt) ctc tcs, GA, bx_ 101 kp (a0_ gkk) 2 ckk (a0_ gkv) 2 ckv Akc kcs.length ckc, ty_ (a0_ gkk) 2 ckk l3, ty_ (a0_ gkv) 2 ckv l4, qz_ 74 Akc ckc kcs, (NT.cksL 101 74 kcs), GD, L, tz_ A14 c15 l1, tz_ A19 c20 l2, bx_ 101 g21 A14 l1.length c15 A19 l2.length c20 none 0 0, qz_ 74 A37 c38 l32]) := ⟨SatG.newPtr HS.out hb (Nat.le_trans HBS.out (Below.size HB.out)) ho⟩; have n2_ : Aside0 (Below base w w8) := ⟨(HB.out).trans (hb.mono (Nat.le_trans HBS.out (Below.size HB.out)))⟩; clear HS HB ho hb; have HS := n1_; have HB := n2_; clear n1_ n2_; clear z0_; have z0_ := (SatG.z2 HS.out 5 rfl); have zs0 := SatG.z2 HS.out 14 rfl; have fs0 := SatG.f HS.out 14 rfl 2))
  have n1_ : Aside0 (SatG (World.setCell w8 ⟨g21, 2, none⟩ (.slice A37 l32.length c38)) base [bx_ 101 tp A26 l5.length c27 A28 l6.length c29 (some adt) tcs.length ctc, tz_ A26 c27 l5, tz_ A28 c29 l6, qz_ 74 (some adt) ctc tcs, GA, bx_ 101 kp (a0_ gkk) 2 ckk (a0_ gkv) 2 ckv Akc kcs.length ckc, ty_ (a0_ gkk) 2 ckk l3, ty_ (a0_ gkv) 2 ckv l4, qz_ 74 Akc ckc kcs, (NT.cksL 101 74 kcs), GD, L, tz_ A14 c15 l1, tz_ A19 c20 l2, bx_ 101 g21 A14 l1.length c15 A19 l2.length c20 A37 l32.length c38, qz_ 74 A37 c38 l32]) := ⟨SatG.put2 HS.out 14 rfl (.slice A37 l32.length c38)⟩
  have n2_ : Aside0 (Below base w (World.setCell w8 ⟨g21, 2, none⟩ (.slice A37 l32.length c38))) := ⟨(HB.out).setCell (p := ⟨g21, 2, none⟩) (SatG.ge HS.out 14 rfl) _⟩
  generalize World.setCell w8 ⟨g21, 2, none⟩ (.slice A37 l32.length c38) = w9 at n1_ n2_ ⊢
  clear HS HB z0_ zs0 fs0; have HS := n1_; have HB := n2_; clear n1_ n2_
  clear hcut34
  obtain ⟨i0_, hi0_, _, hsz_, _⟩ := info_parts info74
  have hcut39 := cut_to (P := Try.prog) 99 74 .i64 under99 hi0_ Akc kcs.length ckc 3 (by omega) (by omega) (SatG.rowQ HS.out 8 rfl).2.1
  simp only [show ((3 : Int)).toNat = 3 from by omega] at hcut39
  clear hi0_ hsz_
  have z0_ := (SatG.z2 HS.out 5 rfl)
  have zs0 := SatG.z2 HS.out 5 rfl
  have fs0 := SatG.f HS.out 5 rfl 2
  go_upto_region 8 with fail
  have n1_ : Aside0 (SatG (World.setCell w9 ⟨kp, 2, none⟩ (.slice Akc 3 ckc)) base [bx_ 101 tp A26 l5.length c27 A28 l6.length c29 (some adt) tcs.length ctc, tz_ A26 c27 l5, tz_ A28 c29 l6, qz_ 74 (some adt) ctc tcs, GA, bx_ 101 kp (a0_ gkk) 2 ckk (a0_ gkv) 2 ckv Akc 3 ckc, ty_ (a0_ gkk) 2 ckk l3, ty_ (a0_ gkv) 2 ckv l4, qy_ 74 Akc 3 ckc l33, (NT.cksL 101 74 kcs), GD, L, tz_ A14 c15 l1, tz_ A19 c20 l2, bx_ 101 g21 A14 l1.length c15 A19 l2.length c20 A37 l32.length c38, qz_ 74 A37 c38 l32]) := ⟨shrinkQ (SatG.put2 HS.out 5 rfl (.slice Akc 3 ckc)) 8 rfl Hl33.out (by omega)⟩
  have n2_ : Aside0 (Below base w (World.setCell w9 ⟨kp, 2, none⟩ (.slice Akc 3 ckc))) := ⟨(HB.out).setCell (p := ⟨kp, 2, none⟩) (SatG.ge HS.out 5 rfl) _⟩
  generalize World.setCell w9 ⟨kp, 2, none⟩ (.slice Akc 3 ckc) = w10 at n1_ n2_ ⊢
  clear HS HB z0_ zs0 fs0; have HS := n1_; have HB := n2_; clear n1_ n2_
  clear hcut39
  have HLC : Aside0 (NT.cksL 101 74 kcs = NT.cksL 101 74 l33 ++ NT.cksL 101 74 l32) := ⟨by rw [Hl33.out, Hl32.out, <- cksL_append, List.take_append_drop]⟩
  have n1_ : Aside0 (SatG w10 base [bx_ 101 tp A26 l5.length c27 A28 l6.length c29 (some adt) tcs.length ctc, tz_ A26 c27 l5, tz_ A28 c29 l6, qz_ 74 (some adt) ctc tcs, GA, bx_ 101 kp (a0_ gkk) 2 ckk (a0_ gkv) 2 ckv Akc 3 ckc, ty_ (a0_ gkk) 2 ckk l3, ty_ (a0_ gkv) 2 ckv l4, qy_ 74 Akc 3 ckc l33, (NT.cksL 101 74 l33), GD, L, tz_ A14 c15 l1, tz_ A19 c20 l2, bx_ 101 g21 A14 l1.length c15 A19 l2.length c20 A37 l32.length c38, qz_ 74 A37 c38 l32, (NT.cksL 101 74 l32)]) := ⟨SatG.cut HS.out 9 (congrArg some HLC.out)⟩
  have n2_ : Aside0 (Below base w w10) := ⟨HB.out⟩
  clear HS HB; have HS := n1_; have HB := n2_; clear n1_ n2_
  obtain ⟨rn, hrn⟩ : ∃ r, r = NT.mk g21 (.slice A14 l1.length c15) (.slice A19 l2.length c20) (.slice A37 l32.length c38) l1 l2 l32 := ⟨_, rfl⟩
  have Hrn := A_ hrn
  have HrnP : Aside0 (rn.p = g21) := ⟨by rw [hrn]; rfl⟩
  clear hrn
  obtain ⟨l40, hl40⟩ : ∃ r : List NT, r = insAt tcs (i + 1) rn := ⟨_, rfl⟩
  have Hl40 := A_ hl40
  clear hl40
  have z0_ := (SatG.z2 HS.out 0 rfl)
  go_wp2_with (first | ((with_reducible refine gate_dst (N := 92) rfl ?_); refine Kd.R_lit kptr (w0 := w) base 74 ?hg (N := 92) ?hd (xs := [g21]) (inner := [ptrv g21]) (ok := fun _ => True) (okp := fun _ => False) ?hr (Kd.reps_scalar (enc := ptrv) [g21]) (fun _ h => h.elim) trivial HB.out (Nat.le_trans HBS.out (Below.size HB.out)) (by simp) ?_; (case hd => rfl); (case hg => rfl); (case hr => first | (go_simp; done) | (go_simp; rfl)); intro v41 w11 ho hb hg hn; obtain ⟨A42, c43, rfl⟩ : ∃ A c, v41 = .slice A 1 c := Kd.R_slice ho; have n1_ : Aside0 (SatG w11 base [bx_ 101 tp A26 l5.length c27 A28 l6.length c29 (some adt) tcs.length ctc, tz_ A26 c27 l5, tz_ A28 c29 l6, qz_ 74 (some adt) ctc tcs, GA, bx_ 101 kp (a0_ gkk) 2 ckk (a0_ gkv) 2 ckv Akc 3 ckc, ty_ (a0_ gkk) 2 ckk l3, ty_ (a0_ gkv) 2 ckv l4, qy_ 74 Akc 3 ckc l33, (NT.cksL 101 74 l33), GD, L, tz_ A14 c15 l1, tz_ A19 c20 l2, bx_ 101 g21 A14 l1.length c15 A19 l2.length c20 A37 l32.length c38, qz_ 74 A37 c38 l32, (NT.cksL 101 74 l32), [.own 74 (.slice A42 1 c43) (encs ptrv [g21])]]) := ⟨SatG.litC HS.out (own_ptr ho) hg hn⟩; have n2_ : Aside0 (Below base w w11) := ⟨hb⟩; clear HS HB ho hb hg hn; have HS := n1_; have HB := n2_; clear n1_ n2_; clear z0_; have z0_ := (SatG.z2 HS.out 0 rfl)) | (go_at_call 128; (with_reducible refine (insPtrI (ia := 3) (ib := 17) (i := (i + 1)) (r := rn) HS.out (by omega) rfl rfl HrnP.out (by decide) (by omega) (Nat.le_trans HBS.out (Below.size HB.out)) (by omega) HB.out).mono ?_); rintro e w12 ⟨A44, c45, rfl, hs_, hb_⟩; rw [<- Hl40.out] at hs_; rw [<- Hl40.out]; have n1_ : Aside0 (SatG w12 base [bx_ 101 tp A26 l5.length c27 A28 l6.length c29 (some adt) tcs.length ctc, tz_ A26 c27 l5, tz_ A28 c29 l6, qz_ 74 A44 c45 l40, GA, bx_ 101 kp (a0_ gkk) 2 ckk (a0_ gkv) 2 ckv Akc 3 ckc, ty_ (a0_ gkk) 2 ckk l3, ty_ (a0_ gkv) 2 ckv l4, qy_ 74 Akc 3 ckc l33, (NT.cksL 101 74 l33), GD, L, tz_ A14 c15 l1, tz_ A19 c20 l2, bx_ 101 g21 A14 l1.length c15 A19 l2.length c20 A37 l32.length c38, qz_ 74 A37 c38 l32, (NT.cksL 101 74 l32), [.own 74 (.slice A42 1 c43) (encs ptrv [g21])]]) := ⟨hs_⟩; have n2_ : Aside0 (Below base w w12) := ⟨hb_⟩; clear HS HB hs_ hb_; have HS := n1_; have HB := n2_; clear n1_ n2_; clear z0_; have z0_ := (SatG.z2 HS.out 0 rfl); have zs0 := SatG.z2 HS.out 0 rfl; have fs0 := SatG.f HS.out 0 rfl 2))
  have n1_ : Aside0 (SatG (World.setCell w12 ⟨tp, 2, none⟩ (.slice A44 l40.length c45)) base [bx_ 101 tp A26 l5.length c27 A28 l6.length c29 A44 l40.length c45, tz_ A26 c27 l5, tz_ A28 c29 l6, qz_ 74 A44 c45 l40, GA, bx_ 101 kp (a0_ gkk) 2 ckk (a0_ gkv) 2 ckv Akc 3 ckc, ty_ (a0_ gkk) 2 ckk l3, ty_ (a0_ gkv) 2 ckv l4, qy_ 74 Akc 3 ckc l33, (NT.cksL 101 74 l33), GD, L, tz_ A14 c15 l1, tz_ A19 c20 l2, bx_ 101 g21 A14 l1.length c15 A19 l2.length c20 A37 l32.length c38, qz_ 74 A37 c38 l32, (NT.cksL 101 74 l32), [.own 74 (.slice A42 1 c43) (encs ptrv [g21])]]) := ⟨SatG.put2 HS.out 0 rfl (.slice A44 l40.length c45)⟩
  have n2_ : Aside0 (Below base w (World.setCell w12 ⟨tp, 2, none⟩ (.slice A44 l40.length c45))) := ⟨(HB.out).setCell (p := ⟨tp, 2, none⟩) (SatG.ge HS.out 0 rfl) _⟩
  generalize World.setCell w12 ⟨tp, 2, none⟩ (.slice A44 l40.length c45) = w13 at n1_ n2_ ⊢
  clear HS HB z0_ zs0 fs0; have HS := n1_; have HB := n2_; clear n1_ n2_
  go_end0
  have hS : SatG _ base [bx_ 101 tp A26 l5.length c27 A28 l6.length c29 A44 l40.length c45, tz_ A26 c27 l5, tz_ A28 c29 l6, qz_ 74 A44 c45 l40, GA, bx_ 101 kp (a0_ gkk) 2 ckk (a0_ gkv) 2 ckv Akc 3 ckc, ty_ (a0_ gkk) 2 ckk l3, ty_ (a0_ gkv) 2 ckv l4, qy_ 74 Akc 3 ckc l33, (NT.cksL 101 74 l33), bx_ 101 g21 A14 l1.length c15 A19 l2.length c20 A37 l32.length c38, tz_ A14 c15 l1, tz_ A19 c20 l2, qz_ 74 A37 c38 l32, (NT.cksL 101 74 l32), GD, L] := SatG.sel HS.out [0, 1, 2, 3, 4, 5, 6, 7, 8, 9, 14, 12, 13, 15, 16, 10, 11] (by decide)
  obtain ⟨k', hk'⟩ : ∃ k', k' = NT.mk kp (.slice (some ⟨gkk, 0, none⟩) 2 ckk) (.slice (some ⟨gkv, 0, none⟩) 2 ckv) (.slice Akc 3 ckc) l3 l4 l33 := ⟨_, rfl⟩
  have hq := ptrs_ins_set (k' := k') (r := rn) HK.out.1 (by rw [hk']; rfl)
  rw [<- Hl40.out] at hq
  refine ⟨rfl, NT.mk tp (.slice A26 l5.length c27) (.slice A28 l6.length c29) (.slice A44 l40.length c45) l5 l6 (insAt (tcs.set i k') (i + 1) rn), rfl, ?_, ?_, HB.out⟩
  ·rw [HRR.out]
   show PT.mk _ _ (NT.eraseL (insAt (tcs.set i k') (i + 1) rn)) = _
   rw [eraseL_ins, hk', Hrn.out]
   have el1 := Hl1.out
   subst el1
   have el2 := Hl2.out
   subst el2
   have el3 := Hl3.out
   subst el3
   have el4 := Hl4.out
   subst el4
   have el5 := Hl5.out
   subst el5
   have el6 := Hl6.out
   subst el6
   have el32 := Hl32.out
   subst el32
   have el33 := Hl33.out
   subst el33
   have ex := Hx.out.2
   have ey := Hy.out.2
   subst ex
   subst ey
   unfold splitK
   simp only [NT.erase, PT.keys, PT.vals, PT.kids, eraseL_map, List.map_take, List.map_drop, nthB]
  ·rw [NT.cks, cksL_ins HKI.out, hk', Hrn.out, NT.cks, NT.cks, <- HGA.out, <- HGD.out]
   rw [hk', Hrn.out] at hq
   rw [hq]
   unfold SatG at hS
   simp only [List.flatten_cons, List.flatten_nil, List.append_nil, List.cons_append, List.nil_append, List.append_assoc, NT.cksL] at hS ⊢
   exact hS
set_option maxHeartbeats 8000000
set_option maxRecDepth 100000
open Go.Proofs.Ytoddejmlcnbdmaa.Pure (SrtP allP)
theorem less_at (K : List ByteArray) (key : ByteArray) (hK : K.length <= 1000) (hs : Go.Proofs.Ytoddejmlcnbdmaa.Pure.Srt K) : ∃ k, impl_less.f k K key = some (atI key K : Int) := by
 obtain ⟨b, h⟩ := Go.Proofs.Ytoddejmlcnbdmaa.Pure.lessI_ev K key (by omega) hs
 exact ⟨b, h b (Nat.le_refl _)⟩
theorem impl_put.calls (key val : ByteArray) : ∀ (n : Nat) (t : NT), t.erase.big <= n -> Bnd t.erase -> SrtP (allP t.erase) -> ∀ (base : Nat) (L : List Ck) (w : World), Sat w base (t.cks 101 74 ++ L) -> base <= w.heap.size ->
  Calls Try.prog 108 #[ptrv t.p, .string key, .string val] w (WR w base 101 74 t L (putP n t.erase key val)) := by
 intro n
 induction n with
 | zero =>
  intro t hb
  exact absurd t.erase.big_pos (by omega)
 | succ n ih =>
  intro t hbig hbd hsrt base L w hs hbs
  have hrd := rd_of hs.left
  have hsk : Go.Proofs.Ytoddejmlcnbdmaa.Pure.Srt t.erase.keys := Go.Proofs.Ytoddejmlcnbdmaa.Pure.srt_keys ((Go.Proofs.Ytoddejmlcnbdmaa.Pure.srtP_iff (Go.Proofs.Ytoddejmlcnbdmaa.Pure.bnd_shp hbd)).2 hsrt)
  have hsc : ∀ (s : PT) (j : Nat), t.erase.kids[j]? = some s -> j <= t.erase.keys.length -> SrtP (allP s) := fun s j hx hj => Go.Proofs.Ytoddejmlcnbdmaa.Pure.srt_kidP hbd hsrt hx hj
  clear hsrt
  obtain ⟨⟨ho1, ho2, ho3⟩, ho4⟩ := Bnd_iff.1 hbd
  have h0 := open_node hs
  obtain ⟨R, hR⟩ : ∃ R, R = putP (n + 1) t.erase key val := ⟨_, rfl⟩
  rw [<- hR]
  cases t with | mk tp tkv tvv tcv tks tvs tcs =>
  have e0 : (NT.mk tp tkv tvv tcv tks tvs tcs).erase = .mk tks tvs (NT.eraseL tcs) := rfl
  rw [e0] at hrd hbig hbd ho1 ho2 ho3 ho4 hR hsk hsc
  replace hrd : Rd 101 w tp (PT.mk tks tvs (NT.eraseL tcs)) := hrd
  unfold nodeGs at h0
  simp only [NT.keys, NT.vals, NT.kids, NT.p, NT.kv, NT.vv, NT.cv] at h0 ⊢
  simp only [PT.keys, PT.vals, PT.kids] at ho1 ho2 ho3 ho4 hsk hsc
  have HSC := A_ hsc
  obtain ⟨kf, hkf⟩ := less_at tks key (by omega) hsk
  clear hsk hsc
  obtain ⟨i, hi⟩ : ∃ i, atI key tks = i := ⟨_, rfl⟩
  rw [putP] at hR
  simp only [PT.keys, PT.vals, PT.kids] at hR
  simp only [hi] at hR
  rw [hi] at hkf
  have HLE := A_ hkf
  clear hkf
  have hle : i <= tks.length := by rw [<- hi]; exact atI_le key tks
  have HM := A_ (show (PT.mk tks tvs (NT.eraseL tcs)).keys.length <= 1000000000000 by show tks.length <= _; omega)
  have HI := A_ (show atI key (PT.mk tks tvs (NT.eraseL tcs)).keys = i from hi)
  have HRD := A_ hrd
  have HBS := A_ hbs
  have htv : tvs.length <= 4 := by omega
  have HVK := A_ ho1
  have hi4 : i <= 4 := by omega
  obtain ⟨Atk, ctk, rfl⟩ := Kd.R_slice (h0.sr 1 rfl)
  obtain ⟨Atv, ctv, rfl⟩ := Kd.R_slice (h0.sr 2 rfl)
  obtain ⟨Atc, ctc, rfl, hlc, hC⟩ := q_slice (h0.q 3 rfl)
  obtain ⟨GC, hGC⟩ : ∃ G, G = NT.cksL 101 74 tcs := ⟨_, rfl⟩
  rw [<- hGC] at h0
  have HS := A_ h0
  have HGC := A_ hGC
  have HRW := A_ (SatG.row h0 1 rfl)
  have hz0_ := SatG.z0 h0 0 rfl
  clear h0 hGC hrd hs hi hbs
  cases hb : hasS tks i key with
  | true =>
   have HHA := A_ (show impl_hasAt.f tks (i : Int) key = some true from by rw [Go.Proofs.Ytoddejmlcnbdmaa.Pure.hasAt_f, hb])
   rw [if_pos hb] at hR
   have HR := A_ hR
   have hlt : i < tvs.length := by have := hasS_lt hb; omega
   obtain ⟨gv, _, ev, hgv, _, _⟩ := Kd.R_form (HS.out.sr 2 rfl) (by omega)
   obtain rfl : Atv = some ⟨gv, 0, none⟩ := by injection ev
   have HGV := A_ hgv
   have hz1 := HS.out.z 0 rfl 1
   have hcv := row_cell (HS.out.sr 2 rfl) i hlt
   have hfv := row_frozen (HS.out.sr 2 rfl) (by omega) i
   have ci0 : (0 <= (i : Int)) = True := eq_true (by omega)
   have ci1 : ((i : Int) < (tvs.length : Int)) = True := eq_true (by omega)
   have ci2 : (i < tvs.length) = True := eq_true hlt
   clear hb hR ev hgv ho1 ho3 ho4 hlc hC hbig hbd e0
   go_enter Try.func108, Try.ntmps108
   go_wp2_with (first | (go_at_call 73; (with_reducible refine (impl_less.calls kf _ _ tks key (i : Int) _ ?side1 ?side2 HLE.out).mono ?_); (case side1 => repeat (first | exact HRW.out.2.2 | (with_reducible refine Kd.C_drewN ?_ _) | (with_reducible refine Kd.C_drew ?_))); (case side2 => exact HRW.out.2.1); rintro e w1 ⟨rfl, ⟨nd, rfl⟩⟩) | (go_at_call 101; (with_reducible refine (impl_hasAt.calls _ _ tks (i : Int) key true _ ?side1 ?side2 HHA.out).mono ?_); (case side1 => repeat (first | exact HRW.out.2.2 | (with_reducible refine Kd.C_drewN ?_ _) | (with_reducible refine Kd.C_drew ?_))); (case side2 => exact HRW.out.2.1); rintro e w1 ⟨rfl, ⟨nd, rfl⟩⟩))
   go_end0
   refine ⟨rfl, NT.mk tp (.slice Atk tks.length ctk) (.slice (some ⟨gv, 0, none⟩) tvs.length ctv) (.slice Atc tcs.length ctc) tks (tvs.set i val) tcs, rfl, ?_, ?_, ?_⟩
   ·rw [HR.out]
    rfl
   ·have hS0 := fun m => SatG.setTxt (SatG.drewN HS.out m) 2 rfl i val
    simp only [List.length_set] at hS0
    refine shut_node ?_
    unfold nodeGs
    simp only [NT.keys, NT.vals, NT.kids, NT.p, NT.kv, NT.vv, NT.cv]
    rw [<- HGC.out]
    exact hS0 _
   ·exact (pw_below_drewN (Below.refl base w) _).setCell (p := ⟨gv, i, none⟩) HGV.out _
  | false =>
   have HHA := A_ (show impl_hasAt.f tks (i : Int) key = some false from by rw [Go.Proofs.Ytoddejmlcnbdmaa.Pure.hasAt_f, hb])
   rw [if_neg (by rw [hb]; decide)] at hR
   by_cases h0 : tcs.length = 0
   ·rw [if_pos (by rw [eraseL_map, List.length_map]; exact h0)] at hR
    have HR := A_ hR
    have hbl := A_ (show decide ((((PT.mk tks tvs (NT.eraseL tcs)).kids.length : Nat) : Int) = 0) = true from decide_eq_true (by show ((NT.eraseL tcs).length : Int) = 0; rw [eraseL_map, List.length_map]; omega))
    have HL1 := A_ (show i <= tks.length /\ tks.length <= 1000000000000 by omega)
    have HL2 := A_ (show i <= tvs.length /\ tvs.length <= 1000000000000 by omega)
    clear hb hR ho1 ho3 ho4 hlc hC hbig hbd e0 h0
    go_enter Try.func108, Try.ntmps108
    go_upto_region 6 with (first | (go_at_call 73; (with_reducible refine (impl_less.calls kf _ _ tks key (i : Int) _ ?side1 ?side2 HLE.out).mono ?_); (case side1 => repeat (first | exact HRW.out.2.2 | (with_reducible refine Kd.C_drewN ?_ _) | (with_reducible refine Kd.C_drew ?_))); (case side2 => exact HRW.out.2.1); rintro e w1 ⟨rfl, ⟨nd, rfl⟩⟩) | (go_at_call 101; (with_reducible refine (impl_hasAt.calls _ _ tks (i : Int) key false _ ?side1 ?side2 HHA.out).mono ?_); (case side1 => repeat (first | exact HRW.out.2.2 | (with_reducible refine Kd.C_drewN ?_ _) | (with_reducible refine Kd.C_drew ?_))); (case side2 => exact HRW.out.2.1); rintro e w1 ⟨rfl, ⟨nd, rfl⟩⟩) | (go_at_call 99; (with_reducible refine (impl_isLeaf.callsB true hbl.out _ ?side1).mono ?_); (case side1 => repeat (first | exact HRD.out | (with_reducible refine Rd.drewN ?_ _) | (with_reducible refine Rd.drew ?_))); rintro e w' ⟨rfl, ⟨nd, rfl⟩⟩))
    generalize hW : World.drewN _ _ = w2
    have n1_ : Aside0 (SatG w2 base [bx_ 101 tp Atk tks.length ctk Atv tvs.length ctv Atc tcs.length ctc, tz_ Atk ctk tks, tz_ Atv ctv tvs, qz_ 74 Atc ctc tcs, GC, L]) := ⟨by rw [<- hW]; exact SatG.drewN HS.out _⟩
    have n2_ : Aside0 (Below base w w2) := ⟨by rw [<- hW]; exact pw_below_drewN (Below.refl base w) _⟩
    clear HS hW
    have HS := n1_
    have HB := n2_
    clear n1_ n2_
    have HS3 := A_ (show SatG w2 base ([.box 101 tp #[.slice Atk tks.length ctk, .slice Atv tvs.length ctv, .slice Atc tcs.length ctc]] :: [txt (.slice Atk tks.length ctk) tks] :: [txt (.slice Atv tvs.length ctv) tvs] :: [qz_ 74 Atc ctc tcs, GC, L]) from HS.out)
    go_wp2_with (first | (go_at_call 126; (with_reducible refine (impl_insert.calls (i := i) (x := key) (y := val) HL1.out.1 HL2.out.1 HL1.out.2 HL2.out.2 base _ _ HS3.out (Nat.le_trans HBS.out (Below.size HB.out))).mono ?_); rintro e w3 ⟨rfl, An0, cn0, An1, cn1, hs_, hb_⟩; clear HS HS3; have n2_ := A_ (HB.out.trans hb_); clear HB; have HB := n2_; have HS := A_ hs_; clear hs_ hb_ n2_))
    go_end0
    refine ⟨rfl, NT.mk tp (.slice An0 (insAt tks i key).length cn0) (.slice An1 (insAt tvs i val).length cn1) (.slice Atc tcs.length ctc) (insAt tks i key) (insAt tvs i val) tcs, rfl, ?_, ?_, HB.out⟩
    ·rw [HR.out]
     rfl
    ·refine shut_node ?_
     unfold nodeGs
     simp only [NT.keys, NT.vals, NT.kids, NT.p, NT.kv, NT.vv, NT.cv]
     rw [<- HGC.out]
     exact HS.out
   ·have hkl : tcs.length = tks.length + 1 := by
     rcases ho3 with h | h
     ·rw [eraseL_map, List.length_map] at h; exact absurd h h0
     ·rw [eraseL_map, List.length_map] at h; exact h
    obtain ⟨s, hsx⟩ : ∃ s, tcs[i]? = some s := ⟨tcs[i], List.getElem?_eq_getElem (by omega)⟩
    have hse : (NT.eraseL tcs)[i]? = some s.erase := by rw [eraseL_map, List.getElem?_map, hsx]; rfl
    rw [if_neg (by rw [eraseL_map, List.length_map]; exact h0)] at hR
    simp only [hse] at hR
    have hsb : Bnd s.erase := ho4 _ (List.mem_of_getElem? hse)
    have hsg : s.erase.big <= n := by
     have := PT.big_kid (t := PT.mk tks tvs (NT.eraseL tcs)) hse
     omega
    have hbl := A_ (show decide ((((PT.mk tks tvs (NT.eraseL tcs)).kids.length : Nat) : Int) = 0) = false from decide_eq_false (by show ((NT.eraseL tcs).length : Int) ≠ 0; rw [eraseL_map, List.length_map]; omega))
    have HR := A_ hR
    obtain ⟨SE, hSE⟩ : ∃ x, x = s.erase := ⟨_, rfl⟩
    have HSB := A_ hsb
    have HSE := A_ hse
    have HSG := A_ hsg
    have HKI := A_ hsx
    have HO4 := A_ ho4
    have hil : i < tcs.length := (List.getElem?_eq_some_iff.1 hsx).1
    have hcl : tcs.length <= 5 := by omega
    have HKL := A_ hkl
    have HTK := A_ (show i <= tks.length /\ tks.length <= 4 by omega)
    clear hb hR ho1 ho3 ho4 hlc hC hbig hbd e0 h0 hse hsb hsg hkl hSE
    go_enter Try.func108, Try.ntmps108
    go_upto_region 1 with (first | (go_at_call 73; (with_reducible refine (impl_less.calls kf _ _ tks key (i : Int) _ ?side1 ?side2 HLE.out).mono ?_); (case side1 => repeat (first | exact HRW.out.2.2 | (with_reducible refine Kd.C_drewN ?_ _) | (with_reducible refine Kd.C_drew ?_))); (case side2 => exact HRW.out.2.1); rintro e w1 ⟨rfl, ⟨nd, rfl⟩⟩) | (go_at_call 101; (with_reducible refine (impl_hasAt.calls _ _ tks (i : Int) key false _ ?side1 ?side2 HHA.out).mono ?_); (case side1 => repeat (first | exact HRW.out.2.2 | (with_reducible refine Kd.C_drewN ?_ _) | (with_reducible refine Kd.C_drew ?_))); (case side2 => exact HRW.out.2.1); rintro e w1 ⟨rfl, ⟨nd, rfl⟩⟩) | (go_at_call 99; (with_reducible refine (impl_isLeaf.callsB false hbl.out _ ?side1).mono ?_); (case side1 => repeat (first | exact HRD.out | (with_reducible refine Rd.drewN ?_ _) | (with_reducible refine Rd.drew ?_))); rintro e w' ⟨rfl, ⟨nd, rfl⟩⟩))
    generalize hW : World.drewN _ _ = w2
    have n1_ : Aside0 (SatG w2 base [bx_ 101 tp Atk tks.length ctk Atv tvs.length ctv Atc tcs.length ctc, tz_ Atk ctk tks, tz_ Atv ctv tvs, qz_ 74 Atc ctc tcs, GC, L]) := ⟨by rw [<- hW]; exact SatG.drewN HS.out _⟩
    have n2_ : Aside0 (Below base w w2) := ⟨by rw [<- hW]; exact pw_below_drewN (Below.refl base w) _⟩
    clear HS hW HRD hbl
    have HS := n1_
    have HB := n2_
    clear n1_ n2_
    obtain ⟨adt, rfl, hzp⟩ := at_ptr (SatG.rowQ HS.out 3 rfl).2.2 (i : Int) (by omega) (by omega)
    rw [show rdOf 0 (tcs.map NT.p) (i : Int) = s.p by unfold rdOf; rw [Int.toNat_natCast, List.getD_eq_getElem?_getD, List.getElem?_map, hsx]; rfl, Int.toNat_natCast] at hzp
    have hz2 := HS.out.z 0 rfl 2
    have ci0 : (0 <= (i : Int)) = True := eq_true (by omega)
    have ci1 : ((i : Int) < (tcs.length : Int)) = True := eq_true (by omega)
    have ci2 : (i < tcs.length) = True := eq_true hil
    have HT : Aside0 (Sat w2 base ((NT.mk tp (.slice Atk tks.length ctk) (.slice Atv tvs.length ctv) (.slice (some adt) tcs.length ctc) tks tvs tcs).cks 101 74 ++ L)) := ⟨by
     refine shut_node ?_
     unfold nodeGs
     simp only [NT.keys, NT.vals, NT.kids, NT.p, NT.kv, NT.vv, NT.cv]
     rw [<- HGC.out]
     exact HS.out⟩
    clear HS HGC hsx
    obtain ⟨t0, ht0⟩ : ∃ t0, t0 = NT.mk tp (.slice Atk tks.length ctk) (.slice Atv tvs.length ctv) (.slice (some adt) tcs.length ctc) tks tvs tcs := ⟨_, rfl⟩
    have HT0 := A_ ht0
    rw [<- ht0] at HT
    have HKT : Aside0 (t0.kids[i]? = some s) := ⟨by rw [ht0]; exact HKI.out⟩
    clear ht0
    go_upto_region 2 with (first | (go_at_call 108; (with_reducible refine (ih s HSG.out HSB.out (HSC.out _ i HSE.out HTK.out.1) base (t0.hole 101 74 i L) _ (HT.out.perm (kid_out L HKT.out)) (Nat.le_trans HBS.out (Below.size HB.out))).mono ?_); rintro e w3 ⟨rfl, s', hsp, hse', hs', hb'⟩))
    have hse5 := putP_bnd n s.erase key val HSB.out
    rw [<- hse'] at hse5
    cases s' with | mk sp skv svv scv sks svs scs =>
    obtain rfl : sp = s.p := hsp
    obtain ⟨s', hs0⟩ : ∃ s', s' = NT.mk s.p skv svv scv sks svs scs := ⟨_, rfl⟩
    rw [<- hs0] at hse' hs' hse5
    have hsp : s'.p = s.p := by rw [hs0]; rfl
    have HS0 := A_ hs0
    have hT1 : Sat w3 base ((t0.setKid i s').cks 101 74 ++ L) := hs'.perm (kid_in L HKT.out hsp)
    have hK1 : (t0.setKid i s').kids[i]? = some s' := by rw [HT0.out]; exact (set_kid HKI.out).1
    have hE1 : (t0.setKid i s').erase = .mk tks tvs ((NT.eraseL tcs).set i s'.erase) := by rw [erase_setKid, HT0.out]; rfl
    have HB1 := A_ (HB.out.trans hb')
    have hbs1 : base <= w3.heap.size := Nat.le_trans HBS.out (Below.size HB1.out)
    have hT2 : Sat w3 base ((NT.mk tp (.slice Atk tks.length ctk) (.slice Atv tvs.length ctv) (.slice (some adt) tcs.length ctc) tks tvs (tcs.set i s')).cks 101 74 ++ L) := by
     rw [HT0.out] at hT1
     exact hT1
    have hG := open_kid (t := NT.mk tp (.slice Atk tks.length ctk) (.slice Atv tvs.length ctv) (.slice (some adt) tcs.length ctc) tks tvs (tcs.set i s')) (k := s') (i := i) (set_kid HKI.out).1 hT2
    rw [hs0] at hG
    unfold kidGs at hG
    simp only [NT.keys, NT.vals, NT.kids, NT.p, NT.kv, NT.vv, NT.cv] at hG
    obtain ⟨lk, hlk⟩ : ∃ l, l = sks.length := ⟨_, rfl⟩
    have hl5 : lk <= 5 := by
     have := hse5.1.2.1
     rw [hs0] at this
     rw [hlk]
     exact this
    have HE := A_ (And.intro hse' (And.intro hsp (And.intro hse5 (And.intro hT1 (And.intro hK1 (And.intro hE1 hlk))))))
    clear hG hs0 hse5 hT1 hT2 hK1 hE1 hse' hs' hb' hlk HT hz2 hzp
    by_cases h5 : 4 < lk
    ·skip
     have h51 := HE.out.2.2.1.1
     unfold One at h51
     rw [erase_keys, erase_vals, erase_kids_len] at h51
     have hll := HE.out.2.2.2.2.2.2
     have hsl : lk = s'.keys.length := by rw [hll, HS0.out]; rfl
     have hC := impl_splitBig.calls (t0.setKid i s') s' i HE.out.2.2.2.2.1 (by omega) (by omega) h51.1 (by omega) (by omega) (by rw [HT0.out]; exact HTK.out.1) (by rw [HT0.out]; show tks.length <= _; omega) (by rw [HT0.out]; exact HVK.out) (by rw [HT0.out]; show (tcs.set i s').length <= _; rw [List.length_set]; omega) base L w3 HE.out.2.2.2.1 (Nat.le_trans HBS.out (Below.size HB1.out))
     rw [show (t0.setKid i s').p = tp by rw [HT0.out]; rfl] at hC
     go_wp2_with (first | (go_at_call 109; (with_reducible refine hC.mono ?_); rintro e w4 ⟨rfl, t2, ht1, ht2, ht3, ht4⟩))
     go_end0
     refine ⟨rfl, t2, ?_, ?_, ht3, HB1.out.trans ht4⟩
     ·rw [ht1, HT0.out]
      rfl
     ·rw [ht2, HE.out.2.2.2.2.2.1, splitK_set, HR.out, <- HE.out.1, if_pos (by show 4 < s'.erase.keys.length; rw [erase_keys]; omega)]
    ·skip
     have hll := HE.out.2.2.2.2.2.2
     have hsl : lk = s'.keys.length := by rw [hll, HS0.out]; rfl
     have hC := impl_splitSmall.calls (t0.setKid i s') s' i HE.out.2.2.2.2.1 (by omega) (by rw [HT0.out]; show (tcs.set i s').length <= _; rw [List.length_set]; omega) base L w3 HE.out.2.2.2.1 (Nat.le_trans HBS.out (Below.size HB1.out))
     rw [show (t0.setKid i s').p = tp by rw [HT0.out]; rfl] at hC
     have HC := A_ hC
     clear hC
     go_wp2_with (first | (go_at_call 109; (with_reducible refine HC.out.mono ?_); rintro e w4 ⟨rfl, rfl⟩))
     go_end0
     refine ⟨rfl, t0.setKid i s', by rw [HT0.out]; rfl, ?_, HE.out.2.2.2.1, HB1.out⟩
     rw [HE.out.2.2.2.2.2.1, HR.out, <- HE.out.1, if_neg (by show ¬ 4 < s'.erase.keys.length; rw [erase_keys]; omega)]
set_option maxHeartbeats 8000000
set_option maxRecDepth 100000
open Go.Proofs.Ytoddejmlcnbdmaa.Pure (SrtP allP)
theorem impl_with.calls (t : NT) (key val : ByteArray) (hbd : Bnd t.erase) (hsr : SrtP (allP t.erase)) (base : Nat) (L : List Ck) (w : World) (hs : Sat w base (t.cks 101 74 ++ L)) (hbs : base <= w.heap.size) :
  Calls Try.prog 80 #[ptrv t.p, .string key, .string val] w (WP w base 101 74 L (withP t.erase key val)) := by
 have HBS := A_ hbs
 have HBD := A_ hbd
 have hC := impl_put.calls key val t.erase.big t (Nat.le_refl _) hbd hsr base L w hs hbs
 obtain ⟨R, hR⟩ : ∃ R, R = withP t.erase key val := ⟨_, rfl⟩
 rw [<- hR]
 unfold withP at hR
 have HR := A_ hR
 have hp5 := putP_bnd t.erase.big t.erase key val hbd
 generalize putP t.erase.big t.erase key val = P1 at hC hR hp5 HR
 obtain ⟨tp, htp⟩ : ∃ p, t.p = p := ⟨_, rfl⟩
 rw [htp] at hC ⊢
 have HTP := A_ htp
 clear hR hbd hs hbs htp hsr
 go_enter Try.func80, Try.ntmps80
 go_upto_region 2 with (first | (go_at_call 108; (with_reducible refine hC.mono ?_); rintro e w1 ⟨rfl, t1, ht1, ht2, ht3, ht4⟩))
 rw [HTP.out] at ht1
 cases t1 with | mk p1 kv1 vv1 cv1 ks1 vs1 cs1 =>
 have ht1 : p1 = tp := ht1
 subst ht1
 obtain ⟨Ak1, ck1, ek1⟩ := Kd.R_slice ((open_node ht3).sr 1 rfl)
 have ek1 : kv1 = .slice Ak1 ks1.length ck1 := ek1
 subst ek1
 obtain ⟨lk, hlk⟩ : ∃ n, ks1.length = n := ⟨_, rfl⟩
 have z0_ : w1.cell? ⟨p1, 0, none⟩ = some (.slice Ak1 lk ck1) := by rw [<- hlk]; exact (open_node ht3).z0 0 rfl
 obtain ⟨t1, ht0⟩ : ∃ t1, t1 = NT.mk p1 (.slice Ak1 ks1.length ck1) vv1 cv1 ks1 vs1 cs1 := ⟨_, rfl⟩
 rw [<- ht0] at ht2 ht3
 have hk1 : t1.keys.length = lk := by rw [ht0]; exact hlk
 have htp1 : t1.p = p1 := by rw [ht0]; rfl
 have HT := A_ (And.intro ht2 (And.intro hk1 htp1))
 rw [<- ht2] at hp5
 have HP5 := A_ hp5
 have hl5 : lk <= 5 := by have := hp5.1.2.1; rw [erase_keys] at this; omega
 have HB := A_ ht4
 have HS := A_ (two_groups ht3)
 have HSS := A_ ht3
 clear ht0 hk1 htp1 ht2 ht3 ht4 hlk hp5 hC
 by_cases h4 : 4 < lk
 ·have ct : decide ((lk : Int) <= (4 : Int)) = false := decide_eq_false (by omega)
  go_upto_region 4 with fail
  clear z0_ HSS
  go_upto_region 5 with (first | ((with_reducible refine gate_dst (N := 20) rfl ?_); refine Kd.R_lit kptr (w0 := w) base 74 ?hg (N := 20) ?hd (xs := [p1]) (inner := [ptrv p1]) (ok := fun _ => True) (okp := fun _ => False) ?hr (Kd.reps_scalar (enc := ptrv) [p1]) (fun _ h => h.elim) trivial HB.out (Nat.le_trans HBS.out (Below.size HB.out)) (by simp) ?_; (case hd => rfl); (case hg => rfl); (case hr => first | (go_simp; done) | (go_simp; rfl)); intro v1 w2 ho hb hg hn; obtain ⟨A2, c3, rfl⟩ : ∃ A c, v1 = .slice A 1 c := Kd.R_slice ho; have n1_ : Aside0 (SatG w2 base [(t1.cks 101 74), L, [.own 74 (.slice A2 1 c3) (encs ptrv [p1])]]) := ⟨SatG.litC HS.out (own_ptr ho) hg hn⟩; have n2_ : Aside0 (Below base w w2) := ⟨hb⟩; clear HS HB ho hb hg hn; have HS := n1_; have HB := n2_; clear n1_ n2_) | ((with_reducible refine gate_dst (N := 22) rfl ?_); refine box_event ?hg (N := 22) ?hd (cs := #[.slice none 0 0, .slice none 0 0, .slice A2 1 c3]) (t := 101) ?hr ?_; (case hd => rfl); (case hg => rfl); (case hr => first | (go_simp; done) | (go_simp; rfl)); intro g4 hg w3 hbox hb; have n1_ : Aside0 (SatG w3 base [(t1.cks 101 74), L, [.own 74 (.slice A2 1 c3) (encs ptrv [p1])], bx_ 101 g4 none 0 0 none 0 0 A2 1 c3]) := ⟨SatG.newBox HS.out hg hbox hb (Nat.le_trans HBS.out (Below.size HB.out))⟩; have n2_ : Aside0 (Below base w w3) := ⟨(HB.out).trans (hb.mono (Nat.le_trans HBS.out (Below.size HB.out)))⟩; clear HS HB hg hbox hb; have HS := n1_; have HB := n2_; clear n1_ n2_))
  have hT : Sat w3 base ((NT.mk g4 (.slice none 0 0) (.slice none 0 0) (.slice A2 1 c3) [] [] [t1]).cks 101 74 ++ L) := new_top (by rw [HT.out.2.2]; exact HS.out)
  have HT2 := A_ hT
  have hC := impl_splitBig.calls (NT.mk g4 (.slice none 0 0) (.slice none 0 0) (.slice A2 1 c3) [] [] [t1]) t1 0 rfl (by have := HT.out.2.1; omega) (by have := HT.out.2.1; omega) (by have := HP5.out.1.1; rw [erase_keys, erase_vals] at this; exact this) (by have := HP5.out.1.2.2; rw [erase_keys, erase_kids_len] at this; have := HT.out.2.1; omega) (by have := HP5.out.1.2.2; rw [erase_keys, erase_kids_len] at this; have := HT.out.2.1; omega) (Nat.le_refl _) (Nat.zero_le _) rfl (show (1 : Nat) <= 1001 by decide) base L w3 hT (Nat.le_trans HBS.out (Below.size HB.out))
  clear hT
  replace hC : Calls Try.prog 109 #[ptrv g4, .int .i64 0] w3 (WR w3 base 101 74 _ L _) := hC
  go_wp2_with (first | (go_at_call 109; (with_reducible refine hC.mono ?_); rintro e w9 ⟨rfl, t2, hu1, hu2, hu3, hu4⟩))
  have hu1 : t2.p = g4 := hu1
  rw [<- hu1]
  go_ret
  refine ⟨t2, rfl, ?_, hu3, HB.out.trans hu4⟩
  rw [hu2, HR.out, <- HT.out.1, erase_keys, HT.out.2.1, if_pos h4]
  rfl
 ·have ct : decide ((lk : Int) <= (4 : Int)) = true := decide_eq_true (by omega)
  go_wp2_with fail
  rw [<- HT.out.2.2]
  go_ret
  refine ⟨t1, rfl, ?_, HSS.out, HB.out⟩
  rw [HR.out, <- HT.out.1, erase_keys, HT.out.2.1, if_neg h4]
end Go.Proofs.Ytoddejmlcnbdmaa.Tree
namespace Go.Proofs.Ytoddejmlcnbdmaa.Fn
open Go.Proofs.Ytoddejmlcnbdmaa.Tree
theorem q9114_0 {p0 p1 q : Prop} (h0 : p0) (h1 : p1) (h : p0 -> p1 -> q := by intro q0_ q1_; repeat (first | (with_reducible first | exact q0_ | apply pw_below_drewN | apply below_drew1 | refine below_set ?_ q1_) | exact q0_)) : q := h h0 h1
open Go.Proofs.Ytoddejmlcnbdmaa.Pure (OkT with_ok ofS_okT allP keyOk valOk insKV insKV_len allP_len bnd_shp)
set_option maxHeartbeats 8000000
set_option maxRecDepth 100000
def treeOk (P : List S110) : Bool := okP P && decide (P.length <= 1048576)
theorem treeOk_parts {P : List S110} (h : treeOk P = true) : okP P = true /\ P.length <= 1048576 := by
 unfold treeOk at h
 simpa using h
theorem rootI_up {P : List S110} {r : Option PT} : ∀ {k m : Nat}, k <= m -> rootI k P = some r -> rootI m P = some r := by
 intro k m h e
 obtain ⟨d, rfl⟩ := Nat.exists_eq_add_of_le h
 clear h
 induction d with
 | zero => exact e
 | succ d ih => exact rootI_mono P (k + d) r ih
theorem rootI_eq {P : List S110} {k : Nat} {r : Option PT} (hP : P.length <= 1048576) (h : rootI k P = some r) : ofS P = r := by
 obtain ⟨K, hK⟩ := Go.Proofs.Ytoddejmlcnbdmaa.Pure.root_ev P hP
 have h1 := rootI_up (Nat.le_max_left k K) h
 have h2 := hK (max k K) (Nat.le_max_right k K)
 have h2 : rootI (max k K) P = some (ofS P) := h2
 rw [h1] at h2
 exact (Option.some.inj h2).symm
def putR (o : Option PT) (key val : ByteArray) : List S110 × Bool := match o with
 | none => ([], false)
 | some t => if pairS key val = true then (if 40 < (allK (withP t key val)).length then ([], false) else (flatP (withP t key val) 0, true)) else ([], false)
theorem pages_out {w : World} {base g n c : Nat} {A : Option Addr} {X : List Ck} {pgs : List Pg} (h : Sat w base (X ++ (outCks (.slice A n c) pgs ++ [.box 29 g #[.slice none 0 0]]))) : Kd.S kp110 110 (w.setCell ⟨g, 0, none⟩ (.slice A n c)) base (fun _ => True) (.slice A n c) (pgs.map Pg.erase) := by
 have h1 : Sat w base (.box 29 g #[.slice none 0 0] :: (X ++ outCks (.slice A n c) pgs)) := h.perm (by
  rw [<- List.append_assoc]
  exact List.perm_append_comm)
 have h2 : Sat (w.setCell ⟨g, 0, none⟩ (.slice A n c)) base (.box 29 g #[.slice A n c] :: (X ++ outCks (.slice A n c) pgs)) := Sat.put (cs := #[.slice none 0 0]) h1 0 _ rfl
 exact pages_S h2.tail.right
def spec_PutKey.f (l0_0 : List S110) (a1 a2 : ByteArray) : Option (List S110 × Bool) := if treeOk l0_0 = true then some (putR (ofS l0_0) a1 a2) else none
theorem spec_PutKey.callsS (A0_0 : Option Addr) (c0_0 : Nat) (l0_0 : List (S110)) (a1 a2 : ByteArray) (r1 : List S110) (r2 : Bool) (w : World) (hr0_0 : Kd.C k110 w A0_0 l0_0.length l0_0) (hc0_0 : l0_0.length <= c0_0) (h : spec_PutKey.f l0_0 a1 a2 = some (r1, r2)) :
  Calls Try.prog 36 #[.agg #[.slice A0_0 l0_0.length c0_0], .string a1, .string a2] w fun e w' => ∃ v0_ : Value, e = .returned (.tuple #[.agg #[v0_], .bool r2]) /\ Kd.S kp110 110 w' w.heap.size (fun _ => True) v0_ r1 /\ Below w.heap.size w w' := by
 unfold spec_PutKey.f at h
 have HP := A_ hr0_0
 clear hr0_0 hc0_0
 by_cases hok : treeOk l0_0 = true
 ·rw [if_pos hok] at h
  obtain ⟨hok1, hP⟩ := treeOk_parts hok
  have HNP := A_ (okP_parts hok1).1
  have HM := A_ (okP_parts hok1).2
  obtain ⟨o, hrs⟩ : ∃ o, ofS l0_0 = o := ⟨_, rfl⟩
  rw [hrs] at h
  have hof := hrs
  have h := Option.some.inj h
  have HRS := A_ hrs
  clear hok hok1 hrs
  cases o with
  | none =>
   have h : (([] : List S110), false) = (r1, r2) := h
   injection h with e1 e2
   subst e1
   subst e2
   clear hof hP
   go_enter Try.func36, Try.ntmps36
   go_wp2_with (first | ((with_reducible refine gate_dst (N := 3) rfl ?_); refine box_event ?hg (N := 3) ?hd (cs := #[.slice A0_0 l0_0.length c0_0]) (t := 29) ?hr ?_; (case hd => rfl); (case hg => rfl); (case hr => first | (go_simp; done) | (go_simp; rfl)); intro b3 hg w1 hbox hb; have HB := A_ hb; have hz3 : w1.cell? ⟨b3, 0, none⟩ = some (.slice A0_0 l0_0.length c0_0) := (blk_cell hbox 0).trans rfl; clear hg hbox hb) | ((with_reducible refine gate_dst (N := 6) rfl ?_); refine box_event ?hg (N := 6) ?hd (cs := #[.slice none 0 0]) (t := 29) ?hr ?_; (case hd => rfl); (case hg => rfl); (case hr => first | (go_simp; done) | (go_simp; rfl)); intro g6 hg w2 hbox hb; have hz3_ := (hb.cell (World.block_lt_of_cell? w1 _ hz3)).trans hz3; clear hz3; have hz3 := hz3_; clear hz3_; have GE6 := A_ (show w.heap.size <= g6 from by rw [hg]; exact Below.size HB.out); have n1_ := A_ (below_step HB.out hb); clear HB; have HB := n1_; have HX6 := A_ hbox; clear n1_ hg hbox hb) | (go_at_call 57; (with_reducible refine (spec_l5Of.calls l0_0 HNP.out A0_0 c0_0 _ (Kd.C_below HP.out HB.out) HM.out).mono ?_); rintro e w3 ⟨hb, hr⟩; rw [HRS.out] at hr; obtain ⟨-, rfl⟩ := hr.resolve_right (by rintro ⟨_, h, _⟩; cases h); have n1_ := A_ (below_step HB.out hb); have n2_ := A_ (blk_below HX6.out hb); clear HB HX6; have HB := n1_; have HX6 := n2_; clear n1_ n2_ hb hr hz3; have hz6 := (blk_cell HX6.out 0).trans rfl; have hf6 := blk_frozen HX6.out 0))
   refine bodyPost_ret (results_ct rfl _ _ g6 29 #[.slice none 0 0] (0, 0) _ rfl (by (with_reducible repeat (first | refine blk_drewN ?_ _ | refine blk_drew ?_ )); refine blk_put (cs := #[.slice none 0 0]) ?_ 0 _ rfl; (with_reducible repeat (first | refine blk_drewN ?_ _ | refine blk_drew ?_)); exact HX6.out) Try.underlying29 rfl (by kernel_rfl)) rfl ?_
   exact ⟨_, rfl, Kd.S_nil _ _ _ _ _, (q9114_0 HB.out GE6.out)⟩
  | some t =>
   have HOK := A_ (ofS_okT hP hof)
   clear hof hP
   have h : (if pairS a1 a2 = true then (if 40 < (allK (withP t a1 a2)).length then (([] : List S110), false) else (flatP (withP t a1 a2) 0, true)) else ([], false)) = (r1, r2) := h
   cases hpr : pairS a1 a2 with
   | false =>
    have HPR := A_ ((pairS_f a1 a2).trans (congrArg some hpr))
    rw [if_neg (by rw [hpr]; decide)] at h
    injection h with e1 e2
    subst e1
    subst e2
    clear hpr
    go_enter Try.func36, Try.ntmps36
    go_wp2_with (first | ((with_reducible refine gate_dst (N := 3) rfl ?_); refine box_event ?hg (N := 3) ?hd (cs := #[.slice A0_0 l0_0.length c0_0]) (t := 29) ?hr ?_; (case hd => rfl); (case hg => rfl); (case hr => first | (go_simp; done) | (go_simp; rfl)); intro b3 hg w1 hbox hb; have HB := A_ hb; have hz3 : w1.cell? ⟨b3, 0, none⟩ = some (.slice A0_0 l0_0.length c0_0) := (blk_cell hbox 0).trans rfl; clear hg hbox hb) | ((with_reducible refine gate_dst (N := 6) rfl ?_); refine box_event ?hg (N := 6) ?hd (cs := #[.slice none 0 0]) (t := 29) ?hr ?_; (case hd => rfl); (case hg => rfl); (case hr => first | (go_simp; done) | (go_simp; rfl)); intro g6 hg w2 hbox hb; have hz3_ := (hb.cell (World.block_lt_of_cell? w1 _ hz3)).trans hz3; clear hz3; have hz3 := hz3_; clear hz3_; have GE6 := A_ (show w.heap.size <= g6 from by rw [hg]; exact Below.size HB.out); have n1_ := A_ (below_step HB.out hb); clear HB; have HB := n1_; have HX6 := A_ hbox; clear n1_ hg hbox hb) | (go_at_call 57; (with_reducible refine (spec_l5Of.calls l0_0 HNP.out A0_0 c0_0 _ (Kd.C_below HP.out HB.out) HM.out).mono ?_); rintro e w3 ⟨hb, hr⟩; rw [HRS.out] at hr; obtain ⟨nt, h9, rfl, hs⟩ := hr.resolve_left (by rintro ⟨h, _⟩; cases h); injection h9 with h9; subst h9; have n1_ := A_ (below_step HB.out hb); have n2_ := A_ (blk_below HX6.out hb); have HS := A_ (((Sat.one (c := .box 29 g6 #[.slice none 0 0]) ⟨GE6.out, HX6.out⟩).behind hb (Below.size HB.out) hs).perm List.perm_append_comm); clear HB HX6; have HB := n1_; have HX6 := n2_; clear n1_ n2_ hb hr hs hz3; have hz6 := (blk_cell HX6.out 0).trans rfl; have hf6 := blk_frozen HX6.out 0) | (go_at_call 75; (with_reducible refine (spec_l5Pair.calls a1 a2 false _ HPR.out).mono ?_); rintro e w' ⟨rfl, ⟨nd, rfl⟩⟩))
    refine bodyPost_ret (results_ct rfl _ _ g6 29 #[.slice none 0 0] (0, 0) _ rfl (by (with_reducible repeat (first | refine blk_drewN ?_ _ | refine blk_drew ?_ )); refine blk_put (cs := #[.slice none 0 0]) ?_ 0 _ rfl; (with_reducible repeat (first | refine blk_drewN ?_ _ | refine blk_drew ?_)); exact HX6.out) Try.underlying29 rfl (by kernel_rfl)) rfl ?_
    exact ⟨_, rfl, Kd.S_nil _ _ _ _ _, (q9114_0 HB.out GE6.out)⟩
   | true =>
    have HPR := A_ ((pairS_f a1 a2).trans (congrArg some hpr))
    rw [if_pos hpr] at h
    clear hpr
    have HH := A_ h
    clear h
    go_enter Try.func36, Try.ntmps36
    go_upto_region 4 with (first | ((with_reducible refine gate_dst (N := 3) rfl ?_); refine box_event ?hg (N := 3) ?hd (cs := #[.slice A0_0 l0_0.length c0_0]) (t := 29) ?hr ?_; (case hd => rfl); (case hg => rfl); (case hr => first | (go_simp; done) | (go_simp; rfl)); intro b3 hg w1 hbox hb; have HB := A_ hb; have hz3 : w1.cell? ⟨b3, 0, none⟩ = some (.slice A0_0 l0_0.length c0_0) := (blk_cell hbox 0).trans rfl; clear hg hbox hb) | ((with_reducible refine gate_dst (N := 6) rfl ?_); refine box_event ?hg (N := 6) ?hd (cs := #[.slice none 0 0]) (t := 29) ?hr ?_; (case hd => rfl); (case hg => rfl); (case hr => first | (go_simp; done) | (go_simp; rfl)); intro g6 hg w2 hbox hb; have hz3_ := (hb.cell (World.block_lt_of_cell? w1 _ hz3)).trans hz3; clear hz3; have hz3 := hz3_; clear hz3_; have GE6 := A_ (show w.heap.size <= g6 from by rw [hg]; exact Below.size HB.out); have n1_ := A_ (below_step HB.out hb); clear HB; have HB := n1_; have HX6 := A_ hbox; clear n1_ hg hbox hb) | (go_at_call 57; (with_reducible refine (spec_l5Of.calls l0_0 HNP.out A0_0 c0_0 _ (Kd.C_below HP.out HB.out) HM.out).mono ?_); rintro e w3 ⟨hb, hr⟩; rw [HRS.out] at hr; obtain ⟨nt, h9, rfl, hs⟩ := hr.resolve_left (by rintro ⟨h, _⟩; cases h); injection h9 with h9; subst h9; have n1_ := A_ (below_step HB.out hb); have n2_ := A_ (blk_below HX6.out hb); have HS := A_ (((Sat.one (c := .box 29 g6 #[.slice none 0 0]) ⟨GE6.out, HX6.out⟩).behind hb (Below.size HB.out) hs).perm List.perm_append_comm); clear HB HX6; have HB := n1_; have HX6 := n2_; clear n1_ n2_ hb hr hs hz3; have hz6 := (blk_cell HX6.out 0).trans rfl; have hf6 := blk_frozen HX6.out 0) | (go_at_call 75; (with_reducible refine (spec_l5Pair.calls a1 a2 true _ HPR.out).mono ?_); rintro e w' ⟨rfl, ⟨nd, rfl⟩⟩))
    generalize hW : World.drewN w3 _ = w4
    have n1_ := A_ (show Below w.heap.size w w4 by rw [<- hW]; exact pw_below_drewN HB.out _)
    have n2_ := A_ (show Sat w4 w.heap.size (nt.cks 96 70 ++ [.box 29 g6 #[.slice none 0 0]]) by rw [<- hW]; exact Sat.drewN HS.out _)
    clear HB HS HX6 hz6 hf6 hW
    have HB := n1_
    have HS := n2_
    clear n1_ n2_
    go_upto_region 5 with (first | (go_at_call 76; (with_reducible refine (spec_l5Put.calls nt a1 a2 HOK.out.1.bnd w.heap.size _ w4 HS.out (Below.size HB.out)).mono ?_); rintro e w5 ⟨t1, rfl, ht1, ht2, ht3⟩))
    have hok1 : OkT t1.erase /\ (allK t1.erase).length <= 41 := by
     obtain ⟨q1, q2⟩ := with_ok HOK.out.1 a1 a2
     rw [ht1]
     refine ⟨q1, ?_⟩
     rw [<- allP_len (bnd_shp q1.bnd), q2]
     have := insKV_len (k := a1) (v := a2) (allP nt.erase)
     have := HOK.out.2
     omega
    have HK1 := A_ hok1
    have HT1 := A_ ht1
    have HZ1 := A_ (show (allK t1.erase).length <= 8796093022208 by omega)
    have HZ2 := A_ (show (allV t1.erase).length <= 8796093022208 by rw [allV_len (bnd_shp hok1.1.bnd)]; omega)
    have HSH := A_ (bnd_shp hok1.1.bnd)
    have hl41 : (allK t1.erase).length <= 41 := hok1.2
    have HR2 := A_ (rd_of ht2.left)
    have n1_ := A_ (HB.out.trans ht3)
    clear HB HS hok1 ht1 ht3
    have HB := n1_
    have HS := A_ ht2
    clear n1_ ht2
    go_upto_region 6 with (first | (go_at_call 65; (with_reducible refine (spec_all.calls0 t1.erase HSH.out _ ?side1 HZ1.out HZ2.out).mono ?_); (case side1 => repeat (first | exact HR2.out | (with_reducible refine Rd.drewN ?_ _) | (with_reducible refine Rd.drew ?_))); rintro e w6 ⟨u1, u2, rfl, ho1, ho2, hne, hb⟩; obtain ⟨B1, d1, rfl, hl1, hc1⟩ := Kd.R_reads ho1; obtain ⟨B2, d2, rfl, hl2, hc2⟩ := Kd.R_reads ho2; have n1_ := A_ (below_step HB.out hb); have n2_ := A_ (Sat.under HS.out hb); clear HB HS HR2; have HB := n1_; have HS := n2_; clear n1_ n2_ ho1 ho2 hne hb hl1 hl2 hc1 hc2))
    obtain ⟨nk, hnk⟩ : ∃ n, (allK t1.erase).length = n := ⟨_, rfl⟩
    rw [hnk] at hl41 ⊢
    have HNK := A_ hnk
    clear hnk
    by_cases h40 : 40 < nk
    ·have c_ : decide ((40 : Int) < (nk : Int)) = true := decide_eq_true (by omega)
     have h := HH.out
     rw [<- HT1.out, HNK.out, if_pos h40] at h
     injection h with e1 e2
     subst e1
     subst e2
     have HX6 := A_ (HS.out.cell (T := 29) (p := g6) (cs := #[.slice none 0 0]) (List.mem_append_right _ List.mem_cons_self))
     have hz6 := (blk_cell HX6.out 0).trans rfl; have hf6 := blk_frozen HX6.out 0
     go_wp2_with fail
     refine bodyPost_ret (results_ct rfl _ _ g6 29 #[.slice none 0 0] (0, 0) _ rfl (by (with_reducible repeat (first | refine blk_drewN ?_ _ | refine blk_drew ?_ )); refine blk_put (cs := #[.slice none 0 0]) ?_ 0 _ rfl; (with_reducible repeat (first | refine blk_drewN ?_ _ | refine blk_drew ?_)); exact HX6.out) Try.underlying29 rfl (by kernel_rfl)) rfl ?_
     exact ⟨_, rfl, Kd.S_nil _ _ _ _ _, (q9114_0 HB.out GE6.out)⟩
    ·have c_ : decide ((40 : Int) < (nk : Int)) = false := decide_eq_false (by omega)
     have h := HH.out
     rw [<- HT1.out, HNK.out, if_neg h40] at h
     injection h with e1 e2
     subst e1
     subst e2
     have HC2 := A_ (spec_l5Tree.calls t1 HK1.out.1.bnd (by have := HK1.out.1.small; have := HK1.out.2; have := allP_len HSH.out; omega) w.heap.size _ w6 HS.out (Below.size HB.out))
     clear h40
     go_wp2_with (first | (go_at_call 77; (with_reducible refine (HC2.out).mono ?_); rintro e w7 ⟨vo, pgs, rfl, he, hs3, hb3⟩; obtain ⟨Ao, co, rfl⟩ := row_slice (hs3.ok (prow vo pgs) (List.mem_append_right _ List.mem_cons_self)); have HX6 := A_ (hs3.cell (T := 29) (p := g6) (cs := #[.slice none 0 0]) (List.mem_append_right _ (List.mem_append_right _ List.mem_cons_self))); have HS3 := A_ hs3; have HE := A_ he; have n1_ := A_ (HB.out.trans hb3); clear HB; have HB := n1_; clear n1_ hs3 hb3 he; have hz6 := (blk_cell HX6.out 0).trans rfl; have hf6 := blk_frozen HX6.out 0))
     refine bodyPost_ret (results_ct rfl _ _ g6 29 #[.slice Ao pgs.length co] (0, 0) _ rfl (blk_put (cs := #[.slice none 0 0]) HX6.out 0 _ rfl) Try.underlying29 rfl (by kernel_rfl)) rfl ?_
     refine ⟨_, rfl, ?_, (q9114_0 HB.out GE6.out)⟩
     have hS := pages_out HS3.out
     rw [HE.out] at hS
     exact hS
 ·rw [if_neg hok] at h
  cases h
def impl_PutKey.f (k : Nat) (l0_0 : List S110) (a1 a2 : ByteArray) : Option (List S110 × Bool) := if treeOk l0_0 = true then (rootI k l0_0).bind fun o => some (putR o a1 a2) else none
theorem impl_PutKey.callsS (k : Nat) (A0_0 : Option Addr) (c0_0 : Nat) (l0_0 : List (S110)) (a1 a2 : ByteArray) (r1 : List S110) (r2 : Bool) (w : World) (hr0_0 : Kd.C k110 w A0_0 l0_0.length l0_0) (hc0_0 : l0_0.length <= c0_0) (h : impl_PutKey.f k l0_0 a1 a2 = some (r1, r2)) :
  Calls Try.prog 37 #[.agg #[.slice A0_0 l0_0.length c0_0], .string a1, .string a2] w fun e w' => ∃ v0_ : Value, e = .returned (.tuple #[.agg #[v0_], .bool r2]) /\ Kd.S kp110 110 w' w.heap.size (fun _ => True) v0_ r1 /\ Below w.heap.size w w' := by
 unfold impl_PutKey.f at h
 have HP := A_ hr0_0
 clear hr0_0 hc0_0
 by_cases hok : treeOk l0_0 = true
 ·rw [if_pos hok] at h
  obtain ⟨hok1, hP⟩ := treeOk_parts hok
  have HNP := A_ (okP_parts hok1).1
  have HM := A_ (okP_parts hok1).2
  obtain ⟨o, hrs, h⟩ := Option.bind_eq_some_iff.mp h
  have hof : ofS l0_0 = o := rootI_eq hP hrs
  have h := Option.some.inj h
  have HRS := A_ hrs
  clear hok hok1 hrs
  cases o with
  | none =>
   have h : (([] : List S110), false) = (r1, r2) := h
   injection h with e1 e2
   subst e1
   subst e2
   clear hof hP
   go_enter Try.func37, Try.ntmps37
   go_wp2_with (first | ((with_reducible refine gate_dst (N := 3) rfl ?_); refine box_event ?hg (N := 3) ?hd (cs := #[.slice A0_0 l0_0.length c0_0]) (t := 29) ?hr ?_; (case hd => rfl); (case hg => rfl); (case hr => first | (go_simp; done) | (go_simp; rfl)); intro b3 hg w1 hbox hb; have HB := A_ hb; have hz3 : w1.cell? ⟨b3, 0, none⟩ = some (.slice A0_0 l0_0.length c0_0) := (blk_cell hbox 0).trans rfl; clear hg hbox hb) | ((with_reducible refine gate_dst (N := 6) rfl ?_); refine box_event ?hg (N := 6) ?hd (cs := #[.slice none 0 0]) (t := 29) ?hr ?_; (case hd => rfl); (case hg => rfl); (case hr => first | (go_simp; done) | (go_simp; rfl)); intro g6 hg w2 hbox hb; have hz3_ := (hb.cell (World.block_lt_of_cell? w1 _ hz3)).trans hz3; clear hz3; have hz3 := hz3_; clear hz3_; have GE6 := A_ (show w.heap.size <= g6 from by rw [hg]; exact Below.size HB.out); have n1_ := A_ (below_step HB.out hb); clear HB; have HB := n1_; have HX6 := A_ hbox; clear n1_ hg hbox hb) | (go_at_call 59; (with_reducible refine (impl_root.calls k l0_0 HNP.out A0_0 c0_0 _ (Kd.C_below HP.out HB.out) HM.out _ HRS.out).mono ?_); rintro e w3 ⟨hb, hr⟩; obtain ⟨-, rfl⟩ := hr.resolve_right (by rintro ⟨_, h, _⟩; cases h); have n1_ := A_ (below_step HB.out hb); have n2_ := A_ (blk_below HX6.out hb); clear HB HX6; have HB := n1_; have HX6 := n2_; clear n1_ n2_ hb hr hz3; have hz6 := (blk_cell HX6.out 0).trans rfl; have hf6 := blk_frozen HX6.out 0))
   refine bodyPost_ret (results_ct rfl _ _ g6 29 #[.slice none 0 0] (0, 0) _ rfl (by (with_reducible repeat (first | refine blk_drewN ?_ _ | refine blk_drew ?_ )); refine blk_put (cs := #[.slice none 0 0]) ?_ 0 _ rfl; (with_reducible repeat (first | refine blk_drewN ?_ _ | refine blk_drew ?_)); exact HX6.out) Try.underlying29 rfl (by kernel_rfl)) rfl ?_
   exact ⟨_, rfl, Kd.S_nil _ _ _ _ _, (q9114_0 HB.out GE6.out)⟩
  | some t =>
   have HOK := A_ (ofS_okT hP hof)
   clear hof hP
   have h : (if pairS a1 a2 = true then (if 40 < (allK (withP t a1 a2)).length then (([] : List S110), false) else (flatP (withP t a1 a2) 0, true)) else ([], false)) = (r1, r2) := h
   have HKO0 := A_ (Go.Proofs.Ytoddejmlcnbdmaa.Pure.isKey_eq a1)
   have HVO0 := A_ (Go.Proofs.Ytoddejmlcnbdmaa.Pure.isVal_eq a2)
   cases hk : keyOk a1 with
   | false =>
    have hpr : pairS a1 a2 = false := by rw [Go.Proofs.Ytoddejmlcnbdmaa.Pure.pairS_eq, hk]; rfl
    have HKO := A_ (HKO0.out.trans (congrArg some hk))
    clear hk
    rw [if_neg (by rw [hpr]; decide)] at h
    injection h with e1 e2
    subst e1
    subst e2
    clear hpr
    go_enter Try.func37, Try.ntmps37
    go_wp2_with (first | ((with_reducible refine gate_dst (N := 3) rfl ?_); refine box_event ?hg (N := 3) ?hd (cs := #[.slice A0_0 l0_0.length c0_0]) (t := 29) ?hr ?_; (case hd => rfl); (case hg => rfl); (case hr => first | (go_simp; done) | (go_simp; rfl)); intro b3 hg w1 hbox hb; have HB := A_ hb; have hz3 : w1.cell? ⟨b3, 0, none⟩ = some (.slice A0_0 l0_0.length c0_0) := (blk_cell hbox 0).trans rfl; clear hg hbox hb) | ((with_reducible refine gate_dst (N := 6) rfl ?_); refine box_event ?hg (N := 6) ?hd (cs := #[.slice none 0 0]) (t := 29) ?hr ?_; (case hd => rfl); (case hg => rfl); (case hr => first | (go_simp; done) | (go_simp; rfl)); intro g6 hg w2 hbox hb; have hz3_ := (hb.cell (World.block_lt_of_cell? w1 _ hz3)).trans hz3; clear hz3; have hz3 := hz3_; clear hz3_; have GE6 := A_ (show w.heap.size <= g6 from by rw [hg]; exact Below.size HB.out); have n1_ := A_ (below_step HB.out hb); clear HB; have HB := n1_; have HX6 := A_ hbox; clear n1_ hg hbox hb) | (go_at_call 59; (with_reducible refine (impl_root.calls k l0_0 HNP.out A0_0 c0_0 _ (Kd.C_below HP.out HB.out) HM.out _ HRS.out).mono ?_); rintro e w3 ⟨hb, hr⟩; obtain ⟨nt, h9, rfl, hs⟩ := hr.resolve_left (by rintro ⟨h, _⟩; cases h); injection h9 with h9; subst h9; have n1_ := A_ (below_step HB.out hb); have n2_ := A_ (blk_below HX6.out hb); have HS := A_ (((Sat.one (c := .box 29 g6 #[.slice none 0 0]) ⟨GE6.out, HX6.out⟩).behind hb (Below.size HB.out) hs).perm List.perm_append_comm); clear HB HX6; have HB := n1_; have HX6 := n2_; clear n1_ n2_ hb hr hs hz3; have hz6 := (blk_cell HX6.out 0).trans rfl; have hf6 := blk_frozen HX6.out 0) | (go_at_call 78; (with_reducible refine (impl_isKey.calls a1 false _ HKO.out).mono ?_); rintro e w' ⟨rfl, ⟨nd, rfl⟩⟩))
    refine bodyPost_ret (results_ct rfl _ _ g6 29 #[.slice none 0 0] (0, 0) _ rfl (by (with_reducible repeat (first | refine blk_drewN ?_ _ | refine blk_drew ?_ )); refine blk_put (cs := #[.slice none 0 0]) ?_ 0 _ rfl; (with_reducible repeat (first | refine blk_drewN ?_ _ | refine blk_drew ?_)); exact HX6.out) Try.underlying29 rfl (by kernel_rfl)) rfl ?_
    exact ⟨_, rfl, Kd.S_nil _ _ _ _ _, (q9114_0 HB.out GE6.out)⟩
   | true =>
    have HKO := A_ (HKO0.out.trans (congrArg some hk))
    cases hv : valOk a2 with
    | false =>
     have hpr : pairS a1 a2 = false := by rw [Go.Proofs.Ytoddejmlcnbdmaa.Pure.pairS_eq, hk, hv]; rfl
     have HVO := A_ (HVO0.out.trans (congrArg some hv))
     clear hk hv
     rw [if_neg (by rw [hpr]; decide)] at h
     injection h with e1 e2
     subst e1
     subst e2
     clear hpr
     go_enter Try.func37, Try.ntmps37
     go_wp2_with (first | ((with_reducible refine gate_dst (N := 3) rfl ?_); refine box_event ?hg (N := 3) ?hd (cs := #[.slice A0_0 l0_0.length c0_0]) (t := 29) ?hr ?_; (case hd => rfl); (case hg => rfl); (case hr => first | (go_simp; done) | (go_simp; rfl)); intro b3 hg w1 hbox hb; have HB := A_ hb; have hz3 : w1.cell? ⟨b3, 0, none⟩ = some (.slice A0_0 l0_0.length c0_0) := (blk_cell hbox 0).trans rfl; clear hg hbox hb) | ((with_reducible refine gate_dst (N := 6) rfl ?_); refine box_event ?hg (N := 6) ?hd (cs := #[.slice none 0 0]) (t := 29) ?hr ?_; (case hd => rfl); (case hg => rfl); (case hr => first | (go_simp; done) | (go_simp; rfl)); intro g6 hg w2 hbox hb; have hz3_ := (hb.cell (World.block_lt_of_cell? w1 _ hz3)).trans hz3; clear hz3; have hz3 := hz3_; clear hz3_; have GE6 := A_ (show w.heap.size <= g6 from by rw [hg]; exact Below.size HB.out); have n1_ := A_ (below_step HB.out hb); clear HB; have HB := n1_; have HX6 := A_ hbox; clear n1_ hg hbox hb) | (go_at_call 59; (with_reducible refine (impl_root.calls k l0_0 HNP.out A0_0 c0_0 _ (Kd.C_below HP.out HB.out) HM.out _ HRS.out).mono ?_); rintro e w3 ⟨hb, hr⟩; obtain ⟨nt, h9, rfl, hs⟩ := hr.resolve_left (by rintro ⟨h, _⟩; cases h); injection h9 with h9; subst h9; have n1_ := A_ (below_step HB.out hb); have n2_ := A_ (blk_below HX6.out hb); have HS := A_ (((Sat.one (c := .box 29 g6 #[.slice none 0 0]) ⟨GE6.out, HX6.out⟩).behind hb (Below.size HB.out) hs).perm List.perm_append_comm); clear HB HX6; have HB := n1_; have HX6 := n2_; clear n1_ n2_ hb hr hs hz3; have hz6 := (blk_cell HX6.out 0).trans rfl; have hf6 := blk_frozen HX6.out 0) | (go_at_call 78; (with_reducible refine (impl_isKey.calls a1 true _ HKO.out).mono ?_); rintro e w' ⟨rfl, ⟨nd, rfl⟩⟩) | (go_at_call 79; (with_reducible refine (impl_isVal.calls a2 false _ HVO.out).mono ?_); rintro e w' ⟨rfl, ⟨nd, rfl⟩⟩))
     refine bodyPost_ret (results_ct rfl _ _ g6 29 #[.slice none 0 0] (0, 0) _ rfl (by (with_reducible repeat (first | refine blk_drewN ?_ _ | refine blk_drew ?_ )); refine blk_put (cs := #[.slice none 0 0]) ?_ 0 _ rfl; (with_reducible repeat (first | refine blk_drewN ?_ _ | refine blk_drew ?_)); exact HX6.out) Try.underlying29 rfl (by kernel_rfl)) rfl ?_
     exact ⟨_, rfl, Kd.S_nil _ _ _ _ _, (q9114_0 HB.out GE6.out)⟩
    | true =>
     have hpr : pairS a1 a2 = true := by rw [Go.Proofs.Ytoddejmlcnbdmaa.Pure.pairS_eq, hk, hv]; rfl
     have HVO := A_ (HVO0.out.trans (congrArg some hv))
     clear hk hv
     rw [if_pos hpr] at h
     clear hpr
     have HH := A_ h
     clear h
     go_enter Try.func37, Try.ntmps37
     go_upto_region 4 with (first | ((with_reducible refine gate_dst (N := 3) rfl ?_); refine box_event ?hg (N := 3) ?hd (cs := #[.slice A0_0 l0_0.length c0_0]) (t := 29) ?hr ?_; (case hd => rfl); (case hg => rfl); (case hr => first | (go_simp; done) | (go_simp; rfl)); intro b3 hg w1 hbox hb; have HB := A_ hb; have hz3 : w1.cell? ⟨b3, 0, none⟩ = some (.slice A0_0 l0_0.length c0_0) := (blk_cell hbox 0).trans rfl; clear hg hbox hb) | ((with_reducible refine gate_dst (N := 6) rfl ?_); refine box_event ?hg (N := 6) ?hd (cs := #[.slice none 0 0]) (t := 29) ?hr ?_; (case hd => rfl); (case hg => rfl); (case hr => first | (go_simp; done) | (go_simp; rfl)); intro g6 hg w2 hbox hb; have hz3_ := (hb.cell (World.block_lt_of_cell? w1 _ hz3)).trans hz3; clear hz3; have hz3 := hz3_; clear hz3_; have GE6 := A_ (show w.heap.size <= g6 from by rw [hg]; exact Below.size HB.out); have n1_ := A_ (below_step HB.out hb); clear HB; have HB := n1_; have HX6 := A_ hbox; clear n1_ hg hbox hb) | (go_at_call 59; (with_reducible refine (impl_root.calls k l0_0 HNP.out A0_0 c0_0 _ (Kd.C_below HP.out HB.out) HM.out _ HRS.out).mono ?_); rintro e w3 ⟨hb, hr⟩; obtain ⟨nt, h9, rfl, hs⟩ := hr.resolve_left (by rintro ⟨h, _⟩; cases h); injection h9 with h9; subst h9; have n1_ := A_ (below_step HB.out hb); have n2_ := A_ (blk_below HX6.out hb); have HS := A_ (((Sat.one (c := .box 29 g6 #[.slice none 0 0]) ⟨GE6.out, HX6.out⟩).behind hb (Below.size HB.out) hs).perm List.perm_append_comm); clear HB HX6; have HB := n1_; have HX6 := n2_; clear n1_ n2_ hb hr hs hz3; have hz6 := (blk_cell HX6.out 0).trans rfl; have hf6 := blk_frozen HX6.out 0) | (go_at_call 78; (with_reducible refine (impl_isKey.calls a1 true _ HKO.out).mono ?_); rintro e w' ⟨rfl, ⟨nd, rfl⟩⟩) | (go_at_call 79; (with_reducible refine (impl_isVal.calls a2 true _ HVO.out).mono ?_); rintro e w' ⟨rfl, ⟨nd, rfl⟩⟩))
     generalize hW : World.drewN w3 _ = w4
     have n1_ := A_ (show Below w.heap.size w w4 by rw [<- hW]; exact pw_below_drewN HB.out _)
     have n2_ := A_ (show Sat w4 w.heap.size (nt.cks 101 74 ++ [.box 29 g6 #[.slice none 0 0]]) by rw [<- hW]; exact Sat.drewN HS.out _)
     clear HB HS HX6 hz6 hf6 hW
     have HB := n1_
     have HS := n2_
     clear n1_ n2_
     go_upto_region 5 with (first | (go_at_call 80; (with_reducible refine (impl_with.calls nt a1 a2 HOK.out.1.bnd HOK.out.1.srt w.heap.size _ w4 HS.out (Below.size HB.out)).mono ?_); rintro e w5 ⟨t1, rfl, ht1, ht2, ht3⟩))
     have hok1 : OkT t1.erase /\ (allK t1.erase).length <= 41 := by
      obtain ⟨q1, q2⟩ := with_ok HOK.out.1 a1 a2
      rw [ht1]
      refine ⟨q1, ?_⟩
      rw [<- allP_len (bnd_shp q1.bnd), q2]
      have := insKV_len (k := a1) (v := a2) (allP nt.erase)
      have := HOK.out.2
      omega
     have HK1 := A_ hok1
     have HT1 := A_ ht1
     have HZ1 := A_ (show (allK t1.erase).length <= 8796093022208 by omega)
     have HZ2 := A_ (show (allV t1.erase).length <= 8796093022208 by rw [allV_len (bnd_shp hok1.1.bnd)]; omega)
     have HSH := A_ (bnd_shp hok1.1.bnd)
     have hl41 : (allK t1.erase).length <= 41 := hok1.2
     have HR2 := A_ (rd_of ht2.left)
     have n1_ := A_ (HB.out.trans ht3)
     clear HB HS hok1 ht1 ht3
     have HB := n1_
     have HS := A_ ht2
     clear n1_ ht2
     go_upto_region 6 with (first | (go_at_call 66; (with_reducible refine (impl_all.calls0 t1.erase HSH.out _ ?side1 HZ1.out HZ2.out).mono ?_); (case side1 => repeat (first | exact HR2.out | (with_reducible refine Rd.drewN ?_ _) | (with_reducible refine Rd.drew ?_))); rintro e w6 ⟨u1, u2, rfl, ho1, ho2, hne, hb⟩; obtain ⟨B1, d1, rfl, hl1, hc1⟩ := Kd.R_reads ho1; obtain ⟨B2, d2, rfl, hl2, hc2⟩ := Kd.R_reads ho2; have n1_ := A_ (below_step HB.out hb); have n2_ := A_ (Sat.under HS.out hb); clear HB HS HR2; have HB := n1_; have HS := n2_; clear n1_ n2_ ho1 ho2 hne hb hl1 hl2 hc1 hc2))
     obtain ⟨nk, hnk⟩ : ∃ n, (allK t1.erase).length = n := ⟨_, rfl⟩
     rw [hnk] at hl41 ⊢
     have HNK := A_ hnk
     clear hnk
     by_cases h40 : 40 < nk
     ·have c_ : decide ((40 : Int) < (nk : Int)) = true := decide_eq_true (by omega)
      have h := HH.out
      rw [<- HT1.out, HNK.out, if_pos h40] at h
      injection h with e1 e2
      subst e1
      subst e2
      have HX6 := A_ (HS.out.cell (T := 29) (p := g6) (cs := #[.slice none 0 0]) (List.mem_append_right _ List.mem_cons_self))
      have hz6 := (blk_cell HX6.out 0).trans rfl; have hf6 := blk_frozen HX6.out 0
      go_wp2_with fail
      refine bodyPost_ret (results_ct rfl _ _ g6 29 #[.slice none 0 0] (0, 0) _ rfl (by (with_reducible repeat (first | refine blk_drewN ?_ _ | refine blk_drew ?_ )); refine blk_put (cs := #[.slice none 0 0]) ?_ 0 _ rfl; (with_reducible repeat (first | refine blk_drewN ?_ _ | refine blk_drew ?_)); exact HX6.out) Try.underlying29 rfl (by kernel_rfl)) rfl ?_
      exact ⟨_, rfl, Kd.S_nil _ _ _ _ _, (q9114_0 HB.out GE6.out)⟩
     ·have c_ : decide ((40 : Int) < (nk : Int)) = false := decide_eq_false (by omega)
      have h := HH.out
      rw [<- HT1.out, HNK.out, if_neg h40] at h
      injection h with e1 e2
      subst e1
      subst e2
      have HC2 := A_ (impl_tree.calls t1 HK1.out.1.bnd (by have := HK1.out.1.small; have := HK1.out.2; have := allP_len HSH.out; omega) w.heap.size _ w6 HS.out (Below.size HB.out))
      clear h40
      go_wp2_with (first | (go_at_call 81; (with_reducible refine (HC2.out).mono ?_); rintro e w7 ⟨vo, pgs, rfl, he, hs3, hb3⟩; obtain ⟨Ao, co, rfl⟩ := row_slice (hs3.ok (prow vo pgs) (List.mem_append_right _ List.mem_cons_self)); have HX6 := A_ (hs3.cell (T := 29) (p := g6) (cs := #[.slice none 0 0]) (List.mem_append_right _ (List.mem_append_right _ List.mem_cons_self))); have HS3 := A_ hs3; have HE := A_ he; have n1_ := A_ (HB.out.trans hb3); clear HB; have HB := n1_; clear n1_ hs3 hb3 he; have hz6 := (blk_cell HX6.out 0).trans rfl; have hf6 := blk_frozen HX6.out 0))
      refine bodyPost_ret (results_ct rfl _ _ g6 29 #[.slice Ao pgs.length co] (0, 0) _ rfl (blk_put (cs := #[.slice none 0 0]) HX6.out 0 _ rfl) Try.underlying29 rfl (by kernel_rfl)) rfl ?_
      refine ⟨_, rfl, ?_, (q9114_0 HB.out GE6.out)⟩
      have hS := pages_out HS3.out
      rw [HE.out] at hS
      exact hS
 ·rw [if_neg hok] at h
  cases h
end Go.Proofs.Ytoddejmlcnbdmaa.Fn

