/- The law FnExactRangeOf holds of the given program: at every input it answers true and leaves its arguments as they were; no condition. This text: part 2 of what its proof reaches. -/
import Derived.Deep.QuietTactic
import Derived.BigQuiet
import Derived.Test.YtoddejmlcnbdmaaCXRangeOfA
namespace Go.Proofs.Ytoddejmlcnbdmaa.Tree
open Go.RowKit Go.Proofs.YtoddejmlcnbdmaaW.PrintWords Go.Proofs.YtoddejmlcnbdmaaW.PrintLast Go.Proofs.YtoddejmlcnbdmaaW.PrintMore Go.Proofs.Ytoddejmlcnbdmaa.Fn
set_option linter.unusedVariables false

/-- p the node's block; kv, vv, cv its three cells. -/
inductive NT where
  | mk (p : Nat) (kv vv cv : Value) (keys vals : List ByteArray) (kids : List NT)
def NT.p : NT → Nat | .mk p _ _ _ _ _ _ => p
def NT.kv : NT → Value | .mk _ v _ _ _ _ _ => v
def NT.vv : NT → Value | .mk _ _ v _ _ _ _ => v
def NT.cv : NT → Value | .mk _ _ _ v _ _ _ => v
def NT.keys : NT → List ByteArray | .mk _ _ _ _ k _ _ => k
def NT.vals : NT → List ByteArray | .mk _ _ _ _ _ v _ => v
def NT.kids : NT → List NT | .mk _ _ _ _ _ _ c => c
mutual
def NT.erase : NT → PT
  | .mk _ _ _ _ keys vals kids => .mk keys vals (NT.eraseL kids)
def NT.eraseL : List NT → List PT
  | [] => []
  | c :: cs => c.erase :: NT.eraseL cs
end
theorem eraseL_map : ∀ l : List NT, NT.eraseL l = l.map NT.erase
  | [] => rfl
  | c :: cs => by rw [NT.eraseL, eraseL_map cs]; rfl
abbrev ptrs (l : List NT) : List Value := l.map fun k => ptrv k.p
mutual
/-- T the node's type, E the type of a pointer to it. -/
def NT.cks (T E : Nat) : NT → List Ck
  | .mk p kv vv cv keys vals kids => .box T p #[kv, vv, cv] :: txt kv keys :: txt vv vals :: .que E cv (ptrs kids) :: NT.cksL T E kids
def NT.cksL (T E : Nat) : List NT → List Ck
  | [] => []
  | c :: cs => c.cks T E ++ NT.cksL T E cs
end
theorem cksL_flat (T E : Nat) : ∀ l : List NT, NT.cksL T E l = l.flatMap (NT.cks T E)
  | [] => rfl
  | c :: cs => by rw [NT.cksL, cksL_flat T E cs]; rfl
theorem cksL_append (T E : Nat) (a b : List NT) : NT.cksL T E (a ++ b) = NT.cksL T E a ++ NT.cksL T E b := by
  rw [cksL_flat, cksL_flat, cksL_flat, List.flatMap_append]
section
variable {w w1 : World} {base : Nat} {L : List Ck}
theorem reps_enc {α : Type} {enc : α → Value} {xs : List α} {inner : List Value} {n : Nat} (hr : Reps (fun (x : α) (cs : List Value) => cs = [enc x]) 1 xs inner) : inner = encs enc xs := by
  apply List.ext_getElem?
  intro j
  rcases Nat.lt_or_ge j xs.length with hj | hj
  · have h2 := hr.2 j _ (List.getElem?_eq_getElem hj)
    have hl : j < inner.length := by have := hr.1; omega
    have h3 : (inner.drop (j * 1)).take 1 = [enc xs[j]] := h2
    rw [Nat.mul_one, List.drop_eq_getElem_cons hl] at h3
    have h4 : inner[j] = enc xs[j] := by
      have h5 := congrArg List.head? h3
      rw [List.take_succ_cons] at h5
      exact Option.some.inj h5
    rw [List.getElem?_eq_getElem hl, h4]
    simp [encs, List.getElem?_eq_getElem hj]
  · have h3 : inner.length = xs.length := by have := hr.1; omega
    rw [List.getElem?_eq_none (by omega), List.getElem?_eq_none (by rw [encs_length]; omega)]
/-- A row of pointers of the call's own, from wherever in its block. -/
def PQ (E : Nat) (w : World) (base : Nat) (v : Value) (ps : List Nat) : Prop := kptr.Q E w base (fun _ => True) v ps
theorem ok_pq {E : Nat} {v : Value} {ps : List Nat} (h : Ck.ok w base (.que E v (encs ptrv ps))) : PQ E w base v ps := by
  refine ⟨fun _ _ => trivial, encs ptrv ps, ?_, Kd.reps_scalar ps⟩
  have h2 : QRow w base E 1 v (encs ptrv ps).length (encs ptrv ps) := h
  rw [encs_length] at h2
  exact h2
theorem pq_ok {E : Nat} {v : Value} {ps : List Nat} (h : PQ E w base v ps) : Ck.ok w base (.que E v (encs ptrv ps)) := by
  obtain ⟨_, inner, ho, hr⟩ := h
  have e := reps_enc (n := 0) (enc := ptrv) hr
  subst e
  show QRow w base E 1 v (encs ptrv ps).length (encs ptrv ps)
  rw [encs_length]
  exact ho
theorem ptrs_encs (l : List NT) : ptrs l = encs ptrv (l.map NT.p) := by unfold ptrs encs; rw [List.map_map]; rfl
theorem Sat.tail {c : Ck} (h : Sat w base (c :: L)) : Sat w base L := h.sub (List.sublist_cons_self _ _)
theorem sub_flat {α β : Type} {f : α → List β} : ∀ {l : List α} {x : α}, x ∈ l → (f x).Sublist (l.flatMap f)
  | y :: l, x, h => by
    rw [List.flatMap_cons]
    rcases List.mem_cons.1 h with rfl | h
    · exact List.sublist_append_left _ _
    · exact (sub_flat h).trans (List.sublist_append_right _ _)
theorem sat_kid {T E : Nat} {l : List NT} (h : Sat w base (NT.cksL T E l)) {i : Nat} {s : NT} (hs : l[i]? = some s) : Sat w base (s.cks T E) := by
  rw [cksL_flat] at h
  exact h.sub (sub_flat (List.mem_of_getElem? hs))
/-- A tree that is owned can be read. -/
theorem rd_of_sat {T E : Nat} : ∀ (n : Nat) (t : NT), SizeOf.sizeOf t ≤ n → Sat w base (t.cks T E) → Rd T w t.p t.erase
  | 0, t, h, _ => by cases t; simp at h
  | n + 1, .mk p kv vv cv keys vals kids, h, hs => by
    rw [NT.cks] at hs
    have hb := (hs.ok _ List.mem_cons_self).2
    obtain ⟨Ak, ck, e1, h1, hk⟩ := Kd.R_reads (ok_sr (hs.tail.ok _ List.mem_cons_self))
    obtain ⟨Av, cv', e2, h2, hv⟩ := Kd.R_reads (ok_sr (hs.tail.tail.ok _ List.mem_cons_self))
    have hq := hs.tail.tail.tail.ok _ List.mem_cons_self
    rw [ptrs_encs] at hq
    obtain ⟨Ac, cc, e3, h3, hc⟩ := Kd.Q_reads (ok_pq hq)
    subst e1; subst e2; subst e3
    rw [List.length_map] at h3 hc
    have hl : (NT.eraseL kids).length = kids.length := by rw [eraseL_map, List.length_map]
    refine .mk Ak ck Av cv' Ac cc (kids.map NT.p) (by rw [hl]; rw [List.length_map] at hb; exact hb) h1 h2 (by omega) hk hv (by rw [hl]; exact hc) (by rw [hl, List.length_map]) ?_
    intro i q s hq hs'
    rw [eraseL_map] at hs'
    rw [List.getElem?_map] at hq hs'
    obtain ⟨k, hk, rfl⟩ := Option.map_eq_some_iff.1 hq
    rw [hk] at hs'
    obtain rfl := Option.some.inj hs'
    refine rd_of_sat n k ?_ (sat_kid hs.tail.tail.tail.tail hk)
    have := List.sizeOf_lt_of_mem (List.mem_of_getElem? hk)
    have h3 : SizeOf.sizeOf (NT.mk p (.slice Ak keys.length ck) (.slice Av vals.length cv') (.slice Ac (kids.map NT.p).length cc) keys vals kids) = 1 + SizeOf.sizeOf p + SizeOf.sizeOf (Value.slice Ak keys.length ck) + SizeOf.sizeOf (Value.slice Av vals.length cv') + SizeOf.sizeOf (Value.slice Ac (kids.map NT.p).length cc) + SizeOf.sizeOf keys + SizeOf.sizeOf vals + SizeOf.sizeOf kids := by simp
    omega
theorem rd_of {T E : Nat} {t : NT} (h : Sat w base (t.cks T E)) : Rd T w t.p t.erase := rd_of_sat _ t (Nat.le_refl _) h
/-- A store into a box. -/
theorem Sat.put {T p : Nat} {cs cs' : Array Value} (h : Sat w base (.box T p cs :: L)) (j : Nat) (u : Value) (e : cs.setIfInBounds j u = cs') : Sat (w.setCell ⟨p, j, none⟩ u) base (.box T p cs' :: L) := by
  have h1 := (h.ok _ List.mem_cons_self)
  refine Sat.frame (A := [.box T p cs]) (A' := [.box T p cs']) (R := L) (w := w) h (Sat.one ⟨h1.1, blk_put h1.2 j u e⟩) ((Kept.refl w _).setCell (.inl ⟨_, List.mem_singleton_self _, rfl⟩) u) ?_
  rintro k ⟨c, hc, hb⟩
  rw [List.mem_singleton.1 hc] at hb
  exact .inl ⟨_, List.mem_singleton_self _, hb⟩
theorem Sat.put3 {T p : Nat} {a0 a1 a2 : Value} (h : Sat w base (.box T p #[a0, a1, a2] :: L)) (x0 x1 x2 : Value) :
    Sat (((w.setCell ⟨p, 0, none⟩ x0).setCell ⟨p, 1, none⟩ x1).setCell ⟨p, 2, none⟩ x2) base (.box T p #[x0, x1, x2] :: L) :=
  ((h.put 0 x0 (cs' := #[x0, a1, a2]) rfl).put 1 x1 (cs' := #[x0, x1, a2]) rfl).put 2 x2 rfl
/-- A new box. -/
theorem Sat.newBox {T g : Nat} {cs : Array Value} {W : World} (h : Sat W base L) (hg : g = W.heap.size) (hbox : w1.heap[g]? = some (.cells cs T (0, 0))) (hb : Below W.heap.size W w1) (hbase : base ≤ W.heap.size) : Sat w1 base (.box T g cs :: L) := by
  refine Sat.add (A := [.box T g cs]) h (Kept.of_below hb _) (Sat.one ⟨by omega, hbox⟩) ?_
  rintro k ⟨c, hc, hb⟩
  rw [List.mem_singleton.1 hc] at hb
  injection hb with hb
  omega
/-- A row of nothing. -/
theorem Sat.addNil (h : Sat w base L) (E : Nat) : Sat w base (.que E (.slice none 0 0) [] :: L) := by
  have hq : Ck.ok w base (.que E (.slice none 0 0) []) := pq_ok (ps := []) (Kd.Q_nil _ _ _ _ _)
  refine Sat.add (A := [.que E (.slice none 0 0) []]) h (Kept.refl _ _) (Sat.one hq) ?_
  rintro k ⟨c, hc, hb⟩
  rw [List.mem_singleton.1 hc] at hb
  cases hb
theorem Sat.boxAt (h : Sat w base L) (i : Nat) {T p : Nat} {cs : Array Value} (hi : L[i]? = some (.box T p cs)) : w.heap[p]? = some (.cells cs T (0, 0)) := h.cell (List.mem_of_getElem? hi)
theorem Sat.z (h : Sat w base L) (i : Nat) {T p : Nat} {cs : Array Value} (hi : L[i]? = some (.box T p cs)) (j : Nat) : w.cell? ⟨p, j, none⟩ = cs[j]? := blk_cell (h.boxAt i hi) j
theorem Sat.f (h : Sat w base L) (i : Nat) {T p : Nat} {cs : Array Value} (hi : L[i]? = some (.box T p cs)) (j : Nat) : w.frozen? ⟨p, j, none⟩ = false := blk_frozen (h.boxAt i hi) j
end
end Go.Proofs.Ytoddejmlcnbdmaa.Tree
namespace Go.Proofs.Ytoddejmlcnbdmaa.Tree
open Go.RowKit Go.Proofs.Ytoddejmlcnbdmaa.Fn
set_option linter.unusedVariables false

def badP (p : S110) : Bool := decide (4 < p.f0.length) || p.f1.length != p.f0.length || (p.f2.length != 0 && p.f2.length != p.f0.length + 1)
def readK (rd : Nat → Option (PT × Nat)) : List Int → Nat → List PT → Option (List PT × Nat)
  | [], next, acc => some (acc, next)
  | k :: ks, next, acc => if k ≠ (next : Int) then none else match rd next with
    | none => none
    | some r => readK rd ks r.2 (acc ++ [r.1])
def fin (p : S110) (o : Option (List PT × Nat)) : Option (PT × Nat) := o.map fun r => (.mk p.f0 p.f1 r.1, r.2)
def readS (P : List S110) : Nat → Nat → Option (PT × Nat)
  | 0, _ => none
  | f + 1, at_ => if P.length ≤ at_ then none else if badP (P.getD at_ z110) then none else fin (P.getD at_ z110) (readK (readS P f) (P.getD at_ z110).f2 (at_ + 1) [])
section
variable {rd : Nat → Option (PT × Nat)} {p : S110} {l : List Int} {i next : Nat} {acc : List PT} {k : Int} {R : Option (PT × Nat)}
theorem readK_on {t : PT} {n : Nat} (h : R = fin p (readK rd (l.drop i) next acc)) (hk : l[i]? = some k) (e : k = (next : Int)) (hr : rd next = some (t, n)) : R = fin p (readK rd (l.drop (i + 1)) n (acc ++ [t])) := by
  rw [drop_of hk, readK, if_neg (by simp [e]), hr] at h
  exact h
theorem readK_off1 (h : R = fin p (readK rd (l.drop i) next acc)) (hk : l[i]? = some k) (e : k ≠ (next : Int)) : R = none := by
  rw [drop_of hk, readK, if_pos e] at h
  exact h
theorem readK_off2 (h : R = fin p (readK rd (l.drop i) next acc)) (hk : l[i]? = some k) (e : k = (next : Int)) (hr : rd next = none) : R = none := by
  rw [drop_of hk, readK, if_neg (by simp [e]), hr] at h
  exact h
theorem readK_end (h : R = fin p (readK rd (l.drop i) next acc)) (hi : l.length ≤ i) : R = some (.mk p.f0 p.f1 acc, next) := by
  rw [List.drop_eq_nil_of_le hi, readK] at h
  exact h
end
theorem readS_none1 {P : List S110} {f at_ : Nat} (h : P.length ≤ at_) : readS P f at_ = none := by
  cases f with
  | zero => rfl
  | succ f => rw [readS, if_pos h]
theorem readS_bad {P : List S110} {f at_ : Nat} (hb : badP (P.getD at_ z110) = true) : readS P (f + 1) at_ = none := by
  rw [readS]
  by_cases h : P.length ≤ at_
  · rw [if_pos h]
  · rw [if_neg h, if_pos hb]
theorem readS_go {P : List S110} {f at_ : Nat} (h : ¬ P.length ≤ at_) (hb : badP (P.getD at_ z110) = false) : readS P (f + 1) at_ = fin (P.getD at_ z110) (readK (readS P f) ((P.getD at_ z110).f2.drop 0) (at_ + 1) []) := by
  rw [readS, if_neg h, if_neg (by rw [hb]; decide), List.drop_zero]
/-- What was read ends behind its beginning, within the pages. -/
theorem readK_le {P : List S110} {rd : Nat → Option (PT × Nat)} (hrd : ∀ at_ t n, rd at_ = some (t, n) → at_ < n ∧ n ≤ P.length) : ∀ (l : List Int) (next : Nat) (acc : List PT) (ts : List PT) (n : Nat), next ≤ P.length → readK rd l next acc = some (ts, n) → next ≤ n ∧ n ≤ P.length
  | [], next, acc, ts, n, hl, h => by
    rw [readK] at h
    injection h with h
    injection h with h1 h2
    omega
  | k :: ks, next, acc, ts, n, hl, h => by
    rw [readK] at h
    split at h
    · cases h
    · cases hr : rd next with
      | none => rw [hr] at h; cases h
      | some r =>
        rw [hr] at h
        have h1 := hrd next r.1 r.2 hr
        have := readK_le hrd ks r.2 _ ts n h1.2 h
        omega
theorem readS_le {P : List S110} : ∀ (f at_ : Nat) (t : PT) (n : Nat), readS P f at_ = some (t, n) → at_ < n ∧ n ≤ P.length
  | 0, at_, t, n, h => by cases h
  | f + 1, at_, t, n, h => by
    rw [readS] at h
    split at h
    · cases h
    · rename_i hl
      split at h
      · cases h
      · unfold fin at h
        obtain ⟨r, hr, e⟩ := Option.map_eq_some_iff.1 h
        injection e with e1 e2
        have := readK_le (P := P) (fun a t n h => readS_le f a t n h) _ _ _ r.1 r.2 (by omega) hr
        omega
end Go.Proofs.Ytoddejmlcnbdmaa.Tree
namespace Go.Proofs.Ytoddejmlcnbdmaa.Tree
open Go.RowKit Go.Proofs.YtoddejmlcnbdmaaW.PrintWords Go.Proofs.YtoddejmlcnbdmaaW.PrintLast Go.Proofs.YtoddejmlcnbdmaaW.PrintMore Go.Proofs.Ytoddejmlcnbdmaa.Fn
set_option linter.unusedVariables false

theorem under94 : Try.prog.underlying 94 = some (.slice 70) := by kernel_rfl
theorem under99 : Try.prog.underlying 99 = some (.slice 74) := by kernel_rfl
theorem info70 : (Try.prog.info? 70).map (fun i => (i.zero, i.size, i.bytes)) = some (some (.pointer none), 1, 8) := by kernel_rfl
theorem info74 : (Try.prog.info? 74).map (fun i => (i.zero, i.size, i.bytes)) = some (some (.pointer none), 1, 8) := by kernel_rfl
theorem ne_t {a b : Nat} (h : a ≠ b) : ((a : Int) != (b : Int)) = true := by rw [bne_iff_ne]; omega
theorem ne_f {a b : Nat} (h : a = b) : ((a : Int) != (b : Int)) = false := by rw [bne_eq_false_iff_eq]; omega
theorem ne0_t {a : Nat} (h : a ≠ 0) : ((a : Int) != 0) = true := by rw [bne_iff_ne]; omega
theorem ne0_f {a : Nat} (h : a = 0) : ((a : Int) != 0) = false := by rw [bne_eq_false_iff_eq]; omega
theorem ne1_t {a b : Nat} (h : a ≠ b + 1) : ((a : Int) != (b : Int) + 1) = true := by rw [bne_iff_ne]; omega
theorem ne1_f {a b : Nat} (h : a = b + 1) : ((a : Int) != (b : Int) + 1) = false := by rw [bne_eq_false_iff_eq]; omega
theorem nen_t {a b : Nat} (h : a ≠ b) : (a != b) = true := by rw [bne_iff_ne]; omega
theorem nen_f {a b : Nat} (h : a = b) : (a != b) = false := by rw [bne_eq_false_iff_eq]; omega
theorem q_form {α : Type} {d : Kd α} {e : Nat} {w : World} {base : Nat} {ok : Nat → Prop} {v : Value} {xs : List α} (h : d.Q e w base ok v xs) : ∃ A n c, v = .slice A n c := by
  obtain ⟨A, c, rfl, _⟩ := Kd.Q_slice h
  exact ⟨A, _, c, rfl⟩
/-- The node that is being built, X besides, the kids so far. -/
def LL (T E g : Nat) (v0 v1 cv : Value) (k v : List ByteArray) (X : List Ck) (acc : List NT) : List Ck :=
  .box T g #[v0, v1, cv] :: txt v0 k :: txt v1 v :: .que E cv (ptrs acc) :: (X ++ NT.cksL T E acc)
theorem cksL_snoc (T E : Nat) (acc : List NT) (n : NT) : NT.cksL T E (acc ++ [n]) = NT.cksL T E acc ++ n.cks T E := by
  rw [cksL_append]
  congr 1
  rw [NT.cksL, NT.cksL, List.append_nil]
section
variable {w w1 W : World} {base T E g : Nat} {v0 v1 cv cv' : Value} {k v : List ByteArray} {X L : List Ck} {acc : List NT} {n : NT}
/-- A row of pointers that grew. -/
theorem Sat.appQ {x y : List Nat} {u u1 : Value} (i : Nat) (h : Sat W base L) (hi : L[i]? = some (.que E u (encs ptrv x))) (ho : kptr.Q E w1 base (fun _ => True) u1 y) (hg : W.grownBy w1 u.ownBlock) (hat : u1.ownBlock = u.ownBlock ∨ ∃ b, u1.ownBlock = some b ∧ W.heap.size ≤ b) :
    Sat w1 base (L.set i (.que E u1 (encs ptrv y))) := by
  obtain ⟨h1, h2⟩ := set_perm (y := Ck.que E u1 (encs ptrv y)) hi
  have hf : Sat w1 base ([Ck.que E u1 (encs ptrv y)] ++ L.eraseIdx i) := by
    refine Sat.frame (A := [.que E u (encs ptrv x)]) (w := W) (h.perm h1) (Sat.one (pq_ok ho)) ⟨hg.size, fun k hk hnot => hg.block k hk fun he => hnot ⟨_, List.mem_singleton_self _, he.symm⟩⟩ ?_
    rintro k ⟨c, hc, hb⟩
    rw [List.mem_singleton.1 hc] at hb
    have h3 : u1.ownBlock = some k := hb
    rcases hat with h4 | ⟨b, h4, h5⟩
    · exact .inl ⟨_, List.mem_singleton_self _, by rw [h4] at h3; exact h3⟩
    · rw [h4] at h3
      injection h3 with h3
      exact .inr (by omega)
  exact hf.perm h2.symm
/-- A kid that was made, behind. -/
theorem Sat.behind {A : List Ck} (h : Sat w base L) (hb : Below w.heap.size w w1) (hbase : base ≤ w.heap.size) (hn : Sat w1 w.heap.size A) : Sat w1 base (L ++ A) :=
  (h.add (Kept.of_below hb _) (hn.lower hbase) fun k hk => hn.ge hk).perm List.perm_append_comm
theorem ll_kid (h : Sat w base (LL T E g v0 v1 cv k v X acc)) (hb : Below w.heap.size w w1) (hbase : base ≤ w.heap.size) (hn : Sat w1 w.heap.size (n.cks T E)) :
    Sat w1 base (Ck.box T g #[v0, v1, cv] :: txt v0 k :: txt v1 v :: .que E cv (encs ptrv (acc.map NT.p)) :: (X ++ NT.cksL T E (acc ++ [n]))) := by
  have h2 := h.behind hb hbase hn
  have e : LL T E g v0 v1 cv k v X acc ++ n.cks T E = Ck.box T g #[v0, v1, cv] :: txt v0 k :: txt v1 v :: .que E cv (encs ptrv (acc.map NT.p)) :: (X ++ NT.cksL T E (acc ++ [n])) := by
    rw [cksL_snoc, ← ptrs_encs]
    simp only [LL, List.cons_append, List.append_assoc]
  rw [e] at h2
  exact h2
theorem Sat.far (h : Sat w base L) {p : Addr} (hp : p.block < base) (u : Value) : Sat (w.setCell p u) base L := h.move fun k hk _ => Below.heap_setCell w p u k (by have := h.ge hk; omega)
theorem Sat.keptb {S : Nat → Prop} (h : Sat w base L) (hk : Kept w w1 S) (hS : ∀ k, S k → k < base) : Sat w1 base L := h.move fun k hb hlt => hk.2 k hlt fun hs => by have := h.ge hb; have := hS k hs; omega
theorem ll_kidK {S : Nat → Prop} (h : Sat w base (LL T E g v0 v1 cv k v X acc)) (hk : Kept w w1 S) (hS : ∀ k, S k → k < base) (hbase : base ≤ w.heap.size) (hn : Sat w1 w.heap.size (n.cks T E)) :
    Sat w1 base (Ck.box T g #[v0, v1, cv] :: txt v0 k :: txt v1 v :: .que E cv (encs ptrv (acc.map NT.p)) :: (X ++ NT.cksL T E (acc ++ [n]))) := by
  have h1 := h.keptb hk hS
  have h2 : Sat w1 base (LL T E g v0 v1 cv k v X acc ++ n.cks T E) := by
    refine ⟨fun c hc => ?_, List.pairwise_append.2 ⟨h1.ap, (hn.lower hbase).ap, fun a ha b hb j e1 e2 => ?_⟩⟩
    · rcases List.mem_append.1 hc with hc | hc
      · exact h1.ok c hc
      · exact (hn.lower hbase).ok c hc
    · have := h.lt ⟨a, ha, e1⟩
      have := hn.ge ⟨b, hb, e2⟩
      omega
  have e : LL T E g v0 v1 cv k v X acc ++ n.cks T E = Ck.box T g #[v0, v1, cv] :: txt v0 k :: txt v1 v :: .que E cv (encs ptrv (acc.map NT.p)) :: (X ++ NT.cksL T E (acc ++ [n])) := by
    rw [cksL_snoc, ← ptrs_encs]
    simp only [LL, List.cons_append, List.append_assoc]
  rw [e] at h2
  exact h2
theorem ll_app {x : Nat} (h : Sat W base (Ck.box T g #[v0, v1, cv] :: txt v0 k :: txt v1 v :: .que E cv (encs ptrv (acc.map NT.p)) :: (X ++ NT.cksL T E (acc ++ [n])))) (ho : kptr.Q E w1 base (fun _ => True) cv' (acc.map NT.p ++ [n.p])) (hg : W.grownBy w1 cv.ownBlock) (hat : cv'.ownBlock = cv.ownBlock ∨ ∃ b, cv'.ownBlock = some b ∧ W.heap.size ≤ b) :
    Sat w1 base (Ck.box T g #[v0, v1, cv] :: txt v0 k :: txt v1 v :: .que E cv' (ptrs (acc ++ [n])) :: (X ++ NT.cksL T E (acc ++ [n]))) := by
  have h2 := Sat.appQ (E := E) 3 h rfl ho hg hat
  have e : encs ptrv (acc.map NT.p ++ [n.p]) = ptrs (acc ++ [n]) := by rw [ptrs_encs, List.map_append]; rfl
  rw [e] at h2
  exact h2
theorem ll_put (h : Sat w base (Ck.box T g #[v0, v1, cv] :: txt v0 k :: txt v1 v :: .que E cv' (ptrs acc) :: (X ++ NT.cksL T E acc))) : Sat (w.setCell ⟨g, 2, none⟩ cv') base (LL T E g v0 v1 cv' k v X acc) := h.put 2 cv' rfl
theorem ll_end (h : Sat w base (LL T E g v0 v1 cv k v X acc)) : Sat w base ((NT.mk g v0 v1 cv k v acc).cks T E) := by
  rw [NT.cks]
  exact h.sub (((List.sublist_append_right X _).cons_cons _).cons_cons _ |>.cons_cons _ |>.cons_cons _)
theorem ll_begin (h : Sat w base (Ck.box T g #[v0, v1, .slice none 0 0] :: (X ++ [txt v0 k, txt v1 v]))) : Sat w base (LL T E g v0 v1 (.slice none 0 0) k v X []) := by
  refine (h.addNil E).perm ?_
  show List.Perm _ (Ck.box T g #[v0, v1, .slice none 0 0] :: txt v0 k :: txt v1 v :: .que E (.slice none 0 0) [] :: (X ++ []))
  rw [List.append_nil]
  refine (List.Perm.swap _ _ _).trans (.cons _ ?_)
  have e1 : (X ++ [txt v0 k, txt v1 v]).Perm ([txt v0 k, txt v1 v] ++ X) := List.perm_append_comm
  refine (e1.cons _).trans ?_
  exact ((List.Perm.swap _ _ _).trans (.cons _ (.swap _ _ _)))
end
/-- What a reading comes to. -/
def ReadR (T E : Nat) (w : World) (r : Option (PT × Nat)) (e : Ending) (w' : World) : Prop :=
  Below w.heap.size w w' ∧ ((r = none ∧ e = .returned (.tuple #[.pointer none, .int .i64 (-1)])) ∨
    ∃ (nt : NT) (n : Nat), r = some (nt.erase, n) ∧ e = .returned (.tuple #[ptrv nt.p, .int .i64 (n : Int)]) ∧ Sat w' w.heap.size (nt.cks T E))
/-- What impl's reading comes to: gb the grower's box, gs its pages. -/
def NodeR (w0 w : World) (gb : Nat) (gs : Value) (r : Option (PT × Nat)) (e : Ending) (w' : World) : Prop :=
  Below w0.heap.size w0 w' ∧ ((r = none ∧ e = .returned (.tuple #[.pointer none, .bool false])) ∨
    ∃ (nt : NT) (n : Nat), r = some (nt.erase, n) ∧ e = .returned (.tuple #[ptrv nt.p, .bool true]) ∧ Sat w' w.heap.size (nt.cks 101 74) ∧ Kept w w' (fun k => k = gb) ∧ w'.heap[gb]? = some (.cells #[gs, .int .i64 (n : Int)] 121 (0, 0)))
end Go.Proofs.Ytoddejmlcnbdmaa.Tree
namespace Go.Proofs.Ytoddejmlcnbdmaa.Tree
open Go.Proofs.Ytoddejmlcnbdmaa.Gen
open Go.RowKit Go.Proofs.YtoddejmlcnbdmaaW.PrintWords Go.Proofs.YtoddejmlcnbdmaaW.PrintLast Go.Proofs.YtoddejmlcnbdmaaW.PrintMore Go.Proofs.Ytoddejmlcnbdmaa.Fn
set_option linter.unusedVariables false
set_option linter.unusedSimpArgs false
set_option maxHeartbeats 8000000
set_option maxRecDepth 100000

theorem bad_parts {p : S110} (h : badP p = false) : p.f0.length ≤ 4 ∧ p.f1.length = p.f0.length ∧ (p.f2.length = 0 ∨ p.f2.length = p.f0.length + 1) := by
  unfold badP at h
  simp only [Bool.or_eq_false_iff, Bool.and_eq_false_iff, decide_eq_false_iff_not, bne_eq_false_iff_eq] at h
  omega
theorem spec_l5Read.calls (P : List S110) (hN : P.length ≤ 1000000000000) : ∀ (f : Nat) (d : Int), d + (f : Int) = 11 → 0 ≤ d → ∀ (a : Nat) (A : Option Addr) (c : Nat) (w : World), Kd.C k110 w A P.length P → (∀ p ∈ P, p.f0.length ≤ 1000000000000 ∧ p.f1.length ≤ 1000000000000 ∧ p.f2.length ≤ 1000000000000) → a ≤ P.length →
    Calls Try.prog 95 #[.agg #[.slice A P.length c], .int .i64 (a : Int), .int .i64 d] w (ReadR 96 70 w (readS P f a)) := by
  intro f
  induction f with
  | zero =>
    intro d hd hd0 a A c w hp hm ha
    obtain rfl : d = 11 := by omega
    have HB := Aside0.mk (Below.refl w.heap.size w)
    have HS := Aside0.mk (Sat.nil w w.heap.size)
    clear hp
    by_cases h1 : P.length ≤ a
    · have c1b : decide ((P.length : Int) ≤ (a : Int)) = true := decide_eq_true (by omega)
      have c1c : (P.length ≤ a) = True := eq_true h1
      clear h1 ha hm hd
      go_enter Try.func95, Try.ntmps95
      go_wp2_with ((with_reducible refine gate_dst (N := 3) rfl ?_); refine box_event ?hg (N := 3) ?hd (cs := #[.slice A P.length c]) (t := 29) ?hr ?_; (case hd => rfl); (case hg => rfl); (case hr => first | (go_simp; done) | (go_simp; rfl)); intro b3 hg w1 hbox hb; have n1_ := Aside0.mk (Sat.newBox HS.out hg hbox hb HB.out.size); have hb' := below_step HB.out hb; have n2_ := Aside0.mk hb'; clear HS; clear HB; have HS := n1_; have HB := n2_; clear n1_ n2_; have hz3 := HS.out.z 0 rfl 0; clear hg hbox hb hb')
      go_ret2
      exact ⟨HB.out, .inl ⟨rfl, rfl⟩⟩
    · have c1b : decide ((P.length : Int) ≤ (a : Int)) = false := decide_eq_false (by omega)
      have c1c : (P.length ≤ a) = False := eq_false h1
      clear h1 ha hm hd
      go_enter Try.func95, Try.ntmps95
      go_wp2_with ((with_reducible refine gate_dst (N := 3) rfl ?_); refine box_event ?hg (N := 3) ?hd (cs := #[.slice A P.length c]) (t := 29) ?hr ?_; (case hd => rfl); (case hg => rfl); (case hr => first | (go_simp; done) | (go_simp; rfl)); intro b3 hg w1 hbox hb; have n1_ := Aside0.mk (Sat.newBox HS.out hg hbox hb HB.out.size); have hb' := below_step HB.out hb; have n2_ := Aside0.mk hb'; clear HS; clear HB; have HS := n1_; have HB := n2_; clear n1_ n2_; have hz3 := HS.out.z 0 rfl 0; clear hg hbox hb hb')
      go_ret2
      exact ⟨HB.out, .inl ⟨rfl, rfl⟩⟩
  | succ f ih =>
    intro d hd hd0 a A c w hp hm ha
    have HB := Aside0.mk (Below.refl w.heap.size w)
    have HS := Aside0.mk (Sat.nil w w.heap.size)
    by_cases h1 : P.length ≤ a
    · have c1b : decide ((P.length : Int) ≤ (a : Int)) = true := decide_eq_true (by omega)
      have c1c : (P.length ≤ a) = True := eq_true h1
      have HR := Aside0.mk (readS_none1 (f := f + 1) h1)
      clear h1 ha hm hd hp
      go_enter Try.func95, Try.ntmps95
      go_wp2_with ((with_reducible refine gate_dst (N := 3) rfl ?_); refine box_event ?hg (N := 3) ?hd (cs := #[.slice A P.length c]) (t := 29) ?hr ?_; (case hd => rfl); (case hg => rfl); (case hr => first | (go_simp; done) | (go_simp; rfl)); intro b3 hg w1 hbox hb; have n1_ := Aside0.mk (Sat.newBox HS.out hg hbox hb HB.out.size); have hb' := below_step HB.out hb; have n2_ := Aside0.mk hb'; clear HS; clear HB; have HS := n1_; have HB := n2_; clear n1_ n2_; have hz3 := HS.out.z 0 rfl 0; clear hg hbox hb hb')
      go_ret2
      exact ⟨HB.out, .inl ⟨HR.out, rfl⟩⟩
    · have c1b : decide ((P.length : Int) ≤ (a : Int)) = false := decide_eq_false (by omega)
      have c1c : (P.length ≤ a) = False := eq_false h1
      have c1e : (a < P.length) = True := eq_true (by omega)
      have c2b : decide (10 < d) = false := decide_eq_false (by omega)
      have hdl : d ≤ 10 := by omega
      have HD := Aside0.mk hd
      have HA := Aside0.mk h1
      have HP := Aside0.mk hp
      have HM := Aside0.mk hm
      have hal : a < P.length := by omega
      have hNl : P.length ≤ 1000000000000 := hN
      have HSM0 := hm _ (List.getElem_mem (l := P) hal)
      have hpg : P[a] = rd_T110 P (a : Int) := by unfold rd_T110; rw [Int.toNat_natCast, List.getD_eq_getElem?_getD, List.getElem?_eq_getElem hal]; rfl
      have hpg2 : P.getD a z110 = rd_T110 P (a : Int) := by unfold rd_T110; rw [Int.toNat_natCast]
      rw [hpg] at HSM0
      obtain ⟨ad, A0, c0, A1, c1, A2, c2, hAA, hx0, hx1, hx2, hl0, hf0, hl1, hf1, hl2, hf2⟩ := at_T110 hp (a : Int) (by omega) (by omega)
      subst hAA
      obtain ⟨R, hR⟩ : ∃ R, R = readS P (f + 1) a := ⟨_, rfl⟩
      have hgo : badP (P.getD a z110) = false → R = fin (P.getD a z110) (readK (readS P f) ((P.getD a z110).f2.drop 0) (a + 1) []) := fun hb => hR.trans (readS_go (P := P) (f := f) h1 hb)
      have hbad : badP (P.getD a z110) = true → R = none := fun hb => hR.trans (readS_bad (P := P) (f := f) (at_ := a) hb)
      rw [hpg2] at hgo hbad
      rw [← hR]
      rw [Int.toNat_natCast] at hx0 hx1 hx2
      generalize rd_T110 P (a : Int) = pg at *
      have HX0 := Aside0.mk hx0
      have HX1 := Aside0.mk hx1
      have HX2 := Aside0.mk hx2
      have HF0 := Aside0.mk hf0
      have HF1 := Aside0.mk hf1
      have HF2 := Aside0.mk hf2
      have HSM := Aside0.mk HSM0
      have HGO := Aside0.mk hgo
      have HBAD := Aside0.mk hbad
      clear h1 ha hm hd hp hl0 hf0 hl1 hf1 hl2 hf2 hx0 hx1 hx2 HSM0 hgo hbad hpg hpg2 hal hR
      go_enter Try.func95, Try.ntmps95
      go_upto_region 4 with (first | ((with_reducible refine gate_dst (N := 3) rfl ?_); refine box_event ?hg (N := 3) ?hd (cs := #[.slice (some ad) P.length c]) (t := 29) ?hr ?_; (case hd => rfl); (case hg => rfl); (case hr => first | (go_simp; done) | (go_simp; rfl)); intro b3 hg w1 hbox hb; have n1_ := Aside0.mk (Sat.newBox HS.out hg hbox hb HB.out.size); have hb' := below_step HB.out hb; have n2_ := Aside0.mk hb'; clear HS; clear HB; have HS := n1_; have HB := n2_; clear n1_ n2_; have hx0 := (Below.cell hb' (World.block_lt_of_cell? w _ HX0.out)).trans HX0.out; have hx1 := (Below.cell hb' (World.block_lt_of_cell? w _ HX1.out)).trans HX1.out; have hx2 := (Below.cell hb' (World.block_lt_of_cell? w _ HX2.out)).trans HX2.out; have hz3 := HS.out.z 0 rfl 0; clear hg hbox hb hb') | ((with_reducible refine gate_dst (N := 8) rfl ?_); refine box_event ?hg (N := 8) ?hd (cs := #[.slice none 0 0, .slice none 0 0, .slice none 0 0]) (t := 110) ?hr ?_; (case hd => rfl); (case hg => rfl); (case hr => first | (go_simp; done) | (go_simp; rfl)); intro b8 hg w2 hbox hb; have n1_ := Aside0.mk (Sat.newBox HS.out hg hbox hb HB.out.size); have hb' := below_step HB.out hb; have n2_ := Aside0.mk hb'; clear HS; clear HB; have HS := n1_; have HB := n2_; clear n1_ n2_; have hz80 := HS.out.z 0 rfl 0; have hz81 := HS.out.z 0 rfl 1; have hz82 := HS.out.z 0 rfl 2; have hf80 := HS.out.f 0 rfl 0; have hf81 := HS.out.f 0 rfl 1; have hf82 := HS.out.f 0 rfl 2; clear hg hbox hb hb'))
      have n1_ := Aside0.mk (Sat.put3 HS.out (.slice A0 pg.f0.length c0) (.slice A1 pg.f1.length c1) (.slice A2 pg.f2.length c2))
      have n2_ : Aside0 (Below w.heap.size w (((w2.setCell ⟨b8, 0, none⟩ (.slice A0 pg.f0.length c0)).setCell ⟨b8, 1, none⟩ (.slice A1 pg.f1.length c1)).setCell ⟨b8, 2, none⟩ (.slice A2 pg.f2.length c2))) := ⟨((HB.out.setCell (p := ⟨b8, 0, none⟩) (HS.out.ge ⟨_, List.mem_cons_self, rfl⟩) _).setCell (p := ⟨b8, 1, none⟩) (HS.out.ge ⟨_, List.mem_cons_self, rfl⟩) _).setCell (p := ⟨b8, 2, none⟩) (HS.out.ge ⟨_, List.mem_cons_self, rfl⟩) _⟩
      clear HS HB hx0 hx1 hx2 hz3 hz80 hz81 hz82 hf80 hf81 hf82
      generalize ((w2.setCell ⟨b8, 0, none⟩ (.slice A0 pg.f0.length c0)).setCell ⟨b8, 1, none⟩ (.slice A1 pg.f1.length c1)).setCell ⟨b8, 2, none⟩ (.slice A2 pg.f2.length c2) = w3 at *
      have HS := Aside0.mk (n1_.out.perm (List.Perm.swap _ _ _))
      have HB := n2_
      clear n1_ n2_
      refine start_ (n := 11) (S := fun w' => w'.cell? ⟨b8, 0, none⟩ = some (.slice A0 pg.f0.length c0) ∧ w'.cell? ⟨b8, 1, none⟩ = some (.slice A1 pg.f1.length c1)) (ds := []) #[false, false, false, false, false, false, false, false, false, false, false] (by kernel_rfl) rfl rfl ⟨(blk_cell (Sat.cell (Sat.drew HS.out) (List.mem_of_getElem? (i := 1) rfl)) 0).trans rfl, (blk_cell (Sat.cell (Sat.drew HS.out) (List.mem_of_getElem? (i := 1) rfl)) 1).trans rfl⟩ (fun hHeld => ?_)
      refine pure_ (i := 1) (N := some 30) (v := ?_) (a' := ?_) #[false, true, false, false, false, false, false, false, false, false, false] rfl rfl (by kernel_rfl) (fun _ _ _ h => h) (Or.inl ⟨by rfl, ?_⟩) ?_ ?_
      rotate_left
      · intro w'
        go_simp
        with_reducible rfl
      rotate_left
      · simp only [Act.put, List.setIfInBounds_toArray, List.set_cons_zero, List.set_cons_succ, i64_w, i32_w]
        rfl
      refine pure_ (i := 5) (N := some 34) (v := ?_) (a' := ?_) #[false, true, false, false, false, true, false, false, false, false, false] rfl rfl (by kernel_rfl) (fun _ _ _ h => h) (Or.inl ⟨by rfl, ?_⟩) ?_ ?_
      rotate_left
      · intro w'
        go_simp
        with_reducible rfl
      rotate_left
      · simp only [Act.put, List.setIfInBounds_toArray, List.set_cons_zero, List.set_cons_succ, i64_w, i32_w]
        rfl
      refine take_ (i := 2) (N := some 31) (v := ?_) (a' := ?_) #[false, true, true, false, false, true, false, false, false, false, false] rfl rfl (by kernel_rfl) (fun _ _ _ h => h) (Or.inl ⟨by rfl, ?_⟩) hHeld ?_ ?_
      rotate_left
      · rintro w' ⟨s0, s1⟩
        go_simp
        with_reducible rfl
      rotate_left
      · simp only [Act.put, List.setIfInBounds_toArray, List.set_cons_zero, List.set_cons_succ, i64_w, i32_w]
        rfl
      refine take_ (i := 6) (N := some 35) (v := ?_) (a' := ?_) #[false, true, true, false, false, true, true, false, false, false, false] rfl rfl (by kernel_rfl) (fun _ _ _ h => h) (Or.inl ⟨by rfl, ?_⟩) hHeld ?_ ?_
      rotate_left
      · rintro w' ⟨s0, s1⟩
        go_simp
        with_reducible rfl
      rotate_left
      · simp only [Act.put, List.setIfInBounds_toArray, List.set_cons_zero, List.set_cons_succ, i64_w, i32_w]
        rfl
      refine join_ (σ := Value × Value × Value) 4 #[true, true, true, true, true, true, true, false, false, false, false] (fun z => [(29, z.1), (32, z.2.1), (33, z.2.2)]) (fun z w' => Below w.heap.size w w' ∧ Sat w' w.heap.size [.box 29 b3 #[.slice (some ad) P.length c], .box 110 b8 #[.slice A0 pg.f0.length c0, .slice A1 pg.f1.length c1, .slice A2 pg.f2.length c2], txt z.2.1 pg.f0, txt z.2.2 []]) ?_ ?_
      rotate_left
      · intro hCont
        refine two_ (i := 0) (j := 4) (Ni := some 29) (Nj := some 33) #[true, true, true, false, false, true, true, false, false, false, false] #[false, true, true, false, true, true, true, false, false, false, false] rfl rfl rfl rfl (by kernel_rfl) (by decide) (by decide) (fun K hK => ?_) (fun K hK => ?_)
        · skip
          refine Kd.R_lit_step Kd.string (w0 := w) w.heap.size 9 (by rfl) (N := 29) rfl (xs := []) (inner := []) (ok := fun _ => True) (okp := fun _ => False) ?hr (Reps.none _ _) (fun _ h => h.elim) trivial (below_drew HB.out) ((below_drew HB.out)).size (by simp) ?_
          (case hr => first | (go_simp; done) | (go_simp; rfl))
          intro e0 w_0 hob hbb hgb hnb
          have HB_0 := Aside0.mk hbb
          have HS_0 := Aside0.mk (Sat.lit (Sat.drew HS.out) hob hgb hnb)
          clear hob hbb hgb hnb
          refine hK.out _ _ ⟨(blk_cell (Sat.cell HS_0.out (List.mem_of_getElem? (i := 1) rfl)) 0).trans rfl, (blk_cell (Sat.cell HS_0.out (List.mem_of_getElem? (i := 1) rfl)) 1).trans rfl⟩ (fun hHeld => ?_)
          clear hK K
          refine norm_ (a' := ?_) ?_ ?_
          rotate_left
          · show Act.put _ (some 29) _ = _
            simp only [Act.put, List.setIfInBounds_toArray, List.set_cons_zero, List.set_cons_succ, i64_w, i32_w]
            rfl
          refine two_ (i := 3) (j := 4) (Ni := some 32) (Nj := some 33) #[true, true, true, true, false, true, true, false, false, false, false] #[true, true, true, false, true, true, true, false, false, false, false] rfl rfl rfl rfl (by kernel_rfl) (by decide) (by decide) (fun K hK => ?_) (fun K hK => ?_)
          · skip
            refine Kd.R_append_rows_step Kd.string (w0 := w) w.heap.size (by rfl) (.tmp 29) (.tmp 31) 38 9 (.string ⟨#[]⟩) 16 rfl Try.underlying38 info9 rfl (by decide) (by omega) e0 [] pg.f0 A0 pg.f0.length c0 (fun _ => True) (fun _ => False) rfl rfl (Sat.sr HS_0.out 2 rfl) (Kd.C_below HF0.out HB_0.out) (fun _ _ h => h) (fun _ h => h.elim) (fun _ _ => trivial) HB_0.out (HB_0.out).size (by have := HSM.out; simp only [List.length_nil]; omega) ?_
            intro v0 w_0_3 ho hb hg hat
            rw [List.nil_append] at ho
            have HB_0_3 := Aside0.mk hb
            have HS_0_3 := Aside0.mk (Sat.app 2 HS_0.out rfl ho hg hat)
            clear ho hb hg hat
            refine hK.out _ _ ⟨(blk_cell (Sat.cell HS_0_3.out (List.mem_of_getElem? (i := 1) rfl)) 0).trans rfl, (blk_cell (Sat.cell HS_0_3.out (List.mem_of_getElem? (i := 1) rfl)) 1).trans rfl⟩ (fun hHeld => ?_)
            clear hK K
            refine norm_ (a' := ?_) ?_ ?_
            rotate_left
            · show Act.put _ (some 32) _ = _
              simp only [Act.put, List.setIfInBounds_toArray, List.set_cons_zero, List.set_cons_succ, i64_w, i32_w]
              rfl
            refine one_ (i := 4) (N := some 33) #[true, true, true, true, true, true, true, false, false, false, false] rfl rfl (by kernel_rfl) (by decide) (fun K hK => ?_)
            refine Kd.R_lit_step Kd.string (w0 := w) w.heap.size 9 (by rfl) (N := 33) rfl (xs := []) (inner := []) (ok := fun _ => True) (okp := fun _ => False) ?hr (Reps.none _ _) (fun _ h => h.elim) trivial HB_0_3.out (HB_0_3.out).size (by simp) ?_
            (case hr => first | (go_simp; done) | (go_simp; rfl))
            intro e1 w_0_3_4 hob hbb hgb hnb
            have HB_0_3_4 := Aside0.mk hbb
            have HS_0_3_4 := Aside0.mk (Sat.lit HS_0_3.out hob hgb hnb)
            clear hob hbb hgb hnb
            refine hK.out _ _ ⟨(blk_cell (Sat.cell HS_0_3_4.out (List.mem_of_getElem? (i := 1) rfl)) 0).trans rfl, (blk_cell (Sat.cell HS_0_3_4.out (List.mem_of_getElem? (i := 1) rfl)) 1).trans rfl⟩ (fun hHeld => ?_)
            clear hK K
            refine norm_ (a' := ?_) ?_ ?_
            rotate_left
            · show Act.put _ (some 33) _ = _
              simp only [Act.put, List.setIfInBounds_toArray, List.set_cons_zero, List.set_cons_succ, i64_w, i32_w]
              rfl
            exact norm_ (by simp only [putAll, Act.put, List.setIfInBounds_toArray, List.set_cons_zero, List.set_cons_succ]) (hCont ⟨e0, v0, e1⟩ _ ⟨HB_0_3_4.out, HS_0_3_4.out⟩)
          · skip
            refine Kd.R_lit_step Kd.string (w0 := w) w.heap.size 9 (by rfl) (N := 33) rfl (xs := []) (inner := []) (ok := fun _ => True) (okp := fun _ => False) ?hr (Reps.none _ _) (fun _ h => h.elim) trivial HB_0.out (HB_0.out).size (by simp) ?_
            (case hr => first | (go_simp; done) | (go_simp; rfl))
            intro e1 w_0_4 hob hbb hgb hnb
            have HB_0_4 := Aside0.mk hbb
            have HS_0_4 := Aside0.mk (Sat.lit HS_0.out hob hgb hnb)
            clear hob hbb hgb hnb
            refine hK.out _ _ ⟨(blk_cell (Sat.cell HS_0_4.out (List.mem_of_getElem? (i := 1) rfl)) 0).trans rfl, (blk_cell (Sat.cell HS_0_4.out (List.mem_of_getElem? (i := 1) rfl)) 1).trans rfl⟩ (fun hHeld => ?_)
            clear hK K
            refine norm_ (a' := ?_) ?_ ?_
            rotate_left
            · show Act.put _ (some 33) _ = _
              simp only [Act.put, List.setIfInBounds_toArray, List.set_cons_zero, List.set_cons_succ, i64_w, i32_w]
              rfl
            refine one_ (i := 3) (N := some 32) #[true, true, true, true, true, true, true, false, false, false, false] rfl rfl (by kernel_rfl) (by decide) (fun K hK => ?_)
            refine Kd.R_append_rows_step Kd.string (w0 := w) w.heap.size (by rfl) (.tmp 29) (.tmp 31) 38 9 (.string ⟨#[]⟩) 16 rfl Try.underlying38 info9 rfl (by decide) (by omega) e0 [] pg.f0 A0 pg.f0.length c0 (fun _ => True) (fun _ => False) rfl rfl (Sat.sr HS_0_4.out 2 rfl) (Kd.C_below HF0.out HB_0_4.out) (fun _ _ h => h) (fun _ h => h.elim) (fun _ _ => trivial) HB_0_4.out (HB_0_4.out).size (by have := HSM.out; simp only [List.length_nil]; omega) ?_
            intro v0 w_0_4_3 ho hb hg hat
            rw [List.nil_append] at ho
            have HB_0_4_3 := Aside0.mk hb
            have HS_0_4_3 := Aside0.mk (Sat.app 2 HS_0_4.out rfl ho hg hat)
            clear ho hb hg hat
            refine hK.out _ _ ⟨(blk_cell (Sat.cell HS_0_4_3.out (List.mem_of_getElem? (i := 1) rfl)) 0).trans rfl, (blk_cell (Sat.cell HS_0_4_3.out (List.mem_of_getElem? (i := 1) rfl)) 1).trans rfl⟩ (fun hHeld => ?_)
            clear hK K
            refine norm_ (a' := ?_) ?_ ?_
            rotate_left
            · show Act.put _ (some 32) _ = _
              simp only [Act.put, List.setIfInBounds_toArray, List.set_cons_zero, List.set_cons_succ, i64_w, i32_w]
              rfl
            exact norm_ (by simp only [putAll, Act.put, List.setIfInBounds_toArray, List.set_cons_zero, List.set_cons_succ]) (hCont ⟨e0, v0, e1⟩ _ ⟨HB_0_4_3.out, HS_0_4_3.out⟩)
        · skip
          refine Kd.R_lit_step Kd.string (w0 := w) w.heap.size 9 (by rfl) (N := 33) rfl (xs := []) (inner := []) (ok := fun _ => True) (okp := fun _ => False) ?hr (Reps.none _ _) (fun _ h => h.elim) trivial (below_drew HB.out) ((below_drew HB.out)).size (by simp) ?_
          (case hr => first | (go_simp; done) | (go_simp; rfl))
          intro e1 w_4 hob hbb hgb hnb
          have HB_4 := Aside0.mk hbb
          have HS_4 := Aside0.mk (Sat.lit (Sat.drew HS.out) hob hgb hnb)
          clear hob hbb hgb hnb
          refine hK.out _ _ ⟨(blk_cell (Sat.cell HS_4.out (List.mem_of_getElem? (i := 1) rfl)) 0).trans rfl, (blk_cell (Sat.cell HS_4.out (List.mem_of_getElem? (i := 1) rfl)) 1).trans rfl⟩ (fun hHeld => ?_)
          clear hK K
          refine norm_ (a' := ?_) ?_ ?_
          rotate_left
          · show Act.put _ (some 33) _ = _
            simp only [Act.put, List.setIfInBounds_toArray, List.set_cons_zero, List.set_cons_succ, i64_w, i32_w]
            rfl
          refine one_ (i := 0) (N := some 29) #[true, true, true, false, true, true, true, false, false, false, false] rfl rfl (by kernel_rfl) (by decide) (fun K hK => ?_)
          refine Kd.R_lit_step Kd.string (w0 := w) w.heap.size 9 (by rfl) (N := 29) rfl (xs := []) (inner := []) (ok := fun _ => True) (okp := fun _ => False) ?hr (Reps.none _ _) (fun _ h => h.elim) trivial HB_4.out (HB_4.out).size (by simp) ?_
          (case hr => first | (go_simp; done) | (go_simp; rfl))
          intro e0 w_4_0 hob hbb hgb hnb
          have HB_4_0 := Aside0.mk hbb
          have HS_4_0 := Aside0.mk (Sat.lit HS_4.out hob hgb hnb)
          clear hob hbb hgb hnb
          refine hK.out _ _ ⟨(blk_cell (Sat.cell HS_4_0.out (List.mem_of_getElem? (i := 1) rfl)) 0).trans rfl, (blk_cell (Sat.cell HS_4_0.out (List.mem_of_getElem? (i := 1) rfl)) 1).trans rfl⟩ (fun hHeld => ?_)
          clear hK K
          refine norm_ (a' := ?_) ?_ ?_
          rotate_left
          · show Act.put _ (some 29) _ = _
            simp only [Act.put, List.setIfInBounds_toArray, List.set_cons_zero, List.set_cons_succ, i64_w, i32_w]
            rfl
          refine one_ (i := 3) (N := some 32) #[true, true, true, true, true, true, true, false, false, false, false] rfl rfl (by kernel_rfl) (by decide) (fun K hK => ?_)
          refine Kd.R_append_rows_step Kd.string (w0 := w) w.heap.size (by rfl) (.tmp 29) (.tmp 31) 38 9 (.string ⟨#[]⟩) 16 rfl Try.underlying38 info9 rfl (by decide) (by omega) e0 [] pg.f0 A0 pg.f0.length c0 (fun _ => True) (fun _ => False) rfl rfl (Sat.sr HS_4_0.out 3 rfl) (Kd.C_below HF0.out HB_4_0.out) (fun _ _ h => h) (fun _ h => h.elim) (fun _ _ => trivial) HB_4_0.out (HB_4_0.out).size (by have := HSM.out; simp only [List.length_nil]; omega) ?_
          intro v0 w_4_0_3 ho hb hg hat
          rw [List.nil_append] at ho
          have HB_4_0_3 := Aside0.mk hb
          have HS_4_0_3 := Aside0.mk (Sat.app 3 HS_4_0.out rfl ho hg hat)
          clear ho hb hg hat
          refine hK.out _ _ ⟨(blk_cell (Sat.cell HS_4_0_3.out (List.mem_of_getElem? (i := 1) rfl)) 0).trans rfl, (blk_cell (Sat.cell HS_4_0_3.out (List.mem_of_getElem? (i := 1) rfl)) 1).trans rfl⟩ (fun hHeld => ?_)
          clear hK K
          refine norm_ (a' := ?_) ?_ ?_
          rotate_left
          · show Act.put _ (some 32) _ = _
            simp only [Act.put, List.setIfInBounds_toArray, List.set_cons_zero, List.set_cons_succ, i64_w, i32_w]
            rfl
          exact norm_ (by simp only [putAll, Act.put, List.setIfInBounds_toArray, List.set_cons_zero, List.set_cons_succ]) (hCont ⟨e0, v0, e1⟩ _ ⟨HB_4_0_3.out, Sat.perm HS_4_0_3.out (((List.Perm.swap _ _ _).cons _).cons _)⟩)
      rintro ⟨e0, v0, e1⟩ w5 ⟨hb, hs⟩
      obtain ⟨Av0, cv0, rfl⟩ := Kd.R_slice (Sat.sr hs 2 rfl)
      have hHeld : (w5.cell? ⟨b8, 0, none⟩ = some (.slice A0 pg.f0.length c0)) ∧ (w5.cell? ⟨b8, 1, none⟩ = some (.slice A1 pg.f1.length c1)) := ⟨(blk_cell (Sat.cell hs (List.mem_of_getElem? (i := 1) rfl)) 0).trans rfl, (blk_cell (Sat.cell hs (List.mem_of_getElem? (i := 1) rfl)) 1).trans rfl⟩
      have HB5 := Aside0.mk hb
      have HS5 := Aside0.mk hs
      clear hb hs
      refine norm_ (a' := ?_) ?_ ?_
      rotate_left
      · simp only [putAll, Act.put, List.setIfInBounds_toArray, List.set_cons_zero, List.set_cons_succ]
        rfl
      refine one_ (i := 7) (N := some 36) #[true, true, true, true, true, true, true, true, false, false, false] rfl rfl (by kernel_rfl) (by decide) (fun K hK => ?_)
      refine Kd.R_append_rows_step Kd.string (w0 := w) w.heap.size (by rfl) (.tmp 33) (.tmp 35) 38 9 (.string ⟨#[]⟩) 16 rfl Try.underlying38 info9 rfl (by decide) (by omega) e1 [] pg.f1 A1 pg.f1.length c1 (fun _ => True) (fun _ => False) rfl rfl (Sat.sr HS5.out 3 rfl) (Kd.C_below HF1.out HB5.out) (fun _ _ h => h) (fun _ h => h.elim) (fun _ _ => trivial) HB5.out HB5.out.size (by have := HSM.out; simp only [List.length_nil]; omega) ?_
      intro v1 w6 ho hb hg hat
      rw [List.nil_append] at ho
      obtain ⟨Av1, cv1, rfl⟩ := Kd.R_slice ho
      have n1_ := Aside0.mk hb
      have n2_ := Aside0.mk (Sat.app 3 HS5.out rfl ho hg hat)
      clear ho hb hg hat HB5 HS5
      have HB5 := n1_
      have HS5 := n2_
      clear n1_ n2_
      refine hK.out _ _ ⟨(blk_cell (Sat.cell HS5.out (List.mem_of_getElem? (i := 1) rfl)) 0).trans rfl, (blk_cell (Sat.cell HS5.out (List.mem_of_getElem? (i := 1) rfl)) 1).trans rfl⟩ (fun hHeld => ?_)
      clear hK K
      refine norm_ (a' := ?_) ?_ ?_
      rotate_left
      · show Act.put _ (some 36) _ = _
        simp only [Act.put, List.setIfInBounds_toArray, List.set_cons_zero, List.set_cons_succ, i64_w, i32_w]
        rfl
      refine pure_ (i := 8) (N := some 37) (v := ?_) (a' := ?_) #[true, true, true, true, true, true, true, true, true, false, false] rfl rfl (by kernel_rfl) (fun _ _ _ h => h) (Or.inl ⟨by rfl, ?_⟩) ?_ ?_
      rotate_left
      · intro w'
        go_simp
        with_reducible rfl
      rotate_left
      · simp only [Act.put, List.setIfInBounds_toArray, List.set_cons_zero, List.set_cons_succ, i64_w, i32_w]
        rfl
      refine one_ (i := 9) (N := some 38) #[true, true, true, true, true, true, true, true, true, true, false] rfl rfl (by kernel_rfl) (by decide) (fun K hK => ?_)
      refine box_step (by rfl) (N := 38) rfl (cs := #[.slice Av0 pg.f0.length cv0, .slice Av1 pg.f1.length cv1, .slice none 0 0]) (t := 96) ?hr ?_
      (case hr => first | (go_simp; done) | (go_simp; rfl))
      intro g hg w7 hbox hb
      have HS7 := Aside0.mk (Sat.newBox HS5.out hg hbox hb (by have := HB5.out.size; omega))
      have HB7 := Aside0.mk (below_step HB5.out hb)
      clear hg hbox hb HS5 HB5
      refine hK.out _ _ ⟨(blk_cell (Sat.cell HS7.out (List.mem_of_getElem? (i := 2) rfl)) 0).trans rfl, (blk_cell (Sat.cell HS7.out (List.mem_of_getElem? (i := 2) rfl)) 1).trans rfl⟩ (fun hHeld => ?_)
      clear hK K
      refine norm_ (a' := ?_) ?_ ?_
      rotate_left
      · show Act.put _ (some 38) _ = _
        simp only [Act.put, List.setIfInBounds_toArray, List.set_cons_zero, List.set_cons_succ, i64_w, i32_w]
        rfl
      refine pure_ (i := 10) (N := some 9) (v := ?_) (a' := ?_) #[true, true, true, true, true, true, true, true, true, true, true] rfl rfl (by kernel_rfl) (fun _ _ _ h => h) (Or.inl ⟨by rfl, ?_⟩) ?_ ?_
      rotate_left
      · intro w'
        go_simp
        with_reducible rfl
      rotate_left
      · simp only [Act.put, List.setIfInBounds_toArray, List.set_cons_zero, List.set_cons_succ, i64_w, i32_w]
        rfl
      refine done_ (by kernel_rfl) ?_
      have HS := Aside0.mk (ll_begin (E := 70) (X := [.box 29 b3 #[.slice (some ad) P.length c], .box 110 b8 #[.slice A0 pg.f0.length c0, .slice A1 pg.f1.length c1, .slice A2 pg.f2.length c2]]) HS7.out)
      have HB := HB7
      clear HS7 HB7 hHeld
      have hz3 := HS.out.z 4 rfl 0
      have hz80 := HS.out.z 5 rfl 0
      have hz81 := HS.out.z 5 rfl 1
      have hz82 := HS.out.z 5 rfl 2
      cases hbd : badP pg with
      | true =>
        have HR := Aside0.mk (HBAD.out hbd)
        have hb1 : 4 < pg.f0.length ∨ pg.f1.length ≠ pg.f0.length ∨ (pg.f2.length ≠ 0 ∧ pg.f2.length ≠ pg.f0.length + 1) := by
          unfold badP at hbd
          simp only [Bool.or_eq_true, Bool.and_eq_true, decide_eq_true_eq, bne_iff_ne] at hbd
          omega
        by_cases q1 : 4 < pg.f0.length
        · have t1 : decide (4 < (pg.f0.length : Int)) = true := decide_eq_true (by omega)
          have t1b : (4 < pg.f0.length) = True := eq_true q1
          clear q1 hb1 hbd
          go_wp2
          go_ret2
          exact ⟨HB.out, .inl ⟨HR.out, rfl⟩⟩
        · have t1 : decide (4 < (pg.f0.length : Int)) = false := decide_eq_false (by omega)
          have t1b : (4 < pg.f0.length) = False := eq_false q1
          by_cases q2 : pg.f1.length = pg.f0.length
          · have q3 : pg.f2.length ≠ 0 ∧ pg.f2.length ≠ pg.f0.length + 1 := by omega
            have t2 : ((pg.f1.length : Int) != (pg.f0.length : Int)) = false := ne_f (by omega)
            have t3 : ((pg.f2.length : Int) != 0) = true := ne0_t (by omega)
            have t4 : ((pg.f2.length : Int) != (pg.f0.length : Int) + 1) = true := ne1_t (by omega)
            have t2b : (pg.f1.length != pg.f0.length) = false := nen_f (by omega)
            have t3b : (pg.f2.length != 0) = true := nen_t (by omega)
            have t4b : (pg.f2.length != pg.f0.length + 1) = true := nen_t (by omega)
            have m0 : pg.f0.length ≤ 4 := by omega
            clear q1 q2 q3 hb1 hbd
            go_wp2
            go_ret2
            exact ⟨HB.out, .inl ⟨HR.out, rfl⟩⟩
          · have t2 : ((pg.f1.length : Int) != (pg.f0.length : Int)) = true := ne_t (by omega)
            have t2b : (pg.f1.length != pg.f0.length) = true := nen_t (by omega)
            clear q1 q2 hb1 hbd
            go_wp2
            go_ret2
            exact ⟨HB.out, .inl ⟨HR.out, rfl⟩⟩
      | false =>
        obtain ⟨q1, q2, q3⟩ := bad_parts hbd
        have HR := Aside0.mk (HGO.out hbd)
        have t1 : decide (4 < (pg.f0.length : Int)) = false := decide_eq_false (by omega)
        have t1b : (4 < pg.f0.length) = False := eq_false (by omega)
        have t2 : ((pg.f1.length : Int) != (pg.f0.length : Int)) = false := ne_f (by omega)
        have t2b : (pg.f1.length != pg.f0.length) = false := nen_f (by omega)
        have m0 : pg.f0.length ≤ 4 := by omega
        have HAL := Aside0.mk (show a + 1 ≤ P.length by have := HA.out; omega)
        have ham : a < 1000000000000 := by have := HA.out; omega
        have HM2 := Aside0.mk (show pg.f2.length ≤ 5 by omega)
        by_cases q4 : pg.f2.length = 0
        · have t3 : ((pg.f2.length : Int) != 0) = false := ne0_f (by omega)
          have t3b : (pg.f2.length != 0) = false := nen_f (by omega)
          clear q1 q2 q3 q4 hbd
          go_upto_region 9 with fail
          go_loopg [10, 73] pg.f2.length (fun kq u10 u73 w' => ∃ (i next : Nat) (acc : List NT) (cv : Value), u10 = .int .i64 (next : Int) ∧ u73 = .int .i64 (i : Int) ∧ Aside0 (kq + i = pg.f2.length) ∧ Aside0 (acc.length = i) ∧ Aside0 (R = fin pg (readK (readS P f) (pg.f2.drop i) next (acc.map NT.erase))) ∧ Aside0 (next ≤ P.length) ∧ Aside0 (Sat w' w.heap.size (LL 96 70 g (.slice Av0 pg.f0.length cv0) (.slice Av1 pg.f1.length cv1) cv pg.f0 pg.f1 [.box 29 b3 #[.slice (some ad) P.length c], .box 110 b8 #[.slice A0 pg.f0.length c0, .slice A1 pg.f1.length c1, .slice A2 pg.f2.length c2]] acc)) ∧ Aside0 (Below w.heap.size w w'))
          case atStart => exact ⟨0, a + 1, [], .slice none 0 0, by first | rfl | go_num | (simp; done), by first | rfl | (simp; done), ⟨Nat.add_zero _⟩, ⟨rfl⟩, HR, HAL, HS, HB⟩
          case round =>
            clear HR HS HB hz3 hz80 hz81 hz82 HAL
            obtain ⟨i, next, acc, cv, rfl, rfl, HK, HAC, HR, HNX, HS, HB⟩ := hrel
            have hz3 := HS.out.z 4 rfl 0
            have ci : (0 ≤ (i : Int)) = True := eq_true (by omega)
            by_cases hi : i < pg.f2.length
            · have ce : decide ((i : Int) < (pg.f2.length : Int)) = true := decide_eq_true (by omega)
              have ceb : (i < pg.f2.length) = True := eq_true hi
              have hi5 : i ≤ 5 := by have := HM2.out; omega
              have HI5 := Aside0.mk hi5
              have HI := Aside0.mk hi
              have hnx : next ≤ 1000000000000 := Nat.le_trans HNX.out hNl
              obtain ⟨ad2, hA2, hk0⟩ := Kd.at_int HF2.out (i : Int) (by omega) (by omega)
              subst hA2
              rw [Int.toNat_natCast] at hk0
              have hks : pg.f2[i]? = some (rd pg.f2 (i : Int)) := by unfold rd; rw [Int.toNat_natCast, List.getD_eq_getElem?_getD, List.getElem?_eq_getElem hi]; rfl
              generalize rd pg.f2 (i : Int) = k at hk0 hks
              have hkz := (Below.cell HB.out (World.block_lt_of_cell? w _ hk0)).trans hk0
              have HKS := Aside0.mk hks
              clear hk0 hks hi
              by_cases hkn : k = (next : Int)
              · subst hkn
                cases hrs : readS P f next with
                | none =>
                  have HRS := Aside0.mk hrs
                  have HE := Aside0.mk (readK_off2 HR.out HKS.out rfl hrs)
                  have tm : decide ((-1 : Int) < 0) = true := by decide
                  clear hrs
                  go_wp2_with (go_at_call 95; (with_reducible refine (ih (d + 1) (by have := HD.out; omega) (by omega) next (some ad) c _ (Kd.C_below HP.out HB.out) HM.out HNX.out).mono ?_); rintro e w5 ⟨hb, hr⟩; rw [HRS.out] at hr; obtain ⟨-, rfl⟩ := hr.resolve_right (by rintro ⟨_, _, h, _⟩; cases h); have n2_ := Aside0.mk (below_step HB.out hb); clear HB; have HB := n2_; clear n2_ hb hr)
                  go_ret2
                  exact ⟨HB.out, .inl ⟨HE.out, rfl⟩⟩
                | some tn =>
                  obtain ⟨t, n⟩ := tn
                  have HRS := Aside0.mk hrs
                  have HLE := Aside0.mk (readS_le f next t n hrs)
                  have HE := Aside0.mk (readK_on HR.out HKS.out rfl hrs)
                  have tn0 : decide ((n : Int) < 0) = false := decide_eq_false (by omega)
                  clear hrs
                  go_wp2_with (first | (go_at_call 95; (with_reducible refine (ih (d + 1) (by have := HD.out; omega) (by omega) next (some ad) c _ (Kd.C_below HP.out HB.out) HM.out HNX.out).mono ?_); rintro e w5 ⟨hb, hr⟩; rw [HRS.out] at hr; obtain ⟨nt, n9, h9, rfl, hs⟩ := hr.resolve_left (by rintro ⟨h, _⟩; cases h); injection h9 with h9; injection h9 with h9 h8; subst h9; subst h8; have n1_ := Aside0.mk (ll_kid HS.out hb HB.out.size hs); have n2_ := Aside0.mk (below_step HB.out hb); clear HS; clear HB; have HS := n1_; have HB := n2_; clear n1_ n2_; have hz9 := HS.out.z 0 rfl 2; clear hb hr hs) | ((with_reducible refine gate_builtin (b := .append) (xs := #[.tmp 94, .tmp 96]) rfl ?_); at_builtin; refine Kd.Q_append kptr (w0 := w) w.heap.size rfl (.tmp 94) (.tmp 96) 94 70 (.pointer none) 8 rfl under94 info70 rfl (by decide) (by omega) cv (acc.map NT.p) nt.p [ptrv nt.p] (fun _ => True) (fun _ => False) rfl rfl ?aP (fun _ h => h.elim) ?aF ?aO ?aB ?aS ?aL ?_; (case aP => exact rfl); (case aB => exact HB.out); (case aF => exact fun _ _ => trivial); (case aO => exact ok_pq (HS.out.ok _ (List.mem_of_getElem? (i := 3) rfl))); (case aS => exact HB.out.size); (case aL => rw [List.length_map]; have := HAC.out; have := HI5.out; omega); intro cv' w6 ho hb hg hat; obtain ⟨Aq, nq, cq, rfl⟩ := q_form ho; have n1_ := Aside0.mk (ll_app (x := 0) HS.out ho hg hat); have n2_ := Aside0.mk hb; clear HS; clear HB; have HS := n1_; have HB := n2_; clear n1_ n2_; have hz9b := HS.out.z 0 rfl 2; have hf9b := HS.out.f 0 rfl 2; clear ho hb hg hat))
                  go_roundg (pg.f2.length - (i + 1))
                  case measure => have := HK.out; have := HI.out; omega
                  case rel => exact ⟨i + 1, n, acc ++ [nt], .slice Aq nq cq, by first | rfl | go_num | (simp; done), by first | rfl | go_num | (simp; done), ⟨by have := HK.out; have := HI.out; omega⟩, ⟨by rw [List.length_append, HAC.out]; rfl⟩, ⟨by rw [List.map_append]; exact HE.out⟩, ⟨HLE.out.2⟩, ⟨ll_put HS.out⟩, ⟨HB.out.setCell (p := ⟨g, 2, none⟩) (HS.out.ge ⟨_, List.mem_cons_self, rfl⟩) _⟩⟩
              · have HE := Aside0.mk (readK_off1 HR.out HKS.out hkn)
                have tk : (k != (next : Int)) = true := bne_iff_ne.2 hkn
                clear hkn
                go_wp2
                go_ret2
                exact ⟨HB.out, .inl ⟨HE.out, rfl⟩⟩
            · have ce : decide ((i : Int) < (pg.f2.length : Int)) = false := decide_eq_false (by omega)
              have ceb : (i < pg.f2.length) = False := eq_false hi
              have HE := Aside0.mk (readK_end HR.out (by omega))
              clear hi
              go_wp2
              go_ret2
              exact ⟨HB.out, .inr ⟨.mk g (.slice Av0 pg.f0.length cv0) (.slice Av1 pg.f1.length cv1) cv pg.f0 pg.f1 acc, next, by rw [HE.out, NT.erase, eraseL_map], rfl, ll_end HS.out⟩⟩
        · have t3 : ((pg.f2.length : Int) != 0) = true := ne0_t (by omega)
          have t3b : (pg.f2.length != 0) = true := nen_t (by omega)
          have t4 : ((pg.f2.length : Int) != (pg.f0.length : Int) + 1) = false := ne1_f (by omega)
          have t4b : (pg.f2.length != pg.f0.length + 1) = false := nen_f (by omega)
          clear q1 q2 q3 q4 hbd
          go_upto_region 9 with fail
          go_loopg [10, 73] pg.f2.length (fun kq u10 u73 w' => ∃ (i next : Nat) (acc : List NT) (cv : Value), u10 = .int .i64 (next : Int) ∧ u73 = .int .i64 (i : Int) ∧ Aside0 (kq + i = pg.f2.length) ∧ Aside0 (acc.length = i) ∧ Aside0 (R = fin pg (readK (readS P f) (pg.f2.drop i) next (acc.map NT.erase))) ∧ Aside0 (next ≤ P.length) ∧ Aside0 (Sat w' w.heap.size (LL 96 70 g (.slice Av0 pg.f0.length cv0) (.slice Av1 pg.f1.length cv1) cv pg.f0 pg.f1 [.box 29 b3 #[.slice (some ad) P.length c], .box 110 b8 #[.slice A0 pg.f0.length c0, .slice A1 pg.f1.length c1, .slice A2 pg.f2.length c2]] acc)) ∧ Aside0 (Below w.heap.size w w'))
          case atStart => exact ⟨0, a + 1, [], .slice none 0 0, by first | rfl | go_num | (simp; done), by first | rfl | (simp; done), ⟨Nat.add_zero _⟩, ⟨rfl⟩, HR, HAL, HS, HB⟩
          case round =>
            clear HR HS HB hz3 hz80 hz81 hz82 HAL
            obtain ⟨i, next, acc, cv, rfl, rfl, HK, HAC, HR, HNX, HS, HB⟩ := hrel
            have hz3 := HS.out.z 4 rfl 0
            have ci : (0 ≤ (i : Int)) = True := eq_true (by omega)
            by_cases hi : i < pg.f2.length
            · have ce : decide ((i : Int) < (pg.f2.length : Int)) = true := decide_eq_true (by omega)
              have ceb : (i < pg.f2.length) = True := eq_true hi
              have hi5 : i ≤ 5 := by have := HM2.out; omega
              have HI5 := Aside0.mk hi5
              have HI := Aside0.mk hi
              have hnx : next ≤ 1000000000000 := Nat.le_trans HNX.out hNl
              obtain ⟨ad2, hA2, hk0⟩ := Kd.at_int HF2.out (i : Int) (by omega) (by omega)
              subst hA2
              rw [Int.toNat_natCast] at hk0
              have hks : pg.f2[i]? = some (rd pg.f2 (i : Int)) := by unfold rd; rw [Int.toNat_natCast, List.getD_eq_getElem?_getD, List.getElem?_eq_getElem hi]; rfl
              generalize rd pg.f2 (i : Int) = k at hk0 hks
              have hkz := (Below.cell HB.out (World.block_lt_of_cell? w _ hk0)).trans hk0
              have HKS := Aside0.mk hks
              clear hk0 hks hi
              by_cases hkn : k = (next : Int)
              · subst hkn
                cases hrs : readS P f next with
                | none =>
                  have HRS := Aside0.mk hrs
                  have HE := Aside0.mk (readK_off2 HR.out HKS.out rfl hrs)
                  have tm : decide ((-1 : Int) < 0) = true := by decide
                  clear hrs
                  go_wp2_with (go_at_call 95; (with_reducible refine (ih (d + 1) (by have := HD.out; omega) (by omega) next (some ad) c _ (Kd.C_below HP.out HB.out) HM.out HNX.out).mono ?_); rintro e w5 ⟨hb, hr⟩; rw [HRS.out] at hr; obtain ⟨-, rfl⟩ := hr.resolve_right (by rintro ⟨_, _, h, _⟩; cases h); have n2_ := Aside0.mk (below_step HB.out hb); clear HB; have HB := n2_; clear n2_ hb hr)
                  go_ret2
                  exact ⟨HB.out, .inl ⟨HE.out, rfl⟩⟩
                | some tn =>
                  obtain ⟨t, n⟩ := tn
                  have HRS := Aside0.mk hrs
                  have HLE := Aside0.mk (readS_le f next t n hrs)
                  have HE := Aside0.mk (readK_on HR.out HKS.out rfl hrs)
                  have tn0 : decide ((n : Int) < 0) = false := decide_eq_false (by omega)
                  clear hrs
                  go_wp2_with (first | (go_at_call 95; (with_reducible refine (ih (d + 1) (by have := HD.out; omega) (by omega) next (some ad) c _ (Kd.C_below HP.out HB.out) HM.out HNX.out).mono ?_); rintro e w5 ⟨hb, hr⟩; rw [HRS.out] at hr; obtain ⟨nt, n9, h9, rfl, hs⟩ := hr.resolve_left (by rintro ⟨h, _⟩; cases h); injection h9 with h9; injection h9 with h9 h8; subst h9; subst h8; have n1_ := Aside0.mk (ll_kid HS.out hb HB.out.size hs); have n2_ := Aside0.mk (below_step HB.out hb); clear HS; clear HB; have HS := n1_; have HB := n2_; clear n1_ n2_; have hz9 := HS.out.z 0 rfl 2; clear hb hr hs) | ((with_reducible refine gate_builtin (b := .append) (xs := #[.tmp 94, .tmp 96]) rfl ?_); at_builtin; refine Kd.Q_append kptr (w0 := w) w.heap.size rfl (.tmp 94) (.tmp 96) 94 70 (.pointer none) 8 rfl under94 info70 rfl (by decide) (by omega) cv (acc.map NT.p) nt.p [ptrv nt.p] (fun _ => True) (fun _ => False) rfl rfl ?aP (fun _ h => h.elim) ?aF ?aO ?aB ?aS ?aL ?_; (case aP => exact rfl); (case aB => exact HB.out); (case aF => exact fun _ _ => trivial); (case aO => exact ok_pq (HS.out.ok _ (List.mem_of_getElem? (i := 3) rfl))); (case aS => exact HB.out.size); (case aL => rw [List.length_map]; have := HAC.out; have := HI5.out; omega); intro cv' w6 ho hb hg hat; obtain ⟨Aq, nq, cq, rfl⟩ := q_form ho; have n1_ := Aside0.mk (ll_app (x := 0) HS.out ho hg hat); have n2_ := Aside0.mk hb; clear HS; clear HB; have HS := n1_; have HB := n2_; clear n1_ n2_; have hz9b := HS.out.z 0 rfl 2; have hf9b := HS.out.f 0 rfl 2; clear ho hb hg hat))
                  go_roundg (pg.f2.length - (i + 1))
                  case measure => have := HK.out; have := HI.out; omega
                  case rel => exact ⟨i + 1, n, acc ++ [nt], .slice Aq nq cq, by first | rfl | go_num | (simp; done), by first | rfl | go_num | (simp; done), ⟨by have := HK.out; have := HI.out; omega⟩, ⟨by rw [List.length_append, HAC.out]; rfl⟩, ⟨by rw [List.map_append]; exact HE.out⟩, ⟨HLE.out.2⟩, ⟨ll_put HS.out⟩, ⟨HB.out.setCell (p := ⟨g, 2, none⟩) (HS.out.ge ⟨_, List.mem_cons_self, rfl⟩) _⟩⟩
              · have HE := Aside0.mk (readK_off1 HR.out HKS.out hkn)
                have tk : (k != (next : Int)) = true := bne_iff_ne.2 hkn
                clear hkn
                go_wp2
                go_ret2
                exact ⟨HB.out, .inl ⟨HE.out, rfl⟩⟩
            · have ce : decide ((i : Int) < (pg.f2.length : Int)) = false := decide_eq_false (by omega)
              have ceb : (i < pg.f2.length) = False := eq_false hi
              have HE := Aside0.mk (readK_end HR.out (by omega))
              clear hi
              go_wp2
              go_ret2
              exact ⟨HB.out, .inr ⟨.mk g (.slice Av0 pg.f0.length cv0) (.slice Av1 pg.f1.length cv1) cv pg.f0 pg.f1 acc, next, by rw [HE.out, NT.erase, eraseL_map], rfl, ll_end HS.out⟩⟩
end Go.Proofs.Ytoddejmlcnbdmaa.Tree
namespace Go.Proofs.Ytoddejmlcnbdmaa.Fn
open Go.RowKit Go.Proofs.YtoddejmlcnbdmaaW.PrintWords Go.Proofs.YtoddejmlcnbdmaaW.PrintLast Go.Proofs.YtoddejmlcnbdmaaW.PrintMore
attribute [local go_sem] max2_int min2_int max_two min_two max_three min_three max_four min_four   -- for this text's walks alone
set_option linter.unusedVariables false
set_option linter.unusedSimpArgs false

/-! ### slices_Clone_string_string: function 74 -/
def slices_Clone_string_string.f (l0 : List ByteArray) : Option (List ByteArray) := (some (([] : List ByteArray) : List ByteArray)).bind fun y179 => (if y179.length + l0.length < 8796093022208 then (some (y179 ++ l0)) else (none))
theorem slices_Clone_string_string.nil_ (w : World) (a : Option Addr) (n c : Nat) : (binOp .eql 38 (.slice a n c) (.slice none 0 0)).run Try.prog w = .ok (.bool a.isNone) w := Go.Proofs.Ytoddejmlcnbdmaa.Gen.eql_nil w _ _ a n c Try.underlying38
attribute [local go_sem] slices_Clone_string_string.nil_
set_option maxHeartbeats 8000000 in
set_option maxRecDepth 100000 in
theorem slices_Clone_string_string.calls (A0 : Option Addr) (c0 : Nat) (l0 : List ByteArray) (r : List ByteArray) (w : World) (hr0 : Kd.C Kd.string w A0 l0.length l0) (hc0 : l0.length ≤ c0) (h : slices_Clone_string_string.f l0 = some r) :
    Calls Try.prog 74 #[.slice A0 l0.length c0] w fun e w' => ∃ v0_ : Value, e = .returned (v0_) ∧ Kd.R Kd.string 9 w' w.heap.size (fun _ => True) v0_ r ∧ Below w.heap.size w w' := by
  have HR0 := Aside0.mk hr0
  have HC0 := Aside0.mk hc0
  clear hr0 hc0
  have HB := Aside0.mk (Below.refl w.heap.size w)
  have H : ((some (([] : List ByteArray) : List ByteArray)).bind fun y179 => (if y179.length + l0.length < 8796093022208 then (some (y179 ++ l0)) else (none))) = some r := h
  clear h
  obtain ⟨y179, hy179⟩ : ∃ y_ : List ByteArray, y_ = (([] : List ByteArray)) := ⟨_, rfl⟩
  replace H : (if y179.length + l0.length < 8796093022208 then (some (y179 ++ l0)) else (none)) = some r := by first | (rw [hy179]; with_reducible exact H) | (have H2_ := (Option.bind_some _ _).symm.trans H; rw [hy179]; with_reducible exact H2_) | (have H2_ := (Option.bind_some _ _).symm.trans H; with_reducible exact H2_) | with_reducible exact H | (rw [hy179]; exact H) | exact H
  have Ny179 := Aside0.mk hy179
  clear hy179
  by_cases c2 : y179.length + l0.length < 8796093022208
  · rw [if_pos c2] at H
    have LMc2 := Aside0.mk c2
    clear c2
    obtain ⟨y182, hy182⟩ : ∃ y_ : List ByteArray, y_ = (y179 ++ l0) := ⟨_, rfl⟩
    replace H : (some y182) = some r := by first | (rw [hy182]; with_reducible exact H) | (have H2_ := (Option.bind_some _ _).symm.trans H; rw [hy182]; with_reducible exact H2_) | (have H2_ := (Option.bind_some _ _).symm.trans H; with_reducible exact H2_) | with_reducible exact H | (rw [hy182]; exact H) | exact H
    have Ny182 := Aside0.mk hy182
    clear hy182
    obtain rfl := Option.some.inj H
    rcases A0 with _ | ad_
    · have e0_ : l0 = [] := by
        rcases Nat.eq_zero_or_pos l0.length with h_ | h_
        · exact List.length_eq_zero_iff.1 h_
        · obtain ⟨_, _, hz_⟩ := HR0.out
          obtain ⟨ad_, hz_, _⟩ := hz_ h_
          cases hz_
      subst e0_
      have e1_ : y182 = [] := by rw [Ny182.out, Ny179.out]; rfl
      subst e1_
      go_enter Try.func74, Try.ntmps74
      go_wp2
      go_ret
      exact ⟨_, rfl, Kd.R_nil _ _ _ _ _, HB.out⟩
    go_enter Try.func74, Try.ntmps74
    go_wp2_with (first | ((with_reducible refine gate_dst (N := 5) rfl ?_); refine Kd.R_lit Kd.string _ 9 ?hg (N := 5) ?hd (xs := ([] : List ByteArray)) (inner := []) (ok := fun _ => True) (okp := fun _ => True) ?hr ?hp (fun _ hk => hk) trivial (Below.refl _ _) (Nat.le_refl _) (by simp) ?_; (case hd => rfl); (case hg => rfl); (case hr => first | (go_simp; done) | (go_simp; rfl)); (case hp => exact (Reps.none _ _)); intro v180 w3 ho4 hb hg_ hnew_; clear hg_ hnew_; (first | rw [← Ny179.out] at ho4 | (simp only [Int.reduceToNat] at ho4; rw [← Ny179.out] at ho4)); have n0_ := Aside0.mk (Kd.R_lower ho4 (below_size (by repeat (first | (with_reducible first | exact HB.out | apply below_alloc | apply pw_below_drewN | apply below_drew1) | exact HB.out)))); have n1_ := Aside0.mk (below_step (by repeat (first | (with_reducible first | exact HB.out | apply below_alloc | apply pw_below_drewN | apply below_drew1) | exact HB.out)) hb); clear HB; have HO181 := n0_; have HB := n1_; clear n0_ n1_; clear hb ho4) | ((with_reducible refine gate_builtin (b := .append) (xs := #[.tmp 5, .tmp 6]) rfl ?_); at_builtin; refine Kd.R_append_rows Kd.string (w0 := w) w.heap.size rfl (.tmp 5) (.tmp 6) 38 9 (.string ⟨#[]⟩) 16 rfl Try.underlying38 info9 rfl (by decide) (by omega) v180 y179 l0 _ _ _ (fun _ => True) (fun _ => False) rfl rfl ?aO ?aR (fun _ _ h => h) (fun _ h => h.elim) ?aF ?aB ?aS ?aL ?_; (case aR => repeat (first | exact (Kd.C_below HR0.out HB.out) | (with_reducible refine Kd.C_alloc ?_ _) | (with_reducible refine Kd.C_drewN ?_ _) | (with_reducible refine Kd.C_drew ?_))); (case aB => exact (by repeat (first | (with_reducible first | exact HB.out | apply below_alloc | apply pw_below_drewN | apply below_drew1) | exact HB.out))); (case aF => exact (fun _ _ => trivial)); (case aO => exact (by (with_reducible repeat (first | apply Kd.R_alloc | apply Kd.R_drewN | apply Kd.R_drew)); exact HO181.out)); (case aS => exact (below_size (by repeat (first | (with_reducible first | exact HB.out | apply below_alloc | apply pw_below_drewN | apply below_drew1) | exact HB.out)))); (case aL => have := LMc2.out; omega); intro v183 w5 ho hb hg hat; rw [← Ny182.out] at ho; have n0_ := Aside0.mk (hb); have n1_ := Aside0.mk (ho); clear HB; clear HO181; have HB := n0_; have HO184 := n1_; clear n0_ n1_; clear ho hb hg hat))
    go_ret
    exact ⟨_, by first | rfl | (simp [errW_none, errW_some] <;> rfl) | (simp [*, errW_none, errW_some] <;> rfl), by (with_reducible repeat (first | apply Kd.R_alloc | apply Kd.R_drewN | apply Kd.R_drew)); exact HO184.out, by repeat (first | (with_reducible first | exact HB.out | apply below_alloc | apply pw_below_drewN | apply below_drew1) | exact HB.out)⟩
  · rw [if_neg c2] at H
    exact absurd H (by simp)

end Go.Proofs.Ytoddejmlcnbdmaa.Fn
namespace Go.Proofs.Ytoddejmlcnbdmaa.Tree
open Go.Proofs.Ytoddejmlcnbdmaa.Gen
open Go.RowKit Go.Proofs.YtoddejmlcnbdmaaW.PrintWords Go.Proofs.YtoddejmlcnbdmaaW.PrintLast Go.Proofs.YtoddejmlcnbdmaaW.PrintMore Go.Proofs.Ytoddejmlcnbdmaa.Fn
set_option linter.unusedVariables false
set_option linter.unusedSimpArgs false
set_option maxHeartbeats 8000000
set_option maxRecDepth 100000

theorem clone_some {l : List ByteArray} (h : l.length < 8796093022208) : slices_Clone_string_string.f l = some l := by
  unfold slices_Clone_string_string.f
  simp only [Option.bind_some, List.length_nil, Nat.zero_add]
  rw [if_pos h]
  rfl
/-- A new row of texts, behind. -/
theorem Sat.newTxt {W w1 : World} {base : Nat} {L : List Ck} {v : Value} {l : List ByteArray} (h : Sat W base L) (ho : Kd.string.R 9 w1 W.heap.size (fun _ => True) v l) (hb : Below W.heap.size W w1) (hbase : base ≤ W.heap.size) : Sat w1 base (L ++ [txt v l]) :=
  h.behind hb hbase (Sat.one (sr_ok ho))
theorem blk_far {w : World} {g : Nat} {o : Obj} (h : w.heap[g]? = some o) {p : Addr} (hp : g ≠ p.block) (u : Value) : (w.setCell p u).heap[g]? = some o := (Below.heap_setCell w p u g hp).trans h
theorem impl_node.calls (P : List S110) (hN : P.length ≤ 1000000000000) (w0 : World) (A : Option Addr) (c : Nat) (hp : Kd.C k110 w0 A P.length P) (hm : ∀ p ∈ P, p.f0.length ≤ 1000000000000 ∧ p.f1.length ≤ 1000000000000 ∧ p.f2.length ≤ 1000000000000) : ∀ (f next : Nat), P.length < next + f → next ≤ P.length → ∀ (gb : Nat) (w : World), Below w0.heap.size w0 w → w0.heap.size ≤ gb → w.heap[gb]? = some (.cells #[.slice A P.length c, .int .i64 (next : Int)] 121 (0, 0)) →
    Calls Try.prog 97 #[ptrv gb] w (NodeR w0 w gb (.slice A P.length c) (readS P f next)) := by
  intro f
  induction f with
  | zero =>
    intro next hf hn
    omega
  | succ f ih =>
    intro next hf hn gb w hb hgb hg
    have HB := Aside0.mk hb
    have HG := Aside0.mk hg
    have HGB := Aside0.mk hgb
    have HGL := Aside0.mk (blk_lt hg)
    have hz0 := (blk_cell hg 0).trans rfl
    have hz1 := (blk_cell hg 1).trans rfl
    by_cases h1 : next = P.length
    · subst h1
      have HR := Aside0.mk (readS_none1 (P := P) (f := f + 1) (Nat.le_refl _))
      clear hf hn hb hgb hg
      go_enter Try.func97, Try.ntmps97
      go_wp2
      go_quiet (fail)
      go_wp2
      go_ret2
      exact ⟨pw_below_drewN HB.out _, .inl ⟨HR.out, rfl⟩⟩
    · have hal : next < P.length := by omega
      have c1b : ((next : Int) == (P.length : Int)) = false := by rw [beq_eq_false_iff_ne]; omega
      have c1c : (next == P.length) = false := by rw [beq_eq_false_iff_ne]; omega
      have c1d : (next = P.length) = False := eq_false h1
      have c1e : (next < P.length) = True := eq_true hal
      have c1f : ((next : Int) < (P.length : Int)) = True := eq_true (by omega)
      have c1g : (0 ≤ (next : Int)) = True := eq_true (by omega)
      have hNl : P.length ≤ 1000000000000 := hN
      have hnx : next < 1000000000000 := by omega
      have HA := Aside0.mk hal
      have HF := Aside0.mk hf
      have HSM0 := hm _ (List.getElem_mem (l := P) hal)
      have hpg : P[next] = rd_T110 P (next : Int) := by unfold rd_T110; rw [Int.toNat_natCast, List.getD_eq_getElem?_getD, List.getElem?_eq_getElem hal]; rfl
      have hpg2 : P.getD next z110 = rd_T110 P (next : Int) := by unfold rd_T110; rw [Int.toNat_natCast]
      rw [hpg] at HSM0
      obtain ⟨ad, A0, c0, A1, c1, A2, c2, hAA, hx0, hx1, hx2, hl0, hf0, hl1, hf1, hl2, hf2⟩ := at_T110 hp (next : Int) (by omega) (by omega)
      subst hAA
      obtain ⟨R, hR⟩ : ∃ R, R = readS P (f + 1) next := ⟨_, rfl⟩
      have hgo : badP (P.getD next z110) = false → R = fin (P.getD next z110) (readK (readS P f) ((P.getD next z110).f2.drop 0) (next + 1) []) := fun hb => hR.trans (readS_go (P := P) (f := f) (by omega) hb)
      have hbad : badP (P.getD next z110) = true → R = none := fun hb => hR.trans (readS_bad (P := P) (f := f) (at_ := next) hb)
      rw [hpg2] at hgo hbad
      rw [← hR]
      rw [Int.toNat_natCast] at hx0 hx1 hx2
      generalize rd_T110 P (next : Int) = pg at *
      have HX0 := Aside0.mk hx0
      have HX1 := Aside0.mk hx1
      have HX2 := Aside0.mk hx2
      have HF0 := Aside0.mk hf0
      have HF1 := Aside0.mk hf1
      have HF2 := Aside0.mk hf2
      have HC0 := Aside0.mk hl0
      have HC1 := Aside0.mk hl1
      have HSM := Aside0.mk HSM0
      have HGO := Aside0.mk hgo
      have HBAD := Aside0.mk hbad
      clear h1 hn hf hl0 hf0 hl1 hf1 hl2 hf2 hx0 hx1 hx2 HSM0 hgo hbad hpg hpg2 hal hR hb hgb hg
      go_enter Try.func97, Try.ntmps97
      go_wp2
      go_quiet (fail)
      go_wp2
      generalize hW : World.drewN w _ = w1
      have n1_ := Aside0.mk (show Below w0.heap.size w0 w1 by rw [← hW]; exact pw_below_drewN HB.out _)
      have n2_ := Aside0.mk (show w1.heap[gb]? = some (.cells #[.slice (some ad) P.length c, .int .i64 (next : Int)] 121 (0, 0)) by rw [← hW]; exact HG.out)
      have HKP := Aside0.mk (show Kept w w1 (fun k => k = gb) by rw [← hW]; exact (Kept.refl w _).drewN _)
      have HS := Aside0.mk (Sat.nil w1 w.heap.size)
      clear HB; clear HG; clear hW hz0 hz1
      have HB := n1_
      have HG := n2_
      clear n1_ n2_
      refine start_ (n := 12) (S := fun w' => w'.cell? ⟨gb, 0, none⟩ = some (.slice (some ad) P.length c) ∧ w'.cell? ⟨gb, 1, none⟩ = some (.int .i64 (next : Int)) ∧ w'.cell? (ad.add (next * 3)) = some (.slice A0 pg.f0.length c0) ∧ w'.cell? ⟨(ad.add (next * 3)).block, (ad.add (next * 3)).off + 1, none⟩ = some (.slice A1 pg.f1.length c1) ∧ w'.cell? ⟨(ad.add (next * 3)).block, (ad.add (next * 3)).off + 2, none⟩ = some (.slice A2 pg.f2.length c2)) (ds := [11]) #[false, false, false, false, false, false, false, false, false, false, false, false] (by kernel_rfl) rfl rfl ⟨(blk_cell HG.out 0).trans rfl, (blk_cell HG.out 1).trans rfl, (Below.cell (below_drew HB.out) (World.block_lt_of_cell? w0 _ HX0.out)).trans HX0.out, (Below.cell (below_drew HB.out) (World.block_lt_of_cell? w0 _ HX1.out)).trans HX1.out, (Below.cell (below_drew HB.out) (World.block_lt_of_cell? w0 _ HX2.out)).trans HX2.out⟩ (fun hHeld => ?_)
      refine pure_ (i := 0) (N := some 20) (v := ?_) (a' := ?_) #[true, false, false, false, false, false, false, false, false, false, false, false] rfl rfl (by kernel_rfl) (fun _ _ _ h => h) (Or.inl ⟨by rfl, ?_⟩) ?_ ?_
      rotate_left
      · intro w'
        go_simp
        with_reducible rfl
      rotate_left
      · simp only [Act.put, List.setIfInBounds_toArray, List.set_cons_zero, List.set_cons_succ, i64_w, i32_w]
        rfl
      refine pure_ (i := 1) (N := some 21) (v := ?_) (a' := ?_) #[true, true, false, false, false, false, false, false, false, false, false, false] rfl rfl (by kernel_rfl) (fun _ _ _ h => h) (Or.inl ⟨by rfl, ?_⟩) ?_ ?_
      rotate_left
      · intro w'
        go_simp
        with_reducible rfl
      rotate_left
      · simp only [Act.put, List.setIfInBounds_toArray, List.set_cons_zero, List.set_cons_succ, i64_w, i32_w]
        rfl
      refine pure_ (i := 2) (N := some 22) (v := ?_) (a' := ?_) #[true, true, true, false, false, false, false, false, false, false, false, false] rfl rfl (by kernel_rfl) (fun _ _ _ h => h) (Or.inl ⟨by rfl, ?_⟩) ?_ ?_
      rotate_left
      · intro w'
        go_simp
        with_reducible rfl
      rotate_left
      · simp only [Act.put, List.setIfInBounds_toArray, List.set_cons_zero, List.set_cons_succ, i64_w, i32_w]
        rfl
      refine pure_ (i := 4) (N := some 24) (v := ?_) (a' := ?_) #[true, true, true, false, true, false, false, false, false, false, false, false] rfl rfl (by kernel_rfl) (fun _ _ _ h => h) (Or.inl ⟨by rfl, ?_⟩) ?_ ?_
      rotate_left
      · intro w'
        go_simp
        with_reducible rfl
      rotate_left
      · simp only [Act.put, List.setIfInBounds_toArray, List.set_cons_zero, List.set_cons_succ, i64_w, i32_w]
        rfl
      refine pure_ (i := 5) (N := some 25) (v := ?_) (a' := ?_) #[true, true, true, false, true, true, false, false, false, false, false, false] rfl rfl (by kernel_rfl) (fun _ _ _ h => h) (Or.inl ⟨by rfl, ?_⟩) ?_ ?_
      rotate_left
      · intro w'
        go_simp
        with_reducible rfl
      rotate_left
      · simp only [Act.put, List.setIfInBounds_toArray, List.set_cons_zero, List.set_cons_succ, i64_w, i32_w]
        rfl
      refine pure_ (i := 6) (N := some 26) (v := ?_) (a' := ?_) #[true, true, true, false, true, true, true, false, false, false, false, false] rfl rfl (by kernel_rfl) (fun _ _ _ h => h) (Or.inl ⟨by rfl, ?_⟩) ?_ ?_
      rotate_left
      · intro w'
        go_simp
        with_reducible rfl
      rotate_left
      · simp only [Act.put, List.setIfInBounds_toArray, List.set_cons_zero, List.set_cons_succ, i64_w, i32_w]
        rfl
      refine take_ (i := 3) (N := some 23) (v := ?_) (a' := ?_) #[true, true, true, true, true, true, true, false, false, false, false, false] rfl rfl (by kernel_rfl) (fun _ _ _ h => h) (Or.inl ⟨by rfl, ?_⟩) hHeld ?_ ?_
      rotate_left
      · rintro w' ⟨s0, s1, s2, s3, s4⟩
        go_simp
        with_reducible rfl
      rotate_left
      · simp only [Act.put, List.setIfInBounds_toArray, List.set_cons_zero, List.set_cons_succ, i64_w, i32_w]
        rfl
      refine take_ (i := 7) (N := some 27) (v := ?_) (a' := ?_) #[true, true, true, true, true, true, true, true, false, false, false, false] rfl rfl (by kernel_rfl) (fun _ _ _ h => h) (Or.inl ⟨by rfl, ?_⟩) hHeld ?_ ?_
      rotate_left
      · rintro w' ⟨s0, s1, s2, s3, s4⟩
        go_simp
        with_reducible rfl
      rotate_left
      · simp only [Act.put, List.setIfInBounds_toArray, List.set_cons_zero, List.set_cons_succ, i64_w, i32_w]
        rfl
      refine pure_ (i := 8) (N := some 28) (v := ?_) (a' := ?_) #[true, true, true, true, true, true, true, true, true, false, false, false] rfl rfl (by kernel_rfl) (fun _ _ _ h => h) (Or.inl ⟨by rfl, ?_⟩) ?_ ?_
      rotate_left
      · intro w'
        go_simp
        with_reducible rfl
      rotate_left
      · simp only [Act.put, List.setIfInBounds_toArray, List.set_cons_zero, List.set_cons_succ, i64_w, i32_w]
        rfl
      refine take_ (i := 9) (N := some 29) (v := ?_) (a' := ?_) #[true, true, true, true, true, true, true, true, true, true, false, false] rfl rfl (by kernel_rfl) (fun _ _ _ h => h) (Or.inl ⟨by rfl, ?_⟩) hHeld ?_ ?_
      rotate_left
      · rintro w' ⟨s0, s1, s2, s3, s4⟩
        go_simp
        with_reducible rfl
      rotate_left
      · simp only [Act.put, List.setIfInBounds_toArray, List.set_cons_zero, List.set_cons_succ, i64_w, i32_w]
        rfl
      refine one_ (i := 10) (N := some 4) #[true, true, true, true, true, true, true, true, true, true, true, false] rfl rfl (by kernel_rfl) (by decide) (fun K hK => ?_)
      refine box_step (by rfl) (N := 4) rfl (cs := #[.slice none 0 0, .slice none 0 0, .slice none 0 0]) (t := 110) ?hr ?_
      (case hr => first | (go_simp; done) | (go_simp; rfl))
      intro b8 hg w2 hbox hb
      have HS2 := Aside0.mk (Sat.newBox (Sat.drew HS.out) hg hbox hb HKP.out.1)
      have HB2 := Aside0.mk (below_step (below_drew HB.out) hb)
      have HKP2 := Aside0.mk ((HKP.out.drew).below hb)
      have HG2 := Aside0.mk (blk_below (w := World.drew w1) HG.out hb)
      have hz80 := HS2.out.z 0 rfl 0
      have hz81 := HS2.out.z 0 rfl 1
      have hz82 := HS2.out.z 0 rfl 2
      have hf80 := HS2.out.f 0 rfl 0
      have hf81 := HS2.out.f 0 rfl 1
      have hf82 := HS2.out.f 0 rfl 2
      clear hg hbox hb
      refine hK.out _ _ ⟨(blk_cell HG2.out 0).trans rfl, (blk_cell HG2.out 1).trans rfl, (Below.cell HB2.out (World.block_lt_of_cell? w0 _ HX0.out)).trans HX0.out, (Below.cell HB2.out (World.block_lt_of_cell? w0 _ HX1.out)).trans HX1.out, (Below.cell HB2.out (World.block_lt_of_cell? w0 _ HX2.out)).trans HX2.out⟩ (fun hHeld => ?_)
      clear hK K
      refine norm_ (a' := ?_) ?_ ?_
      rotate_left
      · show Act.put _ (some 4) _ = _
        simp only [Act.put, List.setIfInBounds_toArray, List.set_cons_zero, List.set_cons_succ, i64_w, i32_w]
        rfl
      refine last_ (i := 11) (N := none) #[true, true, true, true, true, true, true, true, true, true, true, true] rfl rfl (by kernel_rfl) (by decide) (fun K hK => ?_)
      refine skip_ (w1 := ?_) (by rfl) rfl ?_ ?_
      rotate_left
      · go_simp
        rfl
      refine hK.out _ _ ?_
      clear hK K
      refine done_ (by kernel_rfl) ?_
      have n1_ := Aside0.mk (Sat.put3 HS2.out (.slice A0 pg.f0.length c0) (.slice A1 pg.f1.length c1) (.slice A2 pg.f2.length c2))
      have hge : w.heap.size ≤ b8 := HS2.out.ge ⟨_, List.mem_cons_self, rfl⟩
      have hne : gb ≠ b8 := by have := HGL.out; omega
      have hw0 : w0.heap.size ≤ b8 := by have := HGL.out; have := HGB.out; omega
      have n2_ : Aside0 (Below w0.heap.size w0 (((w2.setCell ⟨b8, 0, none⟩ (.slice A0 pg.f0.length c0)).setCell ⟨b8, 1, none⟩ (.slice A1 pg.f1.length c1)).setCell ⟨b8, 2, none⟩ (.slice A2 pg.f2.length c2))) := ⟨((HB2.out.setCell (p := ⟨b8, 0, none⟩) hw0 _).setCell (p := ⟨b8, 1, none⟩) hw0 _).setCell (p := ⟨b8, 2, none⟩) hw0 _⟩
      have n3_ : Aside0 (Kept w (((w2.setCell ⟨b8, 0, none⟩ (.slice A0 pg.f0.length c0)).setCell ⟨b8, 1, none⟩ (.slice A1 pg.f1.length c1)).setCell ⟨b8, 2, none⟩ (.slice A2 pg.f2.length c2)) (fun k => k = gb)) := ⟨((HKP2.out.setCell (p := ⟨b8, 0, none⟩) (.inr hge) _).setCell (p := ⟨b8, 1, none⟩) (.inr hge) _).setCell (p := ⟨b8, 2, none⟩) (.inr hge) _⟩
      have n4_ : Aside0 ((((w2.setCell ⟨b8, 0, none⟩ (.slice A0 pg.f0.length c0)).setCell ⟨b8, 1, none⟩ (.slice A1 pg.f1.length c1)).setCell ⟨b8, 2, none⟩ (.slice A2 pg.f2.length c2)).heap[gb]? = some (.cells #[.slice (some ad) P.length c, .int .i64 (next : Int)] 121 (0, 0))) := ⟨blk_far (p := ⟨b8, 2, none⟩) (blk_far (p := ⟨b8, 1, none⟩) (blk_far (p := ⟨b8, 0, none⟩) HG2.out hne _) hne _) hne _⟩
      clear HS2; clear HB2; clear HKP2; clear HG2; clear HS; clear HB; clear HKP; clear HG; clear hz80 hz81 hz82 hf80 hf81 hf82 hge hne hw0
      generalize ((w2.setCell ⟨b8, 0, none⟩ (.slice A0 pg.f0.length c0)).setCell ⟨b8, 1, none⟩ (.slice A1 pg.f1.length c1)).setCell ⟨b8, 2, none⟩ (.slice A2 pg.f2.length c2) = w3 at *
      have HS := n1_
      have HB := n2_
      have HKP := n3_
      have HG := n4_
      clear n1_ n2_ n3_ n4_
      have hz1 : w3.cell? ⟨gb, 1, none⟩ = some (.int .i64 (next : Int)) := (blk_cell HG.out 1).trans rfl
      have hf1 := blk_frozen HG.out 1
      go_upto_region 5 with fail
      have n1_ := Aside0.mk (Sat.far HS.out (p := ⟨gb, 1, none⟩) HGL.out (.int .i64 ((next : Int) + 1)))
      have n2_ := Aside0.mk (HB.out.setCell (p := ⟨gb, 1, none⟩) HGB.out (.int .i64 ((next : Int) + 1)))
      have n3_ := Aside0.mk (HKP.out.setCell (p := ⟨gb, 1, none⟩) (.inl rfl) (.int .i64 ((next : Int) + 1)))
      have n4_ : Aside0 ((w3.setCell ⟨gb, 1, none⟩ (.int .i64 ((next : Int) + 1))).heap[gb]? = some (.cells #[.slice (some ad) P.length c, .int .i64 ((next + 1 : Nat) : Int)] 121 (0, 0))) := ⟨blk_put HG.out 1 _ rfl⟩
      clear HS; clear HB; clear HKP; clear HG; clear hz1 hf1
      generalize w3.setCell ⟨gb, 1, none⟩ (.int .i64 ((next : Int) + 1)) = w4 at *
      have HS := n1_
      have HB := n2_
      have HKP := n3_
      have HG := n4_
      clear n1_ n2_ n3_ n4_
      have hz80 := HS.out.z 0 rfl 0
      have hz81 := HS.out.z 0 rfl 1
      have hz82 := HS.out.z 0 rfl 2
      cases hbd : badP pg with
      | true =>
        have HR := Aside0.mk (HBAD.out hbd)
        have hb1 : 4 < pg.f0.length ∨ pg.f1.length ≠ pg.f0.length ∨ (pg.f2.length ≠ 0 ∧ pg.f2.length ≠ pg.f0.length + 1) := by
          unfold badP at hbd
          simp only [Bool.or_eq_true, Bool.and_eq_true, decide_eq_true_eq, bne_iff_ne] at hbd
          omega
        by_cases q1 : 4 < pg.f0.length
        · have t1 : decide (4 < (pg.f0.length : Int)) = true := decide_eq_true (by omega)
          have t1b : (4 < pg.f0.length) = True := eq_true q1
          clear q1 hb1 hbd
          go_wp2
          go_ret2
          exact ⟨HB.out, .inl ⟨HR.out, rfl⟩⟩
        · have t1 : decide (4 < (pg.f0.length : Int)) = false := decide_eq_false (by omega)
          have t1b : (4 < pg.f0.length) = False := eq_false q1
          by_cases q2 : pg.f1.length = pg.f0.length
          · have q3 : pg.f2.length ≠ 0 ∧ pg.f2.length ≠ pg.f0.length + 1 := by omega
            have t2 : ((pg.f1.length : Int) != (pg.f0.length : Int)) = false := ne_f (by omega)
            have t3 : decide (0 < (pg.f2.length : Int)) = true := decide_eq_true (by omega)
            have t4 : ((pg.f2.length : Int) != (pg.f0.length : Int) + 1) = true := ne1_t (by omega)
            have t2b : (pg.f1.length != pg.f0.length) = false := nen_f (by omega)
            have t3b : (0 < pg.f2.length) = True := eq_true (by omega)
            have t4b : (pg.f2.length != pg.f0.length + 1) = true := nen_t (by omega)
            have m0 : pg.f0.length ≤ 4 := by omega
            clear q1 q2 q3 hb1 hbd
            go_wp2
            go_ret2
            exact ⟨HB.out, .inl ⟨HR.out, rfl⟩⟩
          · have t2 : ((pg.f1.length : Int) != (pg.f0.length : Int)) = true := ne_t (by omega)
            have t2b : (pg.f1.length != pg.f0.length) = true := nen_t (by omega)
            clear q1 q2 hb1 hbd
            go_wp2
            go_ret2
            exact ⟨HB.out, .inl ⟨HR.out, rfl⟩⟩
      | false =>
        obtain ⟨q1, q2, q3⟩ := bad_parts hbd
        have HR := Aside0.mk (HGO.out hbd)
        have t1 : decide (4 < (pg.f0.length : Int)) = false := decide_eq_false (by omega)
        have t1b : (4 < pg.f0.length) = False := eq_false (by omega)
        have t2 : ((pg.f1.length : Int) != (pg.f0.length : Int)) = false := ne_f (by omega)
        have t2b : (pg.f1.length != pg.f0.length) = false := nen_f (by omega)
        have m0 : pg.f0.length ≤ 4 := by omega
        have HM2 := Aside0.mk (show pg.f2.length ≤ 5 by omega)
        by_cases q4 : pg.f2.length = 0
        · have t3 : decide (0 < (pg.f2.length : Int)) = false := decide_eq_false (by omega)
          have t3b : (0 < pg.f2.length) = False := eq_false (by omega)
          clear q1 q2 q3 q4 hbd
          go_upto_region 7 with fail
          refine start_ (n := 9) (S := fun w' => w'.cell? ⟨b8, 0, none⟩ = some (.slice A0 pg.f0.length c0) ∧ w'.cell? ⟨b8, 1, none⟩ = some (.slice A1 pg.f1.length c1)) (ds := []) #[false, false, false, false, false, false, false, false, false] (by kernel_rfl) rfl rfl ⟨(HS.out.z 0 rfl 0), (HS.out.z 0 rfl 1)⟩ (fun hHeld => ?_)
          refine pure_ (i := 0) (N := some 66) (v := ?_) (a' := ?_) #[true, false, false, false, false, false, false, false, false] rfl rfl (by kernel_rfl) (fun _ _ _ h => h) (Or.inl ⟨by rfl, ?_⟩) ?_ ?_
          rotate_left
          · intro w'
            go_simp
            with_reducible rfl
          rotate_left
          · simp only [Act.put, List.setIfInBounds_toArray, List.set_cons_zero, List.set_cons_succ, i64_w, i32_w]
            rfl
          refine pure_ (i := 3) (N := some 69) (v := ?_) (a' := ?_) #[true, false, false, true, false, false, false, false, false] rfl rfl (by kernel_rfl) (fun _ _ _ h => h) (Or.inl ⟨by rfl, ?_⟩) ?_ ?_
          rotate_left
          · intro w'
            go_simp
            with_reducible rfl
          rotate_left
          · simp only [Act.put, List.setIfInBounds_toArray, List.set_cons_zero, List.set_cons_succ, i64_w, i32_w]
            rfl
          refine take_ (i := 1) (N := some 67) (v := ?_) (a' := ?_) #[true, true, false, true, false, false, false, false, false] rfl rfl (by kernel_rfl) (fun _ _ _ h => h) (Or.inl ⟨by rfl, ?_⟩) hHeld ?_ ?_
          rotate_left
          · rintro w' ⟨s0, s1⟩
            go_simp
            with_reducible rfl
          rotate_left
          · simp only [Act.put, List.setIfInBounds_toArray, List.set_cons_zero, List.set_cons_succ, i64_w, i32_w]
            rfl
          refine take_ (i := 4) (N := some 70) (v := ?_) (a' := ?_) #[true, true, false, true, true, false, false, false, false] rfl rfl (by kernel_rfl) (fun _ _ _ h => h) (Or.inl ⟨by rfl, ?_⟩) hHeld ?_ ?_
          rotate_left
          · rintro w' ⟨s0, s1⟩
            go_simp
            with_reducible rfl
          rotate_left
          · simp only [Act.put, List.setIfInBounds_toArray, List.set_cons_zero, List.set_cons_succ, i64_w, i32_w]
            rfl
          refine one_ (i := 2) (N := some 68) #[true, true, true, true, true, false, false, false, false] rfl rfl (by kernel_rfl) (by decide) (fun K hK => ?_)
          refine goes_ Try.func74 (by kernel_rfl) rfl #[.slice A0 pg.f0.length c0] (by rfl) rfl rfl (by simp only [List.map_toArray, List.map_cons, List.map_nil]; rfl) ?_
          with_reducible refine (slices_Clone_string_string.calls A0 c0 pg.f0 pg.f0 _ (Kd.C_below HF0.out (below_drew HB.out)) HC0.out (clone_some (by have := HSM.out; omega))).mono ?_
          rintro e w5 ⟨v0, rfl, ho, hb⟩
          refine ⟨_, rfl, ?_⟩
          obtain ⟨Av0, cv0, rfl⟩ := Kd.R_slice ho
          have n1_ := Aside0.mk (Sat.newTxt (Sat.drew HS.out) ho hb HKP.out.1)
          have n2_ := Aside0.mk (below_step (below_drew HB.out) hb)
          have n3_ := Aside0.mk (Kept.below (HKP.out.drew) hb)
          have n4_ := Aside0.mk (blk_below (w := World.drew w4) HG.out hb)
          clear ho hb
          clear HS HB HKP HG
          have HS := n1_
          have HB := n2_
          have HKP := n3_
          have HG := n4_
          clear n1_ n2_ n3_ n4_
          refine hK.out _ _ ⟨(HS.out.z 0 rfl 0), (HS.out.z 0 rfl 1)⟩ (fun hHeld => ?_)
          clear hK K
          refine norm_ (a' := ?_) ?_ ?_
          rotate_left
          · show Act.put _ (some 68) _ = _
            simp only [Act.put, List.setIfInBounds_toArray, List.set_cons_zero, List.set_cons_succ, i64_w, i32_w]
            rfl
          refine one_ (i := 5) (N := some 71) #[true, true, true, true, true, true, false, false, false] rfl rfl (by kernel_rfl) (by decide) (fun K hK => ?_)
          refine goes_ Try.func74 (by kernel_rfl) rfl #[.slice A1 pg.f1.length c1] (by rfl) rfl rfl (by simp only [List.map_toArray, List.map_cons, List.map_nil]; rfl) ?_
          with_reducible refine (slices_Clone_string_string.calls A1 c1 pg.f1 pg.f1 _ (Kd.C_below HF1.out HB.out) HC1.out (clone_some (by have := HSM.out; omega))).mono ?_
          rintro e w6 ⟨v1, rfl, ho, hb⟩
          refine ⟨_, rfl, ?_⟩
          obtain ⟨Av1, cv1, rfl⟩ := Kd.R_slice ho
          have n1_ := Aside0.mk (Sat.newTxt HS.out ho hb HKP.out.1)
          have n2_ := Aside0.mk (below_step HB.out hb)
          have n3_ := Aside0.mk (Kept.below HKP.out hb)
          have n4_ := Aside0.mk (blk_below HG.out hb)
          clear ho hb
          clear HS HB HKP HG
          have HS := n1_
          have HB := n2_
          have HKP := n3_
          have HG := n4_
          clear n1_ n2_ n3_ n4_
          refine hK.out _ _ ⟨(HS.out.z 0 rfl 0), (HS.out.z 0 rfl 1)⟩ (fun hHeld => ?_)
          clear hK K
          refine norm_ (a' := ?_) ?_ ?_
          rotate_left
          · show Act.put _ (some 71) _ = _
            simp only [Act.put, List.setIfInBounds_toArray, List.set_cons_zero, List.set_cons_succ, i64_w, i32_w]
            rfl
          refine pure_ (i := 6) (N := some 72) (v := ?_) (a' := ?_) #[true, true, true, true, true, true, true, false, false] rfl rfl (by kernel_rfl) (fun _ _ _ h => h) (Or.inl ⟨by rfl, ?_⟩) ?_ ?_
          rotate_left
          · intro w'
            go_simp
            with_reducible rfl
          rotate_left
          · simp only [Act.put, List.setIfInBounds_toArray, List.set_cons_zero, List.set_cons_succ, i64_w, i32_w]
            rfl
          refine one_ (i := 7) (N := some 73) #[true, true, true, true, true, true, true, true, false] rfl rfl (by kernel_rfl) (by decide) (fun K hK => ?_)
          refine box_step (by rfl) (N := 73) rfl (cs := #[.slice Av0 pg.f0.length cv0, .slice Av1 pg.f1.length cv1, .slice none 0 0]) (t := 101) ?hr ?_
          (case hr => first | (go_simp; done) | (go_simp; rfl))
          intro g hg w7 hbox hb
          have n1_ := Aside0.mk (Sat.newBox HS.out hg hbox hb HKP.out.1)
          have n2_ := Aside0.mk (below_step HB.out hb)
          have n3_ := Aside0.mk (HKP.out.below hb)
          have n4_ := Aside0.mk (blk_below HG.out hb)
          clear hg hbox hb
          clear HS HB HKP HG
          have HS := n1_
          have HB := n2_
          have HKP := n3_
          have HG := n4_
          clear n1_ n2_ n3_ n4_
          refine hK.out _ _ ⟨(HS.out.z 1 rfl 0), (HS.out.z 1 rfl 1)⟩ (fun hHeld => ?_)
          clear hK K
          refine norm_ (a' := ?_) ?_ ?_
          rotate_left
          · show Act.put _ (some 73) _ = _
            simp only [Act.put, List.setIfInBounds_toArray, List.set_cons_zero, List.set_cons_succ, i64_w, i32_w]
            rfl
          refine pure_ (i := 8) (N := some 5) (v := ?_) (a' := ?_) #[true, true, true, true, true, true, true, true, true] rfl rfl (by kernel_rfl) (fun _ _ _ h => h) (Or.inl ⟨by rfl, ?_⟩) ?_ ?_
          rotate_left
          · intro w'
            go_simp
            with_reducible rfl
          rotate_left
          · simp only [Act.put, List.setIfInBounds_toArray, List.set_cons_zero, List.set_cons_succ, i64_w, i32_w]
            rfl
          refine done_ (by kernel_rfl) ?_
          have n1_ := Aside0.mk (ll_begin (E := 74) (X := [.box 110 b8 #[.slice A0 pg.f0.length c0, .slice A1 pg.f1.length c1, .slice A2 pg.f2.length c2]]) HS.out)
          clear HS
          have HS := n1_
          clear n1_ hHeld hz80 hz81 hz82
          have hz82 := HS.out.z 4 rfl 2
          go_upto_region 9 with fail
          go_loopg [77] pg.f2.length (fun kq u77 w' => ∃ (i next1 : Nat) (acc : List NT) (cv : Value), u77 = .int .i64 (i : Int) ∧ Aside0 (kq + i = pg.f2.length) ∧ Aside0 (acc.length = i) ∧ Aside0 (R = fin pg (readK (readS P f) (pg.f2.drop i) next1 (acc.map NT.erase))) ∧ Aside0 (next < next1 ∧ next1 ≤ P.length) ∧ Aside0 (Sat w' w.heap.size (LL 101 74 g (.slice Av0 pg.f0.length cv0) (.slice Av1 pg.f1.length cv1) cv pg.f0 pg.f1 [.box 110 b8 #[.slice A0 pg.f0.length c0, .slice A1 pg.f1.length c1, .slice A2 pg.f2.length c2]] acc)) ∧ Aside0 (Below w0.heap.size w0 w') ∧ Aside0 (Kept w w' (fun k => k = gb)) ∧ Aside0 (w'.heap[gb]? = some (.cells #[.slice (some ad) P.length c, .int .i64 (next1 : Int)] 121 (0, 0))))
          case atStart => exact ⟨0, next + 1, [], .slice none 0 0, by first | rfl | (simp; done), ⟨Nat.add_zero _⟩, ⟨rfl⟩, HR, ⟨by have := HA.out; omega⟩, HS, HB, HKP, HG⟩
          case round =>
            clear HR HS HB hz82 HKP HG
            obtain ⟨i, next1, acc, cv, rfl, HK, HAC, HR, HNX, HS, HB, HKP, HG⟩ := hrel
            have ci : (0 ≤ (i : Int)) = True := eq_true (by omega)
            by_cases hi : i < pg.f2.length
            · have ce : decide ((i : Int) < (pg.f2.length : Int)) = true := decide_eq_true (by omega)
              have ceb : (i < pg.f2.length) = True := eq_true hi
              have hi5 : i ≤ 5 := by have := HM2.out; omega
              have HI5 := Aside0.mk hi5
              have HI := Aside0.mk hi
              have hnx : next1 ≤ 1000000000000 := Nat.le_trans HNX.out.2 hNl
              have hzg : wr.cell? ⟨gb, 1, none⟩ = some (.int .i64 (next1 : Int)) := (blk_cell HG.out 1).trans rfl
              obtain ⟨ad2, hA2, hk0⟩ := Kd.at_int HF2.out (i : Int) (by omega) (by omega)
              subst hA2
              rw [Int.toNat_natCast] at hk0
              have hks : pg.f2[i]? = some (rd pg.f2 (i : Int)) := by unfold rd; rw [Int.toNat_natCast, List.getD_eq_getElem?_getD, List.getElem?_eq_getElem hi]; rfl
              generalize rd pg.f2 (i : Int) = k at hk0 hks
              have hkz := (Below.cell HB.out (World.block_lt_of_cell? w0 _ hk0)).trans hk0
              have HKS := Aside0.mk hks
              clear hk0 hks hi
              by_cases hkn : k = (next1 : Int)
              · subst hkn
                cases hrs : readS P f next1 with
                | none =>
                  have HRS := Aside0.mk hrs
                  have HE := Aside0.mk (readK_off2 HR.out HKS.out rfl hrs)
                  clear hrs
                  go_wp2_with (go_at_call 97; (with_reducible refine (ih next1 (by have := HF.out; have := HNX.out; omega) HNX.out.2 gb _ HB.out HGB.out HG.out).mono ?_); rintro e w8 ⟨hb, hr⟩; rw [HRS.out] at hr; obtain ⟨-, rfl⟩ := hr.resolve_right (by rintro ⟨_, _, h, _⟩; cases h); clear HB; have HB := Aside0.mk hb; clear hb hr)
                  go_ret2
                  exact ⟨HB.out, .inl ⟨HE.out, rfl⟩⟩
                | some tn =>
                  obtain ⟨t, n⟩ := tn
                  have HRS := Aside0.mk hrs
                  have HLE := Aside0.mk (readS_le f next1 t n hrs)
                  have HE := Aside0.mk (readK_on HR.out HKS.out rfl hrs)
                  clear hrs
                  go_wp2_with (first | (go_at_call 97; (with_reducible refine (ih next1 (by have := HF.out; have := HNX.out; omega) HNX.out.2 gb _ HB.out HGB.out HG.out).mono ?_); rintro e w8 ⟨hb, hr⟩; rw [HRS.out] at hr; obtain ⟨nt, n9, h9, rfl, hs, hk, hg⟩ := hr.resolve_left (by rintro ⟨h, _⟩; cases h); injection h9 with h9; injection h9 with h9 h8; subst h9; subst h8; have n1_ := Aside0.mk (ll_kidK HS.out hk (fun k hk => by have := HGL.out; omega) HKP.out.1 hs); have n3_ := Aside0.mk (HKP.out.then_ hk (fun k hk => .inl hk)); have HG8 := Aside0.mk hg; clear HS; clear HB; clear HKP; clear HG; have HS := n1_; have HB := Aside0.mk hb; have HKP := n3_; have HG := HG8; clear n1_ n3_ HG8; have hz9 := HS.out.z 0 rfl 2; clear hb hr hs hk hg) | ((with_reducible refine gate_builtin (b := .append) (xs := #[.tmp 98, .tmp 100]) rfl ?_); at_builtin; refine Kd.Q_append kptr (w0 := w8) w.heap.size rfl (.tmp 98) (.tmp 100) 99 74 (.pointer none) 8 rfl under99 info74 rfl (by decide) (by omega) cv (acc.map NT.p) nt.p [ptrv nt.p] (fun _ => True) (fun _ => False) rfl rfl ?aP (fun _ h => h.elim) ?aF ?aO ?aB ?aS ?aL ?_; (case aP => exact rfl); (case aB => exact Below.refl _ _); (case aF => exact fun _ _ => trivial); (case aO => exact ok_pq (HS.out.ok _ (List.mem_of_getElem? (i := 3) rfl))); (case aS => exact HKP.out.1); (case aL => rw [List.length_map]; have := HAC.out; have := HI5.out; omega); intro cv' w9 ho hb hg hat; obtain ⟨Aq, nq, cq, rfl⟩ := q_form ho; have n5_ : ∀ k, cv.ownBlock = some k → w.heap.size ≤ k := fun k hk => HS.out.ge ⟨_, List.mem_of_getElem? (i := 3) rfl, hk⟩; have n1_ := Aside0.mk (ll_app (x := 0) HS.out ho hg hat); have n2_ := Aside0.mk (HB.out.grown hg (by have := HB.out.size; omega) (fun k hk => by have := n5_ k hk; have := HGL.out; have := HGB.out; omega)); have n3_ := Aside0.mk (Kept.of_grown hg HKP.out (fun k hk => .inr (n5_ k hk))); have n4_ := Aside0.mk ((hg.block gb (blk_lt HG.out) (fun he => by have := n5_ gb he.symm; have := HGL.out; omega)).trans HG.out); clear HS; clear HB; clear HKP; clear HG; have HS := n1_; have HB := n2_; have HKP := n3_; have HG := n4_; clear n1_ n2_ n3_ n4_ n5_; have hz9b := HS.out.z 0 rfl 2; have hf9b := HS.out.f 0 rfl 2; clear ho hb hg hat))
                  go_roundg (pg.f2.length - (i + 1))
                  case measure => have := HK.out; have := HI.out; omega
                  case rel => exact ⟨i + 1, n, acc ++ [nt], .slice Aq nq cq, by first | rfl | go_num | (simp; done), ⟨by have := HK.out; have := HI.out; omega⟩, ⟨by rw [List.length_append, HAC.out]; rfl⟩, ⟨by rw [List.map_append]; exact HE.out⟩, ⟨by have := HLE.out; have := HNX.out; omega⟩, ⟨ll_put HS.out⟩, ⟨HB.out.setCell (p := ⟨g, 2, none⟩) (by have h_ : w.heap.size ≤ g := HS.out.ge ⟨_, List.mem_cons_self, rfl⟩; have := HGL.out; have := HGB.out; show w0.heap.size ≤ g; omega) _⟩, ⟨HKP.out.setCell (p := ⟨g, 2, none⟩) (.inr (HS.out.ge ⟨_, List.mem_cons_self, rfl⟩)) _⟩, ⟨blk_far (p := ⟨g, 2, none⟩) HG.out (by have h_ : w.heap.size ≤ g := HS.out.ge ⟨_, List.mem_cons_self, rfl⟩; have := HGL.out; show gb ≠ g; omega) _⟩⟩
              · have HE := Aside0.mk (readK_off1 HR.out HKS.out hkn)
                have tk : (k != (next1 : Int)) = true := bne_iff_ne.2 hkn
                clear hkn
                go_wp2
                go_ret2
                exact ⟨HB.out, .inl ⟨HE.out, rfl⟩⟩
            · have ce : decide ((i : Int) < (pg.f2.length : Int)) = false := decide_eq_false (by omega)
              have ceb : (i < pg.f2.length) = False := eq_false hi
              have HE := Aside0.mk (readK_end HR.out (by omega))
              clear hi
              go_wp2
              go_ret2
              exact ⟨HB.out, .inr ⟨.mk g (.slice Av0 pg.f0.length cv0) (.slice Av1 pg.f1.length cv1) cv pg.f0 pg.f1 acc, next1, by rw [HE.out, NT.erase, eraseL_map], rfl, ll_end HS.out, HKP.out, HG.out⟩⟩
        · have t3 : decide (0 < (pg.f2.length : Int)) = true := decide_eq_true (by omega)
          have t3b : (0 < pg.f2.length) = True := eq_true (by omega)
          have t4 : ((pg.f2.length : Int) != (pg.f0.length : Int) + 1) = false := ne1_f (by omega)
          have t4b : (pg.f2.length != pg.f0.length + 1) = false := nen_f (by omega)
          clear q1 q2 q3 q4 hbd
          go_upto_region 7 with fail
          refine start_ (n := 9) (S := fun w' => w'.cell? ⟨b8, 0, none⟩ = some (.slice A0 pg.f0.length c0) ∧ w'.cell? ⟨b8, 1, none⟩ = some (.slice A1 pg.f1.length c1)) (ds := []) #[false, false, false, false, false, false, false, false, false] (by kernel_rfl) rfl rfl ⟨(HS.out.z 0 rfl 0), (HS.out.z 0 rfl 1)⟩ (fun hHeld => ?_)
          refine pure_ (i := 0) (N := some 66) (v := ?_) (a' := ?_) #[true, false, false, false, false, false, false, false, false] rfl rfl (by kernel_rfl) (fun _ _ _ h => h) (Or.inl ⟨by rfl, ?_⟩) ?_ ?_
          rotate_left
          · intro w'
            go_simp
            with_reducible rfl
          rotate_left
          · simp only [Act.put, List.setIfInBounds_toArray, List.set_cons_zero, List.set_cons_succ, i64_w, i32_w]
            rfl
          refine pure_ (i := 3) (N := some 69) (v := ?_) (a' := ?_) #[true, false, false, true, false, false, false, false, false] rfl rfl (by kernel_rfl) (fun _ _ _ h => h) (Or.inl ⟨by rfl, ?_⟩) ?_ ?_
          rotate_left
          · intro w'
            go_simp
            with_reducible rfl
          rotate_left
          · simp only [Act.put, List.setIfInBounds_toArray, List.set_cons_zero, List.set_cons_succ, i64_w, i32_w]
            rfl
          refine take_ (i := 1) (N := some 67) (v := ?_) (a' := ?_) #[true, true, false, true, false, false, false, false, false] rfl rfl (by kernel_rfl) (fun _ _ _ h => h) (Or.inl ⟨by rfl, ?_⟩) hHeld ?_ ?_
          rotate_left
          · rintro w' ⟨s0, s1⟩
            go_simp
            with_reducible rfl
          rotate_left
          · simp only [Act.put, List.setIfInBounds_toArray, List.set_cons_zero, List.set_cons_succ, i64_w, i32_w]
            rfl
          refine take_ (i := 4) (N := some 70) (v := ?_) (a' := ?_) #[true, true, false, true, true, false, false, false, false] rfl rfl (by kernel_rfl) (fun _ _ _ h => h) (Or.inl ⟨by rfl, ?_⟩) hHeld ?_ ?_
          rotate_left
          · rintro w' ⟨s0, s1⟩
            go_simp
            with_reducible rfl
          rotate_left
          · simp only [Act.put, List.setIfInBounds_toArray, List.set_cons_zero, List.set_cons_succ, i64_w, i32_w]
            rfl
          refine one_ (i := 2) (N := some 68) #[true, true, true, true, true, false, false, false, false] rfl rfl (by kernel_rfl) (by decide) (fun K hK => ?_)
          refine goes_ Try.func74 (by kernel_rfl) rfl #[.slice A0 pg.f0.length c0] (by rfl) rfl rfl (by simp only [List.map_toArray, List.map_cons, List.map_nil]; rfl) ?_
          with_reducible refine (slices_Clone_string_string.calls A0 c0 pg.f0 pg.f0 _ (Kd.C_below HF0.out (below_drew HB.out)) HC0.out (clone_some (by have := HSM.out; omega))).mono ?_
          rintro e w5 ⟨v0, rfl, ho, hb⟩
          refine ⟨_, rfl, ?_⟩
          obtain ⟨Av0, cv0, rfl⟩ := Kd.R_slice ho
          have n1_ := Aside0.mk (Sat.newTxt (Sat.drew HS.out) ho hb HKP.out.1)
          have n2_ := Aside0.mk (below_step (below_drew HB.out) hb)
          have n3_ := Aside0.mk (Kept.below (HKP.out.drew) hb)
          have n4_ := Aside0.mk (blk_below (w := World.drew w4) HG.out hb)
          clear ho hb
          clear HS HB HKP HG
          have HS := n1_
          have HB := n2_
          have HKP := n3_
          have HG := n4_
          clear n1_ n2_ n3_ n4_
          refine hK.out _ _ ⟨(HS.out.z 0 rfl 0), (HS.out.z 0 rfl 1)⟩ (fun hHeld => ?_)
          clear hK K
          refine norm_ (a' := ?_) ?_ ?_
          rotate_left
          · show Act.put _ (some 68) _ = _
            simp only [Act.put, List.setIfInBounds_toArray, List.set_cons_zero, List.set_cons_succ, i64_w, i32_w]
            rfl
          refine one_ (i := 5) (N := some 71) #[true, true, true, true, true, true, false, false, false] rfl rfl (by kernel_rfl) (by decide) (fun K hK => ?_)
          refine goes_ Try.func74 (by kernel_rfl) rfl #[.slice A1 pg.f1.length c1] (by rfl) rfl rfl (by simp only [List.map_toArray, List.map_cons, List.map_nil]; rfl) ?_
          with_reducible refine (slices_Clone_string_string.calls A1 c1 pg.f1 pg.f1 _ (Kd.C_below HF1.out HB.out) HC1.out (clone_some (by have := HSM.out; omega))).mono ?_
          rintro e w6 ⟨v1, rfl, ho, hb⟩
          refine ⟨_, rfl, ?_⟩
          obtain ⟨Av1, cv1, rfl⟩ := Kd.R_slice ho
          have n1_ := Aside0.mk (Sat.newTxt HS.out ho hb HKP.out.1)
          have n2_ := Aside0.mk (below_step HB.out hb)
          have n3_ := Aside0.mk (Kept.below HKP.out hb)
          have n4_ := Aside0.mk (blk_below HG.out hb)
          clear ho hb
          clear HS HB HKP HG
          have HS := n1_
          have HB := n2_
          have HKP := n3_
          have HG := n4_
          clear n1_ n2_ n3_ n4_
          refine hK.out _ _ ⟨(HS.out.z 0 rfl 0), (HS.out.z 0 rfl 1)⟩ (fun hHeld => ?_)
          clear hK K
          refine norm_ (a' := ?_) ?_ ?_
          rotate_left
          · show Act.put _ (some 71) _ = _
            simp only [Act.put, List.setIfInBounds_toArray, List.set_cons_zero, List.set_cons_succ, i64_w, i32_w]
            rfl
          refine pure_ (i := 6) (N := some 72) (v := ?_) (a' := ?_) #[true, true, true, true, true, true, true, false, false] rfl rfl (by kernel_rfl) (fun _ _ _ h => h) (Or.inl ⟨by rfl, ?_⟩) ?_ ?_
          rotate_left
          · intro w'
            go_simp
            with_reducible rfl
          rotate_left
          · simp only [Act.put, List.setIfInBounds_toArray, List.set_cons_zero, List.set_cons_succ, i64_w, i32_w]
            rfl
          refine one_ (i := 7) (N := some 73) #[true, true, true, true, true, true, true, true, false] rfl rfl (by kernel_rfl) (by decide) (fun K hK => ?_)
          refine box_step (by rfl) (N := 73) rfl (cs := #[.slice Av0 pg.f0.length cv0, .slice Av1 pg.f1.length cv1, .slice none 0 0]) (t := 101) ?hr ?_
          (case hr => first | (go_simp; done) | (go_simp; rfl))
          intro g hg w7 hbox hb
          have n1_ := Aside0.mk (Sat.newBox HS.out hg hbox hb HKP.out.1)
          have n2_ := Aside0.mk (below_step HB.out hb)
          have n3_ := Aside0.mk (HKP.out.below hb)
          have n4_ := Aside0.mk (blk_below HG.out hb)
          clear hg hbox hb
          clear HS HB HKP HG
          have HS := n1_
          have HB := n2_
          have HKP := n3_
          have HG := n4_
          clear n1_ n2_ n3_ n4_
          refine hK.out _ _ ⟨(HS.out.z 1 rfl 0), (HS.out.z 1 rfl 1)⟩ (fun hHeld => ?_)
          clear hK K
          refine norm_ (a' := ?_) ?_ ?_
          rotate_left
          · show Act.put _ (some 73) _ = _
            simp only [Act.put, List.setIfInBounds_toArray, List.set_cons_zero, List.set_cons_succ, i64_w, i32_w]
            rfl
          refine pure_ (i := 8) (N := some 5) (v := ?_) (a' := ?_) #[true, true, true, true, true, true, true, true, true] rfl rfl (by kernel_rfl) (fun _ _ _ h => h) (Or.inl ⟨by rfl, ?_⟩) ?_ ?_
          rotate_left
          · intro w'
            go_simp
            with_reducible rfl
          rotate_left
          · simp only [Act.put, List.setIfInBounds_toArray, List.set_cons_zero, List.set_cons_succ, i64_w, i32_w]
            rfl
          refine done_ (by kernel_rfl) ?_
          have n1_ := Aside0.mk (ll_begin (E := 74) (X := [.box 110 b8 #[.slice A0 pg.f0.length c0, .slice A1 pg.f1.length c1, .slice A2 pg.f2.length c2]]) HS.out)
          clear HS
          have HS := n1_
          clear n1_ hHeld hz80 hz81 hz82
          have hz82 := HS.out.z 4 rfl 2
          go_upto_region 9 with fail
          go_loopg [77] pg.f2.length (fun kq u77 w' => ∃ (i next1 : Nat) (acc : List NT) (cv : Value), u77 = .int .i64 (i : Int) ∧ Aside0 (kq + i = pg.f2.length) ∧ Aside0 (acc.length = i) ∧ Aside0 (R = fin pg (readK (readS P f) (pg.f2.drop i) next1 (acc.map NT.erase))) ∧ Aside0 (next < next1 ∧ next1 ≤ P.length) ∧ Aside0 (Sat w' w.heap.size (LL 101 74 g (.slice Av0 pg.f0.length cv0) (.slice Av1 pg.f1.length cv1) cv pg.f0 pg.f1 [.box 110 b8 #[.slice A0 pg.f0.length c0, .slice A1 pg.f1.length c1, .slice A2 pg.f2.length c2]] acc)) ∧ Aside0 (Below w0.heap.size w0 w') ∧ Aside0 (Kept w w' (fun k => k = gb)) ∧ Aside0 (w'.heap[gb]? = some (.cells #[.slice (some ad) P.length c, .int .i64 (next1 : Int)] 121 (0, 0))))
          case atStart => exact ⟨0, next + 1, [], .slice none 0 0, by first | rfl | (simp; done), ⟨Nat.add_zero _⟩, ⟨rfl⟩, HR, ⟨by have := HA.out; omega⟩, HS, HB, HKP, HG⟩
          case round =>
            clear HR HS HB hz82 HKP HG
            obtain ⟨i, next1, acc, cv, rfl, HK, HAC, HR, HNX, HS, HB, HKP, HG⟩ := hrel
            have ci : (0 ≤ (i : Int)) = True := eq_true (by omega)
            by_cases hi : i < pg.f2.length
            · have ce : decide ((i : Int) < (pg.f2.length : Int)) = true := decide_eq_true (by omega)
              have ceb : (i < pg.f2.length) = True := eq_true hi
              have hi5 : i ≤ 5 := by have := HM2.out; omega
              have HI5 := Aside0.mk hi5
              have HI := Aside0.mk hi
              have hnx : next1 ≤ 1000000000000 := Nat.le_trans HNX.out.2 hNl
              have hzg : wr.cell? ⟨gb, 1, none⟩ = some (.int .i64 (next1 : Int)) := (blk_cell HG.out 1).trans rfl
              obtain ⟨ad2, hA2, hk0⟩ := Kd.at_int HF2.out (i : Int) (by omega) (by omega)
              subst hA2
              rw [Int.toNat_natCast] at hk0
              have hks : pg.f2[i]? = some (rd pg.f2 (i : Int)) := by unfold rd; rw [Int.toNat_natCast, List.getD_eq_getElem?_getD, List.getElem?_eq_getElem hi]; rfl
              generalize rd pg.f2 (i : Int) = k at hk0 hks
              have hkz := (Below.cell HB.out (World.block_lt_of_cell? w0 _ hk0)).trans hk0
              have HKS := Aside0.mk hks
              clear hk0 hks hi
              by_cases hkn : k = (next1 : Int)
              · subst hkn
                cases hrs : readS P f next1 with
                | none =>
                  have HRS := Aside0.mk hrs
                  have HE := Aside0.mk (readK_off2 HR.out HKS.out rfl hrs)
                  clear hrs
                  go_wp2_with (go_at_call 97; (with_reducible refine (ih next1 (by have := HF.out; have := HNX.out; omega) HNX.out.2 gb _ HB.out HGB.out HG.out).mono ?_); rintro e w8 ⟨hb, hr⟩; rw [HRS.out] at hr; obtain ⟨-, rfl⟩ := hr.resolve_right (by rintro ⟨_, _, h, _⟩; cases h); clear HB; have HB := Aside0.mk hb; clear hb hr)
                  go_ret2
                  exact ⟨HB.out, .inl ⟨HE.out, rfl⟩⟩
                | some tn =>
                  obtain ⟨t, n⟩ := tn
                  have HRS := Aside0.mk hrs
                  have HLE := Aside0.mk (readS_le f next1 t n hrs)
                  have HE := Aside0.mk (readK_on HR.out HKS.out rfl hrs)
                  clear hrs
                  go_wp2_with (first | (go_at_call 97; (with_reducible refine (ih next1 (by have := HF.out; have := HNX.out; omega) HNX.out.2 gb _ HB.out HGB.out HG.out).mono ?_); rintro e w8 ⟨hb, hr⟩; rw [HRS.out] at hr; obtain ⟨nt, n9, h9, rfl, hs, hk, hg⟩ := hr.resolve_left (by rintro ⟨h, _⟩; cases h); injection h9 with h9; injection h9 with h9 h8; subst h9; subst h8; have n1_ := Aside0.mk (ll_kidK HS.out hk (fun k hk => by have := HGL.out; omega) HKP.out.1 hs); have n3_ := Aside0.mk (HKP.out.then_ hk (fun k hk => .inl hk)); have HG8 := Aside0.mk hg; clear HS; clear HB; clear HKP; clear HG; have HS := n1_; have HB := Aside0.mk hb; have HKP := n3_; have HG := HG8; clear n1_ n3_ HG8; have hz9 := HS.out.z 0 rfl 2; clear hb hr hs hk hg) | ((with_reducible refine gate_builtin (b := .append) (xs := #[.tmp 98, .tmp 100]) rfl ?_); at_builtin; refine Kd.Q_append kptr (w0 := w8) w.heap.size rfl (.tmp 98) (.tmp 100) 99 74 (.pointer none) 8 rfl under99 info74 rfl (by decide) (by omega) cv (acc.map NT.p) nt.p [ptrv nt.p] (fun _ => True) (fun _ => False) rfl rfl ?aP (fun _ h => h.elim) ?aF ?aO ?aB ?aS ?aL ?_; (case aP => exact rfl); (case aB => exact Below.refl _ _); (case aF => exact fun _ _ => trivial); (case aO => exact ok_pq (HS.out.ok _ (List.mem_of_getElem? (i := 3) rfl))); (case aS => exact HKP.out.1); (case aL => rw [List.length_map]; have := HAC.out; have := HI5.out; omega); intro cv' w9 ho hb hg hat; obtain ⟨Aq, nq, cq, rfl⟩ := q_form ho; have n5_ : ∀ k, cv.ownBlock = some k → w.heap.size ≤ k := fun k hk => HS.out.ge ⟨_, List.mem_of_getElem? (i := 3) rfl, hk⟩; have n1_ := Aside0.mk (ll_app (x := 0) HS.out ho hg hat); have n2_ := Aside0.mk (HB.out.grown hg (by have := HB.out.size; omega) (fun k hk => by have := n5_ k hk; have := HGL.out; have := HGB.out; omega)); have n3_ := Aside0.mk (Kept.of_grown hg HKP.out (fun k hk => .inr (n5_ k hk))); have n4_ := Aside0.mk ((hg.block gb (blk_lt HG.out) (fun he => by have := n5_ gb he.symm; have := HGL.out; omega)).trans HG.out); clear HS; clear HB; clear HKP; clear HG; have HS := n1_; have HB := n2_; have HKP := n3_; have HG := n4_; clear n1_ n2_ n3_ n4_ n5_; have hz9b := HS.out.z 0 rfl 2; have hf9b := HS.out.f 0 rfl 2; clear ho hb hg hat))
                  go_roundg (pg.f2.length - (i + 1))
                  case measure => have := HK.out; have := HI.out; omega
                  case rel => exact ⟨i + 1, n, acc ++ [nt], .slice Aq nq cq, by first | rfl | go_num | (simp; done), ⟨by have := HK.out; have := HI.out; omega⟩, ⟨by rw [List.length_append, HAC.out]; rfl⟩, ⟨by rw [List.map_append]; exact HE.out⟩, ⟨by have := HLE.out; have := HNX.out; omega⟩, ⟨ll_put HS.out⟩, ⟨HB.out.setCell (p := ⟨g, 2, none⟩) (by have h_ : w.heap.size ≤ g := HS.out.ge ⟨_, List.mem_cons_self, rfl⟩; have := HGL.out; have := HGB.out; show w0.heap.size ≤ g; omega) _⟩, ⟨HKP.out.setCell (p := ⟨g, 2, none⟩) (.inr (HS.out.ge ⟨_, List.mem_cons_self, rfl⟩)) _⟩, ⟨blk_far (p := ⟨g, 2, none⟩) HG.out (by have h_ : w.heap.size ≤ g := HS.out.ge ⟨_, List.mem_cons_self, rfl⟩; have := HGL.out; show gb ≠ g; omega) _⟩⟩
              · have HE := Aside0.mk (readK_off1 HR.out HKS.out hkn)
                have tk : (k != (next1 : Int)) = true := bne_iff_ne.2 hkn
                clear hkn
                go_wp2
                go_ret2
                exact ⟨HB.out, .inl ⟨HE.out, rfl⟩⟩
            · have ce : decide ((i : Int) < (pg.f2.length : Int)) = false := decide_eq_false (by omega)
              have ceb : (i < pg.f2.length) = False := eq_false hi
              have HE := Aside0.mk (readK_end HR.out (by omega))
              clear hi
              go_wp2
              go_ret2
              exact ⟨HB.out, .inr ⟨.mk g (.slice Av0 pg.f0.length cv0) (.slice Av1 pg.f1.length cv1) cv pg.f0 pg.f1 acc, next1, by rw [HE.out, NT.erase, eraseL_map], rfl, ll_end HS.out, HKP.out, HG.out⟩⟩
end Go.Proofs.Ytoddejmlcnbdmaa.Tree
namespace Go.Proofs.Ytoddejmlcnbdmaa.Tree
open Go.RowKit Go.Proofs.YtoddejmlcnbdmaaW.PrintWords Go.Proofs.YtoddejmlcnbdmaaW.PrintLast Go.Proofs.YtoddejmlcnbdmaaW.PrintMore Go.Proofs.Ytoddejmlcnbdmaa.Fn
set_option linter.unusedVariables false
set_option linter.unusedSimpArgs false
set_option maxHeartbeats 8000000
set_option maxRecDepth 100000

theorem spec_leaf.callsB {p : Nat} {t : PT} (b : Bool) (hb : decide ((t.kids.length : Int) = 0) = b) (w : World) (h : Rd 96 w p t) :
    Calls Try.prog 84 #[ptrv p] w fun e w' => e = .returned (.bool b) ∧ Drawn0 w w' := by
  subst hb
  obtain ⟨Ak, ck, Av, cv, Ac, cc, ps, HN⟩ := h.open
  have hz := HN.z2
  clear HN h
  go_enter Try.func84, Try.ntmps84
  go_wp2
  go_ret
  exact ⟨by first | rfl | (simp; done), by repeat (first | exact Drawn0.refl _ | apply Drawn0.step)⟩
end Go.Proofs.Ytoddejmlcnbdmaa.Tree
namespace Go.Proofs.Ytoddejmlcnbdmaa.Tree
open Go.Proofs.Ytoddejmlcnbdmaa.Gen
open Go.RowKit Go.Proofs.YtoddejmlcnbdmaaW.PrintWords Go.Proofs.YtoddejmlcnbdmaaW.PrintLast Go.Proofs.YtoddejmlcnbdmaaW.PrintMore Go.Proofs.Ytoddejmlcnbdmaa.Fn
set_option linter.unusedVariables false
set_option linter.unusedSimpArgs false
set_option maxHeartbeats 8000000
set_option maxRecDepth 100000

def AllR (w0 : World) (k v : List ByteArray) (e : Ending) (w' : World) : Prop :=
  ∃ v1 v2, e = .returned (.tuple #[v1, v2]) ∧ SR w' w0.heap.size v1 k ∧ SR w' w0.heap.size v2 v ∧ NeRow v1 v2 ∧ Below w0.heap.size w0 w'
theorem app_rest {α : Type} {l x r r' L : List α} (h : l ++ r = L) (hr : r = x ++ r') : (l ++ x) ++ r' = L := by rw [← h, hr, List.append_assoc]
theorem app_len {α : Type} {l x r r' L : List α} {N : Nat} (h : l ++ r = L) (hr : r = x ++ r') (hL : L.length ≤ N) : l.length + x.length ≤ N := by
  have := congrArg List.length (app_rest h hr)
  simp only [List.length_append] at this
  omega
theorem spec_all.calls : ∀ (n : Nat) (t : PT), SizeOf.sizeOf t ≤ n → Shp t → ∀ {p : Nat} (w0 w : World) (v1 v2 : Value) (l1 l2 : List ByteArray), Rd 96 w0 p t → Below w0.heap.size w0 w → SR w w0.heap.size v1 l1 → SR w w0.heap.size v2 l2 → NeRow v1 v2 →
    (l1 ++ allK t).length ≤ 8796093022208 → (l2 ++ allV t).length ≤ 8796093022208 → Calls Try.prog 65 #[ptrv p, v1, v2] w (AllR w0 (l1 ++ allK t) (l2 ++ allV t)) := by
  intro n
  induction n with
  | zero =>
    intro t hs
    cases t with | mk keys vals kids => simp at hs
  | succ n ih =>
    intro t hs hf p w0 w v1 v2 l1 l2 hrd hB ho1 ho2 hne hb1 hb2
    obtain ⟨Ak, ck, Av, cv, Ac, cc, ps, HN0⟩ := hrd.open
    have HN := Aside0.mk HN0
    have HB := Aside0.mk hB
    have HO1 := Aside0.mk ho1
    have HO2 := Aside0.mk ho2
    have HNE := Aside0.mk hne
    obtain ⟨L1, hL1⟩ : ∃ L, L = l1 ++ allK t := ⟨_, rfl⟩
    obtain ⟨L2, hL2⟩ : ∃ L, L = l2 ++ allV t := ⟨_, rfl⟩
    rw [← hL1, ← hL2]
    rw [← hL1] at hb1
    rw [← hL2] at hb2
    have HL1 := Aside0.mk hb1
    have HL2 := Aside0.mk hb2
    have HR1 := Aside0.mk (show l1 ++ restK t 0 = L1 by rw [restK_zero, hL1])
    have HR2 := Aside0.mk (show l2 ++ restV t 0 = L2 by rw [restV_zero, hL2])
    have h1 := hf.one
    unfold Shp1 at h1
    have HS1 := Aside0.mk h1
    have HF := Aside0.mk hf
    have HSZ := Aside0.mk hs
    have hm : t.keys.length ≤ 1000 := h1.2.1
    clear hrd hB ho1 ho2 hne hb1 hb2 hL1 hL2 HN0 h1 hf hs
    go_enter Try.func65, Try.ntmps65
    go_wp2
    go_loopg [1, 2, 8] (t.keys.length + 1) (fun kq u1 u2 u8 w' => ∃ (i : Nat) (x1 x2 : List ByteArray), u8 = .int .i64 (i : Int) ∧ Aside0 (kq + i = t.keys.length + 1) ∧ Aside0 (x1 ++ restK t i = L1) ∧ Aside0 (x2 ++ restV t i = L2) ∧ Aside0 (SR w' w0.heap.size u1 x1) ∧ Aside0 (SR w' w0.heap.size u2 x2) ∧ Aside0 (NeRow u1 u2) ∧ Aside0 (Below w0.heap.size w0 w'))
    case atStart => exact ⟨0, l1, l2, by first | rfl | (simp; done), ⟨Nat.add_zero _⟩, HR1, HR2, HO1, HO2, HNE, HB⟩
    case round =>
      clear HR1 HR2 HO1 HO2 HNE HB
      obtain ⟨i, x1, x2, rfl, HK, HR1, HR2, HO1, HO2, HNE, HB⟩ := hrel
      have HNr := Aside0.mk (HN.out.below HB.out)
      have HRr := Aside0.mk HNr.out.rd
      have hz0 := HNr.out.z0
      have hz2 := HNr.out.z2
      by_cases hi : i ≤ t.keys.length
      · have ce : decide ((i : Int) ≤ (t.keys.length : Int)) = true := decide_eq_true (by omega)
        have ceb : (i ≤ t.keys.length) = True := eq_true hi
        have ci : (0 ≤ (i : Int)) = True := eq_true (by omega)
        have hJ : i ≤ 1000 := (by omega)
        have HI := Aside0.mk hi
        by_cases h0 : t.kids.length = 0
        · have hbl := Aside0.mk (show decide ((t.kids.length : Int) = 0) = true from decide_eq_true (by omega))
          by_cases hlt : i < t.keys.length
          · obtain ⟨r1, hr1⟩ : ∃ r, restK t (i + 1) = r := ⟨_, rfl⟩
            obtain ⟨adk, rfl, hk0⟩ := HN.out.key i (by omega) (by omega)
            obtain ⟨adv, rfl, hv0⟩ := HN.out.val i (by omega) (by have := HS1.out; omega)
            rw [Int.toNat_natCast] at hk0 hv0
            obtain ⟨kx, hkx⟩ : ∃ x, x = rdOf ByteArray.empty t.keys (i : Int) := ⟨_, rfl⟩
            obtain ⟨vx, hvx⟩ : ∃ x, x = rdOf ByteArray.empty t.vals (i : Int) := ⟨_, rfl⟩
            rw [← hkx] at hk0
            rw [← hvx] at hv0
            have e1 := restK_leaf h0 hlt
            have e2 := restV_leaf h0 (i := i) (by have := HS1.out; omega)
            rw [show t.keys.getD i ByteArray.empty = kx from hkx.symm] at e1
            rw [show t.vals.getD i ByteArray.empty = vx from hvx.symm] at e2
            have HE1 := Aside0.mk (app_rest (x := [kx]) HR1.out e1)
            have HE2 := Aside0.mk (app_rest (x := [vx]) HR2.out e2)
            have HZ1 := Aside0.mk (show x1.length + 1 ≤ 8796093022208 from app_len (x := [kx]) HR1.out e1 HL1.out)
            have HZ2 := Aside0.mk (show x2.length + 1 ≤ 8796093022208 from app_len (x := [vx]) HR2.out e2 HL2.out)
            have HK0 := Aside0.mk hk0
            have HV0 := Aside0.mk hv0
            have hlc : decide ((i : Int) < (t.keys.length : Int)) = true := decide_eq_true (by omega)
            have hlb : (i < t.keys.length) = True := eq_true hlt
            have hva : ((i : Int) < (t.vals.length : Int)) = True := eq_true (by have := HS1.out; omega)
            have hvb : (i < t.vals.length) = True := eq_true (by have := HS1.out; omega)
            have hzk := (HB.out.cell (World.block_lt_of_cell? w0 _ hk0)).trans hk0
            have hz1 := HNr.out.z1
            clear hk0 hv0 hkx hvx e1 e2 hi hlt h0 hr1 HR1 HR2
            go_wp2_with (first | (go_at_call 84; (with_reducible refine (spec_leaf.callsB true hbl.out _ ?side1).mono ?_); (case side1 => repeat (first | exact HRr.out | (with_reducible refine Rd.drewN ?_ _) | (with_reducible refine Rd.drew ?_))); rintro e w' ⟨rfl, ⟨nd, rfl⟩⟩) | ((with_reducible refine gate_builtin (b := .append) (xs := #[.tmp 41, .tmp 49]) rfl ?_); at_builtin; refine Kd.R_append Kd.string (w0 := w0) w0.heap.size rfl (.tmp 41) (.tmp 49) 38 9 (.string ⟨#[]⟩) 16 rfl Try.underlying38 info9 rfl (by decide) (by omega) u1 x1 kx [.string kx] (fun _ => True) (fun _ => False) rfl rfl ?aP (fun _ hk => hk.elim) ?aF ?aO ?aB ?aS ?aL ?_; (case aP => exact rfl); (case aB => exact be_ HB.out); (case aF => exact fun _ _ => trivial); (case aO => exact rk_ HO1.out); (case aS => exact bw_ HB.out); (case aL => have := HZ1.out; omega); intro u1' w7 ho hb hg hat; have n1_ := Aside0.mk ho; have n2_ := Aside0.mk (SR.far (SR.ofR (rk_ HO2.out)) hg (neSymm HNE.out)); have n3_ := Aside0.mk (SR.ne (SR.ofR (rk_ HO2.out)) hat HNE.out); have n4_ := Aside0.mk hb; have hz1' := (HN.out.below hb).z1; have hz0' := (HN.out.below hb).z0; have hzv' := (hb.cell (World.block_lt_of_cell? w0 _ HV0.out)).trans HV0.out; clear HO1 HO2 HNE HB; have HO1 := n1_; have HO2 := n2_; have HNE := n3_; have HB := n4_; clear n1_ n2_ n3_ n4_ ho hb hg hat) | ((with_reducible refine gate_builtin (b := .append) (xs := #[.tmp 51, .tmp 59]) rfl ?_); at_builtin; refine Kd.R_append Kd.string (w0 := w0) w0.heap.size rfl (.tmp 51) (.tmp 59) 38 9 (.string ⟨#[]⟩) 16 rfl Try.underlying38 info9 rfl (by decide) (by omega) u2 x2 vx [.string vx] (fun _ => True) (fun _ => False) rfl rfl ?aP (fun _ hk => hk.elim) ?aF ?aO ?aB ?aS ?aL ?_; (case aP => exact rfl); (case aB => exact be_ HB.out); (case aF => exact fun _ _ => trivial); (case aO => exact rk_ HO2.out); (case aS => exact bw_ HB.out); (case aL => have := HZ2.out; omega); intro u2' w8 ho hb hg hat; have n1_ := Aside0.mk ho; have n2_ := Aside0.mk (SR.far (SR.ofR (rk_ HO1.out)) hg HNE.out); have n3_ := Aside0.mk (neSymm (SR.ne (SR.ofR (rk_ HO1.out)) hat (neSymm HNE.out))); have n4_ := Aside0.mk hb; clear HO1 HO2 HNE HB; have HO2 := n1_; have HO1 := n2_; have HNE := n3_; have HB := n4_; clear n1_ n2_ n3_ n4_ ho hb hg hat))
            go_roundg (t.keys.length - i)
            case measure => have := HK.out; have := HI.out; omega
            case rel => exact ⟨i + 1, _, _, by first | rfl | go_num | (simp; done), ⟨by have := HK.out; have := HI.out; omega⟩, HE1, HE2, ⟨SR.ofR (rk_ HO1.out)⟩, ⟨SR.ofR (rk_ HO2.out)⟩, HNE, ⟨be_ HB.out⟩⟩
          · obtain rfl : i = t.keys.length := by omega
            have HE1 := Aside0.mk (show x1 ++ restK t (t.keys.length + 1) = L1 by rw [← HR1.out, restK_end (by omega) (by omega), restK_end (by omega) (by omega)])
            have HE2 := Aside0.mk (show x2 ++ restV t (t.keys.length + 1) = L2 by have := HS1.out; rw [← HR2.out, restV_end (by omega) (by omega), restV_end (by omega) (by omega)])
            have hlc : decide ((t.keys.length : Int) < (t.keys.length : Int)) = false := decide_eq_false (by omega)
            clear hi hlt h0 HR1 HR2
            go_wp2_with (first | (go_at_call 84; (with_reducible refine (spec_leaf.callsB true hbl.out _ ?side1).mono ?_); (case side1 => repeat (first | exact HRr.out | (with_reducible refine Rd.drewN ?_ _) | (with_reducible refine Rd.drew ?_))); rintro e w' ⟨rfl, ⟨nd, rfl⟩⟩))
            go_roundg (t.keys.length - t.keys.length)
            case measure => have := HK.out; have := HI.out; omega
            case rel => exact ⟨t.keys.length + 1, _, _, by first | rfl | go_num | (simp; done), ⟨by have := HK.out; have := HI.out; omega⟩, HE1, HE2, ⟨SR.ofR (rk_ HO1.out)⟩, ⟨SR.ofR (rk_ HO2.out)⟩, HNE, ⟨be_ HB.out⟩⟩
        · have hbl := Aside0.mk (show decide ((t.kids.length : Int) = 0) = false from decide_eq_false (by omega))
          have hkl : t.kids.length = t.keys.length + 1 := HS1.out.2.2.resolve_left h0
          obtain ⟨adc, q, s, rfl, hc0, hs, hrs⟩ := HN.out.kid i (by omega) (by omega)
          rw [Int.toNat_natCast] at hc0 hs
          have HS := Aside0.mk hs
          have HRs := Aside0.mk hrs
          have hzc := (HB.out.cell (World.block_lt_of_cell? w0 _ hc0)).trans hc0
          have hca : ((i : Int) < (t.kids.length : Int)) = True := eq_true (by omega)
          have hcb : (i < t.kids.length) = True := eq_true (by omega)
          by_cases hlt : i < t.keys.length
          · obtain ⟨r1, hr1⟩ : ∃ r, restK t (i + 1) = r := ⟨_, rfl⟩
            obtain ⟨adk, rfl, hk0⟩ := HN.out.key i (by omega) (by omega)
            obtain ⟨adv, rfl, hv0⟩ := HN.out.val i (by omega) (by have := HS1.out; omega)
            rw [Int.toNat_natCast] at hk0 hv0
            obtain ⟨kx, hkx⟩ : ∃ x, x = rdOf ByteArray.empty t.keys (i : Int) := ⟨_, rfl⟩
            obtain ⟨vx, hvx⟩ : ∃ x, x = rdOf ByteArray.empty t.vals (i : Int) := ⟨_, rfl⟩
            rw [← hkx] at hk0
            rw [← hvx] at hv0
            have e1 := restK_node hs hlt
            have e2 := restV_node hs (i := i) (by have := HS1.out; omega)
            rw [show t.keys.getD i ByteArray.empty = kx from hkx.symm] at e1
            rw [show t.vals.getD i ByteArray.empty = vx from hvx.symm] at e2
            have HE01 := app_rest HR1.out e1
            have HE02 := app_rest HR2.out e2
            have HE1 := Aside0.mk (app_rest (x := [kx]) HE01 rfl)
            have HE2 := Aside0.mk (app_rest (x := [vx]) HE02 rfl)
            have HZ1 := Aside0.mk (show (x1 ++ allK s).length ≤ 8796093022208 by rw [List.length_append]; exact app_len HR1.out e1 HL1.out)
            have HZ2 := Aside0.mk (show (x2 ++ allV s).length ≤ 8796093022208 by rw [List.length_append]; exact app_len HR2.out e2 HL2.out)
            have HZ3 := Aside0.mk (show (x1 ++ allK s).length + 1 ≤ 8796093022208 from app_len (x := [kx]) HE01 rfl HL1.out)
            have HZ4 := Aside0.mk (show (x2 ++ allV s).length + 1 ≤ 8796093022208 from app_len (x := [vx]) HE02 rfl HL2.out)
            have HK0 := Aside0.mk hk0
            have HV0 := Aside0.mk hv0
            have hlc : decide ((i : Int) < (t.keys.length : Int)) = true := decide_eq_true (by omega)
            have hlb : (i < t.keys.length) = True := eq_true hlt
            have hva : ((i : Int) < (t.vals.length : Int)) = True := eq_true (by have := HS1.out; omega)
            have hvb : (i < t.vals.length) = True := eq_true (by have := HS1.out; omega)
            clear hk0 hv0 hkx hvx e1 e2 hi hlt h0 hr1 HR1 HR2 HE01 HE02 hkl hs hrs hc0
            go_wp2_with (first | (go_at_call 84; (with_reducible refine (spec_leaf.callsB false hbl.out _ ?side1).mono ?_); (case side1 => repeat (first | exact HRr.out | (with_reducible refine Rd.drewN ?_ _) | (with_reducible refine Rd.drew ?_))); rintro e w' ⟨rfl, ⟨nd, rfl⟩⟩) | (go_at_call 65; (with_reducible refine (ih s (by have := PT.size_kid HS.out; have := HSZ.out; omega) (HF.out.kid HS.out) w0 _ u1 u2 x1 x2 HRs.out ?side2 ?side3 ?side4 HNE.out HZ1.out HZ2.out).mono ?_); (case side2 => exact be_ HB.out); (case side3 => exact SR.ofR (rk_ HO1.out)); (case side4 => exact SR.ofR (rk_ HO2.out)); rintro e w5 ⟨u3, u4, rfl, ho1, ho2, hne, hb⟩; have n1_ := Aside0.mk ho1; have n2_ := Aside0.mk ho2; have n3_ := Aside0.mk hne; have n4_ := Aside0.mk hb; have hz0' := (HN.out.below hb).z0; have hzk' := (hb.cell (World.block_lt_of_cell? w0 _ HK0.out)).trans HK0.out; clear HO1 HO2 HNE HB; have HO1 := n1_; have HO2 := n2_; have HNE := n3_; have HB := n4_; clear n1_ n2_ n3_ n4_ ho1 ho2 hne hb) | ((with_reducible refine gate_builtin (b := .append) (xs := #[.tmp 41, .tmp 49]) rfl ?_); at_builtin; refine Kd.R_append Kd.string (w0 := w0) w0.heap.size rfl (.tmp 41) (.tmp 49) 38 9 (.string ⟨#[]⟩) 16 rfl Try.underlying38 info9 rfl (by decide) (by omega) u3 (x1 ++ allK s) kx [.string kx] (fun _ => True) (fun _ => False) rfl rfl ?aP (fun _ hk => hk.elim) ?aF ?aO ?aB ?aS ?aL ?_; (case aP => exact rfl); (case aB => exact be_ HB.out); (case aF => exact fun _ _ => trivial); (case aO => exact rk_ HO1.out); (case aS => exact bw_ HB.out); (case aL => have := HZ3.out; omega); intro u1' w7 ho hb hg hat; have n1_ := Aside0.mk ho; have n2_ := Aside0.mk (SR.far (SR.ofR (rk_ HO2.out)) hg (neSymm HNE.out)); have n3_ := Aside0.mk (SR.ne (SR.ofR (rk_ HO2.out)) hat HNE.out); have n4_ := Aside0.mk hb; have hz1' := (HN.out.below hb).z1; have hz0b := (HN.out.below hb).z0; have hzv' := (hb.cell (World.block_lt_of_cell? w0 _ HV0.out)).trans HV0.out; clear HO1 HO2 HNE HB; have HO1 := n1_; have HO2 := n2_; have HNE := n3_; have HB := n4_; clear n1_ n2_ n3_ n4_ ho hb hg hat) | ((with_reducible refine gate_builtin (b := .append) (xs := #[.tmp 51, .tmp 59]) rfl ?_); at_builtin; refine Kd.R_append Kd.string (w0 := w0) w0.heap.size rfl (.tmp 51) (.tmp 59) 38 9 (.string ⟨#[]⟩) 16 rfl Try.underlying38 info9 rfl (by decide) (by omega) u4 (x2 ++ allV s) vx [.string vx] (fun _ => True) (fun _ => False) rfl rfl ?aP (fun _ hk => hk.elim) ?aF ?aO ?aB ?aS ?aL ?_; (case aP => exact rfl); (case aB => exact be_ HB.out); (case aF => exact fun _ _ => trivial); (case aO => exact rk_ HO2.out); (case aS => exact bw_ HB.out); (case aL => have := HZ4.out; omega); intro u2' w8 ho hb hg hat; have n1_ := Aside0.mk ho; have n2_ := Aside0.mk (SR.far (SR.ofR (rk_ HO1.out)) hg HNE.out); have n3_ := Aside0.mk (neSymm (SR.ne (SR.ofR (rk_ HO1.out)) hat (neSymm HNE.out))); have n4_ := Aside0.mk hb; clear HO1 HO2 HNE HB; have HO2 := n1_; have HO1 := n2_; have HNE := n3_; have HB := n4_; clear n1_ n2_ n3_ n4_ ho hb hg hat))
            go_roundg (t.keys.length - i)
            case measure => have := HK.out; have := HI.out; omega
            case rel => exact ⟨i + 1, _, _, by first | rfl | go_num | (simp; done), ⟨by have := HK.out; have := HI.out; omega⟩, HE1, HE2, ⟨SR.ofR (rk_ HO1.out)⟩, ⟨SR.ofR (rk_ HO2.out)⟩, HNE, ⟨be_ HB.out⟩⟩
          · obtain rfl : i = t.keys.length := by omega
            have e1 := restK_last hs (Nat.le_refl _) hkl
            have e2 := restV_last hs (by have := HS1.out; omega) hkl
            have HE1 := Aside0.mk (app_rest HR1.out e1)
            have HE2 := Aside0.mk (app_rest HR2.out e2)
            have HZ1 := Aside0.mk (show (x1 ++ allK s).length ≤ 8796093022208 by rw [List.length_append]; exact app_len HR1.out e1 HL1.out)
            have HZ2 := Aside0.mk (show (x2 ++ allV s).length ≤ 8796093022208 by rw [List.length_append]; exact app_len HR2.out e2 HL2.out)
            have hlc : decide ((t.keys.length : Int) < (t.keys.length : Int)) = false := decide_eq_false (by omega)
            clear hi hlt h0 HR1 HR2 e1 e2 hkl hs hrs hc0
            go_wp2_with (first | (go_at_call 84; (with_reducible refine (spec_leaf.callsB false hbl.out _ ?side1).mono ?_); (case side1 => repeat (first | exact HRr.out | (with_reducible refine Rd.drewN ?_ _) | (with_reducible refine Rd.drew ?_))); rintro e w' ⟨rfl, ⟨nd, rfl⟩⟩) | (go_at_call 65; (with_reducible refine (ih s (by have := PT.size_kid HS.out; have := HSZ.out; omega) (HF.out.kid HS.out) w0 _ u1 u2 x1 x2 HRs.out ?side2 ?side3 ?side4 HNE.out HZ1.out HZ2.out).mono ?_); (case side2 => exact be_ HB.out); (case side3 => exact SR.ofR (rk_ HO1.out)); (case side4 => exact SR.ofR (rk_ HO2.out)); rintro e w5 ⟨u3, u4, rfl, ho1, ho2, hne, hb⟩; have n1_ := Aside0.mk ho1; have n2_ := Aside0.mk ho2; have n3_ := Aside0.mk hne; have n4_ := Aside0.mk hb; have hz0' := (HN.out.below hb).z0;  clear HO1 HO2 HNE HB; have HO1 := n1_; have HO2 := n2_; have HNE := n3_; have HB := n4_; clear n1_ n2_ n3_ n4_ ho1 ho2 hne hb))
            go_roundg (t.keys.length - t.keys.length)
            case measure => have := HK.out; have := HI.out; omega
            case rel => exact ⟨t.keys.length + 1, _, _, by first | rfl | go_num | (simp; done), ⟨by have := HK.out; have := HI.out; omega⟩, HE1, HE2, ⟨SR.ofR (rk_ HO1.out)⟩, ⟨SR.ofR (rk_ HO2.out)⟩, HNE, ⟨be_ HB.out⟩⟩
      · have ce : decide ((i : Int) ≤ (t.keys.length : Int)) = false := decide_eq_false (by omega)
        have ceb : (i ≤ t.keys.length) = False := eq_false hi
        have HE1 := show x1 = L1 by have := HS1.out; rw [← HR1.out, restK_end (by omega) (by omega), List.append_nil]
        have HE2 := show x2 = L2 by have := HS1.out; rw [← HR2.out, restV_end (by omega) (by omega), List.append_nil]
        subst HE1
        subst HE2
        clear hi
        go_wp2
        go_ret2
        exact ⟨_, _, rfl, SR.ofR (rk_ HO1.out), SR.ofR (rk_ HO2.out), HNE.out, be_ HB.out⟩
end Go.Proofs.Ytoddejmlcnbdmaa.Tree
namespace Go.Proofs.Ytoddejmlcnbdmaa.Tree
open Go.RowKit Go.Proofs.YtoddejmlcnbdmaaW.PrintWords Go.Proofs.YtoddejmlcnbdmaaW.PrintLast Go.Proofs.YtoddejmlcnbdmaaW.PrintMore Go.Proofs.Ytoddejmlcnbdmaa.Fn
set_option linter.unusedVariables false
set_option linter.unusedSimpArgs false
set_option maxHeartbeats 8000000
set_option maxRecDepth 100000

theorem impl_isLeaf.callsB {p : Nat} {t : PT} (b : Bool) (hb : decide ((t.kids.length : Int) = 0) = b) (w : World) (h : Rd 101 w p t) :
    Calls Try.prog 99 #[ptrv p] w fun e w' => e = .returned (.bool b) ∧ Drawn0 w w' := by
  subst hb
  obtain ⟨Ak, ck, Av, cv, Ac, cc, ps, HN⟩ := h.open
  have hz := HN.z2
  clear HN h
  go_enter Try.func99, Try.ntmps99
  go_wp2
  go_ret
  exact ⟨by first | rfl | (simp; done), by repeat (first | exact Drawn0.refl _ | apply Drawn0.step)⟩
theorem impl_depth.calls : ∀ (n : Nat) (t : PT), SizeOf.sizeOf t ≤ n → Few t → ∀ (d : Int) (b : Bool), depthP t = (d, b) → ∀ {p : Nat} (w : World), Rd 101 w p t →
    Calls Try.prog 62 #[ptrv p] w fun e w' => e = .returned (.tuple #[.int .i64 d, .bool b]) ∧ Drawn0 w w' := by
  intro n
  induction n with
  | zero =>
    intro t hs
    cases t with | mk keys vals kids => simp at hs
  | succ n ih =>
    intro t hs hf d b hr p w h
    by_cases h0 : t.kids.length = 0
    · have HO := Aside0.mk h
      have he := depthP_leaf h0
      rw [hr] at he
      injection he with e1 e2
      subst e1; subst e2
      have hb0 := Aside0.mk (show decide ((t.kids.length : Int) = 0) = true from decide_eq_true (by omega))
      clear h h0 hr
      go_enter Try.func62, Try.ntmps62
      go_wp2_with (go_at_call 99; (with_reducible refine (impl_isLeaf.callsB true hb0.out _ ?side1).mono ?_); (case side1 => repeat (first | exact HO.out | (with_reducible refine Rd.drewN ?_ _) | (with_reducible refine Rd.drew ?_))); rintro e w' ⟨rfl, ⟨nd, rfl⟩⟩)
      go_ret2
      exact ⟨by first | done | rfl, by repeat (first | exact Drawn0.refl _ | apply Drawn0.step)⟩
    · have HO := Aside0.mk h
      have hb0 := Aside0.mk (show decide ((t.kids.length : Int) = 0) = false from decide_eq_false (by omega))
      obtain ⟨Ak, ck, Av, cv, Ac, cc, ps, HN⟩ := h.open
      have hz0 := HN.z0
      have hz2 := HN.z2
      have HN' := Aside0.mk HN
      have HF := Aside0.mk hf
      have HSZ := Aside0.mk hs
      have HL := Aside0.mk (show 0 < t.kids.length by omega)
      have HE := Aside0.mk (hr.symm.trans (depthP_node h0))
      clear h h0 HN hf hs hr
      go_enter Try.func62, Try.ntmps62
      go_upto_region 5 with (go_at_call 99; (with_reducible refine (impl_isLeaf.callsB false hb0.out _ ?side1).mono ?_); (case side1 => repeat (first | exact HO.out | (with_reducible refine Rd.drewN ?_ _) | (with_reducible refine Rd.drew ?_))); rintro e w' ⟨rfl, ⟨nd, rfl⟩⟩)
      go_loopg [4, 16] t.kids.length (fun kq v4 v16 w' => ∃ (i m : Nat) (f : Int), v16 = .int .i64 (i : Int) ∧ v4 = .int .i64 f ∧ Aside0 (kq + i = t.kids.length) ∧ Aside0 ((d, b) = depthR t.keys.length (depthL i f (t.kids.drop i))) ∧ w' = w.drewN m)
      case atStart => exact ⟨0, _, 0, by first | rfl | (simp; done), rfl, ⟨Nat.add_zero _⟩, HE, rfl⟩
      case round =>
        clear HE
        obtain ⟨i, m, f, rfl, rfl, HK, HE, rfl⟩ := hrel
        by_cases hi : i < t.kids.length
        · obtain ⟨ad, q, s, rfl, hz, hs, ho⟩ := HN'.out.kid i (by omega) (by omega)
          rw [Int.toNat_natCast] at hz hs
          obtain ⟨Ak1, ck1, Av1, cv1, Ac1, cc1, ps1, HN1⟩ := ho.open
          have hzk := HN1.z0
          have HS := Aside0.mk hs
          have H1 := Aside0.mk ho
          have HI := Aside0.mk hi
          have ce : decide ((i : Int) < (t.kids.length : Int)) = true := decide_eq_true (by omega)
          have cea : ((i : Int) < (t.kids.length : Int)) = True := eq_true (by omega)
          have ceb : (i < t.kids.length) = True := eq_true hi
          have cec : (0 ≤ (i : Int)) = True := eq_true (by omega)
          obtain ⟨d1, b1, hdb⟩ : ∃ d1 b1, depthP s = (d1, b1) := ⟨_, _, rfl⟩
          have HD := Aside0.mk hdb
          clear HN1 ho hs hi hdb
          cases b1 with
          | false =>
            have HE1 := Aside0.mk (depthL_off HS.out HE.out (.inl (by rw [HD.out])))
            go_wp2_with (go_at_call 62; (with_reducible refine (ih s (by have := PT.size_kid HS.out; have := HSZ.out; omega) (HF.out.kid HS.out) d1 false HD.out _ ?side1).mono ?_); (case side1 => repeat (first | exact H1.out | (with_reducible refine Rd.drewN ?_ _) | (with_reducible refine Rd.drew ?_))); rintro e w' ⟨rfl, ⟨nd, rfl⟩⟩)
            go_ret2
            have := HE1.out
            injection this with e1 e2
            exact ⟨by rw [e1, e2]; first | done | rfl, by repeat (first | exact Drawn0.refl _ | apply Drawn0.step | exact ⟨_, rfl⟩)⟩
          | true =>
            by_cases hk : s.keys.length < 2
            · have HE1 := Aside0.mk (depthL_off HS.out HE.out (.inr (.inl hk)))
              have hkb : decide ((s.keys.length : Int) < 2) = true := decide_eq_true (by omega)
              clear hk
              go_wp2_with (go_at_call 62; (with_reducible refine (ih s (by have := PT.size_kid HS.out; have := HSZ.out; omega) (HF.out.kid HS.out) d1 true HD.out _ ?side1).mono ?_); (case side1 => repeat (first | exact H1.out | (with_reducible refine Rd.drewN ?_ _) | (with_reducible refine Rd.drew ?_))); rintro e w' ⟨rfl, ⟨nd, rfl⟩⟩)
              go_ret2
              have := HE1.out
              injection this with e1 e2
              exact ⟨by rw [e1, e2]; first | done | rfl, by repeat (first | exact Drawn0.refl _ | apply Drawn0.step | exact ⟨_, rfl⟩)⟩
            · have hkb : decide ((s.keys.length : Int) < 2) = false := decide_eq_false (by omega)
              by_cases h3 : i = 0 ∨ d1 = f
              · have HE1 := Aside0.mk (depthL_on HS.out HE.out (by rw [HD.out]) hk (by rw [HD.out]; exact h3))
                have hm : t.kids.length ≤ 1048576 := HF.out.len
                have hj : i < t.kids.length := HI.out
                rw [HD.out] at HE1
                clear hk
                by_cases hi0 : 0 < i
                · obtain rfl : d1 = f := h3.resolve_left (by omega)
                  have hi0b : decide (0 < (i : Int)) = true := decide_eq_true (by omega)
                  have hi0c : (0 < i) = True := eq_true hi0
                  clear hi0 h3
                  go_wp2_with (go_at_call 62; (with_reducible refine (ih s (by have := PT.size_kid HS.out; have := HSZ.out; omega) (HF.out.kid HS.out) d1 true HD.out _ ?side1).mono ?_); (case side1 => repeat (first | exact H1.out | (with_reducible refine Rd.drewN ?_ _) | (with_reducible refine Rd.drew ?_))); rintro e w' ⟨rfl, ⟨nd, rfl⟩⟩)
                  go_roundg (t.kids.length - (i + 1))
                  case measure => have := HK.out; omega
                  case rel => exact ⟨i + 1, _, d1, by first | rfl | go_num | (simp; done), rfl, ⟨by omega⟩, HE1, rfl⟩
                · have hi0b : decide (0 < (i : Int)) = false := decide_eq_false (by omega)
                  have hi0c : (0 < i) = False := eq_false hi0
                  clear hi0 h3
                  go_wp2_with (go_at_call 62; (with_reducible refine (ih s (by have := PT.size_kid HS.out; have := HSZ.out; omega) (HF.out.kid HS.out) d1 true HD.out _ ?side1).mono ?_); (case side1 => repeat (first | exact H1.out | (with_reducible refine Rd.drewN ?_ _) | (with_reducible refine Rd.drew ?_))); rintro e w' ⟨rfl, ⟨nd, rfl⟩⟩)
                  go_roundg (t.kids.length - (i + 1))
                  case measure => have := HK.out; omega
                  case rel => exact ⟨i + 1, _, d1, by first | rfl | go_num | (simp; done), rfl, ⟨by omega⟩, HE1, rfl⟩
              · have h4 : 0 < i ∧ d1 ≠ f := ⟨by omega, fun e => h3 (.inr e)⟩
                have HE1 := Aside0.mk (depthL_off HS.out HE.out (.inr (.inr ⟨h4.1, by rw [HD.out]; exact h4.2⟩)))
                have hi0b : decide (0 < (i : Int)) = true := decide_eq_true (by omega)
                have hi0c : (0 < i) = True := eq_true h4.1
                have hne : (d1 != f) = true := by simpa using h4.2
                clear hk h3 h4
                go_wp2_with (go_at_call 62; (with_reducible refine (ih s (by have := PT.size_kid HS.out; have := HSZ.out; omega) (HF.out.kid HS.out) d1 true HD.out _ ?side1).mono ?_); (case side1 => repeat (first | exact H1.out | (with_reducible refine Rd.drewN ?_ _) | (with_reducible refine Rd.drew ?_))); rintro e w' ⟨rfl, ⟨nd, rfl⟩⟩)
                go_ret2
                have := HE1.out
                injection this with e1 e2
                exact ⟨by rw [e1, e2]; first | done | rfl, by repeat (first | exact Drawn0.refl _ | apply Drawn0.step | exact ⟨_, rfl⟩)⟩
        · have ce : decide ((i : Int) < (t.kids.length : Int)) = false := decide_eq_false (by omega)
          have ceb : (i < t.kids.length) = False := eq_false (by omega)
          have HE1 := depthL_end (by omega) HE.out
          injection HE1 with e1 e2
          subst e1; subst e2
          clear hi HE
          go_wp2
          go_quiet (fail)
          go_wp2
          go_ret2
          exact ⟨by first | done | rfl | simp [i64_w] | simp [IntKind.wrap_i64, wrap64], by repeat (first | exact Drawn0.refl _ | apply Drawn0.step | exact ⟨_, rfl⟩)⟩
end Go.Proofs.Ytoddejmlcnbdmaa.Tree
namespace Go.Proofs.Ytoddejmlcnbdmaa.Tree
open Go.Proofs.Ytoddejmlcnbdmaa.Gen
open Go.RowKit Go.Proofs.YtoddejmlcnbdmaaW.PrintWords Go.Proofs.YtoddejmlcnbdmaaW.PrintLast Go.Proofs.YtoddejmlcnbdmaaW.PrintMore Go.Proofs.Ytoddejmlcnbdmaa.Fn
set_option linter.unusedVariables false
set_option linter.unusedSimpArgs false
set_option maxHeartbeats 8000000
set_option maxRecDepth 100000

theorem below_of_drawn0 {w w' : World} (h : Drawn0 w w') : Below w.heap.size w w' := by
  obtain ⟨n, rfl⟩ := h.out
  exact pw_below_drewN (Below.refl _ _) n
theorem below_of_drawn {N : Nat} {w w' : World} (h : Drawn0 w w') : Below N w w' := by
  obtain ⟨n, rfl⟩ := h.out
  exact pw_below_drewN (Below.refl _ _) n
theorem impl_all.calls : ∀ (n : Nat) (t : PT), SizeOf.sizeOf t ≤ n → Shp t → ∀ {p : Nat} (w0 w : World) (v1 v2 : Value) (l1 l2 : List ByteArray), Rd 101 w0 p t → Below w0.heap.size w0 w → SR w w0.heap.size v1 l1 → SR w w0.heap.size v2 l2 → NeRow v1 v2 →
    (l1 ++ allK t).length ≤ 8796093022208 → (l2 ++ allV t).length ≤ 8796093022208 → Calls Try.prog 66 #[ptrv p, v1, v2] w (AllR w0 (l1 ++ allK t) (l2 ++ allV t)) := by
  intro n
  induction n with
  | zero =>
    intro t hs
    cases t with | mk keys vals kids => simp at hs
  | succ n ih =>
    intro t hs hf p w0 w v1 v2 l1 l2 hrd hB ho1 ho2 hne hb1 hb2
    obtain ⟨Ak, ck, Av, cv, Ac, cc, ps, HN0⟩ := hrd.open
    have HN := Aside0.mk HN0
    have HB := Aside0.mk hB
    have HO1 := Aside0.mk ho1
    have HO2 := Aside0.mk ho2
    have HNE := Aside0.mk hne
    obtain ⟨L1, hL1⟩ : ∃ L, L = l1 ++ allK t := ⟨_, rfl⟩
    obtain ⟨L2, hL2⟩ : ∃ L, L = l2 ++ allV t := ⟨_, rfl⟩
    rw [← hL1, ← hL2]
    rw [← hL1] at hb1
    rw [← hL2] at hb2
    have HL1 := Aside0.mk hb1
    have HL2 := Aside0.mk hb2
    have HR1 := Aside0.mk (show l1 ++ restK t 0 = L1 by rw [restK_zero, hL1])
    have HR2 := Aside0.mk (show l2 ++ restV t 0 = L2 by rw [restV_zero, hL2])
    have h1 := hf.one
    unfold Shp1 at h1
    have HS1 := Aside0.mk h1
    have HF := Aside0.mk hf
    have HSZ := Aside0.mk hs
    have hm : t.keys.length ≤ 1000 := h1.2.1
    have hz0 := (HN0.below hB).z0
    clear hrd hB ho1 ho2 hne hb1 hb2 hL1 hL2 HN0 h1 hf hs
    go_enter Try.func66, Try.ntmps66
    go_wp2
    go_loopg [1, 2, 15] t.keys.length (fun kq u1 u2 u15 w' => ∃ (i : Nat) (x1 x2 : List ByteArray), u15 = .int .i64 (i : Int) ∧ Aside0 (kq + i = t.keys.length) ∧ Aside0 (x1 ++ restK t i = L1) ∧ Aside0 (x2 ++ restV t i = L2) ∧ Aside0 (SR w' w0.heap.size u1 x1) ∧ Aside0 (SR w' w0.heap.size u2 x2) ∧ Aside0 (NeRow u1 u2) ∧ Aside0 (Below w0.heap.size w0 w'))
    case atStart => exact ⟨0, l1, l2, by first | rfl | (simp; done), ⟨Nat.add_zero _⟩, HR1, HR2, HO1, HO2, HNE, HB⟩
    case round =>
      clear HR1 HR2 HO1 HO2 HNE HB hz0
      obtain ⟨i, x1, x2, rfl, HK, HR1, HR2, HO1, HO2, HNE, HB⟩ := hrel
      have HNr := Aside0.mk (HN.out.below HB.out)
      have HRr := Aside0.mk HNr.out.rd
      have hz0 := HNr.out.z0
      have hz2 := HNr.out.z2
      have ci : (0 ≤ (i : Int)) = True := eq_true (by omega)
      by_cases hi : i < t.keys.length
      · have ce : decide ((i : Int) < (t.keys.length : Int)) = true := decide_eq_true (by omega)
        have ceb : (i < t.keys.length) = True := eq_true hi
        have hJ : i ≤ 1000 := (by omega)
        have HI := Aside0.mk hi
        obtain ⟨adk, rfl, hk0⟩ := HN.out.key i (by omega) (by omega)
        obtain ⟨adv, rfl, hv0⟩ := HN.out.val i (by omega) (by have := HS1.out; omega)
        rw [Int.toNat_natCast] at hk0 hv0
        obtain ⟨kx, hkx⟩ : ∃ x, x = rdOf ByteArray.empty t.keys (i : Int) := ⟨_, rfl⟩
        obtain ⟨vx, hvx⟩ : ∃ x, x = rdOf ByteArray.empty t.vals (i : Int) := ⟨_, rfl⟩
        rw [← hkx] at hk0
        rw [← hvx] at hv0
        by_cases h0 : t.kids.length = 0
        · have hbl := Aside0.mk (show decide ((t.kids.length : Int) = 0) = true from decide_eq_true (by omega))
          have e1 := restK_leaf h0 hi
          have e2 := restV_leaf h0 (i := i) (by have := HS1.out; omega)
          rw [show t.keys.getD i ByteArray.empty = kx from hkx.symm] at e1
          rw [show t.vals.getD i ByteArray.empty = vx from hvx.symm] at e2
          have HE1 := Aside0.mk (app_rest (x := [kx]) HR1.out e1)
          have HE2 := Aside0.mk (app_rest (x := [vx]) HR2.out e2)
          have HZ1 := Aside0.mk (show x1.length + 1 ≤ 8796093022208 from app_len (x := [kx]) HR1.out e1 HL1.out)
          have HZ2 := Aside0.mk (show x2.length + 1 ≤ 8796093022208 from app_len (x := [vx]) HR2.out e2 HL2.out)
          have HV0 := Aside0.mk hv0
          have hzk := (Below.cell HB.out (World.block_lt_of_cell? w0 _ hk0)).trans hk0
          have hva : ((i : Int) < (t.vals.length : Int)) = True := eq_true (by have := HS1.out; omega)
          have hvb : (i < t.vals.length) = True := eq_true (by have := HS1.out; omega)
          clear hk0 hv0 hkx hvx e1 e2 hi h0 HR1 HR2
          go_wp2_with ((go_at_call 99; (with_reducible refine (impl_isLeaf.callsB true hbl.out _ ?side1).mono ?_); (case side1 => exact HRr.out); rintro e w6 ⟨rfl, hd⟩; have n1_ := Aside0.mk (HB.out.trans (below_of_drawn hd)); have hz0' := (HN.out.below n1_.out).z0; have hz2' := (HN.out.below n1_.out).z2; have n2_ := Aside0.mk (SR.under HO1.out (below_of_drawn0 hd)); have n3_ := Aside0.mk (SR.under HO2.out (below_of_drawn0 hd)); clear hd; clear HB; clear HO1; clear HO2; have HB := n1_; have HO1 := n2_; have HO2 := n3_; clear n1_ n2_ n3_))
          have HS2 := Aside0.mk (Sat.two HO1.out HO2.out HNE.out)
          refine start_ (n := 16) (S := fun w' => w'.cell? ⟨p, 1, none⟩ = some (.slice (some adv) t.vals.length cv) ∧ w'.cell? (adv.add i) = some (.string vx)) (ds := []) #[false, false, false, false, false, false, false, false, false, false, false, false, false, false, false, false] (by kernel_rfl) rfl rfl ⟨(HN.out.below (below_drew HB.out)).z1, (Below.cell (below_drew HB.out) (World.block_lt_of_cell? w0 _ HV0.out)).trans HV0.out⟩ (fun hHeld => ?_)
          refine pure_ (i := 0) (N := some 36) (v := ?_) (a' := ?_) #[true, false, false, false, false, false, false, false, false, false, false, false, false, false, false, false] rfl rfl (by kernel_rfl) (fun _ _ _ h => h) (Or.inl ⟨by rfl, ?_⟩) ?_ ?_
          rotate_left
          · intro w'
            go_simp
            with_reducible rfl
          rotate_left
          · simp only [Act.put, List.setIfInBounds_toArray, List.set_cons_zero, List.set_cons_succ, i64_w, i32_w]
            rfl
          refine pure_ (i := 1) (N := some 37) (v := ?_) (a' := ?_) #[true, true, false, false, false, false, false, false, false, false, false, false, false, false, false, false] rfl rfl (by kernel_rfl) (fun _ _ _ h => h) (Or.inl ⟨by rfl, ?_⟩) ?_ ?_
          rotate_left
          · intro w'
            go_simp
            with_reducible rfl
          rotate_left
          · simp only [Act.put, List.setIfInBounds_toArray, List.set_cons_zero, List.set_cons_succ, i64_w, i32_w]
            rfl
          refine pure_ (i := 4) (N := some 40) (v := ?_) (a' := ?_) #[true, true, false, false, true, false, false, false, false, false, false, false, false, false, false, false] rfl rfl (by kernel_rfl) (fun _ _ _ h => h) (Or.inl ⟨by rfl, ?_⟩) ?_ ?_
          rotate_left
          · intro w'
            go_simp
            with_reducible rfl
          rotate_left
          · simp only [Act.put, List.setIfInBounds_toArray, List.set_cons_zero, List.set_cons_succ, i64_w, i32_w]
            rfl
          refine pure_ (i := 5) (N := some 41) (v := ?_) (a' := ?_) #[true, true, false, false, true, true, false, false, false, false, false, false, false, false, false, false] rfl rfl (by kernel_rfl) (fun _ _ _ h => h) (Or.inl ⟨by rfl, ?_⟩) ?_ ?_
          rotate_left
          · intro w'
            go_simp
            with_reducible rfl
          rotate_left
          · simp only [Act.put, List.setIfInBounds_toArray, List.set_cons_zero, List.set_cons_succ, i64_w, i32_w]
            rfl
          refine pure_ (i := 6) (N := some 42) (v := ?_) (a' := ?_) #[true, true, false, false, true, true, true, false, false, false, false, false, false, false, false, false] rfl rfl (by kernel_rfl) (fun _ _ _ h => h) (Or.inl ⟨by rfl, ?_⟩) ?_ ?_
          rotate_left
          · intro w'
            go_simp
            with_reducible rfl
          rotate_left
          · simp only [Act.put, List.setIfInBounds_toArray, List.set_cons_zero, List.set_cons_succ, i64_w, i32_w]
            rfl
          refine pure_ (i := 7) (N := some 43) (v := ?_) (a' := ?_) #[true, true, false, false, true, true, true, true, false, false, false, false, false, false, false, false] rfl rfl (by kernel_rfl) (fun _ _ _ h => h) (Or.inl ⟨by rfl, ?_⟩) ?_ ?_
          rotate_left
          · intro w'
            go_simp
            with_reducible rfl
          rotate_left
          · simp only [Act.put, List.setIfInBounds_toArray, List.set_cons_zero, List.set_cons_succ, i64_w, i32_w]
            rfl
          refine pure_ (i := 9) (N := some 45) (v := ?_) (a' := ?_) #[true, true, false, false, true, true, true, true, false, true, false, false, false, false, false, false] rfl rfl (by kernel_rfl) (fun _ _ _ h => h) (Or.inl ⟨by rfl, ?_⟩) ?_ ?_
          rotate_left
          · intro w'
            go_simp
            with_reducible rfl
          rotate_left
          · simp only [Act.put, List.setIfInBounds_toArray, List.set_cons_zero, List.set_cons_succ, i64_w, i32_w]
            rfl
          refine take_ (i := 8) (N := some 44) (v := ?_) (a' := ?_) #[true, true, false, false, true, true, true, true, true, true, false, false, false, false, false, false] rfl rfl (by kernel_rfl) (fun _ _ _ h => h) (Or.inl ⟨by rfl, ?_⟩) hHeld ?_ ?_
          rotate_left
          · rintro w' ⟨s0, s1⟩
            go_simp
            with_reducible rfl
          rotate_left
          · simp only [Act.put, List.setIfInBounds_toArray, List.set_cons_zero, List.set_cons_succ, i64_w, i32_w]
            rfl
          refine pure_ (i := 10) (N := some 46) (v := ?_) (a' := ?_) #[true, true, false, false, true, true, true, true, true, true, true, false, false, false, false, false] rfl rfl (by kernel_rfl) (fun _ _ _ h => h) (Or.inl ⟨by rfl, ?_⟩) ?_ ?_
          rotate_left
          · intro w'
            go_simp
            with_reducible rfl
          rotate_left
          · simp only [Act.put, List.setIfInBounds_toArray, List.set_cons_zero, List.set_cons_succ, i64_w, i32_w]
            rfl
          refine take_ (i := 11) (N := some 47) (v := ?_) (a' := ?_) #[true, true, false, false, true, true, true, true, true, true, true, true, false, false, false, false] rfl rfl (by kernel_rfl) (fun _ _ _ h => h) (Or.inl ⟨by rfl, ?_⟩) hHeld ?_ ?_
          rotate_left
          · rintro w' ⟨s0, s1⟩
            go_simp
            with_reducible rfl
          rotate_left
          · simp only [Act.put, List.setIfInBounds_toArray, List.set_cons_zero, List.set_cons_succ, i64_w, i32_w]
            rfl
          refine join_ (σ := Value × Value × Value) 3 #[true, true, true, true, true, true, true, true, true, true, true, true, true, false, false, false] (fun z => [(38, z.1), (39, z.2.1), (48, z.2.2)]) (fun z w' => Below w0.heap.size w0 w' ∧ Sat w' w0.heap.size [txt z.2.1 (x1 ++ [kx]), txt u2 x2, txt z.2.2 [vx]]) ?_ ?_
          rotate_left
          · intro hCont
            refine two_ (i := 2) (j := 12) (Ni := some 38) (Nj := some 48) #[true, true, true, false, true, true, true, true, true, true, true, true, false, false, false, false] #[true, true, false, false, true, true, true, true, true, true, true, true, true, false, false, false] rfl rfl rfl rfl (by kernel_rfl) (by decide) (by decide) (fun K hK => ?_) (fun K hK => ?_)
            · skip
              refine Kd.R_lit_step Kd.string (w0 := w0) w0.heap.size 9 (by rfl) (N := 38) rfl (xs := [kx]) (inner := [.string kx]) (ok := fun _ => True) (okp := fun _ => False) ?hr (Kd.reps_scalar (enc := Value.string) [kx]) (fun _ h => h.elim) trivial (below_drew HB.out) ((below_drew HB.out)).size (by simp) ?_
              (case hr => first | (go_simp; done) | (go_simp; rfl))
              intro vb1 w_2 hob hbb hgb hnb
              have HB_2 := Aside0.mk hbb
              have HS_2 := Aside0.mk (Sat.lit (Sat.drew HS2.out) hob hgb hnb)
              obtain ⟨vb1A, vb1c, rfl⟩ : ∃ A c, vb1 = .slice A 1 c := Kd.R_slice hob
              clear hob hbb hgb hnb
              refine hK.out _ _ ⟨(HN.out.below HB_2.out).z1, (Below.cell HB_2.out (World.block_lt_of_cell? w0 _ HV0.out)).trans HV0.out⟩ (fun hHeld => ?_)
              clear hK K
              refine norm_ (a' := ?_) ?_ ?_
              rotate_left
              · show Act.put _ (some 38) _ = _
                simp only [Act.put, List.setIfInBounds_toArray, List.set_cons_zero, List.set_cons_succ, i64_w, i32_w]
                rfl
              refine two_ (i := 3) (j := 12) (Ni := some 39) (Nj := some 48) #[true, true, true, true, true, true, true, true, true, true, true, true, false, false, false, false] #[true, true, true, false, true, true, true, true, true, true, true, true, true, false, false, false] rfl rfl rfl rfl (by kernel_rfl) (by decide) (by decide) (fun K hK => ?_) (fun K hK => ?_)
              · skip
                refine Kd.R_append_rows_step Kd.string (w0 := w0) w0.heap.size (by rfl) (.tmp 36) (.tmp 38) 38 9 (.string ⟨#[]⟩) 16 rfl Try.underlying38 info9 rfl (by decide) (by omega) u1 x1 [kx] vb1A 1 vb1c (fun _ => True) (fun _ => False) rfl rfl (Sat.sr HS_2.out 0 rfl) (Kd.R_reads' (Sat.sr HS_2.out 2 rfl)).2.2 (fun _ _ h => h) (fun _ h => h.elim) (fun _ _ => trivial) HB_2.out (HB_2.out).size (by have := HZ1.out; (try simp only [List.length_singleton]); omega) ?_
                intro u1n w_2_3 ho hb hg hat
                have HB_2_3 := Aside0.mk hb
                have HS_2_3 := Aside0.mk (Sat.app 0 HS_2.out rfl ho hg hat)
                clear ho hb hg hat
                refine hK.out _ _ ⟨(HN.out.below HB_2_3.out).z1, (Below.cell HB_2_3.out (World.block_lt_of_cell? w0 _ HV0.out)).trans HV0.out⟩ (fun hHeld => ?_)
                clear hK K
                refine norm_ (a' := ?_) ?_ ?_
                rotate_left
                · show Act.put _ (some 39) _ = _
                  simp only [Act.put, List.setIfInBounds_toArray, List.set_cons_zero, List.set_cons_succ, i64_w, i32_w]
                  rfl
                refine one_ (i := 12) (N := some 48) #[true, true, true, true, true, true, true, true, true, true, true, true, true, false, false, false] rfl rfl (by kernel_rfl) (by decide) (fun K hK => ?_)
                refine Kd.R_lit_step Kd.string (w0 := w0) w0.heap.size 9 (by rfl) (N := 48) rfl (xs := [vx]) (inner := [.string vx]) (ok := fun _ => True) (okp := fun _ => False) ?hr (Kd.reps_scalar (enc := Value.string) [vx]) (fun _ h => h.elim) trivial HB_2_3.out (HB_2_3.out).size (by simp) ?_
                (case hr => first | (go_simp; done) | (go_simp; rfl))
                intro vb2 w_2_3_12 hob hbb hgb hnb
                have HB_2_3_12 := Aside0.mk hbb
                have HS_2_3_12 := Aside0.mk (Sat.lit HS_2_3.out hob hgb hnb)
                obtain ⟨vb2A, vb2c, rfl⟩ : ∃ A c, vb2 = .slice A 1 c := Kd.R_slice hob
                clear hob hbb hgb hnb
                refine hK.out _ _ ⟨(HN.out.below HB_2_3_12.out).z1, (Below.cell HB_2_3_12.out (World.block_lt_of_cell? w0 _ HV0.out)).trans HV0.out⟩ (fun hHeld => ?_)
                clear hK K
                refine norm_ (a' := ?_) ?_ ?_
                rotate_left
                · show Act.put _ (some 48) _ = _
                  simp only [Act.put, List.setIfInBounds_toArray, List.set_cons_zero, List.set_cons_succ, i64_w, i32_w]
                  rfl
                exact norm_ (by simp only [putAll, Act.put, List.setIfInBounds_toArray, List.set_cons_zero, List.set_cons_succ]) (hCont ⟨.slice vb1A 1 vb1c, u1n, .slice vb2A 1 vb2c⟩ _ ⟨HB_2_3_12.out, Sat.sub HS_2_3_12.out (by simp)⟩)
              · skip
                refine Kd.R_lit_step Kd.string (w0 := w0) w0.heap.size 9 (by rfl) (N := 48) rfl (xs := [vx]) (inner := [.string vx]) (ok := fun _ => True) (okp := fun _ => False) ?hr (Kd.reps_scalar (enc := Value.string) [vx]) (fun _ h => h.elim) trivial HB_2.out (HB_2.out).size (by simp) ?_
                (case hr => first | (go_simp; done) | (go_simp; rfl))
                intro vb2 w_2_12 hob hbb hgb hnb
                have HB_2_12 := Aside0.mk hbb
                have HS_2_12 := Aside0.mk (Sat.lit HS_2.out hob hgb hnb)
                obtain ⟨vb2A, vb2c, rfl⟩ : ∃ A c, vb2 = .slice A 1 c := Kd.R_slice hob
                clear hob hbb hgb hnb
                refine hK.out _ _ ⟨(HN.out.below HB_2_12.out).z1, (Below.cell HB_2_12.out (World.block_lt_of_cell? w0 _ HV0.out)).trans HV0.out⟩ (fun hHeld => ?_)
                clear hK K
                refine norm_ (a' := ?_) ?_ ?_
                rotate_left
                · show Act.put _ (some 48) _ = _
                  simp only [Act.put, List.setIfInBounds_toArray, List.set_cons_zero, List.set_cons_succ, i64_w, i32_w]
                  rfl
                refine one_ (i := 3) (N := some 39) #[true, true, true, true, true, true, true, true, true, true, true, true, true, false, false, false] rfl rfl (by kernel_rfl) (by decide) (fun K hK => ?_)
                refine Kd.R_append_rows_step Kd.string (w0 := w0) w0.heap.size (by rfl) (.tmp 36) (.tmp 38) 38 9 (.string ⟨#[]⟩) 16 rfl Try.underlying38 info9 rfl (by decide) (by omega) u1 x1 [kx] vb1A 1 vb1c (fun _ => True) (fun _ => False) rfl rfl (Sat.sr HS_2_12.out 0 rfl) (Kd.R_reads' (Sat.sr HS_2_12.out 2 rfl)).2.2 (fun _ _ h => h) (fun _ h => h.elim) (fun _ _ => trivial) HB_2_12.out (HB_2_12.out).size (by have := HZ1.out; (try simp only [List.length_singleton]); omega) ?_
                intro u1n w_2_12_3 ho hb hg hat
                have HB_2_12_3 := Aside0.mk hb
                have HS_2_12_3 := Aside0.mk (Sat.app 0 HS_2_12.out rfl ho hg hat)
                clear ho hb hg hat
                refine hK.out _ _ ⟨(HN.out.below HB_2_12_3.out).z1, (Below.cell HB_2_12_3.out (World.block_lt_of_cell? w0 _ HV0.out)).trans HV0.out⟩ (fun hHeld => ?_)
                clear hK K
                refine norm_ (a' := ?_) ?_ ?_
                rotate_left
                · show Act.put _ (some 39) _ = _
                  simp only [Act.put, List.setIfInBounds_toArray, List.set_cons_zero, List.set_cons_succ, i64_w, i32_w]
                  rfl
                exact norm_ (by simp only [putAll, Act.put, List.setIfInBounds_toArray, List.set_cons_zero, List.set_cons_succ]) (hCont ⟨.slice vb1A 1 vb1c, u1n, .slice vb2A 1 vb2c⟩ _ ⟨HB_2_12_3.out, Sat.sub HS_2_12_3.out (by simp)⟩)
            · skip
              refine Kd.R_lit_step Kd.string (w0 := w0) w0.heap.size 9 (by rfl) (N := 48) rfl (xs := [vx]) (inner := [.string vx]) (ok := fun _ => True) (okp := fun _ => False) ?hr (Kd.reps_scalar (enc := Value.string) [vx]) (fun _ h => h.elim) trivial (below_drew HB.out) ((below_drew HB.out)).size (by simp) ?_
              (case hr => first | (go_simp; done) | (go_simp; rfl))
              intro vb2 w_12 hob hbb hgb hnb
              have HB_12 := Aside0.mk hbb
              have HS_12 := Aside0.mk (Sat.lit (Sat.drew HS2.out) hob hgb hnb)
              obtain ⟨vb2A, vb2c, rfl⟩ : ∃ A c, vb2 = .slice A 1 c := Kd.R_slice hob
              clear hob hbb hgb hnb
              refine hK.out _ _ ⟨(HN.out.below HB_12.out).z1, (Below.cell HB_12.out (World.block_lt_of_cell? w0 _ HV0.out)).trans HV0.out⟩ (fun hHeld => ?_)
              clear hK K
              refine norm_ (a' := ?_) ?_ ?_
              rotate_left
              · show Act.put _ (some 48) _ = _
                simp only [Act.put, List.setIfInBounds_toArray, List.set_cons_zero, List.set_cons_succ, i64_w, i32_w]
                rfl
              refine one_ (i := 2) (N := some 38) #[true, true, true, false, true, true, true, true, true, true, true, true, true, false, false, false] rfl rfl (by kernel_rfl) (by decide) (fun K hK => ?_)
              refine Kd.R_lit_step Kd.string (w0 := w0) w0.heap.size 9 (by rfl) (N := 38) rfl (xs := [kx]) (inner := [.string kx]) (ok := fun _ => True) (okp := fun _ => False) ?hr (Kd.reps_scalar (enc := Value.string) [kx]) (fun _ h => h.elim) trivial HB_12.out (HB_12.out).size (by simp) ?_
              (case hr => first | (go_simp; done) | (go_simp; rfl))
              intro vb1 w_12_2 hob hbb hgb hnb
              have HB_12_2 := Aside0.mk hbb
              have HS_12_2 := Aside0.mk (Sat.lit HS_12.out hob hgb hnb)
              obtain ⟨vb1A, vb1c, rfl⟩ : ∃ A c, vb1 = .slice A 1 c := Kd.R_slice hob
              clear hob hbb hgb hnb
              refine hK.out _ _ ⟨(HN.out.below HB_12_2.out).z1, (Below.cell HB_12_2.out (World.block_lt_of_cell? w0 _ HV0.out)).trans HV0.out⟩ (fun hHeld => ?_)
              clear hK K
              refine norm_ (a' := ?_) ?_ ?_
              rotate_left
              · show Act.put _ (some 38) _ = _
                simp only [Act.put, List.setIfInBounds_toArray, List.set_cons_zero, List.set_cons_succ, i64_w, i32_w]
                rfl
              refine one_ (i := 3) (N := some 39) #[true, true, true, true, true, true, true, true, true, true, true, true, true, false, false, false] rfl rfl (by kernel_rfl) (by decide) (fun K hK => ?_)
              refine Kd.R_append_rows_step Kd.string (w0 := w0) w0.heap.size (by rfl) (.tmp 36) (.tmp 38) 38 9 (.string ⟨#[]⟩) 16 rfl Try.underlying38 info9 rfl (by decide) (by omega) u1 x1 [kx] vb1A 1 vb1c (fun _ => True) (fun _ => False) rfl rfl (Sat.sr HS_12_2.out 0 rfl) (Kd.R_reads' (Sat.sr HS_12_2.out 3 rfl)).2.2 (fun _ _ h => h) (fun _ h => h.elim) (fun _ _ => trivial) HB_12_2.out (HB_12_2.out).size (by have := HZ1.out; (try simp only [List.length_singleton]); omega) ?_
              intro u1n w_12_2_3 ho hb hg hat
              have HB_12_2_3 := Aside0.mk hb
              have HS_12_2_3 := Aside0.mk (Sat.app 0 HS_12_2.out rfl ho hg hat)
              clear ho hb hg hat
              refine hK.out _ _ ⟨(HN.out.below HB_12_2_3.out).z1, (Below.cell HB_12_2_3.out (World.block_lt_of_cell? w0 _ HV0.out)).trans HV0.out⟩ (fun hHeld => ?_)
              clear hK K
              refine norm_ (a' := ?_) ?_ ?_
              rotate_left
              · show Act.put _ (some 39) _ = _
                simp only [Act.put, List.setIfInBounds_toArray, List.set_cons_zero, List.set_cons_succ, i64_w, i32_w]
                rfl
              exact norm_ (by simp only [putAll, Act.put, List.setIfInBounds_toArray, List.set_cons_zero, List.set_cons_succ]) (hCont ⟨.slice vb1A 1 vb1c, u1n, .slice vb2A 1 vb2c⟩ _ ⟨HB_12_2_3.out, Sat.sub HS_12_2_3.out (by simp)⟩)
          rintro ⟨vb1, u1n, vb2⟩ w8 ⟨hb, hs⟩
          obtain ⟨vb2A, vb2c, rfl⟩ : ∃ A c, vb2 = .slice A 1 c := Kd.R_slice (Sat.sr hs 2 rfl)
          have hHeld : (w8.cell? ⟨p, 1, none⟩ = some (.slice (some adv) t.vals.length cv)) ∧ (w8.cell? (adv.add i) = some (.string vx)) := ⟨(HN.out.below hb).z1, (Below.cell hb (World.block_lt_of_cell? w0 _ HV0.out)).trans HV0.out⟩
          have HB8 := Aside0.mk hb
          have HS8 := Aside0.mk hs
          clear hb hs
          refine norm_ (a' := ?_) ?_ ?_
          rotate_left
          · simp only [putAll, Act.put, List.setIfInBounds_toArray, List.set_cons_zero, List.set_cons_succ]
            rfl
          refine one_ (i := 13) (N := some 49) #[true, true, true, true, true, true, true, true, true, true, true, true, true, true, false, false] rfl rfl (by kernel_rfl) (by decide) (fun K hK => ?_)
          refine Kd.R_append_rows_step Kd.string (w0 := w0) w0.heap.size (by rfl) (.tmp 40) (.tmp 48) 38 9 (.string ⟨#[]⟩) 16 rfl Try.underlying38 info9 rfl (by decide) (by omega) u2 x2 [vx] vb2A 1 vb2c (fun _ => True) (fun _ => False) rfl rfl (Sat.sr HS8.out 1 rfl) (Kd.R_reads' (Sat.sr HS8.out 2 rfl)).2.2 (fun _ _ h => h) (fun _ h => h.elim) (fun _ _ => trivial) HB8.out HB8.out.size (by have := HZ2.out; (try simp only [List.length_singleton]); omega) ?_
          intro u2n w9 ho hb hg hat
          have n1_ := Aside0.mk hb
          have n2_ := Aside0.mk (Sat.app 1 HS8.out rfl ho hg hat)
          clear ho hb hg hat HB8 HS8
          have HB8 := n1_
          have HS8 := n2_
          clear n1_ n2_
          refine hK.out _ _ ⟨(HN.out.below HB8.out).z1, (Below.cell HB8.out (World.block_lt_of_cell? w0 _ HV0.out)).trans HV0.out⟩ (fun hHeld => ?_)
          clear hK K
          refine norm_ (a' := ?_) ?_ ?_
          rotate_left
          · show Act.put _ (some 49) _ = _
            simp only [Act.put, List.setIfInBounds_toArray, List.set_cons_zero, List.set_cons_succ, i64_w, i32_w]
            rfl
          refine pure_ (i := 14) (N := some 1) (v := ?_) (a' := ?_) #[true, true, true, true, true, true, true, true, true, true, true, true, true, true, true, false] rfl rfl (by kernel_rfl) (fun _ _ _ h => h) (Or.inl ⟨by rfl, ?_⟩) ?_ ?_
          rotate_left
          · intro w'
            go_simp
            with_reducible rfl
          rotate_left
          · simp only [Act.put, List.setIfInBounds_toArray, List.set_cons_zero, List.set_cons_succ, i64_w, i32_w]
            rfl
          refine pure_ (i := 15) (N := some 2) (v := ?_) (a' := ?_) #[true, true, true, true, true, true, true, true, true, true, true, true, true, true, true, true] rfl rfl (by kernel_rfl) (fun _ _ _ h => h) (Or.inl ⟨by rfl, ?_⟩) ?_ ?_
          rotate_left
          · intro w'
            go_simp
            with_reducible rfl
          rotate_left
          · simp only [Act.put, List.setIfInBounds_toArray, List.set_cons_zero, List.set_cons_succ, i64_w, i32_w]
            rfl
          refine done_ (by kernel_rfl) ?_
          go_wp2
          go_roundg (t.keys.length - (i + 1))
          case measure => have := HK.out; have := HI.out; omega
          case rel => exact ⟨i + 1, _, _, by first | rfl | go_num | (simp; done), ⟨by have := HK.out; have := HI.out; omega⟩, HE1, HE2, ⟨Sat.sr HS8.out 0 rfl⟩, ⟨Sat.sr HS8.out 1 rfl⟩, ⟨Sat.ap2 HS8.out (i := 0) (j := 1) (by omega) rfl rfl⟩, HB8⟩
        · have hbl := Aside0.mk (show decide ((t.kids.length : Int) = 0) = false from decide_eq_false (by omega))
          have hkl : t.kids.length = t.keys.length + 1 := HS1.out.2.2.resolve_left h0
          obtain ⟨adc, q, s, rfl, hc0, hs, hrs⟩ := HN.out.kid i (by omega) (by omega)
          rw [Int.toNat_natCast] at hc0 hs
          have HS := Aside0.mk hs
          have HRs := Aside0.mk hrs
          have HC0 := Aside0.mk hc0
          have hca : ((i : Int) < (t.kids.length : Int)) = True := eq_true (by omega)
          have hcb : (i < t.kids.length) = True := eq_true (by omega)
          have e1 := restK_node hs hi
          have e2 := restV_node hs (i := i) (by have := HS1.out; omega)
          rw [show t.keys.getD i ByteArray.empty = kx from hkx.symm] at e1
          rw [show t.vals.getD i ByteArray.empty = vx from hvx.symm] at e2
          have HE01 := app_rest HR1.out e1
          have HE02 := app_rest HR2.out e2
          have HE1 := Aside0.mk (app_rest (x := [kx]) HE01 rfl)
          have HE2 := Aside0.mk (app_rest (x := [vx]) HE02 rfl)
          have HZ1 := Aside0.mk (show (x1 ++ allK s).length ≤ 8796093022208 by rw [List.length_append]; exact app_len HR1.out e1 HL1.out)
          have HZ2 := Aside0.mk (show (x2 ++ allV s).length ≤ 8796093022208 by rw [List.length_append]; exact app_len HR2.out e2 HL2.out)
          have HZ3 := Aside0.mk (show (x1 ++ allK s).length + 1 ≤ 8796093022208 from app_len (x := [kx]) HE01 rfl HL1.out)
          have HZ4 := Aside0.mk (show (x2 ++ allV s).length + 1 ≤ 8796093022208 from app_len (x := [vx]) HE02 rfl HL2.out)
          have HV0 := Aside0.mk hv0
          have hzk := (Below.cell HB.out (World.block_lt_of_cell? w0 _ hk0)).trans hk0
          have hva : ((i : Int) < (t.vals.length : Int)) = True := eq_true (by have := HS1.out; omega)
          have hvb : (i < t.vals.length) = True := eq_true (by have := HS1.out; omega)
          clear hk0 hv0 hkx hvx e1 e2 hi h0 HR1 HR2 HE01 HE02 hkl hs hrs hc0
          go_wp2_with (first | (go_at_call 99; (with_reducible refine (impl_isLeaf.callsB false hbl.out _ ?side1).mono ?_); (case side1 => exact HRr.out); rintro e w6 ⟨rfl, hd⟩; have n1_ := Aside0.mk (HB.out.trans (below_of_drawn hd)); have hz0' := (HN.out.below n1_.out).z0; have hz2' := (HN.out.below n1_.out).z2; have n2_ := Aside0.mk (SR.under HO1.out (below_of_drawn0 hd)); have n3_ := Aside0.mk (SR.under HO2.out (below_of_drawn0 hd)); have hzc := (Below.cell n1_.out (World.block_lt_of_cell? w0 _ HC0.out)).trans HC0.out; clear hd; clear HB; clear HO1; clear HO2; have HB := n1_; have HO1 := n2_; have HO2 := n3_; clear n1_ n2_ n3_) | (go_at_call 66; (with_reducible refine (ih s (by have := PT.size_kid HS.out; have := HSZ.out; omega) (HF.out.kid HS.out) w0 _ u1 u2 x1 x2 HRs.out HB.out HO1.out HO2.out HNE.out HZ1.out HZ2.out).mono ?_); rintro e w7 ⟨u3, u4, rfl, ho1, ho2, hne, hb⟩; have n1_ := Aside0.mk ho1; have n2_ := Aside0.mk ho2; have n3_ := Aside0.mk hne; have n4_ := Aside0.mk hb; clear HO1 HO2 HNE HB; have HO1 := n1_; have HO2 := n2_; have HNE := n3_; have HB := n4_; clear n1_ n2_ n3_ n4_ ho1 ho2 hne hb))
          have HS2 := Aside0.mk (Sat.two HO1.out HO2.out HNE.out)
          refine start_ (n := 16) (S := fun w' => w'.cell? ⟨p, 1, none⟩ = some (.slice (some adv) t.vals.length cv) ∧ w'.cell? (adv.add i) = some (.string vx)) (ds := []) #[false, false, false, false, false, false, false, false, false, false, false, false, false, false, false, false] (by kernel_rfl) rfl rfl ⟨(HN.out.below (below_drew HB.out)).z1, (Below.cell (below_drew HB.out) (World.block_lt_of_cell? w0 _ HV0.out)).trans HV0.out⟩ (fun hHeld => ?_)
          refine pure_ (i := 0) (N := some 36) (v := ?_) (a' := ?_) #[true, false, false, false, false, false, false, false, false, false, false, false, false, false, false, false] rfl rfl (by kernel_rfl) (fun _ _ _ h => h) (Or.inl ⟨by rfl, ?_⟩) ?_ ?_
          rotate_left
          · intro w'
            go_simp
            with_reducible rfl
          rotate_left
          · simp only [Act.put, List.setIfInBounds_toArray, List.set_cons_zero, List.set_cons_succ, i64_w, i32_w]
            rfl
          refine pure_ (i := 1) (N := some 37) (v := ?_) (a' := ?_) #[true, true, false, false, false, false, false, false, false, false, false, false, false, false, false, false] rfl rfl (by kernel_rfl) (fun _ _ _ h => h) (Or.inl ⟨by rfl, ?_⟩) ?_ ?_
          rotate_left
          · intro w'
            go_simp
            with_reducible rfl
          rotate_left
          · simp only [Act.put, List.setIfInBounds_toArray, List.set_cons_zero, List.set_cons_succ, i64_w, i32_w]
            rfl
          refine pure_ (i := 4) (N := some 40) (v := ?_) (a' := ?_) #[true, true, false, false, true, false, false, false, false, false, false, false, false, false, false, false] rfl rfl (by kernel_rfl) (fun _ _ _ h => h) (Or.inl ⟨by rfl, ?_⟩) ?_ ?_
          rotate_left
          · intro w'
            go_simp
            with_reducible rfl
          rotate_left
          · simp only [Act.put, List.setIfInBounds_toArray, List.set_cons_zero, List.set_cons_succ, i64_w, i32_w]
            rfl
          refine pure_ (i := 5) (N := some 41) (v := ?_) (a' := ?_) #[true, true, false, false, true, true, false, false, false, false, false, false, false, false, false, false] rfl rfl (by kernel_rfl) (fun _ _ _ h => h) (Or.inl ⟨by rfl, ?_⟩) ?_ ?_
          rotate_left
          · intro w'
            go_simp
            with_reducible rfl
          rotate_left
          · simp only [Act.put, List.setIfInBounds_toArray, List.set_cons_zero, List.set_cons_succ, i64_w, i32_w]
            rfl
          refine pure_ (i := 6) (N := some 42) (v := ?_) (a' := ?_) #[true, true, false, false, true, true, true, false, false, false, false, false, false, false, false, false] rfl rfl (by kernel_rfl) (fun _ _ _ h => h) (Or.inl ⟨by rfl, ?_⟩) ?_ ?_
          rotate_left
          · intro w'
            go_simp
            with_reducible rfl
          rotate_left
          · simp only [Act.put, List.setIfInBounds_toArray, List.set_cons_zero, List.set_cons_succ, i64_w, i32_w]
            rfl
          refine pure_ (i := 7) (N := some 43) (v := ?_) (a' := ?_) #[true, true, false, false, true, true, true, true, false, false, false, false, false, false, false, false] rfl rfl (by kernel_rfl) (fun _ _ _ h => h) (Or.inl ⟨by rfl, ?_⟩) ?_ ?_
          rotate_left
          · intro w'
            go_simp
            with_reducible rfl
          rotate_left
          · simp only [Act.put, List.setIfInBounds_toArray, List.set_cons_zero, List.set_cons_succ, i64_w, i32_w]
            rfl
          refine pure_ (i := 9) (N := some 45) (v := ?_) (a' := ?_) #[true, true, false, false, true, true, true, true, false, true, false, false, false, false, false, false] rfl rfl (by kernel_rfl) (fun _ _ _ h => h) (Or.inl ⟨by rfl, ?_⟩) ?_ ?_
          rotate_left
          · intro w'
            go_simp
            with_reducible rfl
          rotate_left
          · simp only [Act.put, List.setIfInBounds_toArray, List.set_cons_zero, List.set_cons_succ, i64_w, i32_w]
            rfl
          refine take_ (i := 8) (N := some 44) (v := ?_) (a' := ?_) #[true, true, false, false, true, true, true, true, true, true, false, false, false, false, false, false] rfl rfl (by kernel_rfl) (fun _ _ _ h => h) (Or.inl ⟨by rfl, ?_⟩) hHeld ?_ ?_
          rotate_left
          · rintro w' ⟨s0, s1⟩
            go_simp
            with_reducible rfl
          rotate_left
          · simp only [Act.put, List.setIfInBounds_toArray, List.set_cons_zero, List.set_cons_succ, i64_w, i32_w]
            rfl
          refine pure_ (i := 10) (N := some 46) (v := ?_) (a' := ?_) #[true, true, false, false, true, true, true, true, true, true, true, false, false, false, false, false] rfl rfl (by kernel_rfl) (fun _ _ _ h => h) (Or.inl ⟨by rfl, ?_⟩) ?_ ?_
          rotate_left
          · intro w'
            go_simp
            with_reducible rfl
          rotate_left
          · simp only [Act.put, List.setIfInBounds_toArray, List.set_cons_zero, List.set_cons_succ, i64_w, i32_w]
            rfl
          refine take_ (i := 11) (N := some 47) (v := ?_) (a' := ?_) #[true, true, false, false, true, true, true, true, true, true, true, true, false, false, false, false] rfl rfl (by kernel_rfl) (fun _ _ _ h => h) (Or.inl ⟨by rfl, ?_⟩) hHeld ?_ ?_
          rotate_left
          · rintro w' ⟨s0, s1⟩
            go_simp
            with_reducible rfl
          rotate_left
          · simp only [Act.put, List.setIfInBounds_toArray, List.set_cons_zero, List.set_cons_succ, i64_w, i32_w]
            rfl
          refine join_ (σ := Value × Value × Value) 3 #[true, true, true, true, true, true, true, true, true, true, true, true, true, false, false, false] (fun z => [(38, z.1), (39, z.2.1), (48, z.2.2)]) (fun z w' => Below w0.heap.size w0 w' ∧ Sat w' w0.heap.size [txt z.2.1 ((x1 ++ allK s) ++ [kx]), txt u4 (x2 ++ allV s), txt z.2.2 [vx]]) ?_ ?_
          rotate_left
          · intro hCont
            refine two_ (i := 2) (j := 12) (Ni := some 38) (Nj := some 48) #[true, true, true, false, true, true, true, true, true, true, true, true, false, false, false, false] #[true, true, false, false, true, true, true, true, true, true, true, true, true, false, false, false] rfl rfl rfl rfl (by kernel_rfl) (by decide) (by decide) (fun K hK => ?_) (fun K hK => ?_)
            · skip
              refine Kd.R_lit_step Kd.string (w0 := w0) w0.heap.size 9 (by rfl) (N := 38) rfl (xs := [kx]) (inner := [.string kx]) (ok := fun _ => True) (okp := fun _ => False) ?hr (Kd.reps_scalar (enc := Value.string) [kx]) (fun _ h => h.elim) trivial (below_drew HB.out) ((below_drew HB.out)).size (by simp) ?_
              (case hr => first | (go_simp; done) | (go_simp; rfl))
              intro vb1 w_2 hob hbb hgb hnb
              have HB_2 := Aside0.mk hbb
              have HS_2 := Aside0.mk (Sat.lit (Sat.drew HS2.out) hob hgb hnb)
              obtain ⟨vb1A, vb1c, rfl⟩ : ∃ A c, vb1 = .slice A 1 c := Kd.R_slice hob
              clear hob hbb hgb hnb
              refine hK.out _ _ ⟨(HN.out.below HB_2.out).z1, (Below.cell HB_2.out (World.block_lt_of_cell? w0 _ HV0.out)).trans HV0.out⟩ (fun hHeld => ?_)
              clear hK K
              refine norm_ (a' := ?_) ?_ ?_
              rotate_left
              · show Act.put _ (some 38) _ = _
                simp only [Act.put, List.setIfInBounds_toArray, List.set_cons_zero, List.set_cons_succ, i64_w, i32_w]
                rfl
              refine two_ (i := 3) (j := 12) (Ni := some 39) (Nj := some 48) #[true, true, true, true, true, true, true, true, true, true, true, true, false, false, false, false] #[true, true, true, false, true, true, true, true, true, true, true, true, true, false, false, false] rfl rfl rfl rfl (by kernel_rfl) (by decide) (by decide) (fun K hK => ?_) (fun K hK => ?_)
              · skip
                refine Kd.R_append_rows_step Kd.string (w0 := w0) w0.heap.size (by rfl) (.tmp 36) (.tmp 38) 38 9 (.string ⟨#[]⟩) 16 rfl Try.underlying38 info9 rfl (by decide) (by omega) u3 (x1 ++ allK s) [kx] vb1A 1 vb1c (fun _ => True) (fun _ => False) rfl rfl (Sat.sr HS_2.out 0 rfl) (Kd.R_reads' (Sat.sr HS_2.out 2 rfl)).2.2 (fun _ _ h => h) (fun _ h => h.elim) (fun _ _ => trivial) HB_2.out (HB_2.out).size (by have := HZ3.out; (try simp only [List.length_singleton]); omega) ?_
                intro u1n w_2_3 ho hb hg hat
                have HB_2_3 := Aside0.mk hb
                have HS_2_3 := Aside0.mk (Sat.app 0 HS_2.out rfl ho hg hat)
                clear ho hb hg hat
                refine hK.out _ _ ⟨(HN.out.below HB_2_3.out).z1, (Below.cell HB_2_3.out (World.block_lt_of_cell? w0 _ HV0.out)).trans HV0.out⟩ (fun hHeld => ?_)
                clear hK K
                refine norm_ (a' := ?_) ?_ ?_
                rotate_left
                · show Act.put _ (some 39) _ = _
                  simp only [Act.put, List.setIfInBounds_toArray, List.set_cons_zero, List.set_cons_succ, i64_w, i32_w]
                  rfl
                refine one_ (i := 12) (N := some 48) #[true, true, true, true, true, true, true, true, true, true, true, true, true, false, false, false] rfl rfl (by kernel_rfl) (by decide) (fun K hK => ?_)
                refine Kd.R_lit_step Kd.string (w0 := w0) w0.heap.size 9 (by rfl) (N := 48) rfl (xs := [vx]) (inner := [.string vx]) (ok := fun _ => True) (okp := fun _ => False) ?hr (Kd.reps_scalar (enc := Value.string) [vx]) (fun _ h => h.elim) trivial HB_2_3.out (HB_2_3.out).size (by simp) ?_
                (case hr => first | (go_simp; done) | (go_simp; rfl))
                intro vb2 w_2_3_12 hob hbb hgb hnb
                have HB_2_3_12 := Aside0.mk hbb
                have HS_2_3_12 := Aside0.mk (Sat.lit HS_2_3.out hob hgb hnb)
                obtain ⟨vb2A, vb2c, rfl⟩ : ∃ A c, vb2 = .slice A 1 c := Kd.R_slice hob
                clear hob hbb hgb hnb
                refine hK.out _ _ ⟨(HN.out.below HB_2_3_12.out).z1, (Below.cell HB_2_3_12.out (World.block_lt_of_cell? w0 _ HV0.out)).trans HV0.out⟩ (fun hHeld => ?_)
                clear hK K
                refine norm_ (a' := ?_) ?_ ?_
                rotate_left
                · show Act.put _ (some 48) _ = _
                  simp only [Act.put, List.setIfInBounds_toArray, List.set_cons_zero, List.set_cons_succ, i64_w, i32_w]
                  rfl
                exact norm_ (by simp only [putAll, Act.put, List.setIfInBounds_toArray, List.set_cons_zero, List.set_cons_succ]) (hCont ⟨.slice vb1A 1 vb1c, u1n, .slice vb2A 1 vb2c⟩ _ ⟨HB_2_3_12.out, Sat.sub HS_2_3_12.out (by simp)⟩)
              · skip
                refine Kd.R_lit_step Kd.string (w0 := w0) w0.heap.size 9 (by rfl) (N := 48) rfl (xs := [vx]) (inner := [.string vx]) (ok := fun _ => True) (okp := fun _ => False) ?hr (Kd.reps_scalar (enc := Value.string) [vx]) (fun _ h => h.elim) trivial HB_2.out (HB_2.out).size (by simp) ?_
                (case hr => first | (go_simp; done) | (go_simp; rfl))
                intro vb2 w_2_12 hob hbb hgb hnb
                have HB_2_12 := Aside0.mk hbb
                have HS_2_12 := Aside0.mk (Sat.lit HS_2.out hob hgb hnb)
                obtain ⟨vb2A, vb2c, rfl⟩ : ∃ A c, vb2 = .slice A 1 c := Kd.R_slice hob
                clear hob hbb hgb hnb
                refine hK.out _ _ ⟨(HN.out.below HB_2_12.out).z1, (Below.cell HB_2_12.out (World.block_lt_of_cell? w0 _ HV0.out)).trans HV0.out⟩ (fun hHeld => ?_)
                clear hK K
                refine norm_ (a' := ?_) ?_ ?_
                rotate_left
                · show Act.put _ (some 48) _ = _
                  simp only [Act.put, List.setIfInBounds_toArray, List.set_cons_zero, List.set_cons_succ, i64_w, i32_w]
                  rfl
                refine one_ (i := 3) (N := some 39) #[true, true, true, true, true, true, true, true, true, true, true, true, true, false, false, false] rfl rfl (by kernel_rfl) (by decide) (fun K hK => ?_)
                refine Kd.R_append_rows_step Kd.string (w0 := w0) w0.heap.size (by rfl) (.tmp 36) (.tmp 38) 38 9 (.string ⟨#[]⟩) 16 rfl Try.underlying38 info9 rfl (by decide) (by omega) u3 (x1 ++ allK s) [kx] vb1A 1 vb1c (fun _ => True) (fun _ => False) rfl rfl (Sat.sr HS_2_12.out 0 rfl) (Kd.R_reads' (Sat.sr HS_2_12.out 2 rfl)).2.2 (fun _ _ h => h) (fun _ h => h.elim) (fun _ _ => trivial) HB_2_12.out (HB_2_12.out).size (by have := HZ3.out; (try simp only [List.length_singleton]); omega) ?_
                intro u1n w_2_12_3 ho hb hg hat
                have HB_2_12_3 := Aside0.mk hb
                have HS_2_12_3 := Aside0.mk (Sat.app 0 HS_2_12.out rfl ho hg hat)
                clear ho hb hg hat
                refine hK.out _ _ ⟨(HN.out.below HB_2_12_3.out).z1, (Below.cell HB_2_12_3.out (World.block_lt_of_cell? w0 _ HV0.out)).trans HV0.out⟩ (fun hHeld => ?_)
                clear hK K
                refine norm_ (a' := ?_) ?_ ?_
                rotate_left
                · show Act.put _ (some 39) _ = _
                  simp only [Act.put, List.setIfInBounds_toArray, List.set_cons_zero, List.set_cons_succ, i64_w, i32_w]
                  rfl
                exact norm_ (by simp only [putAll, Act.put, List.setIfInBounds_toArray, List.set_cons_zero, List.set_cons_succ]) (hCont ⟨.slice vb1A 1 vb1c, u1n, .slice vb2A 1 vb2c⟩ _ ⟨HB_2_12_3.out, Sat.sub HS_2_12_3.out (by simp)⟩)
            · skip
              refine Kd.R_lit_step Kd.string (w0 := w0) w0.heap.size 9 (by rfl) (N := 48) rfl (xs := [vx]) (inner := [.string vx]) (ok := fun _ => True) (okp := fun _ => False) ?hr (Kd.reps_scalar (enc := Value.string) [vx]) (fun _ h => h.elim) trivial (below_drew HB.out) ((below_drew HB.out)).size (by simp) ?_
              (case hr => first | (go_simp; done) | (go_simp; rfl))
              intro vb2 w_12 hob hbb hgb hnb
              have HB_12 := Aside0.mk hbb
              have HS_12 := Aside0.mk (Sat.lit (Sat.drew HS2.out) hob hgb hnb)
              obtain ⟨vb2A, vb2c, rfl⟩ : ∃ A c, vb2 = .slice A 1 c := Kd.R_slice hob
              clear hob hbb hgb hnb
              refine hK.out _ _ ⟨(HN.out.below HB_12.out).z1, (Below.cell HB_12.out (World.block_lt_of_cell? w0 _ HV0.out)).trans HV0.out⟩ (fun hHeld => ?_)
              clear hK K
              refine norm_ (a' := ?_) ?_ ?_
              rotate_left
              · show Act.put _ (some 48) _ = _
                simp only [Act.put, List.setIfInBounds_toArray, List.set_cons_zero, List.set_cons_succ, i64_w, i32_w]
                rfl
              refine one_ (i := 2) (N := some 38) #[true, true, true, false, true, true, true, true, true, true, true, true, true, false, false, false] rfl rfl (by kernel_rfl) (by decide) (fun K hK => ?_)
              refine Kd.R_lit_step Kd.string (w0 := w0) w0.heap.size 9 (by rfl) (N := 38) rfl (xs := [kx]) (inner := [.string kx]) (ok := fun _ => True) (okp := fun _ => False) ?hr (Kd.reps_scalar (enc := Value.string) [kx]) (fun _ h => h.elim) trivial HB_12.out (HB_12.out).size (by simp) ?_
              (case hr => first | (go_simp; done) | (go_simp; rfl))
              intro vb1 w_12_2 hob hbb hgb hnb
              have HB_12_2 := Aside0.mk hbb
              have HS_12_2 := Aside0.mk (Sat.lit HS_12.out hob hgb hnb)
              obtain ⟨vb1A, vb1c, rfl⟩ : ∃ A c, vb1 = .slice A 1 c := Kd.R_slice hob
              clear hob hbb hgb hnb
              refine hK.out _ _ ⟨(HN.out.below HB_12_2.out).z1, (Below.cell HB_12_2.out (World.block_lt_of_cell? w0 _ HV0.out)).trans HV0.out⟩ (fun hHeld => ?_)
              clear hK K
              refine norm_ (a' := ?_) ?_ ?_
              rotate_left
              · show Act.put _ (some 38) _ = _
                simp only [Act.put, List.setIfInBounds_toArray, List.set_cons_zero, List.set_cons_succ, i64_w, i32_w]
                rfl
              refine one_ (i := 3) (N := some 39) #[true, true, true, true, true, true, true, true, true, true, true, true, true, false, false, false] rfl rfl (by kernel_rfl) (by decide) (fun K hK => ?_)
              refine Kd.R_append_rows_step Kd.string (w0 := w0) w0.heap.size (by rfl) (.tmp 36) (.tmp 38) 38 9 (.string ⟨#[]⟩) 16 rfl Try.underlying38 info9 rfl (by decide) (by omega) u3 (x1 ++ allK s) [kx] vb1A 1 vb1c (fun _ => True) (fun _ => False) rfl rfl (Sat.sr HS_12_2.out 0 rfl) (Kd.R_reads' (Sat.sr HS_12_2.out 3 rfl)).2.2 (fun _ _ h => h) (fun _ h => h.elim) (fun _ _ => trivial) HB_12_2.out (HB_12_2.out).size (by have := HZ3.out; (try simp only [List.length_singleton]); omega) ?_
              intro u1n w_12_2_3 ho hb hg hat
              have HB_12_2_3 := Aside0.mk hb
              have HS_12_2_3 := Aside0.mk (Sat.app 0 HS_12_2.out rfl ho hg hat)
              clear ho hb hg hat
              refine hK.out _ _ ⟨(HN.out.below HB_12_2_3.out).z1, (Below.cell HB_12_2_3.out (World.block_lt_of_cell? w0 _ HV0.out)).trans HV0.out⟩ (fun hHeld => ?_)
              clear hK K
              refine norm_ (a' := ?_) ?_ ?_
              rotate_left
              · show Act.put _ (some 39) _ = _
                simp only [Act.put, List.setIfInBounds_toArray, List.set_cons_zero, List.set_cons_succ, i64_w, i32_w]
                rfl
              exact norm_ (by simp only [putAll, Act.put, List.setIfInBounds_toArray, List.set_cons_zero, List.set_cons_succ]) (hCont ⟨.slice vb1A 1 vb1c, u1n, .slice vb2A 1 vb2c⟩ _ ⟨HB_12_2_3.out, Sat.sub HS_12_2_3.out (by simp)⟩)
          rintro ⟨vb1, u1n, vb2⟩ w8 ⟨hb, hs⟩
          obtain ⟨vb2A, vb2c, rfl⟩ : ∃ A c, vb2 = .slice A 1 c := Kd.R_slice (Sat.sr hs 2 rfl)
          have hHeld : (w8.cell? ⟨p, 1, none⟩ = some (.slice (some adv) t.vals.length cv)) ∧ (w8.cell? (adv.add i) = some (.string vx)) := ⟨(HN.out.below hb).z1, (Below.cell hb (World.block_lt_of_cell? w0 _ HV0.out)).trans HV0.out⟩
          have HB8 := Aside0.mk hb
          have HS8 := Aside0.mk hs
          clear hb hs
          refine norm_ (a' := ?_) ?_ ?_
          rotate_left
          · simp only [putAll, Act.put, List.setIfInBounds_toArray, List.set_cons_zero, List.set_cons_succ]
            rfl
          refine one_ (i := 13) (N := some 49) #[true, true, true, true, true, true, true, true, true, true, true, true, true, true, false, false] rfl rfl (by kernel_rfl) (by decide) (fun K hK => ?_)
          refine Kd.R_append_rows_step Kd.string (w0 := w0) w0.heap.size (by rfl) (.tmp 40) (.tmp 48) 38 9 (.string ⟨#[]⟩) 16 rfl Try.underlying38 info9 rfl (by decide) (by omega) u4 (x2 ++ allV s) [vx] vb2A 1 vb2c (fun _ => True) (fun _ => False) rfl rfl (Sat.sr HS8.out 1 rfl) (Kd.R_reads' (Sat.sr HS8.out 2 rfl)).2.2 (fun _ _ h => h) (fun _ h => h.elim) (fun _ _ => trivial) HB8.out HB8.out.size (by have := HZ4.out; (try simp only [List.length_singleton]); omega) ?_
          intro u2n w9 ho hb hg hat
          have n1_ := Aside0.mk hb
          have n2_ := Aside0.mk (Sat.app 1 HS8.out rfl ho hg hat)
          clear ho hb hg hat HB8 HS8
          have HB8 := n1_
          have HS8 := n2_
          clear n1_ n2_
          refine hK.out _ _ ⟨(HN.out.below HB8.out).z1, (Below.cell HB8.out (World.block_lt_of_cell? w0 _ HV0.out)).trans HV0.out⟩ (fun hHeld => ?_)
          clear hK K
          refine norm_ (a' := ?_) ?_ ?_
          rotate_left
          · show Act.put _ (some 49) _ = _
            simp only [Act.put, List.setIfInBounds_toArray, List.set_cons_zero, List.set_cons_succ, i64_w, i32_w]
            rfl
          refine pure_ (i := 14) (N := some 1) (v := ?_) (a' := ?_) #[true, true, true, true, true, true, true, true, true, true, true, true, true, true, true, false] rfl rfl (by kernel_rfl) (fun _ _ _ h => h) (Or.inl ⟨by rfl, ?_⟩) ?_ ?_
          rotate_left
          · intro w'
            go_simp
            with_reducible rfl
          rotate_left
          · simp only [Act.put, List.setIfInBounds_toArray, List.set_cons_zero, List.set_cons_succ, i64_w, i32_w]
            rfl
          refine pure_ (i := 15) (N := some 2) (v := ?_) (a' := ?_) #[true, true, true, true, true, true, true, true, true, true, true, true, true, true, true, true] rfl rfl (by kernel_rfl) (fun _ _ _ h => h) (Or.inl ⟨by rfl, ?_⟩) ?_ ?_
          rotate_left
          · intro w'
            go_simp
            with_reducible rfl
          rotate_left
          · simp only [Act.put, List.setIfInBounds_toArray, List.set_cons_zero, List.set_cons_succ, i64_w, i32_w]
            rfl
          refine done_ (by kernel_rfl) ?_
          go_wp2
          go_roundg (t.keys.length - (i + 1))
          case measure => have := HK.out; have := HI.out; omega
          case rel => exact ⟨i + 1, _, _, by first | rfl | go_num | (simp; done), ⟨by have := HK.out; have := HI.out; omega⟩, HE1, HE2, ⟨Sat.sr HS8.out 0 rfl⟩, ⟨Sat.sr HS8.out 1 rfl⟩, ⟨Sat.ap2 HS8.out (i := 0) (j := 1) (by omega) rfl rfl⟩, HB8⟩
      · have ce : decide ((i : Int) < (t.keys.length : Int)) = false := decide_eq_false (by omega)
        have ceb : (i < t.keys.length) = False := eq_false hi
        obtain rfl : i = t.keys.length := by have := HK.out; omega
        by_cases h0 : t.kids.length = 0
        · have hbl := Aside0.mk (show decide ((t.kids.length : Int) = 0) = true from decide_eq_true (by omega))
          have HE1 := show x1 = L1 by have := HS1.out; rw [← HR1.out, restK_end (by omega) (by omega), List.append_nil]
          have HE2 := show x2 = L2 by have := HS1.out; rw [← HR2.out, restV_end (by omega) (by omega), List.append_nil]
          subst HE1
          subst HE2
          clear hi
          go_wp2_with ((go_at_call 99; (with_reducible refine (impl_isLeaf.callsB true hbl.out _ ?side1).mono ?_); (case side1 => exact HRr.out); rintro e w6 ⟨rfl, hd⟩; have n1_ := Aside0.mk (HB.out.trans (below_of_drawn hd)); have hz0' := (HN.out.below n1_.out).z0; have hz2' := (HN.out.below n1_.out).z2; have n2_ := Aside0.mk (SR.under HO1.out (below_of_drawn0 hd)); have n3_ := Aside0.mk (SR.under HO2.out (below_of_drawn0 hd)); clear hd; clear HB; clear HO1; clear HO2; have HB := n1_; have HO1 := n2_; have HO2 := n3_; clear n1_ n2_ n3_))
          go_ret2
          exact ⟨_, _, rfl, HO1.out, HO2.out, HNE.out, HB.out⟩
        · have hbl := Aside0.mk (show decide ((t.kids.length : Int) = 0) = false from decide_eq_false (by omega))
          have hkl : t.kids.length = t.keys.length + 1 := HS1.out.2.2.resolve_left h0
          obtain ⟨adc, q, s, rfl, hc0, hs, hrs⟩ := HN.out.kid (t.keys.length : Int) (by omega) (by omega)
          rw [Int.toNat_natCast] at hc0 hs
          have HS := Aside0.mk hs
          have HRs := Aside0.mk hrs
          have HC0 := Aside0.mk hc0
          have hca : decide ((t.keys.length : Int) < (t.kids.length : Int)) = true := decide_eq_true (by omega)
          have hcb : (t.keys.length < t.kids.length) = True := eq_true (by omega)
          have e1 := restK_last hs (Nat.le_refl _) hkl
          have e2 := restV_last hs (by have := HS1.out; omega) hkl
          have HE1 := show x1 ++ allK s = L1 by rw [← HR1.out, e1, restK_end (by omega) (by omega), List.append_nil]
          have HE2 := show x2 ++ allV s = L2 by have := HS1.out; rw [← HR2.out, e2, restV_end (by omega) (by omega), List.append_nil]
          have HZ1 := Aside0.mk (show (x1 ++ allK s).length ≤ 8796093022208 by rw [HE1]; exact HL1.out)
          have HZ2 := Aside0.mk (show (x2 ++ allV s).length ≤ 8796093022208 by rw [HE2]; exact HL2.out)
          subst HE1
          subst HE2
          clear hi e1 e2 hkl hs hrs hc0 h0 HR1 HR2
          go_wp2_with ((go_at_call 99; (with_reducible refine (impl_isLeaf.callsB false hbl.out _ ?side1).mono ?_); (case side1 => exact HRr.out); rintro e w6 ⟨rfl, hd⟩; have n1_ := Aside0.mk (HB.out.trans (below_of_drawn hd)); have hz0 := (HN.out.below n1_.out).z0; have hz2 := (HN.out.below n1_.out).z2; have n2_ := Aside0.mk (SR.under HO1.out (below_of_drawn0 hd)); have n3_ := Aside0.mk (SR.under HO2.out (below_of_drawn0 hd)); have hzc := (Below.cell n1_.out (World.block_lt_of_cell? w0 _ HC0.out)).trans HC0.out; clear hd; clear HB; clear HO1; clear HO2; have HB := n1_; have HO1 := n2_; have HO2 := n3_; clear n1_ n2_ n3_))
          have HB9 := HB
          refine start_ (n := 19) (S := fun w' => w'.cell? ⟨p, 2, none⟩ = some (.slice (some adc) t.kids.length cc) ∧ w'.cell? ⟨p, 0, none⟩ = some (.slice Ak t.keys.length ck) ∧ w'.cell? (adc.add t.keys.length) = some (ptrv q)) (ds := [13]) #[false, false, false, false, false, false, false, false, false, false, false, false, false, false, false, false, false, false, false] (by kernel_rfl) rfl rfl ⟨hz2, hz0, hzc⟩ (fun hHeld => ?_)
          refine pure_ (i := 0) (N := some 55) (v := ?_) (a' := ?_) #[true, false, false, false, false, false, false, false, false, false, false, false, false, false, false, false, false, false, false] rfl rfl (by kernel_rfl) (fun _ _ _ h => h) (Or.inl ⟨by rfl, ?_⟩) ?_ ?_
          rotate_left
          · intro w'
            go_simp
            with_reducible rfl
          rotate_left
          · simp only [Act.put, List.setIfInBounds_toArray, List.set_cons_zero, List.set_cons_succ, i64_w, i32_w]
            rfl
          refine pure_ (i := 1) (N := some 56) (v := ?_) (a' := ?_) #[true, true, false, false, false, false, false, false, false, false, false, false, false, false, false, false, false, false, false] rfl rfl (by kernel_rfl) (fun _ _ _ h => h) (Or.inl ⟨by rfl, ?_⟩) ?_ ?_
          rotate_left
          · intro w'
            go_simp
            with_reducible rfl
          rotate_left
          · simp only [Act.put, List.setIfInBounds_toArray, List.set_cons_zero, List.set_cons_succ, i64_w, i32_w]
            rfl
          refine pure_ (i := 2) (N := some 57) (v := ?_) (a' := ?_) #[true, true, true, false, false, false, false, false, false, false, false, false, false, false, false, false, false, false, false] rfl rfl (by kernel_rfl) (fun _ _ _ h => h) (Or.inl ⟨by rfl, ?_⟩) ?_ ?_
          rotate_left
          · intro w'
            go_simp
            with_reducible rfl
          rotate_left
          · simp only [Act.put, List.setIfInBounds_toArray, List.set_cons_zero, List.set_cons_succ, i64_w, i32_w]
            rfl
          refine pure_ (i := 4) (N := some 59) (v := ?_) (a' := ?_) #[true, true, true, false, true, false, false, false, false, false, false, false, false, false, false, false, false, false, false] rfl rfl (by kernel_rfl) (fun _ _ _ h => h) (Or.inl ⟨by rfl, ?_⟩) ?_ ?_
          rotate_left
          · intro w'
            go_simp
            with_reducible rfl
          rotate_left
          · simp only [Act.put, List.setIfInBounds_toArray, List.set_cons_zero, List.set_cons_succ, i64_w, i32_w]
            rfl
          refine pure_ (i := 5) (N := some 60) (v := ?_) (a' := ?_) #[true, true, true, false, true, true, false, false, false, false, false, false, false, false, false, false, false, false, false] rfl rfl (by kernel_rfl) (fun _ _ _ h => h) (Or.inl ⟨by rfl, ?_⟩) ?_ ?_
          rotate_left
          · intro w'
            go_simp
            with_reducible rfl
          rotate_left
          · simp only [Act.put, List.setIfInBounds_toArray, List.set_cons_zero, List.set_cons_succ, i64_w, i32_w]
            rfl
          refine pure_ (i := 6) (N := some 61) (v := ?_) (a' := ?_) #[true, true, true, false, true, true, true, false, false, false, false, false, false, false, false, false, false, false, false] rfl rfl (by kernel_rfl) (fun _ _ _ h => h) (Or.inl ⟨by rfl, ?_⟩) ?_ ?_
          rotate_left
          · intro w'
            go_simp
            with_reducible rfl
          rotate_left
          · simp only [Act.put, List.setIfInBounds_toArray, List.set_cons_zero, List.set_cons_succ, i64_w, i32_w]
            rfl
          refine pure_ (i := 11) (N := some 66) (v := ?_) (a' := ?_) #[true, true, true, false, true, true, true, false, false, false, false, true, false, false, false, false, false, false, false] rfl rfl (by kernel_rfl) (fun _ _ _ h => h) (Or.inl ⟨by rfl, ?_⟩) ?_ ?_
          rotate_left
          · intro w'
            go_simp
            with_reducible rfl
          rotate_left
          · simp only [Act.put, List.setIfInBounds_toArray, List.set_cons_zero, List.set_cons_succ, i64_w, i32_w]
            rfl
          refine pure_ (i := 12) (N := some 67) (v := ?_) (a' := ?_) #[true, true, true, false, true, true, true, false, false, false, false, true, true, false, false, false, false, false, false] rfl rfl (by kernel_rfl) (fun _ _ _ h => h) (Or.inl ⟨by rfl, ?_⟩) ?_ ?_
          rotate_left
          · intro w'
            go_simp
            with_reducible rfl
          rotate_left
          · simp only [Act.put, List.setIfInBounds_toArray, List.set_cons_zero, List.set_cons_succ, i64_w, i32_w]
            rfl
          refine take_ (i := 3) (N := some 58) (v := ?_) (a' := ?_) #[true, true, true, true, true, true, true, false, false, false, false, true, true, false, false, false, false, false, false] rfl rfl (by kernel_rfl) (fun _ _ _ h => h) (Or.inl ⟨by rfl, ?_⟩) hHeld ?_ ?_
          rotate_left
          · rintro w' ⟨s0, s1, s2⟩
            go_simp
            with_reducible rfl
          rotate_left
          · simp only [Act.put, List.setIfInBounds_toArray, List.set_cons_zero, List.set_cons_succ, i64_w, i32_w]
            rfl
          refine take_ (i := 7) (N := some 62) (v := ?_) (a' := ?_) #[true, true, true, true, true, true, true, true, false, false, false, true, true, false, false, false, false, false, false] rfl rfl (by kernel_rfl) (fun _ _ _ h => h) (Or.inl ⟨by rfl, ?_⟩) hHeld ?_ ?_
          rotate_left
          · rintro w' ⟨s0, s1, s2⟩
            go_simp
            with_reducible rfl
          rotate_left
          · simp only [Act.put, List.setIfInBounds_toArray, List.set_cons_zero, List.set_cons_succ, i64_w, i32_w]
            rfl
          refine pure_ (i := 8) (N := some 63) (v := ?_) (a' := ?_) #[true, true, true, true, true, true, true, true, true, false, false, true, true, false, false, false, false, false, false] rfl rfl (by kernel_rfl) (fun _ _ _ h => h) (Or.inl ⟨by rfl, ?_⟩) ?_ ?_
          rotate_left
          · intro w'
            go_simp
            with_reducible rfl
          rotate_left
          · simp only [Act.put, List.setIfInBounds_toArray, List.set_cons_zero, List.set_cons_succ, i64_w, i32_w]
            rfl
          refine pure_ (i := 9) (N := some 64) (v := ?_) (a' := ?_) #[true, true, true, true, true, true, true, true, true, true, false, true, true, false, false, false, false, false, false] rfl rfl (by kernel_rfl) (fun _ _ _ h => h) (Or.inl ⟨by rfl, ?_⟩) ?_ ?_
          rotate_left
          · intro w'
            go_simp
            with_reducible rfl
          rotate_left
          · simp only [Act.put, List.setIfInBounds_toArray, List.set_cons_zero, List.set_cons_succ, i64_w, i32_w]
            rfl
          refine take_ (i := 10) (N := some 65) (v := ?_) (a' := ?_) #[true, true, true, true, true, true, true, true, true, true, true, true, true, false, false, false, false, false, false] rfl rfl (by kernel_rfl) (fun _ _ _ h => h) (Or.inl ⟨by rfl, ?_⟩) hHeld ?_ ?_
          rotate_left
          · rintro w' ⟨s0, s1, s2⟩
            go_simp
            with_reducible rfl
          rotate_left
          · simp only [Act.put, List.setIfInBounds_toArray, List.set_cons_zero, List.set_cons_succ, i64_w, i32_w]
            rfl
          refine last_ (i := 13) (N := some 68) #[true, true, true, true, true, true, true, true, true, true, true, true, true, true, false, false, false, false, false] rfl rfl (by kernel_rfl) (by decide) (fun K hK => ?_)
          refine goes_ Try.func66 (by kernel_rfl) rfl #[ptrv q, u1, u2] (by rfl) rfl rfl (by simp only [List.map_toArray, List.map_cons, List.map_nil]; rfl) ?_
          with_reducible refine (ih s (by have := PT.size_kid HS.out; have := HSZ.out; omega) (HF.out.kid HS.out) w0 _ u1 u2 x1 x2 HRs.out (below_drew HB9.out) (SR.under HO1.out (below_drew (Below.refl _ _))) (SR.under HO2.out (below_drew (Below.refl _ _))) HNE.out HZ1.out HZ2.out).mono ?_
          rintro e w5 ⟨u3, u4, rfl, ho1, ho2, hne, hb⟩
          refine ⟨_, rfl, ?_⟩
          have n1_ := Aside0.mk ho1
          have n2_ := Aside0.mk ho2
          have n3_ := Aside0.mk hne
          have n4_ := Aside0.mk hb
          clear ho1 ho2 hne hb
          refine hK.out _ _ ?_
          clear hK K
          refine norm_ (a' := ?_) ?_ ?_
          rotate_left
          · show Act.put _ (some 68) _ = _
            simp only [Act.put, List.setIfInBounds_toArray, List.set_cons_zero, List.set_cons_succ, i64_w, i32_w]
            rfl
          refine pure_ (i := 14) (N := some 54) (v := ?_) (a' := ?_) #[true, true, true, true, true, true, true, true, true, true, true, true, true, true, true, false, false, false, false] rfl rfl (by kernel_rfl) (fun _ _ _ h => h) (Or.inl ⟨by rfl, ?_⟩) ?_ ?_
          rotate_left
          · intro w'
            go_simp
            with_reducible rfl
          rotate_left
          · simp only [Act.put, List.setIfInBounds_toArray, List.set_cons_zero, List.set_cons_succ, i64_w, i32_w]
            rfl
          refine pure_ (i := 15) (N := some 69) (v := ?_) (a' := ?_) #[true, true, true, true, true, true, true, true, true, true, true, true, true, true, true, true, false, false, false] rfl rfl (by kernel_rfl) (fun _ _ _ h => h) (Or.inl ⟨by rfl, ?_⟩) ?_ ?_
          rotate_left
          · intro w'
            go_simp
            with_reducible rfl
          rotate_left
          · simp only [Act.put, List.setIfInBounds_toArray, List.set_cons_zero, List.set_cons_succ, i64_w, i32_w]
            rfl
          refine pure_ (i := 16) (N := some 70) (v := ?_) (a' := ?_) #[true, true, true, true, true, true, true, true, true, true, true, true, true, true, true, true, true, false, false] rfl rfl (by kernel_rfl) (fun _ _ _ h => h) (Or.inl ⟨by rfl, ?_⟩) ?_ ?_
          rotate_left
          · intro w'
            go_simp
            with_reducible rfl
          rotate_left
          · simp only [Act.put, List.setIfInBounds_toArray, List.set_cons_zero, List.set_cons_succ, i64_w, i32_w]
            rfl
          refine pure_ (i := 17) (N := some 1) (v := ?_) (a' := ?_) #[true, true, true, true, true, true, true, true, true, true, true, true, true, true, true, true, true, true, false] rfl rfl (by kernel_rfl) (fun _ _ _ h => h) (Or.inl ⟨by rfl, ?_⟩) ?_ ?_
          rotate_left
          · intro w'
            go_simp
            with_reducible rfl
          rotate_left
          · simp only [Act.put, List.setIfInBounds_toArray, List.set_cons_zero, List.set_cons_succ, i64_w, i32_w]
            rfl
          refine pure_ (i := 18) (N := some 2) (v := ?_) (a' := ?_) #[true, true, true, true, true, true, true, true, true, true, true, true, true, true, true, true, true, true, true] rfl rfl (by kernel_rfl) (fun _ _ _ h => h) (Or.inl ⟨by rfl, ?_⟩) ?_ ?_
          rotate_left
          · intro w'
            go_simp
            with_reducible rfl
          rotate_left
          · simp only [Act.put, List.setIfInBounds_toArray, List.set_cons_zero, List.set_cons_succ, i64_w, i32_w]
            rfl
          refine done_ (by kernel_rfl) ?_
          go_wp2
          go_ret2
          exact ⟨_, _, rfl, n1_.out, n2_.out, n3_.out, n4_.out⟩
end Go.Proofs.Ytoddejmlcnbdmaa.Tree
namespace Go.Proofs.Ytoddejmlcnbdmaa.Tree
open Go.RowKit Go.Proofs.YtoddejmlcnbdmaaW.PrintWords Go.Proofs.YtoddejmlcnbdmaaW.PrintLast Go.Proofs.YtoddejmlcnbdmaaW.PrintMore Go.Proofs.Ytoddejmlcnbdmaa.Fn
set_option linter.unusedVariables false
set_option linter.unusedSimpArgs false
set_option maxHeartbeats 8000000
set_option maxRecDepth 100000

theorem spec_even.calls : ∀ (n : Nat) (t : PT), SizeOf.sizeOf t ≤ n → Few t → ∀ {p : Nat} (w : World), Rd 96 w p t →
    Calls Try.prog 61 #[ptrv p] w fun e w' => e = .returned (.int .i64 (evenS t)) ∧ Drawn0 w w' := by
  intro n
  induction n with
  | zero =>
    intro t hs
    cases t with | mk keys vals kids => simp at hs
  | succ n ih =>
    intro t hs hf p w h
    by_cases h0 : t.kids.length = 0
    · have HO := Aside0.mk h
      have HE := Aside0.mk (evenS_leaf h0)
      have hb0 := Aside0.mk (show decide ((t.kids.length : Int) = 0) = true from decide_eq_true (by omega))
      clear h h0
      go_enter Try.func61, Try.ntmps61
      go_wp2_with (go_at_call 84; (with_reducible refine (spec_leaf.callsB true hb0.out _ ?side1).mono ?_); (case side1 => repeat (first | exact HO.out | (with_reducible refine Rd.drewN ?_ _) | (with_reducible refine Rd.drew ?_))); rintro e w' ⟨rfl, ⟨nd, rfl⟩⟩)
      go_ret
      exact ⟨by rw [HE.out]; first | done | rfl, by repeat (first | exact Drawn0.refl _ | apply Drawn0.step)⟩
    · have HO := Aside0.mk h
      have hb0 := Aside0.mk (show decide ((t.kids.length : Int) = 0) = false from decide_eq_false (by omega))
      obtain ⟨Ak, ck, Av, cv, Ac, cc, ps, HN⟩ := h.open
      have hz2 := HN.z2
      obtain ⟨ad, q0, c, rfl, hz0, hs0, ho0⟩ := HN.kid 0 (by omega) (by omega)
      have H0 := Aside0.mk ho0
      have hS := Aside0.mk (PT.size_kid hs0)
      have HC := Aside0.mk hs0
      have HN' := Aside0.mk HN
      have HF := Aside0.mk hf
      have HSZ := Aside0.mk hs
      have HL := Aside0.mk (show 0 < t.kids.length by omega)
      have HE := Aside0.mk (evenS_node hs0)
      have hz0' : w.cell? ad = some (ptrv q0) := at0 hz0
      have p0b : (0 < t.kids.length) = True := eq_true HL.out
      clear h h0 hz0 hs0 ho0 HN hf hs
      go_enter Try.func61, Try.ntmps61
      go_upto_region 5 with (first | (go_at_call 84; (with_reducible refine (spec_leaf.callsB false hb0.out _ ?side1).mono ?_); (case side1 => repeat (first | exact HO.out | (with_reducible refine Rd.drewN ?_ _) | (with_reducible refine Rd.drew ?_))); rintro e w' ⟨rfl, ⟨nd, rfl⟩⟩) | (go_at_call 61; (with_reducible refine (ih c (by have := hS.out; have := HSZ.out; omega) (HF.out.kid HC.out) _ ?side1).mono ?_); (case side1 => repeat (first | exact H0.out | (with_reducible refine Rd.drewN ?_ _) | (with_reducible refine Rd.drew ?_))); rintro e w' ⟨rfl, ⟨nd, rfl⟩⟩))
      generalize evenS c = d at HE
      go_loopg [20] t.kids.length (fun kq v20 w' => ∃ (i m : Nat), v20 = .int .i64 (i : Int) ∧ Aside0 (kq + i = t.kids.length) ∧ Aside0 (evenS t = if evenL d (t.kids.drop i) then wrap64 (d + 1) else -1) ∧ w' = w.drewN m)
      case atStart => exact ⟨0, _, by first | rfl | (simp; done), ⟨Nat.add_zero _⟩, HE, rfl⟩
      case round =>
        clear HE H0 HC hz0' hS
        obtain ⟨i, m, rfl, HK, HE, rfl⟩ := hrel
        by_cases hi : i < t.kids.length
        · obtain ⟨ad1, q, s, ha, hz, hs, ho⟩ := HN'.out.kid i (by omega) (by omega)
          obtain rfl : ad = ad1 := Option.some.inj ha
          rw [Int.toNat_natCast] at hz hs
          obtain ⟨Ak1, ck1, Av1, cv1, Ac1, cc1, ps1, HN1⟩ := ho.open
          have hzk := HN1.z0
          have HS := Aside0.mk hs
          have H1 := Aside0.mk ho
          have HI := Aside0.mk hi
          have ce : decide ((i : Int) < (t.kids.length : Int)) = true := decide_eq_true (by omega)
          have cea : ((i : Int) < (t.kids.length : Int)) = True := eq_true (by omega)
          have ceb : (i < t.kids.length) = True := eq_true hi
          have cec : (0 ≤ (i : Int)) = True := eq_true (by omega)
          clear HN1 ho hs hi ha
          by_cases hd : d < 0
          · have hdb : decide (d < 0) = true := decide_eq_true hd
            have HE1 := Aside0.mk (evenL_off HS.out HE.out (.inl hd))
            clear hd
            go_wp2
            go_ret
            exact ⟨by rw [HE1.out]; first | done | rfl, by repeat (first | exact Drawn0.refl _ | apply Drawn0.step | exact ⟨_, rfl⟩)⟩
          · have hdb : decide (d < 0) = false := decide_eq_false hd
            have HD := Aside0.mk hd
            clear hd
            by_cases he : evenS s = d
            · subst he
              by_cases hk : s.keys.length < 2
              · have HE1 := Aside0.mk (evenL_off HS.out HE.out (.inr (.inr hk)))
                have hkb : decide ((s.keys.length : Int) < 2) = true := decide_eq_true (by omega)
                clear hk
                go_wp2_with (go_at_call 61; (with_reducible refine (ih s (by have := PT.size_kid HS.out; have := HSZ.out; omega) (HF.out.kid HS.out) _ ?side1).mono ?_); (case side1 => repeat (first | exact H1.out | (with_reducible refine Rd.drewN ?_ _) | (with_reducible refine Rd.drew ?_))); rintro e w' ⟨rfl, ⟨nd, rfl⟩⟩)
                go_ret
                exact ⟨by rw [HE1.out]; first | done | rfl, by repeat (first | exact Drawn0.refl _ | apply Drawn0.step | exact ⟨_, rfl⟩)⟩
              · have HE1 := Aside0.mk (evenL_on HS.out HE.out HD.out rfl hk)
                have hkb : decide ((s.keys.length : Int) < 2) = false := decide_eq_false (by omega)
                clear hk
                have hm : t.kids.length ≤ 1048576 := HF.out.len
                have hj : i < t.kids.length := HI.out
                go_wp2_with (go_at_call 61; (with_reducible refine (ih s (by have := PT.size_kid HS.out; have := HSZ.out; omega) (HF.out.kid HS.out) _ ?side1).mono ?_); (case side1 => repeat (first | exact H1.out | (with_reducible refine Rd.drewN ?_ _) | (with_reducible refine Rd.drew ?_))); rintro e w' ⟨rfl, ⟨nd, rfl⟩⟩)
                go_roundg (t.kids.length - (i + 1))
                case measure => have := HK.out; omega
                case rel => exact ⟨i + 1, _, by first | rfl | go_num | (simp; done), ⟨by omega⟩, HE1, rfl⟩
            · have HE1 := Aside0.mk (evenL_off HS.out HE.out (.inr (.inl he)))
              have heb : (evenS s != d) = true := by simpa using he
              clear he
              go_wp2_with (go_at_call 61; (with_reducible refine (ih s (by have := PT.size_kid HS.out; have := HSZ.out; omega) (HF.out.kid HS.out) _ ?side1).mono ?_); (case side1 => repeat (first | exact H1.out | (with_reducible refine Rd.drewN ?_ _) | (with_reducible refine Rd.drew ?_))); rintro e w' ⟨rfl, ⟨nd, rfl⟩⟩)
              go_ret
              exact ⟨by rw [HE1.out]; first | done | rfl, by repeat (first | exact Drawn0.refl _ | apply Drawn0.step | exact ⟨_, rfl⟩)⟩
        · have ce : decide ((i : Int) < (t.kids.length : Int)) = false := decide_eq_false (by omega)
          have ceb : (i < t.kids.length) = False := eq_false (by omega)
          have HE1 := Aside0.mk (evenL_end (by omega) HE.out)
          clear hi
          go_wp2
          go_ret
          exact ⟨by rw [HE1.out]; first | rfl | simp [i64_w] | simp [IntKind.wrap_i64, wrap64], by repeat (first | exact Drawn0.refl _ | apply Drawn0.step | exact ⟨_, rfl⟩)⟩
end Go.Proofs.Ytoddejmlcnbdmaa.Tree
namespace Go.Proofs.Ytoddejmlcnbdmaa.Fn
open Go.RowKit Go.Proofs.YtoddejmlcnbdmaaW.PrintWords Go.Proofs.YtoddejmlcnbdmaaW.PrintLast Go.Proofs.YtoddejmlcnbdmaaW.PrintMore
attribute [local go_sem] max2_int min2_int max_two min_two max_three min_three max_four min_four   -- for this text's walks alone
set_option linter.unusedVariables false
set_option linter.unusedSimpArgs false

/-! ### cmp_isNaN_string: function 135 -/
def cmp_isNaN_string.f (a0 : ByteArray) : Option (Bool) := some (a0.toList != a0.toList)
set_option maxHeartbeats 8000000 in
set_option maxRecDepth 100000 in
theorem cmp_isNaN_string.calls (a0 : ByteArray) (r : Bool) (w : World) (h : cmp_isNaN_string.f a0 = some r) :
    Calls Try.prog 135 #[.string a0] w fun e w' => e = .returned (.bool r) ∧ Drawn0 w w' := by
  have H : (some (a0.toList != a0.toList)) = some r := h
  clear h
  obtain rfl := Option.some.inj H
  go_enter Try.func135, Try.ntmps135
  go_wp2
  go_ret
  exact ⟨by first | rfl | (simp; done) | (simp [*]; done), by repeat (first | exact Drawn0.refl _ | apply Drawn0.step)⟩

end Go.Proofs.Ytoddejmlcnbdmaa.Fn
namespace Go.Proofs.Ytoddejmlcnbdmaa.Fn
open Go.RowKit Go.Proofs.YtoddejmlcnbdmaaW.PrintWords Go.Proofs.YtoddejmlcnbdmaaW.PrintLast Go.Proofs.YtoddejmlcnbdmaaW.PrintMore
attribute [local go_sem] max2_int min2_int max_two min_two max_three min_three max_four min_four   -- for this text's walks alone
set_option linter.unusedVariables false
set_option linter.unusedSimpArgs false

/-! ### cmp_Less_string: function 122 -/
def cmp_Less_string.f (a0 : ByteArray) (a1 : ByteArray) : Option (Bool) := (cmp_isNaN_string.f a0).bind fun t238 => (if t238 = true then ((cmp_isNaN_string.f a1).bind fun t239 => (if t239 = true then (some (Op.bytesLess a0.toList a1.toList)) else (some true))) else (some (Op.bytesLess a0.toList a1.toList)))
set_option maxHeartbeats 8000000 in
set_option maxRecDepth 100000 in
theorem cmp_Less_string.calls (a0 : ByteArray) (a1 : ByteArray) (r : Bool) (w : World) (h : cmp_Less_string.f a0 a1 = some r) :
    Calls Try.prog 122 #[.string a0, .string a1] w fun e w' => e = .returned (.bool r) ∧ Drawn0 w w' := by
  have H : ((cmp_isNaN_string.f a0).bind fun t238 => (if t238 = true then ((cmp_isNaN_string.f a1).bind fun t239 => (if t239 = true then (some (Op.bytesLess a0.toList a1.toList)) else (some true))) else (some (Op.bytesLess a0.toList a1.toList)))) = some r := h
  clear h
  replace H := Option.bind_eq_some_iff.mp H
  obtain ⟨t238, A30, H⟩ := H
  replace H : (if t238 = true then ((cmp_isNaN_string.f a1).bind fun t239 => (if t239 = true then (some (Op.bytesLess a0.toList a1.toList)) else (some true))) else (some (Op.bytesLess a0.toList a1.toList))) = some r := H
  have A3 := Aside0.mk A30
  clear A30
  by_cases c4 : t238 = true
  · subst c4
    have H1 : ((cmp_isNaN_string.f a1).bind fun t239 => (if t239 = true then (some (Op.bytesLess a0.toList a1.toList)) else (some true))) = some r := by rw [if_pos rfl] at H; exact H
    clear H
    have H := H1
    clear H1
    replace H := Option.bind_eq_some_iff.mp H
    obtain ⟨t239, A50, H⟩ := H
    replace H : (if t239 = true then (some (Op.bytesLess a0.toList a1.toList)) else (some true)) = some r := H
    have A5 := Aside0.mk A50
    clear A50
    by_cases c6 : t239 = true
    · subst c6
      have H1 : (some (Op.bytesLess a0.toList a1.toList)) = some r := by rw [if_pos rfl] at H; exact H
      clear H
      have H := H1
      clear H1
      obtain rfl := Option.some.inj H
      go_enter Try.func122, Try.ntmps122
      go_wp2_with (first | ((with_reducible refine gate_callee (f := 135) rfl ?_); refine goesL_ (some 6) rfl rfl Try.func135 (by kernel_rfl) rfl #[.string a0] rfl (by (try simp only [List.map_toArray, List.map_cons, List.map_nil]); first | done | rfl | (simp only [List.length_drop, List.length_take]; rfl)) ?_; (with_reducible refine (cmp_isNaN_string.calls a0 true _ A3.out).mono ?_); rintro e w' ⟨rfl, ⟨nd, rfl⟩⟩; refine ⟨_, rfl, ?_⟩) | (go_at_call 135; (with_reducible refine (cmp_isNaN_string.calls a1 true _ A5.out).mono ?_); rintro e w' ⟨rfl, ⟨nd, rfl⟩⟩))
      go_ret
      exact ⟨by first | rfl | (simp only [Go.Proofs.Ytoddejmlcnbdmaa.Gen.nil_str, Go.Proofs.Ytoddejmlcnbdmaa.Gen.gt_str]; first | done | rfl | (simp; done)) | (simp; done) | (simp [*]; done), by repeat (first | exact Drawn0.refl _ | apply Drawn0.step)⟩
    · replace c6 := Bool.eq_false_iff.mpr c6
      subst c6
      have H1 : (some true) = some r := by rw [if_neg (show ¬ (false = true) by decide)] at H; exact H
      clear H
      have H := H1
      clear H1
      obtain rfl := Option.some.inj H
      go_enter Try.func122, Try.ntmps122
      go_wp2_with (first | ((with_reducible refine gate_callee (f := 135) rfl ?_); refine goesL_ (some 6) rfl rfl Try.func135 (by kernel_rfl) rfl #[.string a0] rfl (by (try simp only [List.map_toArray, List.map_cons, List.map_nil]); first | done | rfl | (simp only [List.length_drop, List.length_take]; rfl)) ?_; (with_reducible refine (cmp_isNaN_string.calls a0 true _ A3.out).mono ?_); rintro e w' ⟨rfl, ⟨nd, rfl⟩⟩; refine ⟨_, rfl, ?_⟩) | (go_at_call 135; (with_reducible refine (cmp_isNaN_string.calls a1 false _ A5.out).mono ?_); rintro e w' ⟨rfl, ⟨nd, rfl⟩⟩))
      go_ret
      exact ⟨by first | rfl | (simp only [Go.Proofs.Ytoddejmlcnbdmaa.Gen.nil_str, Go.Proofs.Ytoddejmlcnbdmaa.Gen.gt_str]; first | done | rfl | (simp; done)) | (simp; done) | (simp [*]; done), by repeat (first | exact Drawn0.refl _ | apply Drawn0.step)⟩
  · replace c4 := Bool.eq_false_iff.mpr c4
    subst c4
    have H1 : (some (Op.bytesLess a0.toList a1.toList)) = some r := by rw [if_neg (show ¬ (false = true) by decide)] at H; exact H
    clear H
    have H := H1
    clear H1
    obtain rfl := Option.some.inj H
    go_enter Try.func122, Try.ntmps122
    go_wp2_with (first | ((with_reducible refine gate_callee (f := 135) rfl ?_); refine goesL_ (some 6) rfl rfl Try.func135 (by kernel_rfl) rfl #[.string a0] rfl (by (try simp only [List.map_toArray, List.map_cons, List.map_nil]); first | done | rfl | (simp only [List.length_drop, List.length_take]; rfl)) ?_; (with_reducible refine (cmp_isNaN_string.calls a0 false _ A3.out).mono ?_); rintro e w' ⟨rfl, ⟨nd, rfl⟩⟩; refine ⟨_, rfl, ?_⟩))
    go_ret
    exact ⟨by first | rfl | (simp only [Go.Proofs.Ytoddejmlcnbdmaa.Gen.nil_str, Go.Proofs.Ytoddejmlcnbdmaa.Gen.gt_str]; first | done | rfl | (simp; done)) | (simp; done) | (simp [*]; done), by repeat (first | exact Drawn0.refl _ | apply Drawn0.step)⟩

end Go.Proofs.Ytoddejmlcnbdmaa.Fn
namespace Go.Proofs.Ytoddejmlcnbdmaa.Fn
open Go.RowKit Go.Proofs.YtoddejmlcnbdmaaW.PrintWords Go.Proofs.YtoddejmlcnbdmaaW.PrintLast Go.Proofs.YtoddejmlcnbdmaaW.PrintMore
attribute [local go_sem] max2_int min2_int max_two min_two max_three min_three max_four min_four   -- for this text's walks alone
set_option linter.unusedVariables false
set_option linter.unusedSimpArgs false

/-! ### slices_isNaN_string: function 123 -/
def slices_isNaN_string.f (a0 : ByteArray) : Option (Bool) := some (a0.toList != a0.toList)
set_option maxHeartbeats 8000000 in
set_option maxRecDepth 100000 in
theorem slices_isNaN_string.calls (a0 : ByteArray) (r : Bool) (w : World) (h : slices_isNaN_string.f a0 = some r) :
    Calls Try.prog 123 #[.string a0] w fun e w' => e = .returned (.bool r) ∧ Drawn0 w w' := by
  have H : (some (a0.toList != a0.toList)) = some r := h
  clear h
  obtain rfl := Option.some.inj H
  go_enter Try.func123, Try.ntmps123
  go_wp2
  go_ret
  exact ⟨by first | rfl | (simp; done) | (simp [*]; done), by repeat (first | exact Drawn0.refl _ | apply Drawn0.step)⟩

end Go.Proofs.Ytoddejmlcnbdmaa.Fn
namespace Go.Proofs.Ytoddejmlcnbdmaa.Fn
open Go.RowKit Go.Proofs.YtoddejmlcnbdmaaW.PrintWords Go.Proofs.YtoddejmlcnbdmaaW.PrintLast Go.Proofs.YtoddejmlcnbdmaaW.PrintMore
attribute [local go_sem] max2_int min2_int max_two min_two max_three min_three max_four min_four   -- for this text's walks alone
set_option linter.unusedVariables false
set_option linter.unusedSimpArgs false

/-! ### slices_BinarySearch_string_string: function 103 -/
def slices_BinarySearch_string_string.l0 : Nat → List ByteArray → ByteArray → Int → Int → Int → Option (Int × Bool)
  | 0, _, _, _, _, _ => none
  | k + 1, x0, x1, x6, x7, x8 => if x7 < x8 then (if 0 ≤ (wrap64 ((IntKind.u64.wrap (wrap64 (x7 + x8))) / 2)) then (if (wrap64 ((IntKind.u64.wrap (wrap64 (x7 + x8))) / 2)) < (x0.length : Int) then ((cmp_Less_string.f (rdOf ByteArray.empty x0 (wrap64 ((IntKind.u64.wrap (wrap64 (x7 + x8))) / 2))) x1).bind fun t241 => (if t241 = true then (slices_BinarySearch_string_string.l0 k x0 x1 x6 (wrap64 ((wrap64 ((IntKind.u64.wrap (wrap64 (x7 + x8))) / 2)) + 1)) x8) else (slices_BinarySearch_string_string.l0 k x0 x1 x6 x7 (wrap64 ((IntKind.u64.wrap (wrap64 (x7 + x8))) / 2))))) else (none)) else (none)) else (if x7 < x6 then (if 0 ≤ x7 then (if x7 < (x0.length : Int) then (if (rdOf ByteArray.empty x0 x7).toList = x1.toList then (some (x7, true)) else ((slices_isNaN_string.f (rdOf ByteArray.empty x0 x7)).bind fun t244 => (if t244 = true then ((slices_isNaN_string.f x1).bind fun t245 => (some (x7, t245))) else (some (x7, false))))) else (none)) else (none)) else (some (x7, false)))
def slices_BinarySearch_string_string.f (k : Nat) (l0 : List ByteArray) (a1 : ByteArray) : Option (Int × Bool) := slices_BinarySearch_string_string.l0 k l0 a1 (l0.length : Int) 0 (l0.length : Int)
theorem slices_BinarySearch_string_string.mono_l : ∀ k, (∀ y0 y1 y2 y3 y4, LeO (slices_BinarySearch_string_string.l0 k y0 y1 y2 y3 y4) (slices_BinarySearch_string_string.l0 (k + 1) y0 y1 y2 y3 y4))
  | 0 => fun _ _ _ _ _ r h => by simp [slices_BinarySearch_string_string.l0] at h
  | k + 1 => by
    have ih0 := slices_BinarySearch_string_string.mono_l k
    · intro y0 y1 y2 y3 y4
      unfold slices_BinarySearch_string_string.l0
      repeat' first
      | (with_reducible exact ih0 _ _ _ _ _)
      | (with_reducible exact LeO.refl _)
      | (with_reducible exact LeO.none _)
      | (with_reducible refine LeO.ite ?_ ?_)
      | (with_reducible refine LeO.bind ?_ (fun _ => ?_))
      | exact ih0 _ _ _ _ _
      | exact LeO.none _
      | refine LeO.ite ?_ ?_
      | refine LeO.bind ?_ (fun _ => ?_)
theorem slices_BinarySearch_string_string.mono : ∀ a0 a1 k, LeO (slices_BinarySearch_string_string.f k a0 a1) (slices_BinarySearch_string_string.f (k + 1) a0 a1) := by
  intro a0 a1 k
  have ih0 := slices_BinarySearch_string_string.mono_l k
  unfold slices_BinarySearch_string_string.f
  repeat' first
      | (with_reducible exact ih0 _ _ _ _ _)
      | (with_reducible exact LeO.refl _)
      | (with_reducible exact LeO.none _)
      | (with_reducible refine LeO.ite ?_ ?_)
      | (with_reducible refine LeO.bind ?_ (fun _ => ?_))
      | exact ih0 _ _ _ _ _
      | exact LeO.none _
      | refine LeO.ite ?_ ?_
      | refine LeO.bind ?_ (fun _ => ?_)
set_option maxHeartbeats 8000000 in
set_option maxRecDepth 100000 in
theorem slices_BinarySearch_string_string.calls (k : Nat) (A0 : Option Addr) (c0 : Nat) (l0 : List ByteArray) (a1 : ByteArray) (r1 : Int) (r2 : Bool) (w : World) (hr0 : Kd.C Kd.string w A0 l0.length l0) (hc0 : l0.length ≤ c0) (h : slices_BinarySearch_string_string.f k l0 a1 = some (r1, r2)) :
    Calls Try.prog 103 #[.slice A0 l0.length c0, .string a1] w fun e w' => e = .returned (.tuple #[.int .i64 r1, .bool r2]) ∧ Drawn0 w w' := by
  have HR0 := Aside0.mk hr0
  have HC0 := Aside0.mk hc0
  clear hr0 hc0
  have H : (slices_BinarySearch_string_string.l0 k l0 a1 (l0.length : Int) 0 (l0.length : Int)) = some (r1, r2) := h
  clear h
  have H' := Aside0.mk H
  clear H
  go_enter Try.func103, Try.ntmps103
  go_wp2
  go_loopg [7, 8] k (fun kq v7 v8 w' => ∃ (x7_1 : Int) (x8_1 : Int), v7 = .int .i64 x7_1 ∧ v8 = .int .i64 x8_1 ∧ Aside0 (slices_BinarySearch_string_string.l0 kq l0 a1 (l0.length : Int) x7_1 x8_1 = some (r1, r2)) ∧ Aside0 (kq ≤ k) ∧ Drawn0 w w')
  case atStart => exact ⟨(0), ((l0.length : Int)), (by first | rfl | (simp; done) | (simp [*]; done)), (by first | rfl | (simp; done) | (simp [*]; done)), H', ⟨Nat.le_refl _⟩, by repeat (first | exact Drawn0.refl _ | apply Drawn0.step)⟩
  case round =>
    clear H'
    try clear c1
    try clear p2
    obtain ⟨x7_1, x8_1, rfl, rfl, HA, HK1, ⟨m1, rfl⟩⟩ := hrel
    cases gk with
    | zero => exact absurd HA.out (by simp [slices_BinarySearch_string_string.l0])
    | succ k1 =>
      have H := HA.out
      clear HA
      simp only [slices_BinarySearch_string_string.l0] at H
      by_cases c3 : x7_1 < x8_1
      · rw [if_pos c3] at H
        have c3b0 : decide (x7_1 < x8_1) = true := decide_eq_true c3
        clear c3
        obtain ⟨ji4, hji4⟩ : ∃ j_ : Int, (wrap64 ((IntKind.u64.wrap (wrap64 (x7_1 + x8_1))) / 2)) = j_ := ⟨_, rfl⟩
        replace H : (if 0 ≤ (ji4) then (if (ji4) < (l0.length : Int) then ((cmp_Less_string.f (rdOf ByteArray.empty l0 (ji4)) a1).bind fun t241 => (if t241 = true then (slices_BinarySearch_string_string.l0 k1 l0 a1 (l0.length : Int) (wrap64 ((ji4) + 1)) x8_1) else (slices_BinarySearch_string_string.l0 k1 l0 a1 (l0.length : Int) x7_1 ji4))) else (none)) else (none)) = some (r1, r2) := by first | (rw [hji4] at H; exact H) | (simp only [hji4] at H ⊢; exact H)
        have hji4w : (IntKind.i64.wrap ((IntKind.u64.wrap (wrap64 (x7_1 + x8_1))) / 2)) = ji4 := (i64_w _).trans hji4
        by_cases c5 : 0 ≤ (ji4)
        · rw [if_pos c5] at H
          have c5b0 : decide (0 ≤ (ji4)) = true := decide_eq_true c5
          clear c5
          by_cases c6 : (ji4) < (l0.length : Int)
          · rw [if_pos c6] at H
            have c6b0 : decide ((ji4) < (l0.length : Int)) = true := decide_eq_true c6
            clear c6
            replace H := Option.bind_eq_some_iff.mp H
            obtain ⟨t241, A70, H⟩ := H
            replace H : (if t241 = true then (slices_BinarySearch_string_string.l0 k1 l0 a1 (l0.length : Int) (wrap64 ((ji4) + 1)) x8_1) else (slices_BinarySearch_string_string.l0 k1 l0 a1 (l0.length : Int) x7_1 ji4)) = some (r1, r2) := H
            have A7 := Aside0.mk A70
            clear A70
            by_cases c8 : t241 = true
            · subst c8
              have H1 : (slices_BinarySearch_string_string.l0 k1 l0 a1 (l0.length : Int) (wrap64 ((ji4) + 1)) x8_1) = some (r1, r2) := by rw [if_pos rfl] at H; exact H
              clear H
              have H := H1
              clear H1
              have H' := Aside0.mk H
              clear H
              have p240 : 0 ≤ ((ji4) : Int) := of_decide_eq_true (by first | (with_reducible assumption) | assumption)
              have q240 : (ji4) < (l0.length : Int) := of_decide_eq_true (by first | (with_reducible assumption) | assumption)
              obtain ⟨ad240, e240, hx240_0⟩ := Kd.at_string HR0.out (ji4) p240 q240
              cases e240
              replace p240 := eq_true p240
              replace q240 := eq_true q240
              go_wp2_with (first | ((with_reducible refine gate_callee (f := 122) rfl ?_); refine goesL_ (some 27) rfl rfl Try.func122 (by kernel_rfl) rfl #[.string (rdOf ByteArray.empty l0 (ji4)), .string a1] rfl (by (try simp only [List.map_toArray, List.map_cons, List.map_nil]); first | done | (simp only [hji4]; rfl) | rfl | (simp only [List.length_drop, List.length_take]; rfl)) ?_; (with_reducible refine (cmp_Less_string.calls (rdOf ByteArray.empty l0 (ji4)) a1 true _ A7.out).mono ?_); rintro e w' ⟨rfl, ⟨nd, rfl⟩⟩; refine ⟨_, rfl, ?_⟩))
              go_roundg k1
              case measure => have := HK1.out; omega
              case rel => exact ⟨(wrap64 ((ji4) + 1)), (x8_1), (by first | rfl | (simp; done) | (simp only [← hji4] <;> (first | rfl | simp)) | (simp [*]; done)), (by first | rfl | (simp; done) | (simp [*]; done)), H', ⟨by have := HK1.out; omega⟩, by repeat (first | exact Drawn0.refl _ | apply Drawn0.step)⟩
            · replace c8 := Bool.eq_false_iff.mpr c8
              subst c8
              have H1 : (slices_BinarySearch_string_string.l0 k1 l0 a1 (l0.length : Int) x7_1 ji4) = some (r1, r2) := by rw [if_neg (show ¬ (false = true) by decide)] at H; exact H
              clear H
              have H := H1
              clear H1
              have H' := Aside0.mk H
              clear H
              have p240 : 0 ≤ ((ji4) : Int) := of_decide_eq_true (by first | (with_reducible assumption) | assumption)
              have q240 : (ji4) < (l0.length : Int) := of_decide_eq_true (by first | (with_reducible assumption) | assumption)
              obtain ⟨ad240, e240, hx240_0⟩ := Kd.at_string HR0.out (ji4) p240 q240
              cases e240
              replace p240 := eq_true p240
              replace q240 := eq_true q240
              go_wp2_with (first | ((with_reducible refine gate_callee (f := 122) rfl ?_); refine goesL_ (some 27) rfl rfl Try.func122 (by kernel_rfl) rfl #[.string (rdOf ByteArray.empty l0 (ji4)), .string a1] rfl (by (try simp only [List.map_toArray, List.map_cons, List.map_nil]); first | done | (simp only [hji4]; rfl) | rfl | (simp only [List.length_drop, List.length_take]; rfl)) ?_; (with_reducible refine (cmp_Less_string.calls (rdOf ByteArray.empty l0 (ji4)) a1 false _ A7.out).mono ?_); rintro e w' ⟨rfl, ⟨nd, rfl⟩⟩; refine ⟨_, rfl, ?_⟩))
              go_roundg k1
              case measure => have := HK1.out; omega
              case rel => exact ⟨(x7_1), (ji4), (by first | rfl | (simp; done) | (simp [*]; done)), (by first | rfl | (simp; done) | (simp only [← hji4] <;> (first | rfl | simp)) | (simp [*]; done)), H', ⟨by have := HK1.out; omega⟩, by repeat (first | exact Drawn0.refl _ | apply Drawn0.step)⟩
          · rw [if_neg c6] at H
            exact absurd H (by simp)
        · rw [if_neg c5] at H
          exact absurd H (by simp)
      · rw [if_neg c3] at H
        have c3b0 : decide (x7_1 < x8_1) = false := decide_eq_false c3
        clear c3
        by_cases c9 : x7_1 < (l0.length : Int)
        · rw [if_pos c9] at H
          have c9b0 : decide (x7_1 < (l0.length : Int)) = true := decide_eq_true c9
          clear c9
          by_cases c10 : 0 ≤ x7_1
          · rw [if_pos c10] at H
            have c10b0 : decide (0 ≤ x7_1) = true := decide_eq_true c10
            clear c10
            by_cases c11 : x7_1 < (l0.length : Int)
            · rw [if_pos c11] at H
              have c11b0 : decide (x7_1 < (l0.length : Int)) = true := decide_eq_true c11
              clear c11
              by_cases c12 : (rdOf ByteArray.empty l0 x7_1).toList = a1.toList
              · rw [if_pos c12] at H
                have c12b0 : ((rdOf ByteArray.empty l0 x7_1).toList == a1.toList) = true := beq_iff_eq.mpr c12
                have c12b1 : ((rdOf ByteArray.empty l0 x7_1).toList != a1.toList) = false := bne_eq_false_iff_eq.mpr c12
                clear c12
                simp only [Option.some.injEq, Prod.mk.injEq] at H
                obtain ⟨rfl, rfl⟩ := H
                have p242 : 0 ≤ (x7_1 : Int) := of_decide_eq_true (by first | (with_reducible assumption) | assumption)
                have q242 : x7_1 < (l0.length : Int) := of_decide_eq_true (by first | (with_reducible assumption) | assumption)
                obtain ⟨ad242, e242, hx242_0⟩ := Kd.at_string HR0.out x7_1 p242 q242
                cases e242
                replace p242 := eq_true p242
                replace q242 := eq_true q242
                go_wp2
                go_ret2
                exact ⟨by first | rfl | (simp; done) | (simp [*]; done), by repeat (first | exact Drawn0.refl _ | apply Drawn0.step)⟩
              · rw [if_neg c12] at H
                have c12b0 : ((rdOf ByteArray.empty l0 x7_1).toList == a1.toList) = false := beq_eq_false_iff_ne.mpr c12
                have c12b1 : ((rdOf ByteArray.empty l0 x7_1).toList != a1.toList) = true := bne_iff_ne.mpr c12
                replace H := Option.bind_eq_some_iff.mp H
                obtain ⟨t244, A130, H⟩ := H
                replace H : (if t244 = true then ((slices_isNaN_string.f a1).bind fun t245 => (some (x7_1, t245))) else (some (x7_1, false))) = some (r1, r2) := H
                have A13 := Aside0.mk A130
                clear A130
                by_cases c14 : t244 = true
                · subst c14
                  have H1 : ((slices_isNaN_string.f a1).bind fun t245 => (some (x7_1, t245))) = some (r1, r2) := by rw [if_pos rfl] at H; exact H
                  clear H
                  have H := H1
                  clear H1
                  replace H := Option.bind_eq_some_iff.mp H
                  obtain ⟨t245, A150, H⟩ := H
                  replace H : (some (x7_1, t245)) = some (r1, r2) := H
                  have A15 := Aside0.mk A150
                  clear A150
                  simp only [Option.some.injEq, Prod.mk.injEq] at H
                  obtain ⟨rfl, rfl⟩ := H
                  have p242 : 0 ≤ (x7_1 : Int) := of_decide_eq_true (by first | (with_reducible assumption) | assumption)
                  have q242 : x7_1 < (l0.length : Int) := of_decide_eq_true (by first | (with_reducible assumption) | assumption)
                  obtain ⟨ad242, e242, hx242_0⟩ := Kd.at_string HR0.out x7_1 p242 q242
                  cases e242
                  replace p242 := eq_true p242
                  replace q242 := eq_true q242
                  have p243 : 0 ≤ (x7_1 : Int) := of_decide_eq_true (by first | (with_reducible assumption) | assumption)
                  have q243 : x7_1 < (l0.length : Int) := of_decide_eq_true (by first | (with_reducible assumption) | assumption)
                  obtain ⟨ad243, e243, hx243_0⟩ := Kd.at_string HR0.out x7_1 p243 q243
                  obtain rfl : ad242 = ad243 := (by injection e243)
                  replace p243 := eq_true p243
                  replace q243 := eq_true q243
                  go_wp2_with (first | (go_at_call 123; (with_reducible refine (slices_isNaN_string.calls (rdOf ByteArray.empty l0 x7_1) true _ A13.out).mono ?_); rintro e w' ⟨rfl, ⟨nd, rfl⟩⟩) | (go_at_call 123; (with_reducible refine (slices_isNaN_string.calls a1 t245 _ A15.out).mono ?_); rintro e w' ⟨rfl, ⟨nd, rfl⟩⟩))
                  go_ret2
                  exact ⟨by first | rfl | (simp; done) | (simp [*]; done), by repeat (first | exact Drawn0.refl _ | apply Drawn0.step)⟩
                · replace c14 := Bool.eq_false_iff.mpr c14
                  subst c14
                  have H1 : (some (x7_1, false)) = some (r1, r2) := by rw [if_neg (show ¬ (false = true) by decide)] at H; exact H
                  clear H
                  have H := H1
                  clear H1
                  simp only [Option.some.injEq, Prod.mk.injEq] at H
                  obtain ⟨rfl, rfl⟩ := H
                  have p242 : 0 ≤ (x7_1 : Int) := of_decide_eq_true (by first | (with_reducible assumption) | assumption)
                  have q242 : x7_1 < (l0.length : Int) := of_decide_eq_true (by first | (with_reducible assumption) | assumption)
                  obtain ⟨ad242, e242, hx242_0⟩ := Kd.at_string HR0.out x7_1 p242 q242
                  cases e242
                  replace p242 := eq_true p242
                  replace q242 := eq_true q242
                  have p243 : 0 ≤ (x7_1 : Int) := of_decide_eq_true (by first | (with_reducible assumption) | assumption)
                  have q243 : x7_1 < (l0.length : Int) := of_decide_eq_true (by first | (with_reducible assumption) | assumption)
                  obtain ⟨ad243, e243, hx243_0⟩ := Kd.at_string HR0.out x7_1 p243 q243
                  obtain rfl : ad242 = ad243 := (by injection e243)
                  replace p243 := eq_true p243
                  replace q243 := eq_true q243
                  go_wp2_with (first | (go_at_call 123; (with_reducible refine (slices_isNaN_string.calls (rdOf ByteArray.empty l0 x7_1) false _ A13.out).mono ?_); rintro e w' ⟨rfl, ⟨nd, rfl⟩⟩))
                  go_ret2
                  exact ⟨by first | rfl | (simp; done) | (simp [*]; done), by repeat (first | exact Drawn0.refl _ | apply Drawn0.step)⟩
            · rw [if_neg c11] at H
              exact absurd H (by simp)
          · rw [if_neg c10] at H
            exact absurd H (by simp)
        · rw [if_neg c9] at H
          have c9b0 : decide (x7_1 < (l0.length : Int)) = false := decide_eq_false c9
          clear c9
          simp only [Option.some.injEq, Prod.mk.injEq] at H
          obtain ⟨rfl, rfl⟩ := H
          go_wp2
          go_ret2
          exact ⟨by first | rfl | (simp; done) | (simp [*]; done), by repeat (first | exact Drawn0.refl _ | apply Drawn0.step)⟩

end Go.Proofs.Ytoddejmlcnbdmaa.Fn
namespace Go.Proofs.Ytoddejmlcnbdmaa.Fn
open Go.RowKit Go.Proofs.YtoddejmlcnbdmaaW.PrintWords Go.Proofs.YtoddejmlcnbdmaaW.PrintLast Go.Proofs.YtoddejmlcnbdmaaW.PrintMore
attribute [local go_sem] max2_int min2_int max_two min_two max_three min_three max_four min_four   -- for this text's walks alone
set_option linter.unusedVariables false
set_option linter.unusedSimpArgs false

/-! ### impl_less: function 73 -/
def impl_less.f (k : Nat) (l0 : List ByteArray) (a1 : ByteArray) : Option (Int) := (slices_BinarySearch_string_string.f k l0 a1).bind fun bt246 => (some bt246.1)
theorem impl_less.mono : ∀ a0 a1 k, LeO (impl_less.f k a0 a1) (impl_less.f (k + 1) a0 a1) := by
  intro a0 a1 k
  unfold impl_less.f
  repeat' first
      | (with_reducible exact slices_BinarySearch_string_string.mono _ _ _)
      | (with_reducible exact LeO.refl _)
      | (with_reducible exact LeO.none _)
      | (with_reducible refine LeO.ite ?_ ?_)
      | (with_reducible refine LeO.bind ?_ (fun _ => ?_))
      | exact slices_BinarySearch_string_string.mono _ _ _
      | exact LeO.none _
      | refine LeO.ite ?_ ?_
      | refine LeO.bind ?_ (fun _ => ?_)
set_option maxHeartbeats 8000000 in
set_option maxRecDepth 100000 in
theorem impl_less.calls (k : Nat) (A0 : Option Addr) (c0 : Nat) (l0 : List ByteArray) (a1 : ByteArray) (r : Int) (w : World) (hr0 : Kd.C Kd.string w A0 l0.length l0) (hc0 : l0.length ≤ c0) (h : impl_less.f k l0 a1 = some r) :
    Calls Try.prog 73 #[.slice A0 l0.length c0, .string a1] w fun e w' => e = .returned (.int .i64 r) ∧ Drawn0 w w' := by
  have HR0 := Aside0.mk hr0
  have HC0 := Aside0.mk hc0
  clear hr0 hc0
  have H : ((slices_BinarySearch_string_string.f k l0 a1).bind fun bt246 => (some bt246.1)) = some r := h
  clear h
  replace H := Option.bind_eq_some_iff.mp H
  obtain ⟨⟨t246, t247⟩, A30, H⟩ := H
  replace H : (some t246) = some r := H
  have A3 := Aside0.mk A30
  clear A30
  obtain rfl := Option.some.inj H
  go_enter Try.func73, Try.ntmps73
  go_wp2_with (first | ((with_reducible refine gate_callee (f := 103) rfl ?_); refine goesL_ (some 10) rfl rfl Try.func103 (by kernel_rfl) rfl #[.slice A0 l0.length c0, .string a1] rfl (by (try simp only [List.map_toArray, List.map_cons, List.map_nil]); first | done | rfl | (simp only [List.length_drop, List.length_take]; rfl)) ?_; (with_reducible refine (slices_BinarySearch_string_string.calls k _ _ l0 a1 t246 t247 _ ?side1 ?side2 A3.out).mono ?_); (case side1 => repeat (first | exact HR0.out | (with_reducible refine Kd.C_alloc ?_ _) | (with_reducible refine Kd.C_drewN ?_ _) | (with_reducible refine Kd.C_drew ?_))); (case side2 => exact HC0.out); rintro e w' ⟨rfl, ⟨nd, rfl⟩⟩; refine ⟨_, rfl, ?_⟩))
  go_ret
  exact ⟨by first | rfl | (simp; done) | (simp [*]; done), by repeat (first | exact Drawn0.refl _ | apply Drawn0.step)⟩

end Go.Proofs.Ytoddejmlcnbdmaa.Fn
namespace Go.Proofs.Ytoddejmlcnbdmaa.Fn
open Go.RowKit Go.Proofs.YtoddejmlcnbdmaaW.PrintWords Go.Proofs.YtoddejmlcnbdmaaW.PrintLast Go.Proofs.YtoddejmlcnbdmaaW.PrintMore
attribute [local go_sem] max2_int min2_int max_two min_two max_three min_three max_four min_four   -- for this text's walks alone
set_option linter.unusedVariables false
set_option linter.unusedSimpArgs false

/-! ### impl_hasAt: function 101 -/
def impl_hasAt.f (l0 : List ByteArray) (a1 : Int) (a2 : ByteArray) : Option (Bool) := if a1 < (l0.length : Int) then (if 0 ≤ a1 then (some ((rdOf ByteArray.empty l0 a1).toList == a2.toList)) else (none)) else (some false)
set_option maxHeartbeats 8000000 in
set_option maxRecDepth 100000 in
theorem impl_hasAt.calls (A0 : Option Addr) (c0 : Nat) (l0 : List ByteArray) (a1 : Int) (a2 : ByteArray) (r : Bool) (w : World) (hr0 : Kd.C Kd.string w A0 l0.length l0) (hc0 : l0.length ≤ c0) (h : impl_hasAt.f l0 a1 a2 = some r) :
    Calls Try.prog 101 #[.slice A0 l0.length c0, .int .i64 a1, .string a2] w fun e w' => e = .returned (.bool r) ∧ Drawn0 w w' := by
  have HR0 := Aside0.mk hr0
  have HC0 := Aside0.mk hc0
  clear hr0 hc0
  have H : (if a1 < (l0.length : Int) then (if 0 ≤ a1 then (some ((rdOf ByteArray.empty l0 a1).toList == a2.toList)) else (none)) else (some false)) = some r := h
  clear h
  by_cases c4 : a1 < (l0.length : Int)
  · rw [if_pos c4] at H
    have c4b0 : decide (a1 < (l0.length : Int)) = true := decide_eq_true c4
    clear c4
    by_cases c5 : 0 ≤ a1
    · rw [if_pos c5] at H
      have c5b0 : decide (0 ≤ a1) = true := decide_eq_true c5
      clear c5
      obtain rfl := Option.some.inj H
      have p248 : 0 ≤ (a1 : Int) := of_decide_eq_true (by first | (with_reducible assumption) | assumption)
      have q248 : a1 < (l0.length : Int) := of_decide_eq_true (by first | (with_reducible assumption) | assumption)
      obtain ⟨ad248, e248, hx248_0⟩ := Kd.at_string HR0.out a1 p248 q248
      cases e248
      replace p248 := eq_true p248
      replace q248 := eq_true q248
      go_enter Try.func101, Try.ntmps101
      go_wp2
      go_ret
      exact ⟨by first | rfl | (simp; done) | (simp [*]; done), by repeat (first | exact Drawn0.refl _ | apply Drawn0.step)⟩
    · rw [if_neg c5] at H
      exact absurd H (by simp)
  · rw [if_neg c4] at H
    have c4b0 : decide (a1 < (l0.length : Int)) = false := decide_eq_false c4
    clear c4
    obtain rfl := Option.some.inj H
    go_enter Try.func101, Try.ntmps101
    go_wp2
    go_ret
    exact ⟨by first | rfl | (simp; done) | (simp [*]; done), by repeat (first | exact Drawn0.refl _ | apply Drawn0.step)⟩

end Go.Proofs.Ytoddejmlcnbdmaa.Fn
namespace Go.Proofs.Ytoddejmlcnbdmaa.Tree
open Go.RowKit Go.Proofs.YtoddejmlcnbdmaaW.PrintWords Go.Proofs.Ytoddejmlcnbdmaa.Fn
set_option linter.unusedVariables false

def ltB (a b : ByteArray) : Bool := Op.bytesLess a.toList b.toList
def atI (key : ByteArray) : List ByteArray → Nat
  | [] => 0
  | k :: ks => if ltB k key then atI key ks + 1 else 0
def hasS (keys : List ByteArray) (i : Nat) (key : ByteArray) : Bool := match keys[i]? with
  | some k => k.toList == key.toList
  | none => false
theorem atI_on {key k : ByteArray} {l : List ByteArray} {i x : Nat} (hk : l[i]? = some k) (h : x = i + atI key (l.drop i)) (hlt : ltB k key = true) : x = (i + 1) + atI key (l.drop (i + 1)) := by
  rw [drop_of hk, atI, if_pos hlt] at h
  omega
theorem atI_off {key k : ByteArray} {l : List ByteArray} {i x : Nat} (hk : l[i]? = some k) (h : x = i + atI key (l.drop i)) (hlt : ltB k key = false) : x = i := by
  rw [drop_of hk, atI, if_neg (by rw [hlt]; decide)] at h
  omega
theorem atI_end {key : ByteArray} {l : List ByteArray} {i x : Nat} (hi : l.length ≤ i) (h : x = i + atI key (l.drop i)) : x = i := by
  rw [List.drop_eq_nil_of_le hi, atI] at h
  omega
theorem atI_le (key : ByteArray) : ∀ l : List ByteArray, atI key l ≤ l.length
  | [] => Nat.le_refl _
  | k :: ks => by
    rw [atI]
    have := atI_le key ks
    split
    · simp only [List.length_cons]; omega
    · exact Nat.zero_le _
theorem hasS_lt {keys : List ByteArray} {i : Nat} {key : ByteArray} (h : hasS keys i key = true) : i < keys.length := by
  unfold hasS at h
  rcases Nat.lt_or_ge i keys.length with hi | hi
  · exact hi
  · rw [List.getElem?_eq_none hi] at h
    cases h
def getS : Nat → PT → ByteArray → ByteArray × Bool
  | 0, _, _ => (ByteArray.empty, false)
  | n + 1, t, key => if hasS t.keys (atI key t.keys) key then (rdOf ByteArray.empty t.vals (atI key t.keys : Int), true) else if t.kids.length = 0 then (ByteArray.empty, false) else match t.kids[atI key t.keys]? with
    | some s => getS n s key
    | none => (ByteArray.empty, false)
def getI (k : Nat) : Nat → PT → ByteArray → Option (ByteArray × Bool)
  | 0, _, _ => none
  | n + 1, t, key => (impl_less.f k t.keys key).bind fun a => (impl_hasAt.f t.keys a key).bind fun h =>
    if h = true then (if 0 ≤ a ∧ a < (t.vals.length : Int) then some (rdOf ByteArray.empty t.vals a, true) else none)
    else if t.kids.length = 0 then some (ByteArray.empty, false)
    else if 0 ≤ a then (match t.kids[a.toNat]? with
      | some s => getI k n s key
      | none => none) else none
end Go.Proofs.Ytoddejmlcnbdmaa.Tree
namespace Go.Proofs.Ytoddejmlcnbdmaa.Fn
open Go.RowKit Go.Proofs.YtoddejmlcnbdmaaW.PrintWords Go.Proofs.YtoddejmlcnbdmaaW.PrintLast Go.Proofs.YtoddejmlcnbdmaaW.PrintMore
attribute [local go_sem] max2_int min2_int max_two min_two max_three min_three max_four min_four   -- for this text's walks alone
set_option linter.unusedVariables false
set_option linter.unusedSimpArgs false

/-! ### spec_l5Text: function 104 -/
def spec_l5Text.f (a0 : ByteArray) : Option (Bool) := some (decide ((a0.size : Int) ≤ 12))
set_option maxHeartbeats 8000000 in
set_option maxRecDepth 100000 in
theorem spec_l5Text.calls (a0 : ByteArray) (r : Bool) (w : World) (h : spec_l5Text.f a0 = some r) :
    Calls Try.prog 104 #[.string a0] w fun e w' => e = .returned (.bool r) ∧ Drawn0 w w' := by
  have H : (some (decide ((a0.size : Int) ≤ 12))) = some r := h
  clear h
  obtain rfl := Option.some.inj H
  go_enter Try.func104, Try.ntmps104
  go_wp2
  go_ret
  exact ⟨by first | rfl | (simp; done) | (simp [*]; done), by repeat (first | exact Drawn0.refl _ | apply Drawn0.step)⟩

end Go.Proofs.Ytoddejmlcnbdmaa.Fn
namespace Go.Proofs.Ytoddejmlcnbdmaa.Fn
open Go.RowKit Go.Proofs.YtoddejmlcnbdmaaW.PrintWords Go.Proofs.YtoddejmlcnbdmaaW.PrintLast Go.Proofs.YtoddejmlcnbdmaaW.PrintMore
attribute [local go_sem] max2_int min2_int max_two min_two max_three min_three max_four min_four   -- for this text's walks alone
set_option linter.unusedVariables false
set_option linter.unusedSimpArgs false

/-! ### spec_l5Pair: function 75 -/
def spec_l5Pair.f (a0 : ByteArray) (a1 : ByteArray) : Option (Bool) := (spec_l5Text.f a0).bind fun t167 => (if t167 = true then ((spec_l5Text.f a1).bind fun t168 => (if t168 = true then (some (a0.toList != ([] : List UInt8))) else (some false))) else (some false))
set_option maxHeartbeats 8000000 in
set_option maxRecDepth 100000 in
theorem spec_l5Pair.calls (a0 : ByteArray) (a1 : ByteArray) (r : Bool) (w : World) (h : spec_l5Pair.f a0 a1 = some r) :
    Calls Try.prog 75 #[.string a0, .string a1] w fun e w' => e = .returned (.bool r) ∧ Drawn0 w w' := by
  have H : ((spec_l5Text.f a0).bind fun t167 => (if t167 = true then ((spec_l5Text.f a1).bind fun t168 => (if t168 = true then (some (a0.toList != ([] : List UInt8))) else (some false))) else (some false))) = some r := h
  clear h
  replace H := Option.bind_eq_some_iff.mp H
  obtain ⟨t167, A30, H⟩ := H
  replace H : (if t167 = true then ((spec_l5Text.f a1).bind fun t168 => (if t168 = true then (some (a0.toList != ([] : List UInt8))) else (some false))) else (some false)) = some r := H
  have A3 := Aside0.mk A30
  clear A30
  by_cases c4 : t167 = true
  · subst c4
    have H1 : ((spec_l5Text.f a1).bind fun t168 => (if t168 = true then (some (a0.toList != ([] : List UInt8))) else (some false))) = some r := by rw [if_pos rfl] at H; exact H
    clear H
    have H := H1
    clear H1
    replace H := Option.bind_eq_some_iff.mp H
    obtain ⟨t168, A50, H⟩ := H
    replace H : (if t168 = true then (some (a0.toList != ([] : List UInt8))) else (some false)) = some r := H
    have A5 := Aside0.mk A50
    clear A50
    by_cases c6 : t168 = true
    · subst c6
      have H1 : (some (a0.toList != ([] : List UInt8))) = some r := by rw [if_pos rfl] at H; exact H
      clear H
      have H := H1
      clear H1
      obtain rfl := Option.some.inj H
      go_enter Try.func75, Try.ntmps75
      go_wp2_with (first | ((with_reducible refine gate_callee (f := 104) rfl ?_); refine goesL_ (some 6) rfl rfl Try.func104 (by kernel_rfl) rfl #[.string a0] rfl (by (try simp only [List.map_toArray, List.map_cons, List.map_nil]); first | done | rfl | (simp only [List.length_drop, List.length_take]; rfl)) ?_; (with_reducible refine (spec_l5Text.calls a0 true _ A3.out).mono ?_); rintro e w' ⟨rfl, ⟨nd, rfl⟩⟩; refine ⟨_, rfl, ?_⟩) | (go_at_call 104; (with_reducible refine (spec_l5Text.calls a1 true _ A5.out).mono ?_); rintro e w' ⟨rfl, ⟨nd, rfl⟩⟩))
      go_ret
      exact ⟨by first | rfl | (simp only [Go.Proofs.Ytoddejmlcnbdmaa.Gen.nil_str, Go.Proofs.Ytoddejmlcnbdmaa.Gen.gt_str]; first | done | rfl | (simp; done)) | (simp; done) | (simp [*]; done), by repeat (first | exact Drawn0.refl _ | apply Drawn0.step)⟩
    · replace c6 := Bool.eq_false_iff.mpr c6
      subst c6
      have H1 : (some false) = some r := by rw [if_neg (show ¬ (false = true) by decide)] at H; exact H
      clear H
      have H := H1
      clear H1
      obtain rfl := Option.some.inj H
      go_enter Try.func75, Try.ntmps75
      go_wp2_with (first | ((with_reducible refine gate_callee (f := 104) rfl ?_); refine goesL_ (some 6) rfl rfl Try.func104 (by kernel_rfl) rfl #[.string a0] rfl (by (try simp only [List.map_toArray, List.map_cons, List.map_nil]); first | done | rfl | (simp only [List.length_drop, List.length_take]; rfl)) ?_; (with_reducible refine (spec_l5Text.calls a0 true _ A3.out).mono ?_); rintro e w' ⟨rfl, ⟨nd, rfl⟩⟩; refine ⟨_, rfl, ?_⟩) | (go_at_call 104; (with_reducible refine (spec_l5Text.calls a1 false _ A5.out).mono ?_); rintro e w' ⟨rfl, ⟨nd, rfl⟩⟩))
      go_ret
      exact ⟨by first | rfl | (simp only [Go.Proofs.Ytoddejmlcnbdmaa.Gen.nil_str, Go.Proofs.Ytoddejmlcnbdmaa.Gen.gt_str]; first | done | rfl | (simp; done)) | (simp; done) | (simp [*]; done), by repeat (first | exact Drawn0.refl _ | apply Drawn0.step)⟩
  · replace c4 := Bool.eq_false_iff.mpr c4
    subst c4
    have H1 : (some false) = some r := by rw [if_neg (show ¬ (false = true) by decide)] at H; exact H
    clear H
    have H := H1
    clear H1
    obtain rfl := Option.some.inj H
    go_enter Try.func75, Try.ntmps75
    go_wp2_with (first | ((with_reducible refine gate_callee (f := 104) rfl ?_); refine goesL_ (some 6) rfl rfl Try.func104 (by kernel_rfl) rfl #[.string a0] rfl (by (try simp only [List.map_toArray, List.map_cons, List.map_nil]); first | done | rfl | (simp only [List.length_drop, List.length_take]; rfl)) ?_; (with_reducible refine (spec_l5Text.calls a0 false _ A3.out).mono ?_); rintro e w' ⟨rfl, ⟨nd, rfl⟩⟩; refine ⟨_, rfl, ?_⟩))
    go_ret
    exact ⟨by first | rfl | (simp only [Go.Proofs.Ytoddejmlcnbdmaa.Gen.nil_str, Go.Proofs.Ytoddejmlcnbdmaa.Gen.gt_str]; first | done | rfl | (simp; done)) | (simp; done) | (simp [*]; done), by repeat (first | exact Drawn0.refl _ | apply Drawn0.step)⟩

end Go.Proofs.Ytoddejmlcnbdmaa.Fn
namespace Go.Proofs.Ytoddejmlcnbdmaa.Fn
open Go.RowKit Go.Proofs.YtoddejmlcnbdmaaW.PrintWords Go.Proofs.YtoddejmlcnbdmaaW.PrintLast Go.Proofs.YtoddejmlcnbdmaaW.PrintMore
attribute [local go_sem] max2_int min2_int max_two min_two max_three min_three max_four min_four   -- for this text's walks alone
set_option linter.unusedVariables false
set_option linter.unusedSimpArgs false

/-! ### impl_within: function 69 -/
def impl_within.f (a0 : Int) (a1 : Int) (a2 : Int) : Option (Bool) := if a0 ≥ a1 then (some (decide (a0 ≤ a2))) else (some false)
set_option maxHeartbeats 8000000 in
set_option maxRecDepth 100000 in
theorem impl_within.calls (a0 : Int) (a1 : Int) (a2 : Int) (r : Bool) (w : World) (h : impl_within.f a0 a1 a2 = some r) :
    Calls Try.prog 69 #[.int .i64 a0, .int .i64 a1, .int .i64 a2] w fun e w' => e = .returned (.bool r) ∧ Drawn0 w w' := by
  have H : (if a0 ≥ a1 then (some (decide (a0 ≤ a2))) else (some false)) = some r := h
  clear h
  by_cases c4 : a0 ≥ a1
  · rw [if_pos c4] at H
    have c4b0 : decide (a1 ≤ a0) = true := decide_eq_true c4
    clear c4
    obtain rfl := Option.some.inj H
    go_enter Try.func69, Try.ntmps69
    go_wp2
    go_ret
    exact ⟨by first | rfl | (simp; done) | (simp [*]; done), by repeat (first | exact Drawn0.refl _ | apply Drawn0.step)⟩
  · rw [if_neg c4] at H
    have c4b0 : decide (a1 ≤ a0) = false := decide_eq_false c4
    clear c4
    obtain rfl := Option.some.inj H
    go_enter Try.func69, Try.ntmps69
    go_wp2
    go_ret
    exact ⟨by first | rfl | (simp; done) | (simp [*]; done), by repeat (first | exact Drawn0.refl _ | apply Drawn0.step)⟩

end Go.Proofs.Ytoddejmlcnbdmaa.Fn
namespace Go.Proofs.Ytoddejmlcnbdmaa.Fn
open Go.RowKit Go.Proofs.YtoddejmlcnbdmaaW.PrintWords Go.Proofs.YtoddejmlcnbdmaaW.PrintLast Go.Proofs.YtoddejmlcnbdmaaW.PrintMore
attribute [local go_sem] max2_int min2_int max_two min_two max_three min_three max_four min_four   -- for this text's walks alone
set_option linter.unusedVariables false
set_option linter.unusedSimpArgs false

/-! ### impl_isKey: function 78 -/
def impl_isKey.f (a0 : ByteArray) : Option (Bool) := (impl_within.f (a0.size : Int) 1 12).bind fun t169 => (some t169)
set_option maxHeartbeats 8000000 in
set_option maxRecDepth 100000 in
theorem impl_isKey.calls (a0 : ByteArray) (r : Bool) (w : World) (h : impl_isKey.f a0 = some r) :
    Calls Try.prog 78 #[.string a0] w fun e w' => e = .returned (.bool r) ∧ Drawn0 w w' := by
  have H : ((impl_within.f (a0.size : Int) 1 12).bind fun t169 => (some t169)) = some r := h
  clear h
  replace H := Option.bind_eq_some_iff.mp H
  obtain ⟨t169, A20, H⟩ := H
  replace H : (some t169) = some r := H
  have A2 := Aside0.mk A20
  clear A20
  obtain rfl := Option.some.inj H
  go_enter Try.func78, Try.ntmps78
  go_wp2_with (first | ((with_reducible refine gate_callee (f := 69) rfl ?_); refine goesL_ (some 5) rfl rfl Try.func69 (by kernel_rfl) rfl #[.int .i64 (a0.size : Int), .int .i64 1, .int .i64 12] rfl (by (try simp only [List.map_toArray, List.map_cons, List.map_nil]); first | done | rfl | (simp only [List.length_drop, List.length_take]; rfl)) ?_; (with_reducible refine (impl_within.calls (a0.size : Int) 1 12 t169 _ A2.out).mono ?_); rintro e w' ⟨rfl, ⟨nd, rfl⟩⟩; refine ⟨_, rfl, ?_⟩))
  go_ret
  exact ⟨by first | rfl | (simp; done) | (simp [*]; done), by repeat (first | exact Drawn0.refl _ | apply Drawn0.step)⟩

end Go.Proofs.Ytoddejmlcnbdmaa.Fn
namespace Go.Proofs.Ytoddejmlcnbdmaa.Fn
open Go.RowKit Go.Proofs.YtoddejmlcnbdmaaW.PrintWords Go.Proofs.YtoddejmlcnbdmaaW.PrintLast Go.Proofs.YtoddejmlcnbdmaaW.PrintMore
attribute [local go_sem] max2_int min2_int max_two min_two max_three min_three max_four min_four   -- for this text's walks alone
set_option linter.unusedVariables false
set_option linter.unusedSimpArgs false

/-! ### impl_areRising: function 115 -/
def impl_areRising.l0 : Nat → List ByteArray → List ByteArray → Int → Int → Option (Bool)
  | 0, _, _, _, _ => none
  | k + 1, x0, x5, x6, x7 => if x7 < x6 then (if 0 ≤ x7 then (if x7 < (x5.length : Int) then ((impl_isKey.f (rdOf ByteArray.empty x5 x7)).bind fun t171 => (if t171 = true then (if x7 > 0 then (if 0 ≤ (wrap64 (x7 - 1)) then (if (wrap64 (x7 - 1)) < (x0.length : Int) then (if ((Op.bytesLess ((rdOf ByteArray.empty x0 (wrap64 (x7 - 1))).toList) ((rdOf ByteArray.empty x5 x7).toList)) = true) then (impl_areRising.l0 k x0 x5 x6 (wrap64 (x7 + 1))) else (some false)) else (none)) else (none)) else (impl_areRising.l0 k x0 x5 x6 (wrap64 (x7 + 1)))) else (some false))) else (none)) else (none)) else (some true)
def impl_areRising.f (k : Nat) (l0 : List ByteArray) : Option (Bool) := impl_areRising.l0 k l0 l0 (l0.length : Int) 0
theorem impl_areRising.mono_l : ∀ k, (∀ y0 y1 y2 y3, LeO (impl_areRising.l0 k y0 y1 y2 y3) (impl_areRising.l0 (k + 1) y0 y1 y2 y3))
  | 0 => fun _ _ _ _ r h => by simp [impl_areRising.l0] at h
  | k + 1 => by
    have ih0 := impl_areRising.mono_l k
    · intro y0 y1 y2 y3
      unfold impl_areRising.l0
      repeat' first
      | (with_reducible exact ih0 _ _ _ _)
      | (with_reducible exact LeO.refl _)
      | (with_reducible exact LeO.none _)
      | (with_reducible refine LeO.ite ?_ ?_)
      | (with_reducible refine LeO.bind ?_ (fun _ => ?_))
      | exact ih0 _ _ _ _
      | exact LeO.none _
      | refine LeO.ite ?_ ?_
      | refine LeO.bind ?_ (fun _ => ?_)
theorem impl_areRising.mono : ∀ a0 k, LeO (impl_areRising.f k a0) (impl_areRising.f (k + 1) a0) := by
  intro a0 k
  have ih0 := impl_areRising.mono_l k
  unfold impl_areRising.f
  repeat' first
      | (with_reducible exact ih0 _ _ _ _)
      | (with_reducible exact LeO.refl _)
      | (with_reducible exact LeO.none _)
      | (with_reducible refine LeO.ite ?_ ?_)
      | (with_reducible refine LeO.bind ?_ (fun _ => ?_))
      | exact ih0 _ _ _ _
      | exact LeO.none _
      | refine LeO.ite ?_ ?_
      | refine LeO.bind ?_ (fun _ => ?_)
set_option maxHeartbeats 8000000 in
set_option maxRecDepth 100000 in
theorem impl_areRising.calls (k : Nat) (A0 : Option Addr) (c0 : Nat) (l0 : List ByteArray) (r : Bool) (w : World) (hr0 : Kd.C Kd.string w A0 l0.length l0) (hc0 : l0.length ≤ c0) (h : impl_areRising.f k l0 = some r) :
    Calls Try.prog 115 #[.slice A0 l0.length c0] w fun e w' => e = .returned (.bool r) ∧ Drawn0 w w' := by
  have HR0 := Aside0.mk hr0
  have HC0 := Aside0.mk hc0
  clear hr0 hc0
  have H : (impl_areRising.l0 k l0 l0 (l0.length : Int) 0) = some r := h
  clear h
  have H' := Aside0.mk H
  clear H
  go_enter Try.func115, Try.ntmps115
  go_wp2
  go_loopg [7] k (fun kq v7 w' => ∃ (x7_1 : Int), v7 = .int .i64 x7_1 ∧ Aside0 (impl_areRising.l0 kq l0 l0 (l0.length : Int) x7_1 = some r) ∧ Aside0 (kq ≤ k) ∧ Drawn0 w w')
  case atStart => exact ⟨(0), (by first | rfl | (simp; done) | (simp [*]; done)), H', ⟨Nat.le_refl _⟩, by repeat (first | exact Drawn0.refl _ | apply Drawn0.step)⟩
  case round =>
    clear H'
    try clear c1
    obtain ⟨x7_1, rfl, HA, HK1, ⟨m1, rfl⟩⟩ := hrel
    cases gk with
    | zero => exact absurd HA.out (by simp [impl_areRising.l0])
    | succ k1 =>
      have H := HA.out
      clear HA
      simp only [impl_areRising.l0] at H
      by_cases c2 : x7_1 < (l0.length : Int)
      · rw [if_pos c2] at H
        have c2b0 : decide (x7_1 < (l0.length : Int)) = true := decide_eq_true c2
        clear c2
        by_cases c3 : 0 ≤ x7_1
        · rw [if_pos c3] at H
          have c3b0 : decide (0 ≤ x7_1) = true := decide_eq_true c3
          clear c3
          by_cases c4 : x7_1 < (l0.length : Int)
          · rw [if_pos c4] at H
            have c4b0 : decide (x7_1 < (l0.length : Int)) = true := decide_eq_true c4
            clear c4
            replace H := Option.bind_eq_some_iff.mp H
            obtain ⟨t171, A50, H⟩ := H
            replace H : (if t171 = true then (if x7_1 > 0 then (if 0 ≤ (wrap64 (x7_1 - 1)) then (if (wrap64 (x7_1 - 1)) < (l0.length : Int) then (if ((Op.bytesLess ((rdOf ByteArray.empty l0 (wrap64 (x7_1 - 1))).toList) ((rdOf ByteArray.empty l0 x7_1).toList)) = true) then (impl_areRising.l0 k1 l0 l0 (l0.length : Int) (wrap64 (x7_1 + 1))) else (some false)) else (none)) else (none)) else (impl_areRising.l0 k1 l0 l0 (l0.length : Int) (wrap64 (x7_1 + 1)))) else (some false)) = some r := H
            have A5 := Aside0.mk A50
            clear A50
            by_cases c6 : t171 = true
            · subst c6
              have H1 : (if x7_1 > 0 then (if 0 ≤ (wrap64 (x7_1 - 1)) then (if (wrap64 (x7_1 - 1)) < (l0.length : Int) then (if ((Op.bytesLess ((rdOf ByteArray.empty l0 (wrap64 (x7_1 - 1))).toList) ((rdOf ByteArray.empty l0 x7_1).toList)) = true) then (impl_areRising.l0 k1 l0 l0 (l0.length : Int) (wrap64 (x7_1 + 1))) else (some false)) else (none)) else (none)) else (impl_areRising.l0 k1 l0 l0 (l0.length : Int) (wrap64 (x7_1 + 1)))) = some r := by rw [if_pos rfl] at H; exact H
              clear H
              have H := H1
              clear H1
              by_cases c7 : x7_1 > 0
              · rw [if_pos c7] at H
                have c7b0 : decide (0 < x7_1) = true := decide_eq_true c7
                clear c7
                obtain ⟨ji8, hji8⟩ : ∃ j_ : Int, (wrap64 (x7_1 - 1)) = j_ := ⟨_, rfl⟩
                replace H : (if 0 ≤ (ji8) then (if (ji8) < (l0.length : Int) then (if ((Op.bytesLess ((rdOf ByteArray.empty l0 (ji8)).toList) ((rdOf ByteArray.empty l0 x7_1).toList)) = true) then (impl_areRising.l0 k1 l0 l0 (l0.length : Int) (wrap64 (x7_1 + 1))) else (some false)) else (none)) else (none)) = some r := by first | (rw [hji8] at H; exact H) | (simp only [hji8] at H ⊢; exact H)
                (try rw [hji8] at A5)
                have hji8w : (IntKind.i64.wrap (x7_1 - 1)) = ji8 := (i64_w _).trans hji8
                by_cases c9 : 0 ≤ (ji8)
                · rw [if_pos c9] at H
                  have c9b0 : decide (0 ≤ (ji8)) = true := decide_eq_true c9
                  clear c9
                  by_cases c10 : (ji8) < (l0.length : Int)
                  · rw [if_pos c10] at H
                    have c10b0 : decide ((ji8) < (l0.length : Int)) = true := decide_eq_true c10
                    clear c10
                    by_cases c11 : ((Op.bytesLess ((rdOf ByteArray.empty l0 (ji8)).toList) ((rdOf ByteArray.empty l0 x7_1).toList)) = true)
                    · rw [if_pos c11] at H
                      have c11b0 : (Op.bytesLess ((rdOf ByteArray.empty l0 (ji8)).toList) ((rdOf ByteArray.empty l0 x7_1).toList)) = true := c11
                      clear c11
                      have H' := Aside0.mk H
                      clear H
                      have p170 : 0 ≤ (x7_1 : Int) := of_decide_eq_true (by first | (with_reducible assumption) | assumption)
                      have q170 : x7_1 < (l0.length : Int) := of_decide_eq_true (by first | (with_reducible assumption) | assumption)
                      obtain ⟨ad170, e170, hx170_0⟩ := Kd.at_string HR0.out x7_1 p170 q170
                      cases e170
                      replace p170 := eq_true p170
                      replace q170 := eq_true q170
                      go_wp2_with (first | ((with_reducible refine gate_callee (f := 78) rfl ?_); refine goesL_ (some 13) rfl rfl Try.func78 (by kernel_rfl) rfl #[.string (rdOf ByteArray.empty l0 x7_1)] rfl (by (try simp only [List.map_toArray, List.map_cons, List.map_nil]); first | done | rfl | (simp only [List.length_drop, List.length_take]; rfl)) ?_; (with_reducible refine (impl_isKey.calls (rdOf ByteArray.empty l0 x7_1) true _ A5.out).mono ?_); rintro e w' ⟨rfl, ⟨nd, rfl⟩⟩; refine ⟨_, rfl, ?_⟩; have p172 : 0 ≤ ((ji8) : Int) := of_decide_eq_true (by first | (with_reducible assumption) | assumption); have q172 : (ji8) < (l0.length : Int) := of_decide_eq_true (by first | (with_reducible assumption) | assumption); obtain ⟨ad172, e172, hx172_0⟩ := Kd.at_string HR0.out (ji8) p172 q172; obtain rfl : ad170 = ad172 := (by injection e172); replace p172 := eq_true p172; replace q172 := eq_true q172))
                      go_roundg k1
                      case measure => have := HK1.out; omega
                      case rel => exact ⟨(wrap64 (x7_1 + 1)), (by first | rfl | (simp; done) | (simp [*]; done)), H', ⟨by have := HK1.out; omega⟩, by repeat (first | exact Drawn0.refl _ | apply Drawn0.step)⟩
                    · rw [if_neg c11] at H
                      have c11b0 : (Op.bytesLess ((rdOf ByteArray.empty l0 (ji8)).toList) ((rdOf ByteArray.empty l0 x7_1).toList)) = false := by simpa using c11
                      clear c11
                      obtain rfl := Option.some.inj H
                      have p170 : 0 ≤ (x7_1 : Int) := of_decide_eq_true (by first | (with_reducible assumption) | assumption)
                      have q170 : x7_1 < (l0.length : Int) := of_decide_eq_true (by first | (with_reducible assumption) | assumption)
                      obtain ⟨ad170, e170, hx170_0⟩ := Kd.at_string HR0.out x7_1 p170 q170
                      cases e170
                      replace p170 := eq_true p170
                      replace q170 := eq_true q170
                      go_wp2_with (first | ((with_reducible refine gate_callee (f := 78) rfl ?_); refine goesL_ (some 13) rfl rfl Try.func78 (by kernel_rfl) rfl #[.string (rdOf ByteArray.empty l0 x7_1)] rfl (by (try simp only [List.map_toArray, List.map_cons, List.map_nil]); first | done | rfl | (simp only [List.length_drop, List.length_take]; rfl)) ?_; (with_reducible refine (impl_isKey.calls (rdOf ByteArray.empty l0 x7_1) true _ A5.out).mono ?_); rintro e w' ⟨rfl, ⟨nd, rfl⟩⟩; refine ⟨_, rfl, ?_⟩; have p172 : 0 ≤ ((ji8) : Int) := of_decide_eq_true (by first | (with_reducible assumption) | assumption); have q172 : (ji8) < (l0.length : Int) := of_decide_eq_true (by first | (with_reducible assumption) | assumption); obtain ⟨ad172, e172, hx172_0⟩ := Kd.at_string HR0.out (ji8) p172 q172; obtain rfl : ad170 = ad172 := (by injection e172); replace p172 := eq_true p172; replace q172 := eq_true q172))
                      go_ret
                      exact ⟨by first | rfl | (simp only [Go.Proofs.Ytoddejmlcnbdmaa.Gen.nil_str, Go.Proofs.Ytoddejmlcnbdmaa.Gen.gt_str]; first | done | rfl | (simp; done)) | (simp; done) | (simp only [← hji8] <;> (first | rfl | simp)) | (simp [*]; done), by repeat (first | exact Drawn0.refl _ | apply Drawn0.step)⟩
                  · rw [if_neg c10] at H
                    exact absurd H (by simp)
                · rw [if_neg c9] at H
                  exact absurd H (by simp)
              · rw [if_neg c7] at H
                have c7b0 : decide (0 < x7_1) = false := decide_eq_false c7
                clear c7
                have H' := Aside0.mk H
                clear H
                have p170 : 0 ≤ (x7_1 : Int) := of_decide_eq_true (by first | (with_reducible assumption) | assumption)
                have q170 : x7_1 < (l0.length : Int) := of_decide_eq_true (by first | (with_reducible assumption) | assumption)
                obtain ⟨ad170, e170, hx170_0⟩ := Kd.at_string HR0.out x7_1 p170 q170
                cases e170
                replace p170 := eq_true p170
                replace q170 := eq_true q170
                go_wp2_with (first | ((with_reducible refine gate_callee (f := 78) rfl ?_); refine goesL_ (some 13) rfl rfl Try.func78 (by kernel_rfl) rfl #[.string (rdOf ByteArray.empty l0 x7_1)] rfl (by (try simp only [List.map_toArray, List.map_cons, List.map_nil]); first | done | rfl | (simp only [List.length_drop, List.length_take]; rfl)) ?_; (with_reducible refine (impl_isKey.calls (rdOf ByteArray.empty l0 x7_1) true _ A5.out).mono ?_); rintro e w' ⟨rfl, ⟨nd, rfl⟩⟩; refine ⟨_, rfl, ?_⟩))
                go_roundg k1
                case measure => have := HK1.out; omega
                case rel => exact ⟨(wrap64 (x7_1 + 1)), (by first | rfl | (simp; done) | (simp [*]; done)), H', ⟨by have := HK1.out; omega⟩, by repeat (first | exact Drawn0.refl _ | apply Drawn0.step)⟩
            · replace c6 := Bool.eq_false_iff.mpr c6
              subst c6
              have H1 : (some false) = some r := by rw [if_neg (show ¬ (false = true) by decide)] at H; exact H
              clear H
              have H := H1
              clear H1
              obtain rfl := Option.some.inj H
              have p170 : 0 ≤ (x7_1 : Int) := of_decide_eq_true (by first | (with_reducible assumption) | assumption)
              have q170 : x7_1 < (l0.length : Int) := of_decide_eq_true (by first | (with_reducible assumption) | assumption)
              obtain ⟨ad170, e170, hx170_0⟩ := Kd.at_string HR0.out x7_1 p170 q170
              cases e170
              replace p170 := eq_true p170
              replace q170 := eq_true q170
              go_wp2_with (first | ((with_reducible refine gate_callee (f := 78) rfl ?_); refine goesL_ (some 13) rfl rfl Try.func78 (by kernel_rfl) rfl #[.string (rdOf ByteArray.empty l0 x7_1)] rfl (by (try simp only [List.map_toArray, List.map_cons, List.map_nil]); first | done | rfl | (simp only [List.length_drop, List.length_take]; rfl)) ?_; (with_reducible refine (impl_isKey.calls (rdOf ByteArray.empty l0 x7_1) false _ A5.out).mono ?_); rintro e w' ⟨rfl, ⟨nd, rfl⟩⟩; refine ⟨_, rfl, ?_⟩))
              go_ret
              exact ⟨by first | rfl | (simp only [Go.Proofs.Ytoddejmlcnbdmaa.Gen.nil_str, Go.Proofs.Ytoddejmlcnbdmaa.Gen.gt_str]; first | done | rfl | (simp; done)) | (simp; done) | (simp [*]; done), by repeat (first | exact Drawn0.refl _ | apply Drawn0.step)⟩
          · rw [if_neg c4] at H
            exact absurd H (by simp)
        · rw [if_neg c3] at H
          exact absurd H (by simp)
      · rw [if_neg c2] at H
        have c2b0 : decide (x7_1 < (l0.length : Int)) = false := decide_eq_false c2
        clear c2
        obtain rfl := Option.some.inj H
        go_wp2
        go_ret
        exact ⟨by first | rfl | (simp only [Go.Proofs.Ytoddejmlcnbdmaa.Gen.nil_str, Go.Proofs.Ytoddejmlcnbdmaa.Gen.gt_str]; first | done | rfl | (simp; done)) | (simp; done) | (simp [*]; done), by repeat (first | exact Drawn0.refl _ | apply Drawn0.step)⟩

end Go.Proofs.Ytoddejmlcnbdmaa.Fn
namespace Go.Proofs.Ytoddejmlcnbdmaa.Fn
open Go.RowKit Go.Proofs.YtoddejmlcnbdmaaW.PrintWords Go.Proofs.YtoddejmlcnbdmaaW.PrintLast Go.Proofs.YtoddejmlcnbdmaaW.PrintMore
attribute [local go_sem] max2_int min2_int max_two min_two max_three min_three max_four min_four   -- for this text's walks alone
set_option linter.unusedVariables false
set_option linter.unusedSimpArgs false

/-! ### impl_isVal: function 79 -/
def impl_isVal.f (a0 : ByteArray) : Option (Bool) := some (decide ((a0.size : Int) ≤ 12))
set_option maxHeartbeats 8000000 in
set_option maxRecDepth 100000 in
theorem impl_isVal.calls (a0 : ByteArray) (r : Bool) (w : World) (h : impl_isVal.f a0 = some r) :
    Calls Try.prog 79 #[.string a0] w fun e w' => e = .returned (.bool r) ∧ Drawn0 w w' := by
  have H : (some (decide ((a0.size : Int) ≤ 12))) = some r := h
  clear h
  obtain rfl := Option.some.inj H
  go_enter Try.func79, Try.ntmps79
  go_wp2
  go_ret
  exact ⟨by first | rfl | (simp; done) | (simp [*]; done), by repeat (first | exact Drawn0.refl _ | apply Drawn0.step)⟩

end Go.Proofs.Ytoddejmlcnbdmaa.Fn
namespace Go.Proofs.Ytoddejmlcnbdmaa.Fn
open Go.RowKit Go.Proofs.YtoddejmlcnbdmaaW.PrintWords Go.Proofs.YtoddejmlcnbdmaaW.PrintLast Go.Proofs.YtoddejmlcnbdmaaW.PrintMore
attribute [local go_sem] max2_int min2_int max_two min_two max_three min_three max_four min_four   -- for this text's walks alone
set_option linter.unusedVariables false
set_option linter.unusedSimpArgs false

/-! ### impl_arePairs_1: function 117 -/
def impl_arePairs_1.f (a0 : ByteArray) : Option (Bool) := (impl_isVal.f a0).bind fun t173 => (some (!t173))
set_option maxHeartbeats 8000000 in
set_option maxRecDepth 100000 in
theorem impl_arePairs_1.calls (a0 : ByteArray) (r : Bool) (w : World) (h : impl_arePairs_1.f a0 = some r) :
    Calls Try.prog 117 #[.string a0] w fun e w' => e = .returned (.bool r) ∧ Drawn0 w w' := by
  have H : ((impl_isVal.f a0).bind fun t173 => (some (!t173))) = some r := h
  clear h
  replace H := Option.bind_eq_some_iff.mp H
  obtain ⟨t173, A20, H⟩ := H
  replace H : (some (!t173)) = some r := H
  have A2 := Aside0.mk A20
  clear A20
  obtain rfl := Option.some.inj H
  go_enter Try.func117, Try.ntmps117
  go_wp2_with (first | ((with_reducible refine gate_callee (f := 79) rfl ?_); refine goesL_ (some 4) rfl rfl Try.func79 (by kernel_rfl) rfl #[.string a0] rfl (by (try simp only [List.map_toArray, List.map_cons, List.map_nil]); first | done | rfl | (simp only [List.length_drop, List.length_take]; rfl)) ?_; (with_reducible refine (impl_isVal.calls a0 t173 _ A2.out).mono ?_); rintro e w' ⟨rfl, ⟨nd, rfl⟩⟩; refine ⟨_, rfl, ?_⟩))
  go_ret
  exact ⟨by first | rfl | (simp; done) | (simp [*]; done), by repeat (first | exact Drawn0.refl _ | apply Drawn0.step)⟩

end Go.Proofs.Ytoddejmlcnbdmaa.Fn
