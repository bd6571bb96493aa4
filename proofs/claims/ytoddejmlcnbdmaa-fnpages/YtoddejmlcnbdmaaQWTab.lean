/- Words used here. -/
import Derived.Test.YtoddejmlcnbdmaaQWLast
import Derived.Test.YtoddejmlcnbdmaaQWWords
namespace Go.Proofs.YtoddejmlcnbdmaaW.PrintLast
open Go.Proofs.YtoddejmlcnbdmaaW.PrintWords (af)
def vM (md : Region.Mode) (o : Oper) : List Nat := (o.after.toList.filter (fun e => Region.binds md e)).map (fun e => e.on)
def Gw (md : Region.Mode) (ops : Array Oper) (i : Nat) (oi : Oper) : List Nat := (List.range ops.size).filter fun j => !(j == i) && match ops[j]? with
 | some oj => !(oj.after.any (fun e => Region.binds md e && e.on == i) || oi.apart ops oj)
 | none => false
def sV (md : Region.Mode) (ops : Array Oper) : Bool × List (List Nat × List Nat) := (Region.noSelect ops, (List.range ops.size).map fun i => match ops[i]? with
 | some o => (vM md o, Gw md ops i o)
 | none => ([], []))
def vN (T : List (List Nat × List Nat)) (l : List Bool) (i : Nat) : Bool := !l.getD i true && match T[i]? with
 | some r => r.1.all (fun j => l.getD j false)
 | none => false
def CK (T : List (List Nat × List Nat)) (l : List Bool) : List Nat := (List.range T.length).filter (vN T l)
def PW (T : List (List Nat × List Nat)) (l : List Bool) (i : Nat) : Bool := match T[i]? with
 | some r => r.2.all (fun j => l.getD j true)
 | none => false
def Gx (T : List (List Nat × List Nat)) (i : Nat) : Nat -> Nat -> Bool
 | 0, _ => false
 | fuel + 1, d => match T[d]? with
  | some r => r.1.any fun j => j == i || Gx T i fuel j
  | none => false
def lastT (T : List (List Nat × List Nat)) (l : List Bool) (ds : List Nat) (i : Nat) : Bool := ds.all fun d => l.getD d true || Gx T i T.length d
section
variable {md : Region.Mode} {ops : Array Oper} {T : Bool × List (List Nat × List Nat)} {l l' li lj lk : Array Bool} {ds : List Nat} {i j k : Nat}
theorem gd (l : Array Bool) (j : Nat) (b : Bool) : l.getD j b = l.toList.getD j b := by simp [Array.getD_eq_getD_getElem?, List.getD_eq_getElem?_getD]
theorem NH (o : Oper) (p : Nat -> Bool) : o.after.all (fun e => !Region.binds md e || p e.on) = (vM md o).all p := by
 unfold vM
 rw [← Array.all_toList]
 induction o.after.toList with
 | nil => rfl
 | cons e r ih =>
  rw [List.all_cons, ih, List.filter_cons]
  cases h : Region.binds md e <;> simp
theorem NI (o : Oper) (p : Nat -> Bool) : o.after.any (fun e => Region.binds md e && p e.on) = (vM md o).any p := by
 unfold vM
 rw [← Array.any_toList]
 induction o.after.toList with
 | nil => rfl
 | cons e r ih =>
  rw [List.any_cons, ih, List.filter_cons]
  cases h : Region.binds md e <;> simp
theorem uP : (sV md ops).2.length = ops.size := by simp [sV]
theorem zb {o : Oper} (h : ops[i]? = some o) : (sV md ops).2[i]? = some (vM md o, Gw md ops i o) := by
 have hi := (Array.getElem?_eq_some_iff.1 h).1
 unfold sV
 rw [List.getElem?_map, List.getElem?_range hi, Option.map_some, h]
theorem ze (h : ops[i]? = none) : (sV md ops).2[i]? = none := by
 have hi : ops.size <= i := Array.getElem?_eq_none_iff.1 h
 exact List.getElem?_eq_none (by rw [uP]; exact hi)
theorem Kw : vN (sV md ops).2 l.toList i = (!l.getD i true && ((ops[i]?).map (·.after.all fun e => !Region.binds md e || l.getD e.on false)).getD false) := by
 unfold vN
 rw [gd]
 cases h : ops[i]? with
 | none => rw [ze h]; rfl
 | some o =>
  rw [zb h]
  simp only [Option.map_some, Option.getD_some]
  rw [← NH]
  simp only [gd]
theorem ready_eq : Region.ready md ops l = CK (sV md ops).2 l.toList := by
 unfold Region.ready CK
 rw [uP]
 refine List.filter_congr (fun i _ => ?_)
 rw [Kw]
theorem free_eq : Region.free md ops l i = PW (sV md ops).2 l.toList i := by
 unfold Region.free PW
 cases h : ops[i]? with
 | none => rw [ze h]
 | some oi =>
  rw [zb h]
  simp only [Gw]
  rw [List.all_filter]
  congr 1
  funext j
  rw [gd]
  cases hj : ops[j]? with
  | none => cases (j == i) <;> cases (l.toList.getD j true) <;> simp
  | some oj =>
   cases (j == i) <;> cases (l.toList.getD j true) <;> cases (oj.after.any (fun e => Region.binds md e && e.on == i) || oi.apart ops oj) <;> simp_all
theorem I5 : ∀ (fuel d : Nat), Region.o5 md ops i fuel d = Gx (sV md ops).2 i fuel d
 | 0, _ => rfl
 | fuel + 1, d => by
  unfold Region.o5 Gx
  cases h : ops[d]? with
  | none => rw [ze h]
  | some o =>
   rw [zb h]
   simp only
   rw [← NI]
   congr 1
   funext e
   rw [I5 fuel]
theorem vI : Region.lastB md ops l ds i = lastT (sV md ops).2 l.toList ds i := by
 unfold Region.lastB lastT
 rw [uP]
 congr 1
 funext d
 rw [gd, I5]
theorem I6 (h : vN T.2 l.toList i = true) (hT : sV md ops = T) : (Region.ready md ops l).contains i = true := by
 subst hT
 rw [ready_eq]
 unfold CK
 rw [List.contains_iff_mem, List.mem_filter, List.mem_range]
 refine ⟨?_, h⟩
 unfold vN at h
 rw [Bool.and_eq_true] at h
 cases hq : (sV md ops).2[i]? with
 | none => rw [hq] at h; simp at h
 | some r => exact (List.getElem?_eq_some_iff.1 hq).1
theorem PX (h : (l.toList.set i true == l'.toList) = true) : (l.setIfInBounds i true == l') = true := by
 rw [beq_iff_eq] at h ⊢
 apply Array.ext'
 rw [Array.toList_setIfInBounds]
 exact h
def Xm (T : Bool × List (List Nat × List Nat)) (l l' : List Bool) (i : Nat) : Bool := T.1 && PW T.2 l i && vN T.2 l i && (l.set i true == l')
theorem YV (hT : sV md ops = T) (h : Xm T l.toList l'.toList i = true) : OD md ops l l' i = true := by
 simp only [Xm, Bool.and_eq_true] at h
 obtain ⟨⟨⟨h1, h2⟩, h3⟩, h4⟩ := h
 have h5 := I6 h3 hT
 have h6 := PX h4
 subst hT
 simp only [OD, Bool.and_eq_true]
 exact ⟨⟨⟨h1, by rw [free_eq]; exact h2⟩, h5⟩, h6⟩
theorem yM (hT : sV md ops = T) (h : (CK T.2 l.toList == [i] && l.toList.set i true == l'.toList) = true) : y9 md ops l l' i = true := by
 simp only [Bool.and_eq_true] at h
 obtain ⟨h1, h2⟩ := h
 subst hT
 simp only [y9, Bool.and_eq_true]
 exact ⟨by rw [ready_eq]; exact h1, PX h2⟩
theorem LH (hT : sV md ops = T) (h : (CK T.2 l.toList == []) = true) : (Region.ready md ops l == []) = true := by
 subst hT
 rw [ready_eq]
 exact h
def YW (B : List Nat) (d : Nat) : List Nat -> Nat
 | [] => 0
 | n :: r => (2 ^ n ||| (if n < d then B.getD n 0 else 0)) ||| YW B d r
def AA (T : List (List Nat × List Nat)) (B : List Nat) : Bool := (List.range T.length).all fun d => match T[d]? with
 | some r => (B.getD d 0 ||| YW B d r.1) == YW B d r.1
 | none => false
theorem Ei {P : Program} {Q : Exit -> Act -> World -> Prop} {S : World -> Prop} {n : Nat} {a : Act} {w : World} {B : List Nat} (hT : sV md ops = T) (hB : AA T.2 B = true) (h : af (sV md ops = T) -> af (AA T.2 B = true) -> aQ P md ops Q S ds n l a w) : aQ P md ops Q S ds n l a w := h ⟨hT⟩ ⟨hB⟩
end
def wD : Code -> Nat -> Option (Array Oper)
 | .region id ops _, k => if id == k then some ops else none
 | .seq a b, k => match wD a k with
  | some o => some o
  | none => wD b k
 | .cond _ a b, k => match wD a k with
  | some o => some o
  | none => wD b k
 | .block _ c, k => wD c k
 | .loop c, k => wD c k
 | .scope c, k => wD c k
 | .rangeFunc _ _ a b, k => match wD a k with
  | some o => some o
  | none => wD b k
 | _, _ => none
def opsOf (f : Func) (k : Nat) : Array Oper := ((f.body.bind fun c => wD c k)).getD #[]
end Go.Proofs.YtoddejmlcnbdmaaW.PrintLast


