/- Words that the proof uses, of those printed for this seat. -/
import Derived.Test.YtoddejmlcnbdmaaQWLast
import Derived.Test.YtoddejmlcnbdmaaQWWords
namespace Go.Proofs.YtoddejmlcnbdmaaW.PrintLast
open Go.Proofs.YtoddejmlcnbdmaaW.PrintWords (af)
def uf (md : Region.Mode) (o : Oper) : List Nat := (o.after.toList.filter (fun e => Region.binds md e)).map (fun e => e.on)
def Ex (md : Region.Mode) (ops : Array Oper) (i : Nat) (oi : Oper) : List Nat := (List.range ops.size).filter fun j => !(j == i) && match ops[j]? with
 | some oj => !(oj.after.any (fun e => Region.binds md e && e.on == i) || oi.apart ops oj)
 | none => false
def qW (md : Region.Mode) (ops : Array Oper) : Bool × List (List Nat × List Nat) := (Region.noSelect ops, (List.range ops.size).map fun i => match ops[i]? with
 | some o => (uf md o, Ex md ops i o)
 | none => ([], []))
def ug (T : List (List Nat × List Nat)) (l : List Bool) (i : Nat) : Bool := !l.getD i true && match T[i]? with
 | some r => r.1.all (fun j => l.getD j false)
 | none => false
def Bd (T : List (List Nat × List Nat)) (l : List Bool) : List Nat := (List.range T.length).filter (ug T l)
def Nu (T : List (List Nat × List Nat)) (l : List Bool) (i : Nat) : Bool := match T[i]? with
 | some r => r.2.all (fun j => l.getD j true)
 | none => false
def Ey (T : List (List Nat × List Nat)) (i : Nat) : Nat -> Nat -> Bool
 | 0, _ => false
 | fuel + 1, d => match T[d]? with
  | some r => r.1.any fun j => j == i || Ey T i fuel j
  | none => false
def lastT (T : List (List Nat × List Nat)) (l : List Bool) (ds : List Nat) (i : Nat) : Bool := ds.all fun d => l.getD d true || Ey T i T.length d
section
variable {md : Region.Mode} {ops : Array Oper} {T : Bool × List (List Nat × List Nat)} {l l' li lj lk : Array Bool} {ds : List Nat} {i j k : Nat}
theorem gd (l : Array Bool) (j : Nat) (b : Bool) : l.getD j b = l.toList.getD j b := by simp [Array.getD_eq_getD_getElem?, List.getD_eq_getElem?_getD]
theorem Ll (o : Oper) (p : Nat -> Bool) : o.after.all (fun e => !Region.binds md e || p e.on) = (uf md o).all p := by
 unfold uf
 rw [← Array.all_toList]
 induction o.after.toList with
 | nil => rfl
 | cons e r ih =>
  rw [List.all_cons, ih, List.filter_cons]
  cases h : Region.binds md e <;> simp
theorem Lm (o : Oper) (p : Nat -> Bool) : o.after.any (fun e => Region.binds md e && p e.on) = (uf md o).any p := by
 unfold uf
 rw [← Array.any_toList]
 induction o.after.toList with
 | nil => rfl
 | cons e r ih =>
  rw [List.any_cons, ih, List.filter_cons]
  cases h : Region.binds md e <;> simp
theorem sM : (qW md ops).2.length = ops.size := by simp [qW]
theorem xI {o : Oper} (h : ops[i]? = some o) : (qW md ops).2[i]? = some (uf md o, Ex md ops i o) := by
 have hi := (Array.getElem?_eq_some_iff.1 h).1
 unfold qW
 rw [List.getElem?_map, List.getElem?_range hi, Option.map_some, h]
theorem xJ (h : ops[i]? = none) : (qW md ops).2[i]? = none := by
 have hi : ops.size <= i := Array.getElem?_eq_none_iff.1 h
 exact List.getElem?_eq_none (by rw [sM]; exact hi)
theorem Iy : ug (qW md ops).2 l.toList i = (!l.getD i true && ((ops[i]?).map (·.after.all fun e => !Region.binds md e || l.getD e.on false)).getD false) := by
 unfold ug
 rw [gd]
 cases h : ops[i]? with
 | none => rw [xJ h]; rfl
 | some o =>
  rw [xI h]
  simp only [Option.map_some, Option.getD_some]
  rw [← Ll]
  simp only [gd]
theorem ready_eq : Region.ready md ops l = Bd (qW md ops).2 l.toList := by
 unfold Region.ready Bd
 rw [sM]
 refine List.filter_congr (fun i _ => ?_)
 rw [Iy]
theorem free_eq : Region.free md ops l i = Nu (qW md ops).2 l.toList i := by
 unfold Region.free Nu
 cases h : ops[i]? with
 | none => rw [xJ h]
 | some oi =>
  rw [xI h]
  simp only [Ex]
  rw [List.all_filter]
  congr 1
  funext j
  rw [gd]
  cases hj : ops[j]? with
  | none => cases (j == i) <;> cases (l.toList.getD j true) <;> simp
  | some oj =>
   cases (j == i) <;> cases (l.toList.getD j true) <;> cases (oj.after.any (fun e => Region.binds md e && e.on == i) || oi.apart ops oj) <;> simp_all
theorem F9 : ∀ (fuel d : Nat), Region.nL md ops i fuel d = Ey (qW md ops).2 i fuel d
 | 0, _ => rfl
 | fuel + 1, d => by
  unfold Region.nL Ey
  cases h : ops[d]? with
  | none => rw [xJ h]
  | some o =>
   rw [xI h]
   simp only
   rw [← Lm]
   congr 1
   funext e
   rw [F9 fuel]
theorem vZ : Region.lastB md ops l ds i = lastT (qW md ops).2 l.toList ds i := by
 unfold Region.lastB lastT
 rw [sM]
 congr 1
 funext d
 rw [gd, F9]
theorem Ga (h : ug T.2 l.toList i = true) (hT : qW md ops = T) : (Region.ready md ops l).contains i = true := by
 subst hT
 rw [ready_eq]
 unfold Bd
 rw [List.contains_iff_mem, List.mem_filter, List.mem_range]
 refine ⟨?_, h⟩
 unfold ug at h
 rw [Bool.and_eq_true] at h
 cases hq : (qW md ops).2[i]? with
 | none => rw [hq] at h; simp at h
 | some r => exact (List.getElem?_eq_some_iff.1 hq).1
theorem Nv (h : (l.toList.set i true == l'.toList) = true) : (l.setIfInBounds i true == l') = true := by
 rw [beq_iff_eq] at h ⊢
 apply Array.ext'
 rw [Array.toList_setIfInBounds]
 exact h
def UY (T : Bool × List (List Nat × List Nat)) (l l' : List Bool) (i : Nat) : Bool := T.1 && Nu T.2 l i && ug T.2 l i && (l.set i true == l')
theorem WE (hT : qW md ops = T) (h : UY T l.toList l'.toList i = true) : Mh md ops l l' i = true := by
 simp only [UY, Bool.and_eq_true] at h
 obtain ⟨⟨⟨h1, h2⟩, h3⟩, h4⟩ := h
 have h5 := Ga h3 hT
 have h6 := Nv h4
 subst hT
 simp only [Mh, Bool.and_eq_true]
 exact ⟨⟨⟨h1, by rw [free_eq]; exact h2⟩, h5⟩, h6⟩
theorem xc (hT : qW md ops = T) (h : (Bd T.2 l.toList == [i] && l.toList.set i true == l'.toList) = true) : xG md ops l l' i = true := by
 simp only [Bool.and_eq_true] at h
 obtain ⟨h1, h2⟩ := h
 subst hT
 simp only [xG, Bool.and_eq_true]
 exact ⟨by rw [ready_eq]; exact h1, Nv h2⟩
theorem Jv (hT : qW md ops = T) (h : (Bd T.2 l.toList == []) = true) : (Region.ready md ops l == []) = true := by
 subst hT
 rw [ready_eq]
 exact h
def WG (B : List Nat) (d : Nat) : List Nat -> Nat
 | [] => 0
 | n :: r => (2 ^ n ||| (if n < d then B.getD n 0 else 0)) ||| WG B d r
def yQ (T : List (List Nat × List Nat)) (B : List Nat) : Bool := (List.range T.length).all fun d => match T[d]? with
 | some r => (B.getD d 0 ||| WG B d r.1) == WG B d r.1
 | none => false
theorem CJ {P : Program} {Q : Exit -> Act -> World -> Prop} {S : World -> Prop} {n : Nat} {a : Act} {w : World} {B : List Nat} (hT : qW md ops = T) (hB : yQ T.2 B = true) (h : af (qW md ops = T) -> af (yQ T.2 B = true) -> aU P md ops Q S ds n l a w) : aU P md ops Q S ds n l a w := h ⟨hT⟩ ⟨hB⟩
end
def uJ : Code -> Nat -> Option (Array Oper)
 | .region id ops _, k => if id == k then some ops else none
 | .seq a b, k => match uJ a k with
  | some o => some o
  | none => uJ b k
 | .cond _ a b, k => match uJ a k with
  | some o => some o
  | none => uJ b k
 | .block _ c, k => uJ c k
 | .loop c, k => uJ c k
 | .scope c, k => uJ c k
 | .rangeFunc _ _ a b, k => match uJ a k with
  | some o => some o
  | none => uJ b k
 | _, _ => none
def opsOf (f : Func) (k : Nat) : Array Oper := ((f.body.bind fun c => uJ c k)).getD #[]
end Go.Proofs.YtoddejmlcnbdmaaW.PrintLast


