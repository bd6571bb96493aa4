/- Words that the proof uses, of those printed for this seat. -/
import Derived.Test.YtoddejmlcnbdmaaQWLast
import Derived.Test.YtoddejmlcnbdmaaQWWords
namespace Go.Proofs.YtoddejmlcnbdmaaW.PrintLast
open Go.Proofs.YtoddejmlcnbdmaaW.PrintWords (ae)
def xC (md : Region.Mode) (o : Oper) : List Nat := (o.after.toList.filter (fun e => Region.binds md e)).map (fun e => e.on)
def JM (md : Region.Mode) (ops : Array Oper) (i : Nat) (oi : Oper) : List Nat := (List.range ops.size).filter fun j => !(j == i) && match ops[j]? with
 | some oj => !(oj.after.any (fun e => Region.binds md e && e.on == i) || oi.apart ops oj)
 | none => false
def rC (md : Region.Mode) (ops : Array Oper) : Bool × List (List Nat × List Nat) := (Region.noSelect ops, (List.range ops.size).map fun i => match ops[i]? with
 | some o => (xC md o, JM md ops i o)
 | none => ([], []))
def sG (T : List (List Nat × List Nat)) (l : List Bool) (i : Nat) : Bool := !l.getD i true && match T[i]? with
 | some r => r.1.all (fun j => l.getD j false)
 | none => false
def EH (T : List (List Nat × List Nat)) (l : List Bool) : List Nat := (List.range T.length).filter (sG T l)
def LU (T : List (List Nat × List Nat)) (l : List Bool) (i : Nat) : Bool := match T[i]? with
 | some r => r.2.all (fun j => l.getD j true)
 | none => false
def Dk (T : List (List Nat × List Nat)) (l : List Bool) : Bool := (List.range T.length).all fun j => !l.getD j false || match T[j]? with
 | some r => r.1.all (fun k => l.getD k false)
 | none => true
def BO (T : List (List Nat × List Nat)) (i : Nat) : Nat -> Nat -> Bool
 | 0, _ => false
 | fuel + 1, d => match T[d]? with
  | some r => r.1.any fun j => j == i || BO T i fuel j
  | none => false
def lastT (T : List (List Nat × List Nat)) (l : List Bool) (ds : List Nat) (i : Nat) : Bool := ds.all fun d => l.getD d true || BO T i T.length d
section
variable {md : Region.Mode} {ops : Array Oper} {T : Bool × List (List Nat × List Nat)} {l l' li lj lk : Array Bool} {ds : List Nat} {i j k : Nat}
theorem gd (l : Array Bool) (j : Nat) (b : Bool) : l.getD j b = l.toList.getD j b := by simp [Array.getD_eq_getD_getElem?, List.getD_eq_getElem?_getD]
theorem Iz (o : Oper) (p : Nat -> Bool) : o.after.all (fun e => !Region.binds md e || p e.on) = (xC md o).all p := by
 unfold xC
 rw [← Array.all_toList]
 induction o.after.toList with
 | nil => rfl
 | cons e r ih =>
  rw [List.all_cons, ih, List.filter_cons]
  cases h : Region.binds md e <;> simp
theorem RI (o : Oper) (p : Nat -> Bool) : o.after.any (fun e => Region.binds md e && p e.on) = (xC md o).any p := by
 unfold xC
 rw [← Array.any_toList]
 induction o.after.toList with
 | nil => rfl
 | cons e r ih =>
  rw [List.any_cons, ih, List.filter_cons]
  cases h : Region.binds md e <;> simp
theorem sH : (rC md ops).2.length = ops.size := by simp [rC]
theorem xD {o : Oper} (h : ops[i]? = some o) : (rC md ops).2[i]? = some (xC md o, JM md ops i o) := by
 have hi := (Array.getElem?_eq_some_iff.1 h).1
 unfold rC
 rw [List.getElem?_map, List.getElem?_range hi, Option.map_some, h]
theorem xE (h : ops[i]? = none) : (rC md ops).2[i]? = none := by
 have hi : ops.size <= i := Array.getElem?_eq_none_iff.1 h
 exact List.getElem?_eq_none (by rw [sH]; exact hi)
theorem Oj : sG (rC md ops).2 l.toList i = (!l.getD i true && ((ops[i]?).map (·.after.all fun e => !Region.binds md e || l.getD e.on false)).getD false) := by
 unfold sG
 rw [gd]
 cases h : ops[i]? with
 | none => rw [xE h]; rfl
 | some o =>
  rw [xD h]
  simp only [Option.map_some, Option.getD_some]
  rw [← Iz]
  simp only [gd]
theorem ready_eq : Region.ready md ops l = EH (rC md ops).2 l.toList := by
 unfold Region.ready EH
 rw [sH]
 refine List.filter_congr (fun i _ => ?_)
 rw [Oj]
theorem free_eq : Region.free md ops l i = LU (rC md ops).2 l.toList i := by
 unfold Region.free LU
 cases h : ops[i]? with
 | none => rw [xE h]
 | some oi =>
  rw [xD h]
  simp only [JM]
  rw [List.all_filter]
  congr 1
  funext j
  rw [gd]
  cases hj : ops[j]? with
  | none => cases (j == i) <;> cases (l.toList.getD j true) <;> simp
  | some oj =>
   cases (j == i) <;> cases (l.toList.getD j true) <;> cases (oj.after.any (fun e => Region.binds md e && e.on == i) || oi.apart ops oj) <;> simp_all
theorem RJ : Region.zK md ops l = Dk (rC md ops).2 l.toList := by
 unfold Region.zK Dk
 rw [sH]
 congr 1
 funext j
 rw [gd]
 cases h : ops[j]? with
 | none => rw [xE h]
 | some o =>
  rw [xD h]
  simp only
  rw [← Iz]
  simp only [gd]
theorem LV : ∀ (fuel d : Nat), Region.qh md ops i fuel d = BO (rC md ops).2 i fuel d
 | 0, _ => rfl
 | fuel + 1, d => by
  unfold Region.qh BO
  cases h : ops[d]? with
  | none => rw [xE h]
  | some o =>
   rw [xD h]
   simp only
   rw [← RI]
   congr 1
   funext e
   rw [LV fuel]
theorem uX : Region.lastB md ops l ds i = lastT (rC md ops).2 l.toList ds i := by
 unfold Region.lastB lastT
 rw [sH]
 congr 1
 funext d
 rw [gd, LV]
theorem Cw (h : sG T.2 l.toList i = true) (hT : rC md ops = T) : (Region.ready md ops l).contains i = true := by
 subst hT
 rw [ready_eq]
 unfold EH
 rw [List.contains_iff_mem, List.mem_filter, List.mem_range]
 refine ⟨?_, h⟩
 unfold sG at h
 rw [Bool.and_eq_true] at h
 cases hq : (rC md ops).2[i]? with
 | none => rw [hq] at h; simp at h
 | some r => exact (List.getElem?_eq_some_iff.1 hq).1
theorem Ol (h : (l.toList.set i true == l'.toList) = true) : (l.setIfInBounds i true == l') = true := by
 rw [beq_iff_eq] at h ⊢
 apply Array.ext'
 rw [Array.toList_setIfInBounds]
 exact h
def aaF (T : Bool × List (List Nat × List Nat)) (l l' : List Bool) (i : Nat) : Bool := T.1 && LU T.2 l i && sG T.2 l i && (l.set i true == l')
theorem ab5 (hT : rC md ops = T) (h : aaF T l.toList l'.toList i = true) : Sw md ops l l' i = true := by
 simp only [aaF, Bool.and_eq_true] at h
 obtain ⟨⟨⟨h1, h2⟩, h3⟩, h4⟩ := h
 have h5 := Cw h3 hT
 have h6 := Ol h4
 subst hT
 simp only [Sw, Bool.and_eq_true]
 exact ⟨⟨⟨h1, by rw [free_eq]; exact h2⟩, h5⟩, h6⟩
def TT (T : Bool × List (List Nat × List Nat)) (ds : List Nat) (l l' : List Bool) (i : Nat) : Bool := T.1 && LU T.2 l i && sG T.2 l i && Dk T.2 l && lastT T.2 l ds i && (l.set i true == l')
theorem Wp (hT : rC md ops = T) (h : TT T ds l.toList l'.toList i = true) : takeB md ops ds l l' i = true := by
 simp only [TT, Bool.and_eq_true] at h
 obtain ⟨⟨⟨⟨⟨h1, h2⟩, h3⟩, h4⟩, h5⟩, h6⟩ := h
 have h7 := Cw h3 hT
 have h8 := Ol h6
 subst hT
 simp only [takeB, Bool.and_eq_true]
 exact ⟨⟨⟨⟨⟨h1, by rw [free_eq]; exact h2⟩, h7⟩, by rw [RJ]; exact h4⟩, by rw [uX]; exact h5⟩, h8⟩
theorem wE (hT : rC md ops = T) (h : (EH T.2 l.toList == [i] && l.toList.set i true == l'.toList) = true) : BN md ops l l' i = true := by
 simp only [Bool.and_eq_true] at h
 obtain ⟨h1, h2⟩ := h
 subst hT
 simp only [BN, Bool.and_eq_true]
 exact ⟨by rw [ready_eq]; exact h1, Ol h2⟩
theorem De (hT : rC md ops = T) (h : (EH T.2 l.toList == []) = true) : (Region.ready md ops l == []) = true := by
 subst hT
 rw [ready_eq]
 exact h
def Yi (B : List Nat) (d : Nat) : List Nat -> Nat
 | [] => 0
 | n :: r => (2 ^ n ||| (if n < d then B.getD n 0 else 0)) ||| Yi B d r
def uR (T : List (List Nat × List Nat)) (B : List Nat) : Bool := (List.range T.length).all fun d => match T[d]? with
 | some r => (B.getD d 0 ||| Yi B d r.1) == Yi B d r.1
 | none => false
theorem QB {B : List Nat} {d i : Nat} : ∀ {ns : List Nat}, (Yi B d ns).testBit i = true -> ∃ n ∈ ns, n = i ∨ (n < d /\ (B.getD n 0).testBit i = true)
 | [], h => by simp [Yi] at h
 | n :: r, h => by
  unfold Yi at h
  rw [Nat.testBit_or, Nat.testBit_or, Bool.or_eq_true, Bool.or_eq_true] at h
  rcases h with (h | h) | h
  ·rw [Nat.testBit_two_pow] at h
   exact ⟨n, List.mem_cons_self, .inl (by simpa using h)⟩
  ·by_cases hn : n < d
   ·rw [if_pos hn] at h
    exact ⟨n, List.mem_cons_self, .inr ⟨hn, h⟩⟩
   ·rw [if_neg hn] at h
    simp at h
  ·obtain ⟨m, hm, h2⟩ := QB h
   exact ⟨m, List.mem_cons_of_mem _ hm, h2⟩
theorem IA {T : List (List Nat × List Nat)} {B : List Nat} (hB : uR T B = true) : ∀ (fuel d : Nat), d < fuel -> d < T.length -> (B.getD d 0).testBit i = true -> BO T i fuel d = true
 | 0, d, h, _, _ => by omega
 | fuel + 1, d, h, hd, hb => by
  have h1 := List.all_eq_true.1 hB d (List.mem_range.2 hd)
  cases hr : T[d]? with
  | none => rw [hr] at h1; simp at h1
  | some r =>
   rw [hr] at h1
   simp only [beq_iff_eq] at h1
   have h2 : (Yi B d r.1).testBit i = true := by rw [← h1, Nat.testBit_or, hb, Bool.true_or]
   obtain ⟨n, hn, h3⟩ := QB h2
   unfold BO
   rw [hr]
   simp only
   rw [List.any_eq_true]
   refine ⟨n, hn, ?_⟩
   rcases h3 with rfl | ⟨h4, h5⟩
   ·simp
   ·rw [IA hB fuel n (by omega) (by omega) h5, Bool.or_true]
def Xk (T : List (List Nat × List Nat)) (B : List Nat) (l : List Bool) (ds : List Nat) (i : Nat) : Bool := ds.all fun d => l.getD d true || (decide (d < T.length) && (B.getD d 0).testBit i)
def Xl (T : Bool × List (List Nat × List Nat)) (B : List Nat) (ds : List Nat) (l l' : List Bool) (i : Nat) : Bool := T.1 && LU T.2 l i && sG T.2 l i && Dk T.2 l && Xk T.2 B l ds i && (l.set i true == l')
theorem aaG {B : List Nat} (hT : rC md ops = T) (hB : uR T.2 B = true) (h : Xl T B ds l.toList l'.toList i = true) : takeB md ops ds l l' i = true := by
 refine Wp hT ?_
 simp only [Xl, TT, Bool.and_eq_true] at h ⊢
 obtain ⟨⟨⟨⟨⟨h1, h2⟩, h3⟩, h4⟩, h5⟩, h6⟩ := h
 refine ⟨⟨⟨⟨⟨h1, h2⟩, h3⟩, h4⟩, ?_⟩, h6⟩
 unfold Xk at h5
 unfold lastT
 rw [List.all_eq_true] at h5 ⊢
 intro d hd
 have h7 := h5 d hd
 rw [Bool.or_eq_true, Bool.and_eq_true, decide_eq_true_eq] at h7
 rcases h7 with h7 | ⟨h8, h9⟩
 ·rw [h7, Bool.true_or]
 ·rw [IA hB _ d h8 h8 h9, Bool.or_true]
theorem xn {P : Program} {Q : Exit -> Act -> World -> Prop} {S : World -> Prop} {n : Nat} {a : Act} {w : World} {B : List Nat} (hT : rC md ops = T) (hB : uR T.2 B = true) (h : ae (rC md ops = T) -> ae (uR T.2 B = true) -> bg P md ops Q S ds n l a w) : bg P md ops Q S ds n l a w := h ⟨hT⟩ ⟨hB⟩
end
def xU : Code -> Nat -> Option (Array Oper)
 | .region id ops _, k => if id == k then some ops else none
 | .seq a b, k => match xU a k with
  | some o => some o
  | none => xU b k
 | .cond _ a b, k => match xU a k with
  | some o => some o
  | none => xU b k
 | .block _ c, k => xU c k
 | .loop c, k => xU c k
 | .scope c, k => xU c k
 | .rangeFunc _ _ a b, k => match xU a k with
  | some o => some o
  | none => xU b k
 | _, _ => none
def opsOf (f : Func) (k : Nat) : Array Oper := ((f.body.bind fun c => xU c k)).getD #[]
end Go.Proofs.YtoddejmlcnbdmaaW.PrintLast


