/- The law FnExactGoodRow holds of the given program: at every input it answers true and leaves its arguments as they were; no condition. -/
import Derived.Test.YtehldgkpkjgocaaWWords
import Derived.ChangeArms
import Derived.ChangeSame
import Derived.Deep.Slices
import Derived.Deep.Strs
import Derived.Deep.Fields
import Derived.Lib.SmallJoins
import Derived.WideShapes
import Derived.Test.YtehldgkpkjgocaaRows
import Derived.WalkKit
import Derived.ProofKit
import Derived.OpenShut
import Derived.ShutString
import Derived.ChangeOld
import Derived.Below
import Derived.SizedLaws
import Derived.Carry
import Derived.Test.YtehldgkpkjgocaaCXGoodRowA
import Derived.Test.YtehldgkpkjgocaaCXGoodRowB
namespace Go.Proofs.Ytehldgkpkjgocaa.Pure
open Go.RowKit Go.Proofs.Ytehldgkpkjgocaa.Fn Go.Proofs.YtehldgkpkjgocaaW.PrintWords Go.Proofs.YtehldgkpkjgocaaW.PrintLast Go.Proofs.YtehldgkpkjgocaaW.PrintMore

theorem within_eq (a b c : Int) : impl_within.f a b c = some (decide (b ≤ a ∧ a ≤ c)) := by
  unfold impl_within.f
  by_cases h : b ≤ a
  · rw [if_pos h]; simp [h]
  · rw [if_neg h]; simp [h]
theorem specIn_eq (a b c : Int) : spec_l1In.f a b c = some (decide (b ≤ a ∧ a ≤ c)) := within_eq a b c
/-- Better: more, or as much and an earlier doc. -/
def Btr (x y : S43) : Prop := x.f1 > y.f1 ∨ x.f1 = y.f1 ∧ x.f0 < y.f0
instance (x y : S43) : Decidable (Btr x y) := by unfold Btr; infer_instance
theorem better_eq (a b c d : Int) : impl_Score_isBetter.f a b c d = some (decide (b > d ∨ b = d ∧ a < c)) := by
  unfold impl_Score_isBetter.f
  by_cases h : b > d
  · rw [if_pos h]; simp [h]
  · rw [if_neg h]
    by_cases h2 : b = d
    · rw [if_pos h2]; simp [h2]
    · rw [if_neg h2]; simp [h, h2]
theorem specBetter_eq (a b c d : Int) : spec_l10Better.f a b c d = some (decide (b > d ∨ b = d ∧ a < c)) := better_eq a b c d
theorem rd43_at {l : List S43} {i : Nat} {x : S43} (h : l[i]? = some x) : rd_T43 l (i : Int) = x := getD_at h
theorem rd40_at {l : List S40} {i : Nat} {x : S40} (h : l[i]? = some x) : rd_T40 l (i : Int) = x := getD_at h

def cv (x : S40) : S43 := ⟨x.f0, x.f1⟩
theorem sz_eq (l : List S40) (hl : l.length ≤ maxLen) : laws_szScoreS.f l 1048576 = some (if (l.length : Int) > 1048576 then (-1 : Int) else (1048576 - (l.length : Int))) := by
  unfold laws_szScoreS.f
  simp only [maxLen] at hl
  have e : wrap64 (1048576 - (l.length : Int)) = 1048576 - (l.length : Int) := wrap_ok (by omega) (by omega)
  rw [e]
  by_cases h : (l.length : Int) > 1048576
  · rw [if_pos h, if_pos (by omega)]
  · rw [if_neg h, if_neg (by omega)]
theorem to_ev (l : List S40) (hl : l.length ≤ 1048576) : Ev (fun k => laws_toScoreS.f k l) (l.map cv) := by
  have h := copy_ev (fun k x3 i => laws_toScoreS.l0 k l x3 i) cv z43 l ?_ ?_
  · refine Ev.same (K := 0) (fun k _ => ?_) h
    unfold laws_toScoreS.f
    rw [if_pos (by omega), if_pos (by omega), Int.toNat_natCast]
  · intro k x3
    simp only [laws_toScoreS.l0]
    rw [if_neg (by omega)]
  · intro i x hx
    have hlt := (List.getElem?_eq_some_iff.1 hx).1
    refine ⟨0, fun k x3 _ h3 => ?_⟩
    simp only [laws_toScoreS.l0]
    rw [if_pos (by omega), if_pos (by omega), rd40_at hx]
    simp only [laws_toScore.f, Option.bind_some]
    rw [if_pos (by omega), wrap_succ (by omega), Int.toNat_natCast]
    rfl
theorem eq_ev (l : List S43) (hl : l.length ≤ 1048576) : Ev (fun k => laws_eqScoreS.f k l l) true := by
  have h := all_ev (fun k i => laws_eqScoreS.l0 k l l i) l.length true ?_ ?_
  · refine Ev.same (K := 0) (fun k _ => ?_) h
    unfold laws_eqScoreS.f
    rw [if_pos rfl]
  · intro k
    simp only [laws_eqScoreS.l0]
    rw [if_neg (by omega)]
  · intro i hi
    refine ⟨0, fun k _ => ?_⟩
    simp only [laws_eqScoreS.l0]
    rw [if_pos (by omega), if_pos (by omega), if_pos (by omega), wrap_succ (by omega)]
    simp [laws_eqScore.f]
end Go.Proofs.Ytehldgkpkjgocaa.Pure
namespace Go.Proofs.Ytehldgkpkjgocaa.Pure
open Go.RowKit Go.Proofs.Ytehldgkpkjgocaa.Fn Go.Proofs.YtehldgkpkjgocaaW.PrintWords Go.Proofs.YtehldgkpkjgocaaW.PrintLast Go.Proofs.YtehldgkpkjgocaaW.PrintMore

/-- Is x well behind the row p? -/
def okAt (p : List S43) (x : S43) : Bool :=
  decide (0 ≤ x.f0 ∧ x.f0 ≤ 99) && decide (1 ≤ x.f1 ∧ x.f1 ≤ 1000) && (match p.getLast? with | none => true | some y => decide (Btr y x)) && p.all fun y => decide (¬ x.f0 = y.f0)
/-- Is the row p, and then t, a good one from p on? -/
def goodOn : List S43 → List S43 → Bool
  | _, [] => true
  | p, x :: t => okAt p x && goodOn (p ++ [x]) t
def goodRow (l : List S43) : Bool := decide (l.length ≤ 20) && goodOn [] l

theorem last_take {l : List S43} {i : Nat} (hi : i < l.length) (h0 : 0 < i) : (l.take i).getLast? = l[i - 1]? := by
  rw [List.getLast?_eq_getElem?, List.length_take, List.getElem?_take]
  have : min i l.length - 1 = i - 1 := by omega
  rw [this, if_pos (by omega)]

theorem spec_inner (l : List S43) (hl : l.length ≤ 1048576) (i : Nat) (hi : i ≤ l.length) (x : S43) (r : Bool) (hr : Ev (fun k => spec_GoodRow.l0 k l l l.length ((i + 1 : Nat) : Int)) r) :
    Ev (fun k => spec_GoodRow.l1 k l l l.length i (l.take i) ((l.take i).length : Int) 0 x.f0 x.f1) (((l.take i).all fun y => decide (¬ x.f0 = y.f0)) && r) := by
  have key : ∀ (t : List S43) (j : Nat), (l.take i).drop j = t → j ≤ (l.take i).length → Ev (fun k => spec_GoodRow.l1 k l l l.length i (l.take i) ((l.take i).length : Int) j x.f0 x.f1) ((t.all fun y => decide (¬ x.f0 = y.f0)) && r) := by
    intro t
    induction t with
    | nil =>
      intro j h _
      refine Ev.next (K := 0) (fun k _ => ?_) (by simp only [List.all_nil, Bool.true_and]; exact hr)
      simp only [spec_GoodRow.l1]
      rw [if_neg (drop_nil h), wrap_succ (by omega)]
    | cons y t ih =>
      intro j h hj
      obtain ⟨h1, h2, h3⟩ := drop_cons h
      have hlen : (l.take i).length ≤ l.length := by simp; omega
      by_cases hy : x.f0 = y.f0
      · refine ⟨1, fun k hk => ?_⟩
        obtain ⟨k, rfl⟩ : ∃ m, k = m + 1 := ⟨k - 1, by omega⟩
        simp only [spec_GoodRow.l1]
        rw [if_pos h1, if_pos (nat_nonneg j), if_pos h1, rd43_at h2, if_pos hy]
        simp [hy]
      · refine Ev.next (K := 0) (f := fun k => spec_GoodRow.l1 k l l l.length i (l.take i) ((l.take i).length : Int) ((j + 1 : Nat) : Int) x.f0 x.f1) (fun k _ => ?_) ?_
        · simp only [spec_GoodRow.l1]
          rw [if_pos h1, if_pos (nat_nonneg j), if_pos h1, rd43_at h2, if_neg hy, wrap_succ (by omega)]
        · have := ih (j + 1) h3 (by omega)
          simpa [hy] using this
  exact key _ 0 (by simp) (by omega)

theorem spec_good (l : List S43) (hl : l.length ≤ 1048576) : ∀ (t : List S43) (i : Nat), l.drop i = t → i ≤ l.length →
    Ev (fun k => spec_GoodRow.l0 k l l l.length i) (goodOn (l.take i) t && decide ((l.length : Int) ≤ 20)) := by
  intro t
  induction t with
  | nil =>
    intro i h _
    refine ⟨1, fun k hk => ?_⟩
    obtain ⟨k, rfl⟩ : ∃ m, k = m + 1 := ⟨k - 1, by omega⟩
    simp only [spec_GoodRow.l0]
    rw [if_neg (drop_nil h)]
    simp [goodOn]
  | cons x t ih =>
    intro i h hi
    obtain ⟨h1, h2, h3⟩ := drop_cons h
    have hlt : i < l.length := by omega
    have ih := ih (i + 1) h3 (by omega)
    rw [take_next h] at ih
    have inner := spec_inner l hl i hi x _ ih
    simp only [goodOn, okAt]
    -- the ways that end at once
    have stop : ∀ (b : Bool), b = true → ∀ k, 1 ≤ k → spec_GoodRow.j1 k l i l l.length i b x.f0 x.f1 = some false := by
      intro b hb k hk
      obtain ⟨k, rfl⟩ : ∃ m, k = m + 1 := ⟨k - 1, by omega⟩
      simp only [spec_GoodRow.j1]
      rw [if_pos hb]
    have go : Ev (fun k => spec_GoodRow.j1 k l i l l.length i false x.f0 x.f1) (((l.take i).all fun y => decide (¬ x.f0 = y.f0)) && (goodOn (l.take i ++ [x]) t && decide ((l.length : Int) ≤ 20))) := by
      refine Ev.next (K := 0) (fun k _ => ?_) inner
      simp only [spec_GoodRow.j1]
      rw [if_neg (by simp), if_pos (nat_nonneg i), if_pos (by omega), Int.toNat_natCast]
      simp
    by_cases hd : 0 ≤ x.f0 ∧ x.f0 ≤ 99
    · by_cases hb : 1 ≤ x.f1 ∧ x.f1 ≤ 1000
      · by_cases h0 : i = 0
        · subst h0
          have e : decide (0 ≤ x.f0 ∧ x.f0 ≤ 99) = true := decide_eq_true hd
          have e2 : decide (1 ≤ x.f1 ∧ x.f1 ≤ 1000) = true := decide_eq_true hb
          simp only [List.take_zero, List.getLast?_nil, e, e2, Bool.true_and, List.all_nil] at go ⊢
          refine Ev.next (K := 0) (fun k _ => ?_) go
          simp only [spec_GoodRow.l0]
          rw [if_pos h1, if_pos (nat_nonneg _), if_pos h1, rd43_at h2, specIn_eq, specIn_eq]
          simp only [Option.bind_some, e, e2, if_true]
          rw [if_neg (by omega)]
        · have hp : (l.take i).getLast? = some l[i - 1] := by rw [last_take hlt (by omega), List.getElem?_eq_getElem (by omega)]
          have hprev : l[i - 1]? = some l[i - 1] := List.getElem?_eq_getElem (by omega)
          have hw : wrap64 ((i : Int) - 1) = ((i - 1 : Nat) : Int) := by rw [wrap_ok (by omega) (by omega)]; omega
          have e : decide (0 ≤ x.f0 ∧ x.f0 ≤ 99) = true := decide_eq_true hd
          have e2 : decide (1 ≤ x.f1 ∧ x.f1 ≤ 1000) = true := decide_eq_true hb
          have step : ∀ k, spec_GoodRow.l0 (k + 1) l l l.length i = spec_GoodRow.j1 k l i l l.length i (!decide (Btr l[i - 1] x)) x.f0 x.f1 := by
            intro k
            simp only [spec_GoodRow.l0]
            rw [if_pos h1, if_pos (nat_nonneg _), if_pos h1, rd43_at h2, specIn_eq, specIn_eq]
            simp only [Option.bind_some, e, e2, if_true]
            rw [if_pos (by omega), hw, if_pos (nat_nonneg _), if_pos (by omega), rd43_at hprev, specBetter_eq]
            rfl
          rw [hp]
          simp only [e, e2, Bool.true_and]
          by_cases hbt : Btr l[i - 1] x
          · have e3 : decide (Btr l[i - 1] x) = true := decide_eq_true hbt
            simp only [e3, Bool.true_and, Bool.and_assoc]
            refine Ev.next (K := 0) (fun k _ => ?_) go
            rw [step k, e3]
            rfl
          · have e3 : decide (Btr l[i - 1] x) = false := decide_eq_false hbt
            simp only [e3, Bool.false_and]
            refine ⟨2, fun k hk => ?_⟩
            obtain ⟨k, rfl⟩ : ∃ m, k = m + 1 := ⟨k - 1, by omega⟩
            dsimp only
            rw [step k, e3]
            exact stop _ rfl k (by omega)
      · have e2 : decide (1 ≤ x.f1 ∧ x.f1 ≤ 1000) = false := decide_eq_false hb
        have e : decide (0 ≤ x.f0 ∧ x.f0 ≤ 99) = true := decide_eq_true hd
        simp only [e, e2, Bool.false_and, Bool.and_false]
        refine ⟨2, fun k hk => ?_⟩
        obtain ⟨k, rfl⟩ : ∃ m, k = m + 1 := ⟨k - 1, by omega⟩
        simp only [spec_GoodRow.l0]
        rw [if_pos h1, if_pos (nat_nonneg _), if_pos h1, rd43_at h2, specIn_eq, specIn_eq]
        simp only [Option.bind_some, e, e2, if_true]
        rw [if_neg (by simp)]
        exact stop _ rfl k (by omega)
    · have e : decide (0 ≤ x.f0 ∧ x.f0 ≤ 99) = false := decide_eq_false hd
      simp only [e, Bool.false_and]
      refine ⟨2, fun k hk => ?_⟩
      obtain ⟨k, rfl⟩ : ∃ m, k = m + 1 := ⟨k - 1, by omega⟩
      simp only [spec_GoodRow.l0]
      rw [if_pos h1, if_pos (nat_nonneg _), if_pos h1, rd43_at h2, specIn_eq]
      simp only [Option.bind_some, e]
      rw [if_neg (by simp)]
      exact stop _ rfl k (by omega)

/-- What a row has for a doc, as the program finds it. -/
def scoreOf (l : List S43) (d : Int) : Int := match l.find? fun y => decide (y.f0 = d) with
  | none => 0
  | some y => y.f1
theorem scoreIn_ev (l : List S43) (hl : l.length ≤ 1048576) (d : Int) : Ev (fun k => impl_scoreIn.f k l d) (scoreOf l d) := by
  have key : ∀ (t : List S43) (j : Nat), l.drop j = t → j ≤ l.length → Ev (fun k => impl_scoreIn.l0 k d l l.length j) (scoreOf t d) := by
    intro t
    induction t with
    | nil =>
      intro j h _
      refine ⟨1, fun k hk => ?_⟩
      obtain ⟨k, rfl⟩ : ∃ m, k = m + 1 := ⟨k - 1, by omega⟩
      simp only [impl_scoreIn.l0]
      rw [if_neg (drop_nil h)]
      rfl
    | cons y t ih =>
      intro j h hj
      obtain ⟨h1, h2, h3⟩ := drop_cons h
      by_cases hy : y.f0 = d
      · refine ⟨1, fun k hk => ?_⟩
        obtain ⟨k, rfl⟩ : ∃ m, k = m + 1 := ⟨k - 1, by omega⟩
        simp only [impl_scoreIn.l0]
        rw [if_pos h1, if_pos (nat_nonneg j), if_pos h1, rd43_at h2, if_pos hy]
        simp [scoreOf, hy]
      · refine Ev.next (K := 0) (f := fun k => impl_scoreIn.l0 k d l l.length ((j + 1 : Nat) : Int)) (fun k _ => ?_) ?_
        · simp only [impl_scoreIn.l0]
          rw [if_pos h1, if_pos (nat_nonneg j), if_pos h1, rd43_at h2, if_neg hy, wrap_succ (by omega)]
        · have := ih (j + 1) h3 (by omega)
          have e : scoreOf (y :: t) d = scoreOf t d := by simp [scoreOf, hy]
          rw [e]; exact this
  exact key l 0 (by simp) (by omega)
theorem scoreOf_pos (l : List S43) (d : Int) (h : ∀ y ∈ l, 1 ≤ y.f1) : (scoreOf l d > 0) ↔ ¬ (l.all fun y => decide (¬ d = y.f0)) = true := by
  induction l with
  | nil => simp [scoreOf]
  | cons y t ih =>
    have ih := ih (fun z hz => h z (List.mem_cons_of_mem _ hz))
    have hy := h y List.mem_cons_self
    by_cases e : y.f0 = d
    · have : scoreOf (y :: t) d = y.f1 := by simp [scoreOf, e]
      rw [this]
      simp [e]
      omega
    · have : scoreOf (y :: t) d = scoreOf t d := by simp [scoreOf, e]
      rw [this, ih]
      have e' : ¬ d = y.f0 := fun h => e h.symm
      simp [e']

theorem impl_good (l : List S43) (hl : l.length ≤ 1048576) : ∀ (t : List S43) (i : Nat), l.drop i = t → i ≤ l.length → (∀ y ∈ l.take i, 1 ≤ y.f1) →
    Ev (fun k => impl_GoodRow.l0 k l l l.length i) (goodOn (l.take i) t) := by
  intro t
  induction t with
  | nil =>
    intro i h _ _
    refine ⟨1, fun k hk => ?_⟩
    obtain ⟨k, rfl⟩ : ∃ m, k = m + 1 := ⟨k - 1, by omega⟩
    simp only [impl_GoodRow.l0]
    rw [if_neg (drop_nil h)]
    rfl
  | cons x t ih =>
    intro i h hi hpos
    obtain ⟨h1, h2, h3⟩ := drop_cons h
    have hlt : i < l.length := by omega
    simp only [goodOn, okAt]
    by_cases hd : 0 ≤ x.f0 ∧ x.f0 ≤ 99
    · have e : decide (0 ≤ x.f0 ∧ x.f0 ≤ 99) = true := decide_eq_true hd
      by_cases hb : 1 ≤ x.f1 ∧ x.f1 ≤ 1000
      · have e2 : decide (1 ≤ x.f1 ∧ x.f1 ≤ 1000) = true := decide_eq_true hb
        have ih := ih (i + 1) h3 (by omega) (by
          rw [take_next h]
          intro y hy
          rcases List.mem_append.1 hy with hy | hy
          · exact hpos y hy
          · rw [List.mem_singleton.1 hy]; exact hb.1)
        rw [take_next h] at ih
        have hsc := scoreIn_ev (l.take i) (by simp; omega) x.f0
        have hsp := scoreOf_pos (l.take i) x.f0 hpos
        -- behind the tests on the one ahead
        have tail : Ev (fun k => (impl_scoreIn.f k (l.take i) x.f0).bind fun t165 => if t165 > 0 then some false else impl_GoodRow.l0 k l l l.length ((i + 1 : Nat) : Int))
            (((l.take i).all fun y => decide (¬ x.f0 = y.f0)) && goodOn (l.take i ++ [x]) t) := by
          refine Ev.bind hsc ?_
          by_cases hp : scoreOf (l.take i) x.f0 > 0
          · have ha : ((l.take i).all fun y => decide (¬ x.f0 = y.f0)) = false := by simpa using hsp.1 hp
            rw [ha]
            exact Ev.all fun k => by rw [if_pos hp]; rfl
          · have ha : ((l.take i).all fun y => decide (¬ x.f0 = y.f0)) = true := by
              cases hq : ((l.take i).all fun y => decide (¬ x.f0 = y.f0)) with
              | true => rfl
              | false => exact absurd (hsp.2 (by rw [hq]; simp)) hp
            rw [ha, Bool.true_and]
            exact Ev.same (K := 0) (fun k _ => by rw [if_neg hp]) ih
        by_cases h0 : i = 0
        · subst h0
          simp only [e, e2, Bool.true_and, List.take_zero, List.getLast?_nil] at tail ⊢
          refine Ev.next (K := 0) (fun k _ => ?_) tail
          simp only [impl_GoodRow.l0]
          rw [if_pos h1, if_pos (nat_nonneg _), if_pos h1, rd43_at h2, within_eq, within_eq]
          simp only [Option.bind_some, e, e2, if_true]
          rw [if_neg (by omega), if_pos (by omega), wrap_succ (by omega), Int.toNat_natCast, List.take_zero]
        · have hp : (l.take i).getLast? = some l[i - 1] := by rw [last_take hlt (by omega), List.getElem?_eq_getElem (by omega)]
          have hprev : l[i - 1]? = some l[i - 1] := List.getElem?_eq_getElem (by omega)
          have hw : wrap64 ((i : Int) - 1) = ((i - 1 : Nat) : Int) := by rw [wrap_ok (by omega) (by omega)]; omega
          rw [hp]
          simp only [e, e2, Bool.true_and]
          by_cases hbt : Btr l[i - 1] x
          · have e3 : decide (Btr l[i - 1] x) = true := decide_eq_true hbt
            have e4 : decide (l[i - 1].f1 > x.f1 ∨ l[i - 1].f1 = x.f1 ∧ l[i - 1].f0 < x.f0) = true := e3
            simp only [e3, Bool.true_and]
            refine Ev.next (K := 0) (fun k _ => ?_) tail
            simp only [impl_GoodRow.l0]
            rw [if_pos h1, if_pos (nat_nonneg _), if_pos h1, rd43_at h2, within_eq, within_eq]
            simp only [Option.bind_some, e, e2, if_true]
            rw [if_pos (by omega), hw, if_pos (nat_nonneg _), if_pos (by omega), rd43_at hprev, better_eq, e4]
            simp only [Option.bind_some, if_true]
            rw [if_pos (by omega), wrap_succ (by omega), Int.toNat_natCast]
          · have e3 : decide (Btr l[i - 1] x) = false := decide_eq_false hbt
            have e4 : decide (l[i - 1].f1 > x.f1 ∨ l[i - 1].f1 = x.f1 ∧ l[i - 1].f0 < x.f0) = false := e3
            simp only [e3, Bool.false_and]
            refine ⟨1, fun k hk => ?_⟩
            obtain ⟨k, rfl⟩ : ∃ m, k = m + 1 := ⟨k - 1, by omega⟩
            simp only [impl_GoodRow.l0]
            rw [if_pos h1, if_pos (nat_nonneg _), if_pos h1, rd43_at h2, within_eq, within_eq]
            simp only [Option.bind_some, e, e2, if_true]
            rw [if_pos (by omega), hw, if_pos (nat_nonneg _), if_pos (by omega), rd43_at hprev, better_eq, e4]
            simp
      · have e2 : decide (1 ≤ x.f1 ∧ x.f1 ≤ 1000) = false := decide_eq_false hb
        simp only [e, e2, Bool.false_and, Bool.and_false]
        refine ⟨1, fun k hk => ?_⟩
        obtain ⟨k, rfl⟩ : ∃ m, k = m + 1 := ⟨k - 1, by omega⟩
        simp only [impl_GoodRow.l0]
        rw [if_pos h1, if_pos (nat_nonneg _), if_pos h1, rd43_at h2, within_eq, within_eq]
        simp only [Option.bind_some, e, e2, if_true]
        simp
    · have e : decide (0 ≤ x.f0 ∧ x.f0 ≤ 99) = false := decide_eq_false hd
      simp only [e, Bool.false_and]
      refine ⟨1, fun k hk => ?_⟩
      obtain ⟨k, rfl⟩ : ∃ m, k = m + 1 := ⟨k - 1, by omega⟩
      simp only [impl_GoodRow.l0]
      rw [if_pos h1, if_pos (nat_nonneg _), if_pos h1, rd43_at h2, within_eq]
      simp only [Option.bind_some, e]
      simp
theorem specGood_ev (l : List S43) (hl : l.length ≤ 1048576) : Ev (fun k => spec_GoodRow.f k l) (goodRow l) := by
  have h := spec_good l hl l 0 (by simp) (by omega)
  have e : goodRow l = (goodOn (l.take 0) l && decide ((l.length : Int) ≤ 20)) := by
    simp only [goodRow, List.take_zero]
    rw [Bool.and_comm]
    congr 1
    rw [decide_eq_decide]
    omega
  rw [e]
  exact h
theorem implGood_ev (l : List S43) (hl : l.length ≤ 1048576) : Ev (fun k => impl_GoodRow.f k l) (goodRow l) := by
  unfold goodRow
  by_cases h20 : (l.length : Int) > 20
  · have e : decide (l.length ≤ 20) = false := decide_eq_false (by omega)
    rw [e, Bool.false_and]
    exact Ev.all fun k => by unfold impl_GoodRow.f; rw [if_pos h20]
  · have e : decide (l.length ≤ 20) = true := decide_eq_true (by omega)
    rw [e, Bool.true_and]
    have h := impl_good l hl l 0 (by simp) (by omega) (by simp)
    exact Ev.same (K := 0) (fun k _ => by unfold impl_GoodRow.f; rw [if_neg h20]; rfl) h
end Go.Proofs.Ytehldgkpkjgocaa.Pure
namespace Go.Proofs.Ytehldgkpkjgocaa.Pure
open Go.RowKit Go.Proofs.Ytehldgkpkjgocaa.Fn Go.Proofs.YtehldgkpkjgocaaW.PrintWords Go.Proofs.YtehldgkpkjgocaaW.PrintLast Go.Proofs.YtehldgkpkjgocaaW.PrintMore

theorem FnExactGoodRow : ∀ (l0 : List (S40)), (l0.length ≤ maxLen ∧ ∀ y3 ∈ l0, ((Lit.int .i64 y3.f0).wf = true ∧ (Lit.int .i64 y3.f1).wf = true)) → ∃ k, laws_FnExactGoodRow.f k l0 = some true := by
  intro l ⟨hl, _⟩
  refine Ev.rounds (g := fun k => laws_FnExactGoodRow.f k l) ?_
  simp only [laws_FnExactGoodRow.f, sz_eq l hl]
  by_cases h : (l.length : Int) > 1048576
  · rw [if_pos h]; repeat (first | with_reducible refine Ev.bindS ?_ | (with_reducible refine Ev.ifp ?_ ?_; (· first | omega | assumption | rfl | (simp only [List.length_map, List.length_replicate, List.length_take, List.length_drop, List.length_append, List.length_cons, List.length_nil, List.length_set]; omega) | (simp; done))) | (with_reducible refine Ev.ifn ?_ ?_; (· first | omega | assumption | rfl | (simp only [List.length_map, List.length_replicate, List.length_take, List.length_drop, List.length_append, List.length_cons, List.length_nil, List.length_set]; omega) | (simp; done)))); exact Ev.val rfl
  · rw [if_neg h]
    have hm : (l.map cv).length ≤ 1048576 := by rw [List.length_map]; omega
    have ht := to_ev l (by omega)
    repeat (first | with_reducible refine Ev.bindS ?_ | (with_reducible refine Ev.ifp ?_ ?_; (· first | omega | assumption | rfl | (simp only [List.length_map, List.length_replicate, List.length_take, List.length_drop, List.length_append, List.length_cons, List.length_nil, List.length_set]; omega) | (simp; done))) | (with_reducible refine Ev.ifn ?_ ?_; (· first | omega | assumption | rfl | (simp only [List.length_map, List.length_replicate, List.length_take, List.length_drop, List.length_append, List.length_cons, List.length_nil, List.length_set]; omega) | (simp; done))))
    refine Ev.bind ht (Ev.bind (specGood_ev _ hm) (Ev.bind ht (Ev.bind (implGood_ev _ hm) ?_)))
    repeat (first | with_reducible refine Ev.bindS ?_ | (with_reducible refine Ev.ifp ?_ ?_; (· first | omega | assumption | rfl | (simp only [List.length_map, List.length_replicate, List.length_take, List.length_drop, List.length_append, List.length_cons, List.length_nil, List.length_set]; omega) | (simp; done))) | (with_reducible refine Ev.ifn ?_ ?_; (· first | omega | assumption | rfl | (simp only [List.length_map, List.length_replicate, List.length_take, List.length_drop, List.length_append, List.length_cons, List.length_nil, List.length_set]; omega) | (simp; done))))
    refine Ev.bind ht (Ev.bind (eq_ev _ hm) ?_)
    repeat (first | with_reducible refine Ev.bindS ?_ | (with_reducible refine Ev.ifp ?_ ?_; (· first | omega | assumption | rfl | (simp only [List.length_map, List.length_replicate, List.length_take, List.length_drop, List.length_append, List.length_cons, List.length_nil, List.length_set]; omega) | (simp; done))) | (with_reducible refine Ev.ifn ?_ ?_; (· first | omega | assumption | rfl | (simp only [List.length_map, List.length_replicate, List.length_take, List.length_drop, List.length_append, List.length_cons, List.length_nil, List.length_set]; omega) | (simp; done))))
    exact Ev.val rfl
end Go.Proofs.Ytehldgkpkjgocaa.Pure
namespace Go.Proofs.Ytehldgkpkjgocaa.OpenA
open Go.RowKit Go.Deep Go.ChangeShapes Go.Joins Go.Proofs.YtehldgkpkjgocaaW Go.Proofs.YtehldgkpkjgocaaW.PrintWords

/-- What can be read as data of type t can be read as kind d, and is well formed. -/
def Op (P : Program) (t : TypeId) {α : Type} (d : Kd α) (Wf : α → Prop) : Prop :=
  ∀ {H : Type} {enc : TypeId × Value → H} {w : World} {base : Nat} {spare : Nat → Bool} {held : Bool} {fuel : Nat} {cs : List Value} {x : DataW H × List MemPlace},
    DataW.trod enc P w base spare held fuel t cs = some x → ∃ a : α, d.K w a cs ∧ Wf a

variable {P : Program} {t e : TypeId}

theorem op_int {k : IntKind} (hu : P.underlying t = some (.int k)) : Op P t (Kd.int k) (fun n => (Lit.int k n).wf = true) := by
  intro H enc w base spare held fuel cs x h
  obtain ⟨n, rfl, _, hw⟩ := DataW.trod_int hu h
  exact ⟨n, rfl, hw⟩
theorem op_bool (hu : P.underlying t = some .bool) : Op P t Kd.bool (fun _ => True) := by
  intro H enc w base spare held fuel cs x h
  obtain ⟨b, rfl, _⟩ := DataW.trod_bool hu h
  exact ⟨b, rfl, trivial⟩
theorem op_string (hu : P.underlying t = some .string) : Op P t Kd.string (fun s => s.size ≤ maxLen) := by
  intro H enc w base spare held fuel cs x h
  obtain ⟨s, rfl, _, hs⟩ := DataW.trod_string hu h
  exact ⟨s, rfl, hs⟩
theorem cells_of {w : World} {base : Nat} {a : Addr} {n : Nat} {cs : List Value} (h : w.cells? base a n = some cs) : cs.length = n ∧ ∀ j u, cs[j]? = some u → w.cell? (a.add j) = some u := by
  unfold World.cells? at h
  split at h
  · have hl := mapM_some_length h
    refine ⟨by simpa using hl, fun j u hj => ?_⟩
    have hlt : j < n := by
      have := (List.getElem?_eq_some_iff.1 hj).1
      have : cs.length = n := by simpa using hl
      omega
    have := mapM_some_get h j j (by simp [hlt])
    rw [hj] at this
    exact this
  · simp at h
theorem op_slice {α : Type} {d : Kd α} {Wf : α → Prop} (hu : P.underlying t = some (.slice e)) (hc : P.cellsOf e = d.sz) (h : Op P e d Wf) :
    Op P t (Kd.slice e d) (fun xs => xs.length ≤ maxLen ∧ ∀ x ∈ xs, Wf x) := by
  intro H enc w base spare held fuel cs x hf
  rcases open_slice hu hf with ⟨rfl, _⟩ | ⟨a, len, cap, m, n, D, Pl, rfl, _, hl, hm, hmm, hxe, hall⟩
  · exact ⟨[], ⟨none, 0, rfl, Nat.le_refl _, rfl, by simp, fun h => absurd h (by simp)⟩, by simp, by simp⟩
  · have hlm : len ≤ m := by rw [hmm]; split <;> omega
    have hx : ∀ i, i < len → ∃ y : α × List Value, w.cells? base (a.add (i * P.cellsOf e)) (P.cellsOf e) = some y.2 ∧ d.K w y.1 y.2 ∧ Wf y.1 := by
      intro i hi
      obtain ⟨cs', h1, h2⟩ := hall i (by omega)
      obtain ⟨y, h3, h4⟩ := h h2
      exact ⟨⟨y, cs'⟩, h1, h3, h4⟩
    have hx' : ∃ ys : List (α × List Value), ys.length = len ∧ ∀ i y, ys[i]? = some y → w.cells? base (a.add (i * P.cellsOf e)) (P.cellsOf e) = some y.2 ∧ d.K w y.1 y.2 ∧ Wf y.1 := by
      clear hall hf hmm hlm hl hm hxe
      induction len with
      | zero => exact ⟨[], rfl, by simp⟩
      | succ len ih =>
        obtain ⟨ys, h1, h2⟩ := ih (fun i hi => hx i (by omega))
        obtain ⟨y, hy⟩ := hx len (by omega)
        refine ⟨ys ++ [y], by simp [h1], fun i z hz => ?_⟩
        rcases Nat.lt_or_ge i ys.length with hi | hi
        · rw [List.getElem?_append_left hi] at hz
          exact h2 i z hz
        · rw [List.getElem?_append_right hi] at hz
          have h0 : i - ys.length = 0 := by
            rcases Nat.eq_zero_or_pos (i - ys.length) with h0 | h0
            · exact h0
            · rw [List.getElem?_eq_none (by simp; omega)] at hz
              cases hz
          rw [h0] at hz
          have hz' : y = z := by simpa using hz
          have : i = len := by omega
          subst this
          subst hz'
          exact hy
    obtain ⟨ys, hl2, hys⟩ := hx'
    have hlen : (ys.map (·.1)).length = len := by simp [hl2]
    refine ⟨ys.map (·.1), ⟨some a, cap, by rw [hlen], by omega, ?_⟩, by simp only [maxLen] at *; omega, ?_⟩
    · refine ⟨rfl, by rw [hlen]; simp only [maxLen] at hm; omega, fun _ => ⟨a, rfl, fun j p hj => ?_⟩⟩
      rw [List.getElem?_map] at hj
      obtain ⟨y, hy, rfl⟩ := Option.map_eq_some_iff.1 hj
      obtain ⟨h1, h2, _⟩ := hys j y hy
      obtain ⟨h3, h4⟩ := cells_of h1
      refine ⟨y.2, by rw [h3, hc], h2, fun i u hu => ?_⟩
      have := h4 i u hu
      rw [PrintWords.add_add, hc] at this
      exact this
    · intro x hx
      obtain ⟨y, hy, rfl⟩ := List.mem_map.1 hx
      obtain ⟨i, hi⟩ := List.mem_iff_getElem?.1 hy
      exact (hys i y hi).2.2

theorem len1 {l : List Value} (h : l.length = 1) : ∃ a, l = [a] := by
  match l, h with
  | [a], _ => exact ⟨a, rfl⟩
theorem len2 {l : List Value} (h : l.length = 2) : ∃ a b, l = [a, b] := by
  match l, h with
  | [a, b], _ => exact ⟨a, b, rfl⟩
theorem len3 {l : List Value} (h : l.length = 3) : ∃ a b c, l = [a, b, c] := by
  match l, h with
  | [a, b, c], _ => exact ⟨a, b, c, rfl⟩
theorem len4 {l : List Value} (h : l.length = 4) : ∃ a b c d, l = [a, b, c, d] := by
  match l, h with
  | [a, b, c, d], _ => exact ⟨a, b, c, d, rfl⟩

theorem fields_of {H : Type} {enc : TypeId × Value → H} {w : World} {base : Nat} {spare : Nat → Bool} {held : Bool} {fuel : Nat} {cs : List Value} {x : DataW H × List MemPlace} {fs : Array Field}
    (hs : P.underlying t = some (.struct fs)) (hone : oneCellFields P fs = true) (hC : P.cellsOf t = fs.size) (h : DataW.trod enc P w base spare held fuel t cs = some x) :
    cs.length = fs.size ∧ ∃ n, ∀ (i : Nat) (f : Field) (v : Value), fs[i]? = some f → cs[i]? = some v → ∃ y, DataW.trod enc P w base spare held n f.type [v] = some y := by
  obtain ⟨xs, n, _, _, hl, hx, hf⟩ := DataW.trod_struct hs h
  refine ⟨hl.trans hC, n, fun i f v hi hv => ?_⟩
  have h1 := hf i f hi
  obtain ⟨h2, h3⟩ := hone_of hone i f hi
  have hlt : i < fs.size := (Array.getElem?_eq_some_iff.1 hi).1
  have h4 : xs[i]? = some (xs[i]'(by omega)) := List.getElem?_eq_getElem (by omega)
  have h5 : (cs.drop f.offset).take (P.cellsOf f.type) = [v] := by
    rw [h2, h3]
    have hlt2 : i < cs.length := by omega
    rw [List.getElem?_eq_getElem hlt2] at hv
    injection hv with hv
    rw [List.drop_eq_getElem_cons hlt2, hv]
    simp
  rw [h5, h4] at h1
  exact ⟨_, h1⟩

theorem op_struct1 {α S : Type} {d0 : Kd α} {W0 : α → Prop} {f0 : Field} {f : S → α} (mk : α → S) (hf : ∀ a, f (mk a) = a)
    (hs : P.underlying t = some (.struct #[f0])) (hone : oneCellFields P #[f0] = true) (hC : P.cellsOf t = 1) (h0 : Op P f0.type d0 W0) :
    Op P t (Kd.iso d0 f) (fun x => W0 (f x)) := by
  intro H enc w base spare held fuel cs x h
  obtain ⟨hl, n, hF⟩ := fields_of hs hone hC h
  obtain ⟨c0, rfl⟩ := len1 hl
  obtain ⟨y0, k0⟩ := hF 0 f0 c0 rfl rfl
  obtain ⟨a0, q0, w0⟩ := h0 k0
  exact ⟨mk a0, by show d0.K w (f (mk a0)) [c0]; rw [hf]; exact q0, by show W0 (f (mk a0)); rw [hf]; exact w0⟩
theorem op_struct2 {α β S : Type} {d0 : Kd α} {d1 : Kd β} {W0 : α → Prop} {W1 : β → Prop} {f0 f1 : Field} {f : S → α × β} (mk : α → β → S) (hf : ∀ a b, f (mk a b) = (a, b))
    (hs : P.underlying t = some (.struct #[f0, f1])) (hone : oneCellFields P #[f0, f1] = true) (hC : P.cellsOf t = 2) (h0 : Op P f0.type d0 W0) (h1 : Op P f1.type d1 W1) :
    Op P t (Kd.iso (Kd.pair d0 d1) f) (fun x => W0 (f x).1 ∧ W1 (f x).2) := by
  intro H enc w base spare held fuel cs x h
  obtain ⟨hl, n, hF⟩ := fields_of hs hone hC h
  obtain ⟨c0, c1, rfl⟩ := len2 hl
  obtain ⟨y0, k0⟩ := hF 0 f0 c0 rfl rfl
  obtain ⟨y1, k1⟩ := hF 1 f1 c1 rfl rfl
  obtain ⟨a0, q0, w0⟩ := h0 k0
  obtain ⟨a1, q1, w1⟩ := h1 k1
  exact ⟨mk a0 a1, ⟨[c0], [c1], rfl, by rw [hf]; exact q0, by rw [hf]; exact q1⟩, by dsimp only; rw [hf]; exact ⟨w0, w1⟩⟩
theorem op_struct3 {α β γ S : Type} {d0 : Kd α} {d1 : Kd β} {d2 : Kd γ} {W0 : α → Prop} {W1 : β → Prop} {W2 : γ → Prop} {f0 f1 f2 : Field} {f : S → α × β × γ} (mk : α → β → γ → S) (hf : ∀ a b c, f (mk a b c) = (a, b, c))
    (hs : P.underlying t = some (.struct #[f0, f1, f2])) (hone : oneCellFields P #[f0, f1, f2] = true) (hC : P.cellsOf t = 3) (h0 : Op P f0.type d0 W0) (h1 : Op P f1.type d1 W1) (h2 : Op P f2.type d2 W2) :
    Op P t (Kd.iso (Kd.pair d0 (Kd.pair d1 d2)) f) (fun x => W0 (f x).1 ∧ W1 (f x).2.1 ∧ W2 (f x).2.2) := by
  intro H enc w base spare held fuel cs x h
  obtain ⟨hl, n, hF⟩ := fields_of hs hone hC h
  obtain ⟨c0, c1, c2, rfl⟩ := len3 hl
  obtain ⟨y0, k0⟩ := hF 0 f0 c0 rfl rfl
  obtain ⟨y1, k1⟩ := hF 1 f1 c1 rfl rfl
  obtain ⟨y2, k2⟩ := hF 2 f2 c2 rfl rfl
  obtain ⟨a0, q0, w0⟩ := h0 k0
  obtain ⟨a1, q1, w1⟩ := h1 k1
  obtain ⟨a2, q2, w2⟩ := h2 k2
  exact ⟨mk a0 a1 a2, ⟨[c0], [c1, c2], rfl, by rw [hf]; exact q0, [c1], [c2], rfl, by rw [hf]; exact q1, by rw [hf]; exact q2⟩, by dsimp only; rw [hf]; exact ⟨w0, w1, w2⟩⟩
theorem op_struct4 {α β γ δ S : Type} {d0 : Kd α} {d1 : Kd β} {d2 : Kd γ} {d3 : Kd δ} {W0 : α → Prop} {W1 : β → Prop} {W2 : γ → Prop} {W3 : δ → Prop} {f0 f1 f2 f3 : Field} {f : S → α × β × γ × δ} (mk : α → β → γ → δ → S) (hf : ∀ a b c d, f (mk a b c d) = (a, b, c, d))
    (hs : P.underlying t = some (.struct #[f0, f1, f2, f3])) (hone : oneCellFields P #[f0, f1, f2, f3] = true) (hC : P.cellsOf t = 4) (h0 : Op P f0.type d0 W0) (h1 : Op P f1.type d1 W1) (h2 : Op P f2.type d2 W2) (h3 : Op P f3.type d3 W3) :
    Op P t (Kd.iso (Kd.pair d0 (Kd.pair d1 (Kd.pair d2 d3))) f) (fun x => W0 (f x).1 ∧ W1 (f x).2.1 ∧ W2 (f x).2.2.1 ∧ W3 (f x).2.2.2) := by
  intro H enc w base spare held fuel cs x h
  obtain ⟨hl, n, hF⟩ := fields_of hs hone hC h
  obtain ⟨c0, c1, c2, c3, rfl⟩ := len4 hl
  obtain ⟨y0, k0⟩ := hF 0 f0 c0 rfl rfl
  obtain ⟨y1, k1⟩ := hF 1 f1 c1 rfl rfl
  obtain ⟨y2, k2⟩ := hF 2 f2 c2 rfl rfl
  obtain ⟨y3, k3⟩ := hF 3 f3 c3 rfl rfl
  obtain ⟨a0, q0, w0⟩ := h0 k0
  obtain ⟨a1, q1, w1⟩ := h1 k1
  obtain ⟨a2, q2, w2⟩ := h2 k2
  obtain ⟨a3, q3, w3⟩ := h3 k3
  exact ⟨mk a0 a1 a2 a3, ⟨[c0], [c1, c2, c3], rfl, by rw [hf]; exact q0, [c1], [c2, c3], rfl, by rw [hf]; exact q1, [c2], [c3], rfl, by rw [hf]; exact q2, by rw [hf]; exact q3⟩, by dsimp only; rw [hf]; exact ⟨w0, w1, w2, w3⟩⟩

/-- A struct's value, by its list of cells. -/
theorem agg_of {cs : Array Value} {l : List Value} (h : cs.toList = l) : cs = l.toArray := by
  cases cs
  simp at h
  simp [h]
end Go.Proofs.Ytehldgkpkjgocaa.OpenA
namespace Go.Proofs.Ytehldgkpkjgocaa.fnExactGoodRow
open Go.ChangeShapes Go.WideShapes Go.ChangeAt Go.RowKit Go.Proofs.Ytehldgkpkjgocaa.Fn Go.Proofs.YtehldgkpkjgocaaW.PrintWords Go.Proofs.Ytehldgkpkjgocaa.OpenA
open Go.ChangeMaps (open_string shut_string)
set_option linter.unusedVariables false
theorem own : ownKnob Try.prog.godebug = none := by kernel_rfl
theorem laidOut : laidOutB Try.prog = true := by kernel_rfl
theorem op40 : OpenA.Op Try.prog 40 k40 (fun x => ((Lit.int .i64 x.f0).wf = true ∧ (Lit.int .i64 x.f1).wf = true)) := op_struct2 (f := fun x : S40 => (x.f0, x.f1)) S40.mk (fun _ _ => rfl) Try.underlying40 (by kernel_rfl) (by kernel_rfl) (op_int Try.underlying3) (op_int Try.underlying3)
set_option maxRecDepth 100000 in
theorem lifted (os : Os) (started : os.Started) (H : Type) (enc : TypeId × Value → H) :
    ReturnsInHanded {} Try.checked os 3 .any (Rows.fnExactGoodRowSpec.pre6 enc Try.prog Try.f3 Rows.fnExactGoodRowRow.domain false) (Rows.fnExactGoodRowSpec.post enc Try.prog Try.f3 false true false false) := by
  refine returnsInHanded_of_change_sized (C := Try.checked) own started (by kernel_rfl) Try.func3
    (ChangeSpec.witness6 (enc := enc) (C := Try.checked) false ⟨#[], #[.slice none 0 0], []⟩ 8 (by kernel_rfl) (by kernel_rfl) (by kernel_rfl) (by kernel_rfl)) ?_
  intro W base args ds gs before hval0 hW hcnd hsz0 _
  have hsz : (DataW.weightsEach Try.prog (Try.f3.params.toList ++ Rows.fnExactGoodRowSpec.plain.varTypes Try.prog) (ds ++ gs)).all (· ≤ reachBytes) = true := hsz0
  have hval : ∀ (j : Nat) t v, Try.f3.params[j]? = some t → args[j]? = some v → Value.okWide Try.prog W .any base t v := hval0
  have hW' := hW
  obtain ⟨p, q, hA0, hV, rfl, hfz, hnd⟩ := hW
  have hA : DataW.TrodAll enc Try.prog W 0 (fun _ => true) true Try.f3.params.toList args.toList ds p := hA0
  rw [Try.params3] at hA hval hsz
  obtain ⟨v0, vs0, d0, ds0, p0, q0, hargs, rfl, rfl, h0, r0⟩ := trodAll_cons hA
  obtain ⟨rfl, rfl, rfl⟩ := trodAll_nil r0
  obtain rfl : args = #[v0] := by cases args; simp_all
  obtain ⟨rfl, rfl⟩ := trodVars_none hV
  obtain ⟨a0, len0, cap0, rfl⟩ := okWide_slice Try.underlying22 (hval 0 22 v0 rfl rfl)
  have k0 := h0
  have lt0 : ∀ x ∈ p0, x.block < W.heap.size := by obtain ⟨m, hm⟩ := k0; exact DataW.trod_lt m _ _ _ hm
  obtain ⟨fuel0, hf0⟩ := h0
  obtain ⟨l0, hK0, hw0⟩ := (op_slice Try.underlying22 (by kernel_rfl) op40) hf0
  obtain ⟨A0, c0, e0, hc0, hr0⟩ := hK0
  simp [Value.cells] at e0
  obtain ⟨rfl, rfl, rfl⟩ := e0
  clear hA0 hval0 hsz0 hsz
  obtain ⟨k, h⟩ := Pure.FnExactGoodRow l0 hw0
  refine (laws_FnExactGoodRow.calls k _ _ l0 true W hr0 hc0 h rfl).mono fun e W' ⟨he, bel0⟩ => ?_
  have bel : Below W.heap.size W W' := bel0
  subst he
  exact ⟨_, rfl, _, _, _, [], _, [], hW', trodAll_mk1 (shut_bool Try.underlying4 _), (trodAll_cons_mk (Below.trod laidOut (by kernel_rfl) (of_decide_eq_true (by kernel_rfl)) k0 bel lt0) trodAll_mk0), rfl, bel.frame _, fun h => by cases h⟩
theorem over : Rows.fnExactGoodRowRow.holds Try.pinned (OpenSpec.ofChange Rows.fnExactGoodRowSpec) :=
  OpenClaim.holds_of_wide 3 Try.f3 rfl rfl rfl rfl rfl rfl rfl ⟨rfl, rfl, rfl, rfl, rfl⟩ rfl rfl rfl rfl rfl (by kernel_rfl) Try.func3 (by kernel_rfl)
    (of_decide_eq_true (by kernel_rfl)) (by unfold Func.isWrapper; first | (rw [if_pos (by decide +kernel)]; kernel_rfl) | (rw [if_neg (by decide +kernel)]; exact ⟨rfl, rfl⟩))
    (fun os started H enc _ => lifted os started H enc)
theorem proved : Rows.FnExactGoodRowSaid := over
#print axioms proved
end Go.Proofs.Ytehldgkpkjgocaa.fnExactGoodRow
namespace Go.Proofs.Ytehldgkpkjgocaa
/-- The row, under a short name, for the claim. -/
theorem fnExactGoodRow_holds : Rows.FnExactGoodRowSaid := fnExactGoodRow.proved
end Go.Proofs.Ytehldgkpkjgocaa
