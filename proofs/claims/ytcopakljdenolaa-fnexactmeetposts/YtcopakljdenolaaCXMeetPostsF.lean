/- The law FnExactMeetPosts holds of the given program: at every input it answers true and leaves its arguments as they were; no condition. -/
import Derived.Test.YtcopakljdenolaaQWWords
import Derived.ChangeArms
import Derived.ChangeSame
import Derived.Deep.Slices
import Derived.Deep.Strs
import Derived.Deep.Fields
import Derived.Lib.SmallJoins
import Derived.WideShapes
import Derived.Test.YtcopakljdenolaaRows
import Derived.WalkKit
import Derived.ProofKit
import Derived.OpenShut
import Derived.ShutString
import Derived.ChangeOld
import Derived.Below
import Derived.SizedLaws
import Derived.Carry
import Derived.Test.YtcopakljdenolaaCXMeetPostsA
import Derived.Test.YtcopakljdenolaaCXMeetPostsB
import Derived.Test.YtcopakljdenolaaCXMeetPostsC
import Derived.Test.YtcopakljdenolaaCXMeetPostsD
import Derived.Test.YtcopakljdenolaaCXMeetPostsE
namespace Go.Proofs.Ytcopakljdenolaa.Pure
open Go.RowKit Go.Proofs.Ytcopakljdenolaa.Fn Go.Proofs.YtcopakljdenolaaW.PrintWords Go.Proofs.YtcopakljdenolaaW.PrintLast Go.Proofs.YtcopakljdenolaaW.PrintMore
set_option linter.unusedSimpArgs false
set_option linter.unusedVariables false

def rise (l : List Int) : List Int → Nat → Bool
  | [], _ => true
  | x :: t, i => decide (0 ≤ x ∧ x ≤ 19) && ((decide (i = 0) || !decide (rd l ((i - 1 : Nat) : Int) ≥ x)) && rise l t (i + 1))
theorem rise_ev (l : List Int) (hl : l.length ≤ 1048576) (t : List Int) : ∀ i, l.drop i = t → i ≤ l.length → Ev (fun k => spec_l1Rising.l0 k l 0 19 l l.length i) (rise l t i) := by
  induction t with
  | nil =>
    intro i h _
    have := drop_nil h
    (refine Ev.up ?_; simp only [spec_l1Rising.l0, decT])
    (repeat (first | with_reducible refine Ev.bindS ?_ | (with_reducible refine Ev.ifp ?_ ?_; (· first | omega | assumption | rfl | (simp only [List.length_map, List.length_replicate, List.length_take, List.length_drop, List.length_append, List.length_cons, List.length_nil, List.length_set]; omega) | (simp; done))) | (with_reducible refine Ev.ifn ?_ ?_; (· first | omega | assumption | rfl | (simp only [List.length_map, List.length_replicate, List.length_take, List.length_drop, List.length_append, List.length_cons, List.length_nil, List.length_set]; omega) | (simp; done)))))
    exact Ev.val rfl
  | cons x t ih =>
    intro i h hi
    obtain ⟨h1, h2, h3⟩ := drop_cons h
    have ih := ih (i + 1) h3 (by omega)
    (refine Ev.up ?_; simp only [spec_l1Rising.l0, decT])
    rw [rd_at h2, wrap_succ (by omega), specIn_eq]
    simp only [rise]
    (repeat (first | with_reducible refine Ev.bindS ?_ | (with_reducible refine Ev.ifp ?_ ?_; (· first | omega | assumption | rfl | (simp only [List.length_map, List.length_replicate, List.length_take, List.length_drop, List.length_append, List.length_cons, List.length_nil, List.length_set]; omega) | (simp; done))) | (with_reducible refine Ev.ifn ?_ ?_; (· first | omega | assumption | rfl | (simp only [List.length_map, List.length_replicate, List.length_take, List.length_drop, List.length_append, List.length_cons, List.length_nil, List.length_set]; omega) | (simp; done)))))
    by_cases hx : 0 ≤ x ∧ x ≤ 19
    · simp only [decT]
      rw [decide_eq_true hx, Bool.true_and]
      (repeat (first | with_reducible refine Ev.bindS ?_ | (with_reducible refine Ev.ifp ?_ ?_; (· first | omega | assumption | rfl | (simp only [List.length_map, List.length_replicate, List.length_take, List.length_drop, List.length_append, List.length_cons, List.length_nil, List.length_set]; omega) | (simp; done))) | (with_reducible refine Ev.ifn ?_ ?_; (· first | omega | assumption | rfl | (simp only [List.length_map, List.length_replicate, List.length_take, List.length_drop, List.length_append, List.length_cons, List.length_nil, List.length_set]; omega) | (simp; done)))))
      by_cases h0 : i = 0
      · rw [decide_eq_true h0, Bool.true_or, Bool.true_and]
        (repeat (first | with_reducible refine Ev.bindS ?_ | (with_reducible refine Ev.ifp ?_ ?_; (· first | omega | assumption | rfl | (simp only [List.length_map, List.length_replicate, List.length_take, List.length_drop, List.length_append, List.length_cons, List.length_nil, List.length_set]; omega) | (simp; done))) | (with_reducible refine Ev.ifn ?_ ?_; (· first | omega | assumption | rfl | (simp only [List.length_map, List.length_replicate, List.length_take, List.length_drop, List.length_append, List.length_cons, List.length_nil, List.length_set]; omega) | (simp; done)))))
        exact ih
      · have e : wrap64 ((i : Int) - 1) = ((i - 1 : Nat) : Int) := by rw [wrap_ok (by omega) (by omega)]; omega
        rw [decide_eq_false h0, Bool.false_or, e]
        (repeat (first | with_reducible refine Ev.bindS ?_ | (with_reducible refine Ev.ifp ?_ ?_; (· first | omega | assumption | rfl | (simp only [List.length_map, List.length_replicate, List.length_take, List.length_drop, List.length_append, List.length_cons, List.length_nil, List.length_set]; omega) | (simp; done))) | (with_reducible refine Ev.ifn ?_ ?_; (· first | omega | assumption | rfl | (simp only [List.length_map, List.length_replicate, List.length_take, List.length_drop, List.length_append, List.length_cons, List.length_nil, List.length_set]; omega) | (simp; done)))))
        by_cases hp : rd l ((i - 1 : Nat) : Int) ≥ x
        · (repeat (first | with_reducible refine Ev.bindS ?_ | (with_reducible refine Ev.ifp ?_ ?_; (· first | omega | assumption | rfl | (simp only [List.length_map, List.length_replicate, List.length_take, List.length_drop, List.length_append, List.length_cons, List.length_nil, List.length_set]; omega) | (simp; done))) | (with_reducible refine Ev.ifn ?_ ?_; (· first | omega | assumption | rfl | (simp only [List.length_map, List.length_replicate, List.length_take, List.length_drop, List.length_append, List.length_cons, List.length_nil, List.length_set]; omega) | (simp; done)))))
          exact Ev.val (by simp [hp])
        · (repeat (first | with_reducible refine Ev.bindS ?_ | (with_reducible refine Ev.ifp ?_ ?_; (· first | omega | assumption | rfl | (simp only [List.length_map, List.length_replicate, List.length_take, List.length_drop, List.length_append, List.length_cons, List.length_nil, List.length_set]; omega) | (simp; done))) | (with_reducible refine Ev.ifn ?_ ?_; (· first | omega | assumption | rfl | (simp only [List.length_map, List.length_replicate, List.length_take, List.length_drop, List.length_append, List.length_cons, List.length_nil, List.length_set]; omega) | (simp; done)))))
          simpa [hp] using ih
    · simp only [decT]
      rw [decide_eq_false hx]
      (repeat (first | with_reducible refine Ev.bindS ?_ | (with_reducible refine Ev.ifp ?_ ?_; (· first | omega | assumption | rfl | (simp only [List.length_map, List.length_replicate, List.length_take, List.length_drop, List.length_append, List.length_cons, List.length_nil, List.length_set]; omega) | (simp; done))) | (with_reducible refine Ev.ifn ?_ ?_; (· first | omega | assumption | rfl | (simp only [List.length_map, List.length_replicate, List.length_take, List.length_drop, List.length_append, List.length_cons, List.length_nil, List.length_set]; omega) | (simp; done)))))
      exact Ev.val rfl
theorem rise_at {l : List Int} (t : List Int) : ∀ i, l.drop i = t → rise l t i = true → ∀ j x, i ≤ j → l[j]? = some x → (0 ≤ x ∧ x ≤ 19) ∧ (0 < j → rd l ((j - 1 : Nat) : Int) < x) := by
  induction t with
  | nil =>
    intro i h _ j x hj hx
    have := drop_nil h
    have := (List.getElem?_eq_some_iff.1 hx).1
    omega
  | cons y t ih =>
    intro i h hr j x hj hx
    obtain ⟨h1, h2, h3⟩ := drop_cons h
    simp only [rise, Bool.and_eq_true, decide_eq_true_eq, Bool.or_eq_true, Bool.not_eq_true', decide_eq_false_iff_not] at hr
    rcases Nat.lt_or_ge i j with hlt | hge
    · exact ih (i + 1) h3 hr.2.2 j x (by omega) hx
    · have e : j = i := by omega
      subst e
      rw [h2] at hx
      injection hx with hx
      subst hx
      refine ⟨hr.1, fun h0 => ?_⟩
      rcases hr.2.1 with h | h
      · omega
      · omega
theorem rise_len {l : List Int} (h : rise l l 0 = true) : l.length ≤ 20 := by
  have key : ∀ (j : Nat) (x : Int), l[j]? = some x → (j : Int) ≤ x := by
    intro j
    induction j with
    | zero => intro x hx; have := (rise_at l 0 rfl h 0 x (by omega) hx).1.1; omega
    | succ j ih =>
      intro x hx
      have hlt := (List.getElem?_eq_some_iff.1 hx).1
      have hj : l[j]? = some l[j] := List.getElem?_eq_getElem (by omega)
      have h1 := ih _ hj
      have h2 := (rise_at l 0 rfl h (j + 1) x (by omega) hx).2 (by omega)
      rw [show j + 1 - 1 = j by omega, rd_at hj] at h2
      omega
  rcases Nat.eq_zero_or_pos l.length with h0 | h0
  · omega
  · have hj : l[l.length - 1]? = some l[l.length - 1] := List.getElem?_eq_getElem (by omega)
    have h1 := key _ _ hj
    have h2 := (rise_at l 0 rfl h _ _ (by omega) hj).1.2
    omega
/-- A row of posts is good from i on. -/
def postsOk (l : List S57) : List S57 → Nat → Bool
  | [], _ => true
  | p :: t, i => decide (0 ≤ p.f0 ∧ p.f0 ≤ 11) && ((decide (i = 0) || !decide ((rd_T57 l ((i - 1 : Nat) : Int)).f0 ≥ p.f0)) && ((decide (1 ≤ p.f1.length) && rise p.f1 p.f1 0) && postsOk l t (i + 1)))
def Fit (l : List S57) : Prop := l.length ≤ 1048576 ∧ ∀ p ∈ l, p.f1.length ≤ 1048576
theorem specGood_ev (l : List S57) (hl : Fit l) : Ev (fun k => spec_GoodPosts.f k l) (postsOk l l 0 && decide ((l.length : Int) ≤ 12)) := by
  have hl1 := hl.1
  have key : ∀ (t : List S57) (i : Nat), l.drop i = t → i ≤ l.length → Ev (fun k => spec_GoodPosts.l0 k l l l.length i) (postsOk l t i && decide ((l.length : Int) ≤ 12)) := by
    intro t
    induction t with
    | nil =>
      intro i h hi
      have := drop_nil h
      (refine Ev.up ?_; simp only [spec_GoodPosts.l0, decT])
      (repeat (first | with_reducible refine Ev.bindS ?_ | (with_reducible refine Ev.ifp ?_ ?_; (· first | omega | assumption | rfl | (simp only [List.length_map, List.length_replicate, List.length_take, List.length_drop, List.length_append, List.length_cons, List.length_nil, List.length_set]; omega) | (simp; done))) | (with_reducible refine Ev.ifn ?_ ?_; (· first | omega | assumption | rfl | (simp only [List.length_map, List.length_replicate, List.length_take, List.length_drop, List.length_append, List.length_cons, List.length_nil, List.length_set]; omega) | (simp; done)))))
      exact Ev.val (by simp [postsOk])
    | cons p t ih =>
      intro i h hi
      obtain ⟨p1, p2, p3⟩ := drop_cons h
      have ih := ih (i + 1) p3 (by omega)
      have hp := hl.2 p (List.mem_of_getElem? p2)
      have hrise := rise_ev p.f1 hp p.f1 0 rfl (by omega)
      (refine Ev.up ?_; simp only [spec_GoodPosts.l0, decT])
      rw [rd57_at p2, wrap_succ (by omega), specIn_eq]
      simp only [postsOk]
      -- the tail: some places, rising
      have tail : ∀ (hpre : True), Ev (fun k => if (p.f1.length : Int) = 0 then some false else (spec_l1Rising.f k p.f1 0 19).bind fun t229 => if t229 = true then spec_GoodPosts.l0 k l l l.length ((i + 1 : Nat) : Int) else some false)
          (((decide (1 ≤ p.f1.length) && rise p.f1 p.f1 0) && postsOk l t (i + 1)) && decide ((l.length : Int) ≤ 12)) := by
        intro _
        by_cases h0 : p.f1.length = 0
        · rw [decide_eq_false (p := 1 ≤ p.f1.length) (by omega)]
          (repeat (first | with_reducible refine Ev.bindS ?_ | (with_reducible refine Ev.ifp ?_ ?_; (· first | omega | assumption | rfl | (simp only [List.length_map, List.length_replicate, List.length_take, List.length_drop, List.length_append, List.length_cons, List.length_nil, List.length_set]; omega) | (simp; done))) | (with_reducible refine Ev.ifn ?_ ?_; (· first | omega | assumption | rfl | (simp only [List.length_map, List.length_replicate, List.length_take, List.length_drop, List.length_append, List.length_cons, List.length_nil, List.length_set]; omega) | (simp; done)))))
          exact Ev.val (by simp)
        · rw [decide_eq_true (p := 1 ≤ p.f1.length) (by omega), Bool.true_and]
          (repeat (first | with_reducible refine Ev.bindS ?_ | (with_reducible refine Ev.ifp ?_ ?_; (· first | omega | assumption | rfl | (simp only [List.length_map, List.length_replicate, List.length_take, List.length_drop, List.length_append, List.length_cons, List.length_nil, List.length_set]; omega) | (simp; done))) | (with_reducible refine Ev.ifn ?_ ?_; (· first | omega | assumption | rfl | (simp only [List.length_map, List.length_replicate, List.length_take, List.length_drop, List.length_append, List.length_cons, List.length_nil, List.length_set]; omega) | (simp; done)))))
          refine Ev.bind (g := fun k => spec_l1Rising.f k p.f1 0 19) hrise ?_
          cases rise p.f1 p.f1 0 with
          | true => rw [Bool.true_and]; (repeat (first | with_reducible refine Ev.bindS ?_ | (with_reducible refine Ev.ifp ?_ ?_; (· first | omega | assumption | rfl | (simp only [List.length_map, List.length_replicate, List.length_take, List.length_drop, List.length_append, List.length_cons, List.length_nil, List.length_set]; omega) | (simp; done))) | (with_reducible refine Ev.ifn ?_ ?_; (· first | omega | assumption | rfl | (simp only [List.length_map, List.length_replicate, List.length_take, List.length_drop, List.length_append, List.length_cons, List.length_nil, List.length_set]; omega) | (simp; done))))); exact ih
          | false => (repeat (first | with_reducible refine Ev.bindS ?_ | (with_reducible refine Ev.ifp ?_ ?_; (· first | omega | assumption | rfl | (simp only [List.length_map, List.length_replicate, List.length_take, List.length_drop, List.length_append, List.length_cons, List.length_nil, List.length_set]; omega) | (simp; done))) | (with_reducible refine Ev.ifn ?_ ?_; (· first | omega | assumption | rfl | (simp only [List.length_map, List.length_replicate, List.length_take, List.length_drop, List.length_append, List.length_cons, List.length_nil, List.length_set]; omega) | (simp; done))))); exact Ev.val (by simp)
      (repeat (first | with_reducible refine Ev.bindS ?_ | (with_reducible refine Ev.ifp ?_ ?_; (· first | omega | assumption | rfl | (simp only [List.length_map, List.length_replicate, List.length_take, List.length_drop, List.length_append, List.length_cons, List.length_nil, List.length_set]; omega) | (simp; done))) | (with_reducible refine Ev.ifn ?_ ?_; (· first | omega | assumption | rfl | (simp only [List.length_map, List.length_replicate, List.length_take, List.length_drop, List.length_append, List.length_cons, List.length_nil, List.length_set]; omega) | (simp; done)))))
      by_cases hx : 0 ≤ p.f0 ∧ p.f0 ≤ 11
      · simp only [decT]
        rw [decide_eq_true hx, Bool.true_and]
        (repeat (first | with_reducible refine Ev.bindS ?_ | (with_reducible refine Ev.ifp ?_ ?_; (· first | omega | assumption | rfl | (simp only [List.length_map, List.length_replicate, List.length_take, List.length_drop, List.length_append, List.length_cons, List.length_nil, List.length_set]; omega) | (simp; done))) | (with_reducible refine Ev.ifn ?_ ?_; (· first | omega | assumption | rfl | (simp only [List.length_map, List.length_replicate, List.length_take, List.length_drop, List.length_append, List.length_cons, List.length_nil, List.length_set]; omega) | (simp; done)))))
        by_cases h0 : i = 0
        · rw [decide_eq_true h0, Bool.true_or, Bool.true_and]
          refine Ev.ifn (by omega) ?_
          exact tail trivial
        · have e : wrap64 ((i : Int) - 1) = ((i - 1 : Nat) : Int) := by rw [wrap_ok (by omega) (by omega)]; omega
          rw [decide_eq_false h0, Bool.false_or, e]
          refine Ev.ifp (by omega) (Ev.ifp (by omega) (Ev.ifp (by omega) ?_))
          by_cases hq : (rd_T57 l ((i - 1 : Nat) : Int)).f0 ≥ p.f0
          · refine Ev.ifp hq ?_
            exact Ev.val (by simp [hq])
          · refine Ev.ifn hq ?_
            rw [decide_eq_false hq, Bool.not_false, Bool.true_and]
            exact tail trivial
      · simp only [decT]
        rw [decide_eq_false hx]
        (repeat (first | with_reducible refine Ev.bindS ?_ | (with_reducible refine Ev.ifp ?_ ?_; (· first | omega | assumption | rfl | (simp only [List.length_map, List.length_replicate, List.length_take, List.length_drop, List.length_append, List.length_cons, List.length_nil, List.length_set]; omega) | (simp; done))) | (with_reducible refine Ev.ifn ?_ ?_; (· first | omega | assumption | rfl | (simp only [List.length_map, List.length_replicate, List.length_take, List.length_drop, List.length_append, List.length_cons, List.length_nil, List.length_set]; omega) | (simp; done)))))
        exact Ev.val (by simp)
  exact key l 0 rfl (by omega)
theorem implRise_ev (l0 : List S57) (m : Int) (i : Nat) (f0 : Int) (l : List Int) (hl : l.length ≤ 1048576) (r : Bool) (hr : Ev (fun k => impl_GoodPosts.l0 k l0 l0 m (wrap64 ((i : Int) + 1))) r) :
    ∀ (t : List Int) (j : Nat), l.drop j = t → j ≤ l.length → Ev (fun k => impl_GoodPosts.l1 k l0 l0 m i l l.length j f0 l) (rise l t j && r) := by
  intro t
  induction t with
  | nil =>
    intro j h _
    have := drop_nil h
    (refine Ev.up ?_; simp only [impl_GoodPosts.l1, decT])
    (repeat (first | with_reducible refine Ev.bindS ?_ | (with_reducible refine Ev.ifp ?_ ?_; (· first | omega | assumption | rfl | (simp only [List.length_map, List.length_replicate, List.length_take, List.length_drop, List.length_append, List.length_cons, List.length_nil, List.length_set]; omega) | (simp; done))) | (with_reducible refine Ev.ifn ?_ ?_; (· first | omega | assumption | rfl | (simp only [List.length_map, List.length_replicate, List.length_take, List.length_drop, List.length_append, List.length_cons, List.length_nil, List.length_set]; omega) | (simp; done)))))
    exact hr
  | cons x t ih =>
    intro j h hi
    obtain ⟨h1, h2, h3⟩ := drop_cons h
    have ih := ih (j + 1) h3 (by omega)
    (refine Ev.up ?_; simp only [impl_GoodPosts.l1, decT])
    rw [rd_at h2, wrap_succ (i := j) (by omega), within_eq]
    simp only [rise]
    (repeat (first | with_reducible refine Ev.bindS ?_ | (with_reducible refine Ev.ifp ?_ ?_; (· first | omega | assumption | rfl | (simp only [List.length_map, List.length_replicate, List.length_take, List.length_drop, List.length_append, List.length_cons, List.length_nil, List.length_set]; omega) | (simp; done))) | (with_reducible refine Ev.ifn ?_ ?_; (· first | omega | assumption | rfl | (simp only [List.length_map, List.length_replicate, List.length_take, List.length_drop, List.length_append, List.length_cons, List.length_nil, List.length_set]; omega) | (simp; done)))))
    by_cases hx : 0 ≤ x ∧ x ≤ 19
    · simp only [decT]
      rw [decide_eq_true hx, Bool.true_and]
      (repeat (first | with_reducible refine Ev.bindS ?_ | (with_reducible refine Ev.ifp ?_ ?_; (· first | omega | assumption | rfl | (simp only [List.length_map, List.length_replicate, List.length_take, List.length_drop, List.length_append, List.length_cons, List.length_nil, List.length_set]; omega) | (simp; done))) | (with_reducible refine Ev.ifn ?_ ?_; (· first | omega | assumption | rfl | (simp only [List.length_map, List.length_replicate, List.length_take, List.length_drop, List.length_append, List.length_cons, List.length_nil, List.length_set]; omega) | (simp; done)))))
      by_cases h0 : j = 0
      · rw [decide_eq_true h0, Bool.true_or, Bool.true_and]
        (repeat (first | with_reducible refine Ev.bindS ?_ | (with_reducible refine Ev.ifp ?_ ?_; (· first | omega | assumption | rfl | (simp only [List.length_map, List.length_replicate, List.length_take, List.length_drop, List.length_append, List.length_cons, List.length_nil, List.length_set]; omega) | (simp; done))) | (with_reducible refine Ev.ifn ?_ ?_; (· first | omega | assumption | rfl | (simp only [List.length_map, List.length_replicate, List.length_take, List.length_drop, List.length_append, List.length_cons, List.length_nil, List.length_set]; omega) | (simp; done)))))
        exact ih
      · have e : wrap64 ((j : Int) - 1) = ((j - 1 : Nat) : Int) := by rw [wrap_ok (by omega) (by omega)]; omega
        rw [decide_eq_false h0, Bool.false_or, e]
        (repeat (first | with_reducible refine Ev.bindS ?_ | (with_reducible refine Ev.ifp ?_ ?_; (· first | omega | assumption | rfl | (simp only [List.length_map, List.length_replicate, List.length_take, List.length_drop, List.length_append, List.length_cons, List.length_nil, List.length_set]; omega) | (simp; done))) | (with_reducible refine Ev.ifn ?_ ?_; (· first | omega | assumption | rfl | (simp only [List.length_map, List.length_replicate, List.length_take, List.length_drop, List.length_append, List.length_cons, List.length_nil, List.length_set]; omega) | (simp; done)))))
        by_cases hp : rd l ((j - 1 : Nat) : Int) ≥ x
        · (repeat (first | with_reducible refine Ev.bindS ?_ | (with_reducible refine Ev.ifp ?_ ?_; (· first | omega | assumption | rfl | (simp only [List.length_map, List.length_replicate, List.length_take, List.length_drop, List.length_append, List.length_cons, List.length_nil, List.length_set]; omega) | (simp; done))) | (with_reducible refine Ev.ifn ?_ ?_; (· first | omega | assumption | rfl | (simp only [List.length_map, List.length_replicate, List.length_take, List.length_drop, List.length_append, List.length_cons, List.length_nil, List.length_set]; omega) | (simp; done)))))
          exact Ev.val (by simp [hp])
        · (repeat (first | with_reducible refine Ev.bindS ?_ | (with_reducible refine Ev.ifp ?_ ?_; (· first | omega | assumption | rfl | (simp only [List.length_map, List.length_replicate, List.length_take, List.length_drop, List.length_append, List.length_cons, List.length_nil, List.length_set]; omega) | (simp; done))) | (with_reducible refine Ev.ifn ?_ ?_; (· first | omega | assumption | rfl | (simp only [List.length_map, List.length_replicate, List.length_take, List.length_drop, List.length_append, List.length_cons, List.length_nil, List.length_set]; omega) | (simp; done)))))
          simpa [hp] using ih
    · simp only [decT]
      rw [decide_eq_false hx]
      (repeat (first | with_reducible refine Ev.bindS ?_ | (with_reducible refine Ev.ifp ?_ ?_; (· first | omega | assumption | rfl | (simp only [List.length_map, List.length_replicate, List.length_take, List.length_drop, List.length_append, List.length_cons, List.length_nil, List.length_set]; omega) | (simp; done))) | (with_reducible refine Ev.ifn ?_ ?_; (· first | omega | assumption | rfl | (simp only [List.length_map, List.length_replicate, List.length_take, List.length_drop, List.length_append, List.length_cons, List.length_nil, List.length_set]; omega) | (simp; done)))))
      exact Ev.val (by simp)
theorem implGood_ev (l : List S57) (hl : Fit l) : Ev (fun k => impl_GoodPosts.f k l) (postsOk l l 0 && decide ((l.length : Int) ≤ 12)) := by
  have hl1 := hl.1
  have key : ∀ (t : List S57) (i : Nat), l.drop i = t → i ≤ l.length → Ev (fun k => impl_GoodPosts.l0 k l l l.length i) (postsOk l t i) := by
    intro t
    induction t with
    | nil =>
      intro i h hi
      have := drop_nil h
      (refine Ev.up ?_; simp only [impl_GoodPosts.l0, decT])
      (repeat (first | with_reducible refine Ev.bindS ?_ | (with_reducible refine Ev.ifp ?_ ?_; (· first | omega | assumption | rfl | (simp only [List.length_map, List.length_replicate, List.length_take, List.length_drop, List.length_append, List.length_cons, List.length_nil, List.length_set]; omega) | (simp; done))) | (with_reducible refine Ev.ifn ?_ ?_; (· first | omega | assumption | rfl | (simp only [List.length_map, List.length_replicate, List.length_take, List.length_drop, List.length_append, List.length_cons, List.length_nil, List.length_set]; omega) | (simp; done)))))
      exact Ev.val rfl
    | cons p t ih =>
      intro i h hi
      obtain ⟨p1, p2, p3⟩ := drop_cons h
      have ih := ih (i + 1) p3 (by omega)
      have hp := hl.2 p (List.mem_of_getElem? p2)
      have hw : wrap64 ((i : Int) + 1) = ((i + 1 : Nat) : Int) := wrap_succ (by omega)
      have hbad : ∀ f0 f1, Ev (fun k => impl_GoodPosts.j1 k l l l.length i true f0 f1) false := by
        intro f0 f1
        (refine Ev.up ?_; simp only [impl_GoodPosts.j1, decT])
        (repeat (first | with_reducible refine Ev.bindS ?_ | (with_reducible refine Ev.ifp ?_ ?_; (· first | omega | assumption | rfl | (simp only [List.length_map, List.length_replicate, List.length_take, List.length_drop, List.length_append, List.length_cons, List.length_nil, List.length_set]; omega) | (simp; done))) | (with_reducible refine Ev.ifn ?_ ?_; (· first | omega | assumption | rfl | (simp only [List.length_map, List.length_replicate, List.length_take, List.length_drop, List.length_append, List.length_cons, List.length_nil, List.length_set]; omega) | (simp; done)))))
        exact Ev.val rfl
      have tail : ∀ (hpre : True), Ev (fun k => (impl_within.f (p.f1.length : Int) 1 20).bind fun t255 => impl_GoodPosts.j1 k l l l.length i (!t255) p.f0 p.f1)
          ((decide (1 ≤ p.f1.length) && rise p.f1 p.f1 0) && postsOk l t (i + 1)) := by
        intro _
        rw [within_eq]
        by_cases h0 : 1 ≤ (p.f1.length : Int) ∧ (p.f1.length : Int) ≤ 20
        · rw [decide_eq_true h0, decide_eq_true (p := 1 ≤ p.f1.length) (by omega), Bool.true_and]
          (repeat (first | with_reducible refine Ev.bindS ?_ | (with_reducible refine Ev.ifp ?_ ?_; (· first | omega | assumption | rfl | (simp only [List.length_map, List.length_replicate, List.length_take, List.length_drop, List.length_append, List.length_cons, List.length_nil, List.length_set]; omega) | (simp; done))) | (with_reducible refine Ev.ifn ?_ ?_; (· first | omega | assumption | rfl | (simp only [List.length_map, List.length_replicate, List.length_take, List.length_drop, List.length_append, List.length_cons, List.length_nil, List.length_set]; omega) | (simp; done)))))
          (refine Ev.up ?_; simp only [impl_GoodPosts.j1, decT])
          (repeat (first | with_reducible refine Ev.bindS ?_ | (with_reducible refine Ev.ifp ?_ ?_; (· first | omega | assumption | rfl | (simp only [List.length_map, List.length_replicate, List.length_take, List.length_drop, List.length_append, List.length_cons, List.length_nil, List.length_set]; omega) | (simp; done))) | (with_reducible refine Ev.ifn ?_ ?_; (· first | omega | assumption | rfl | (simp only [List.length_map, List.length_replicate, List.length_take, List.length_drop, List.length_append, List.length_cons, List.length_nil, List.length_set]; omega) | (simp; done)))))
          exact implRise_ev l l.length i p.f0 p.f1 hp _ (by rw [hw]; exact ih) p.f1 0 rfl (by omega)
        · have e : (decide (1 ≤ p.f1.length) && rise p.f1 p.f1 0) = false := by
            by_cases h1 : 1 ≤ p.f1.length
            · cases h2 : rise p.f1 p.f1 0 with
              | false => simp
              | true => have := rise_len h2; omega
            · simp [h1]
          rw [decide_eq_false h0, e]
          (repeat (first | with_reducible refine Ev.bindS ?_ | (with_reducible refine Ev.ifp ?_ ?_; (· first | omega | assumption | rfl | (simp only [List.length_map, List.length_replicate, List.length_take, List.length_drop, List.length_append, List.length_cons, List.length_nil, List.length_set]; omega) | (simp; done))) | (with_reducible refine Ev.ifn ?_ ?_; (· first | omega | assumption | rfl | (simp only [List.length_map, List.length_replicate, List.length_take, List.length_drop, List.length_append, List.length_cons, List.length_nil, List.length_set]; omega) | (simp; done)))))
          exact hbad _ _
      (refine Ev.up ?_; simp only [impl_GoodPosts.l0, decT])
      rw [rd57_at p2, within_eq]
      simp only [postsOk]
      (repeat (first | with_reducible refine Ev.bindS ?_ | (with_reducible refine Ev.ifp ?_ ?_; (· first | omega | assumption | rfl | (simp only [List.length_map, List.length_replicate, List.length_take, List.length_drop, List.length_append, List.length_cons, List.length_nil, List.length_set]; omega) | (simp; done))) | (with_reducible refine Ev.ifn ?_ ?_; (· first | omega | assumption | rfl | (simp only [List.length_map, List.length_replicate, List.length_take, List.length_drop, List.length_append, List.length_cons, List.length_nil, List.length_set]; omega) | (simp; done)))))
      by_cases hx : 0 ≤ p.f0 ∧ p.f0 ≤ 11
      · simp only [decT]
        rw [decide_eq_true hx, Bool.true_and]
        (repeat (first | with_reducible refine Ev.bindS ?_ | (with_reducible refine Ev.ifp ?_ ?_; (· first | omega | assumption | rfl | (simp only [List.length_map, List.length_replicate, List.length_take, List.length_drop, List.length_append, List.length_cons, List.length_nil, List.length_set]; omega) | (simp; done))) | (with_reducible refine Ev.ifn ?_ ?_; (· first | omega | assumption | rfl | (simp only [List.length_map, List.length_replicate, List.length_take, List.length_drop, List.length_append, List.length_cons, List.length_nil, List.length_set]; omega) | (simp; done)))))
        by_cases h0 : i = 0
        · rw [decide_eq_true h0, Bool.true_or, Bool.true_and]
          refine Ev.ifn (by omega) ?_
          exact tail trivial
        · have e : wrap64 ((i : Int) - 1) = ((i - 1 : Nat) : Int) := by rw [wrap_ok (by omega) (by omega)]; omega
          rw [decide_eq_false h0, Bool.false_or, e]
          refine Ev.ifp (by omega) (Ev.ifp (by omega) (Ev.ifp (by omega) ?_))
          by_cases hq : (rd_T57 l ((i - 1 : Nat) : Int)).f0 ≥ p.f0
          · refine Ev.ifp hq ?_
            rw [decide_eq_true hq]
            exact hbad _ _
          · refine Ev.ifn hq ?_
            rw [decide_eq_false hq, Bool.not_false, Bool.true_and]
            exact tail trivial
      · simp only [decT]
        rw [decide_eq_false hx]
        (repeat (first | with_reducible refine Ev.bindS ?_ | (with_reducible refine Ev.ifp ?_ ?_; (· first | omega | assumption | rfl | (simp only [List.length_map, List.length_replicate, List.length_take, List.length_drop, List.length_append, List.length_cons, List.length_nil, List.length_set]; omega) | (simp; done))) | (with_reducible refine Ev.ifn ?_ ?_; (· first | omega | assumption | rfl | (simp only [List.length_map, List.length_replicate, List.length_take, List.length_drop, List.length_append, List.length_cons, List.length_nil, List.length_set]; omega) | (simp; done)))))
        exact hbad _ _
  simp only [impl_GoodPosts.f]
  by_cases h : (l.length : Int) > 12
  · rw [decide_eq_false (p := (l.length : Int) ≤ 12) (by omega), Bool.and_false]
    (repeat (first | with_reducible refine Ev.bindS ?_ | (with_reducible refine Ev.ifp ?_ ?_; (· first | omega | assumption | rfl | (simp only [List.length_map, List.length_replicate, List.length_take, List.length_drop, List.length_append, List.length_cons, List.length_nil, List.length_set]; omega) | (simp; done))) | (with_reducible refine Ev.ifn ?_ ?_; (· first | omega | assumption | rfl | (simp only [List.length_map, List.length_replicate, List.length_take, List.length_drop, List.length_append, List.length_cons, List.length_nil, List.length_set]; omega) | (simp; done)))))
    exact Ev.val rfl
  · rw [decide_eq_true (p := (l.length : Int) ≤ 12) (by omega), Bool.and_true]
    (repeat (first | with_reducible refine Ev.bindS ?_ | (with_reducible refine Ev.ifp ?_ ?_; (· first | omega | assumption | rfl | (simp only [List.length_map, List.length_replicate, List.length_take, List.length_drop, List.length_append, List.length_cons, List.length_nil, List.length_set]; omega) | (simp; done))) | (with_reducible refine Ev.ifn ?_ ?_; (· first | omega | assumption | rfl | (simp only [List.length_map, List.length_replicate, List.length_take, List.length_drop, List.length_append, List.length_cons, List.length_nil, List.length_set]; omega) | (simp; done)))))
    exact key l 0 rfl (by omega)
/-- The laws' helpers on rows of posts. -/
def cv (x : S75) : S57 := ⟨x.f0, x.f1⟩
theorem rd75_at {l : List S75} {i : Nat} {x : S75} (h : l[i]? = some x) : rd_T75 l (i : Int) = x := getD_at h
theorem szInt_eq (l : List Int) (hl : l.length ≤ maxLen) (a : Int) (h0 : 0 ≤ a) (h1 : a ≤ 1048576) : laws_szIntS.f l a = some (if (l.length : Int) > a then (-1 : Int) else (a - (l.length : Int))) := by
  unfold laws_szIntS.f
  simp only [maxLen] at hl
  have e : wrap64 (a - (l.length : Int)) = a - (l.length : Int) := wrap_ok (by omega) (by omega)
  rw [e]
  by_cases h : (l.length : Int) > a
  · rw [if_pos h, if_pos (by omega)]
  · rw [if_neg h, if_neg (by omega)]
theorem szPosts_ev (l : List S75) (hl : l.length ≤ maxLen) (hs : ∀ y ∈ l, y.f1.length ≤ maxLen) (a : Int) (h0 : 0 ≤ a) (h1 : a ≤ 1048576) :
    ∃ r : Int, Ev (fun k => laws_szPostS.f k l a) r ∧ r ≤ a ∧ (0 ≤ r → (l.length : Int) ≤ a ∧ ∀ y ∈ l, (y.f1.length : Int) ≤ a) := by
  have hl' := hl
  simp only [maxLen] at hl
  have key : ∀ (t : List S75) (i : Nat) (m : Int), l.drop i = t → i ≤ l.length → 0 ≤ m → m ≤ a →
      ∃ r : Int, Ev (fun k => laws_szPostS.l0 k l m i) r ∧ r ≤ a ∧ (0 ≤ r → ∀ y ∈ t, (y.f1.length : Int) ≤ a) := by
    intro t
    induction t with
    | nil =>
      intro i m h _ _ hm
      have := drop_nil h
      exact ⟨m, by (refine Ev.up ?_; simp only [laws_szPostS.l0, decT]); (repeat (first | with_reducible refine Ev.bindS ?_ | (with_reducible refine Ev.ifp ?_ ?_; (· first | omega | assumption | rfl | (simp only [List.length_map, List.length_replicate, List.length_take, List.length_drop, List.length_append, List.length_cons, List.length_nil, List.length_set]; omega) | (simp; done))) | (with_reducible refine Ev.ifn ?_ ?_; (· first | omega | assumption | rfl | (simp only [List.length_map, List.length_replicate, List.length_take, List.length_drop, List.length_append, List.length_cons, List.length_nil, List.length_set]; omega) | (simp; done))))); exact Ev.val rfl, hm, by simp⟩
    | cons x t ih =>
      intro i m h hi hm0 hm
      obtain ⟨p1, p2, p3⟩ := drop_cons h
      have hx := hs x (List.mem_of_getElem? p2)
      by_cases hlt : (x.f1.length : Int) > m
      · refine ⟨-1, ?_, by omega, by omega⟩
        (refine Ev.up ?_; simp only [laws_szPostS.l0, decT])
        rw [rd75_at p2]
        simp only [laws_szPost.f, szInt_eq x.f1 hx m hm0 (by omega), if_pos hlt]
        (repeat (first | with_reducible refine Ev.bindS ?_ | (with_reducible refine Ev.ifp ?_ ?_; (· first | omega | assumption | rfl | (simp only [List.length_map, List.length_replicate, List.length_take, List.length_drop, List.length_append, List.length_cons, List.length_nil, List.length_set]; omega) | (simp; done))) | (with_reducible refine Ev.ifn ?_ ?_; (· first | omega | assumption | rfl | (simp only [List.length_map, List.length_replicate, List.length_take, List.length_drop, List.length_append, List.length_cons, List.length_nil, List.length_set]; omega) | (simp; done)))))
        exact Ev.val rfl
      · obtain ⟨r, q1, q2, q3⟩ := ih (i + 1) (m - x.f1.length) p3 (by omega) (by omega) (by omega)
        refine ⟨r, ?_, q2, fun hr y hy => ?_⟩
        · (refine Ev.up ?_; simp only [laws_szPostS.l0, decT])
          rw [rd75_at p2, wrap_succ (by omega)]
          simp only [laws_szPost.f, szInt_eq x.f1 hx m hm0 (by omega), if_neg hlt, Option.bind_some, if_neg (show ¬ (m - (x.f1.length : Int)) < 0 by omega)]
          (repeat (first | with_reducible refine Ev.bindS ?_ | (with_reducible refine Ev.ifp ?_ ?_; (· first | omega | assumption | rfl | (simp only [List.length_map, List.length_replicate, List.length_take, List.length_drop, List.length_append, List.length_cons, List.length_nil, List.length_set]; omega) | (simp; done))) | (with_reducible refine Ev.ifn ?_ ?_; (· first | omega | assumption | rfl | (simp only [List.length_map, List.length_replicate, List.length_take, List.length_drop, List.length_append, List.length_cons, List.length_nil, List.length_set]; omega) | (simp; done)))))
          exact q1
        · rcases List.mem_cons.1 hy with rfl | hy
          · omega
          · exact q3 hr y hy
  have e : wrap64 (a - (l.length : Int)) = a - (l.length : Int) := wrap_ok (by omega) (by omega)
  by_cases hlt : a - (l.length : Int) < 0
  · refine ⟨-1, ?_, by omega, by omega⟩
    simp only [laws_szPostS.f, e]
    (repeat (first | with_reducible refine Ev.bindS ?_ | (with_reducible refine Ev.ifp ?_ ?_; (· first | omega | assumption | rfl | (simp only [List.length_map, List.length_replicate, List.length_take, List.length_drop, List.length_append, List.length_cons, List.length_nil, List.length_set]; omega) | (simp; done))) | (with_reducible refine Ev.ifn ?_ ?_; (· first | omega | assumption | rfl | (simp only [List.length_map, List.length_replicate, List.length_take, List.length_drop, List.length_append, List.length_cons, List.length_nil, List.length_set]; omega) | (simp; done)))))
    exact Ev.val rfl
  · obtain ⟨r, q1, q2, q3⟩ := key l 0 (a - l.length) rfl (by omega) (by omega) (by omega)
    refine ⟨r, ?_, q2, fun hr => ⟨by omega, q3 hr⟩⟩
    simp only [laws_szPostS.f, e]
    (repeat (first | with_reducible refine Ev.bindS ?_ | (with_reducible refine Ev.ifp ?_ ?_; (· first | omega | assumption | rfl | (simp only [List.length_map, List.length_replicate, List.length_take, List.length_drop, List.length_append, List.length_cons, List.length_nil, List.length_set]; omega) | (simp; done))) | (with_reducible refine Ev.ifn ?_ ?_; (· first | omega | assumption | rfl | (simp only [List.length_map, List.length_replicate, List.length_take, List.length_drop, List.length_append, List.length_cons, List.length_nil, List.length_set]; omega) | (simp; done)))))
    exact q1
theorem toPosts_ev (l : List S75) (hl : l.length ≤ 1048576) (hs : ∀ y ∈ l, y.f1.length ≤ 1048576) : Ev (fun k => laws_toPostS.f k l) (l.map cv) := by
  have h := copy_ev (fun k x3 i => laws_toPostS.l0 k l x3 i) cv z57 l ?_ ?_
  · simp only [laws_toPostS.f, Int.toNat_natCast]
    (repeat (first | with_reducible refine Ev.bindS ?_ | (with_reducible refine Ev.ifp ?_ ?_; (· first | omega | assumption | rfl | (simp only [List.length_map, List.length_replicate, List.length_take, List.length_drop, List.length_append, List.length_cons, List.length_nil, List.length_set]; omega) | (simp; done))) | (with_reducible refine Ev.ifn ?_ ?_; (· first | omega | assumption | rfl | (simp only [List.length_map, List.length_replicate, List.length_take, List.length_drop, List.length_append, List.length_cons, List.length_nil, List.length_set]; omega) | (simp; done)))))
    exact h
  · intro k x3
    simp only [laws_toPostS.l0]
    rw [if_neg (by omega)]
  · intro i x hx
    have hlt := (List.getElem?_eq_some_iff.1 hx).1
    obtain ⟨K, hK⟩ := toInts_ev x.f1 (hs x (List.mem_of_getElem? hx))
    refine ⟨K, fun k x3 hk h3 => ?_⟩
    have hk := hK k hk
    dsimp only at hk
    simp only [laws_toPostS.l0]
    rw [if_pos (by omega), if_pos (by omega), rd75_at hx]
    simp only [laws_toPost.f, hk, Option.bind_some]
    rw [if_pos (by omega), wrap_succ (by omega), Int.toNat_natCast]
    rfl
theorem eqPosts_ev (l : List S57) (hl : Fit l) : Ev (fun k => laws_eqPostS.f k l l) true := by
  have hl1 := hl.1
  have h := all_ev (fun k i => laws_eqPostS.l0 k l l i) l.length true ?_ ?_
  · simp only [laws_eqPostS.f]
    (repeat (first | with_reducible refine Ev.bindS ?_ | (with_reducible refine Ev.ifp ?_ ?_; (· first | omega | assumption | rfl | (simp only [List.length_map, List.length_replicate, List.length_take, List.length_drop, List.length_append, List.length_cons, List.length_nil, List.length_set]; omega) | (simp; done))) | (with_reducible refine Ev.ifn ?_ ?_; (· first | omega | assumption | rfl | (simp only [List.length_map, List.length_replicate, List.length_take, List.length_drop, List.length_append, List.length_cons, List.length_nil, List.length_set]; omega) | (simp; done)))))
    exact h
  · intro k
    simp only [laws_eqPostS.l0]
    rw [if_neg (by omega)]
  · intro i hi
    have hx : l[i]? = some l[i] := List.getElem?_eq_getElem hi
    obtain ⟨K, hK⟩ := eqInts_ev (l[i]).f1 (hl.2 _ (List.getElem_mem hi))
    refine ⟨K, fun k hk => ?_⟩
    have hk := hK k hk
    dsimp only at hk
    simp only [laws_eqPostS.l0]
    rw [if_pos (by omega), if_pos (by omega), if_pos (by omega), rd57_at hx, wrap_succ (by omega)]
    simp only [laws_eqPost.f, hk, Option.bind_some, if_true]
end Go.Proofs.Ytcopakljdenolaa.Pure
namespace Go.Proofs.Ytcopakljdenolaa.Pure
open Go.RowKit Go.Proofs.YtcopakljdenolaaW.PrintWords Go.Proofs.YtcopakljdenolaaW.PrintLast Go.Proofs.YtcopakljdenolaaW.PrintMore
def Evt (P : Nat → Prop) : Prop := ∃ K, ∀ k, K ≤ k → P k
theorem Evt.and {P Q : Nat → Prop} (h : Evt P) (k : Evt Q) : Evt (fun n => P n ∧ Q n) := by
  obtain ⟨K, h⟩ := h
  obtain ⟨K', k⟩ := k
  exact ⟨max K K', fun n hn => ⟨h n (by omega), k n (by omega)⟩⟩
theorem Evt.const {p : Prop} (h : p) : Evt (fun _ => p) := ⟨0, fun _ _ => h⟩
theorem Evt.ex {α : Type} {P : Nat → α → Prop} (x : α) (h : Evt (fun n => P n x)) : Evt (fun n => ∃ x, P n x) := by
  obtain ⟨K, h⟩ := h
  exact ⟨K, fun n hn => ⟨x, h n hn⟩⟩
theorem Evt.inl {P Q : Nat → Prop} (h : Evt P) : Evt (fun n => P n ∨ Q n) := by
  obtain ⟨K, h⟩ := h
  exact ⟨K, fun n hn => .inl (h n hn)⟩
theorem Evt.inr {P Q : Nat → Prop} (h : Evt Q) : Evt (fun n => P n ∨ Q n) := by
  obtain ⟨K, h⟩ := h
  exact ⟨K, fun n hn => .inr (h n hn)⟩
theorem Evt.now {P : Nat → Prop} (h : Evt P) : ∃ k, P k := by
  obtain ⟨K, h⟩ := h
  exact ⟨K, h K (Nat.le_refl _)⟩
theorem Evt.of {α : Type} {g : Nat → Option α} {r : α} (h : Ev g r) : Evt (fun n => g n = some r) := h
end Go.Proofs.Ytcopakljdenolaa.Pure
namespace Go.Proofs.Ytcopakljdenolaa.Pure
open Go.RowKit Go.Proofs.Ytcopakljdenolaa.Fn Go.Proofs.YtcopakljdenolaaW.PrintWords Go.Proofs.YtcopakljdenolaaW.PrintLast Go.Proofs.YtcopakljdenolaaW.PrintMore
set_option linter.unusedSimpArgs false
set_option linter.unusedVariables false

def marked (l : List Int) (c : Int) : List Int := l.mapIdx fun i _ => c + (i : Int)
theorem markInts_far (l : List Int) (hl : l.length ≤ 1048576) (c : Int) (h0 : 0 < c) (h1 : c ≤ 4611686018427387904) :
    Ev (fun k => laws_markIntS.f k l c) (c + l.length, marked l c) := by
  have h := mark_ev (fun k x c i => laws_markIntS.l0 k x c i) (fun i => c + (i : Int)) (fun i _ => c + (i : Int)) l ?_ ?_
  · simpa [laws_markIntS.f, marked] using h
  · intro k x hx
    simp only [laws_markIntS.l0]
    rw [if_neg (by omega)]
  · intro i y hy
    have hlt : i < l.length := (List.getElem?_eq_some_iff.1 hy).1
    refine ⟨0, fun k x _ hx _ => ?_⟩
    simp only [laws_markIntS.l0]
    have e : wrap64 (c + (i : Int) + 1) = c + ((i + 1 : Nat) : Int) := by rw [wrap_ok (by omega) (by omega)]; omega
    rw [if_pos (by omega), if_pos (by omega), e, wrap_succ (by omega), Int.toNat_natCast]
theorem heldInts_far (l : List Int) (hl : l.length ≤ 1048576) (c : Int) (h0 : 0 < c) (h1 : c ≤ 4611686018427387904) :
    Ev (fun k => laws_heldIntS.f k (marked l c) c) (c + l.length) := by
  have h := all_ev (fun k i => laws_heldIntS.l0 k (marked l c) (c + i) i) l.length (c + l.length) ?_ ?_
  · simpa [laws_heldIntS.f] using h
  · intro k
    simp only [laws_heldIntS.l0]
    rw [if_neg (by simp [marked])]
  · intro i hi
    refine ⟨0, fun k _ => ?_⟩
    have hat : rd (marked l c) (i : Int) = c + (i : Int) := rd_at (by simp [marked, hi])
    have e : wrap64 (c + (i : Int) + 1) = c + ((i + 1 : Nat) : Int) := by rw [wrap_ok (by omega) (by omega)]; omega
    simp only [laws_heldIntS.l0, hat]
    rw [if_pos (by simp [marked]; omega), if_pos (by omega), if_pos trivial, e, wrap_succ (by omega)]
def endP : List S57 → Int → Int
  | [], c => c
  | p :: t, c => endP t (c + 1 + p.f1.length)
def markP : List S57 → Int → List S57
  | [], _ => []
  | p :: t, c => ⟨c, marked p.f1 (c + 1)⟩ :: markP t (c + 1 + p.f1.length)
theorem markP_len (l : List S57) : ∀ c, (markP l c).length = l.length := by
  induction l with
  | nil => intro c; rfl
  | cons p t ih => intro c; simp only [markP, List.length_cons, ih]
theorem endP_le (l : List S57) : ∀ c, c ≤ endP l c := by
  induction l with
  | nil => intro c; exact Int.le_refl _
  | cons p t ih => intro c; have := ih (c + 1 + p.f1.length); simp only [endP]; omega
theorem markPosts_loop (t : List S57) (hs : ∀ p ∈ t, p.f1.length ≤ 1048576) : ∀ (done : List S57) (c : Int), 0 < c → done.length + t.length ≤ 1048576 → c + 2097152 * (t.length : Int) ≤ 4611686018427387904 →
    Ev (fun k => laws_markPostS.l0 k (done ++ t) c (done.length : Int)) (endP t c, done ++ markP t c) := by
  induction t with
  | nil =>
    intro done c h0 h1 h2
    (refine Ev.up ?_; simp only [laws_markPostS.l0, decT])
    simp only [List.append_nil]
    (repeat (first | with_reducible refine Ev.bindS ?_ | (with_reducible refine Ev.ifp ?_ ?_; (· first | omega | assumption | rfl | (simp only [List.length_map, List.length_replicate, List.length_take, List.length_drop, List.length_append, List.length_cons, List.length_nil, List.length_set]; omega) | (simp; done))) | (with_reducible refine Ev.ifn ?_ ?_; (· first | omega | assumption | rfl | (simp only [List.length_map, List.length_replicate, List.length_take, List.length_drop, List.length_append, List.length_cons, List.length_nil, List.length_set]; omega) | (simp; done)))))
    exact Ev.val (by simp [endP, markP])
  | cons p t ih =>
    intro done c h0 h1 h2
    have hp := hs p List.mem_cons_self
    simp only [List.length_cons] at h1 h2
    have hx : (done ++ p :: t)[done.length]? = some p := by simp
    have e1 : wrap64 (c + 1) = c + 1 := wrap_ok (by omega) (by omega)
    have ih := ih (fun q hq => hs q (List.mem_cons_of_mem _ hq)) (done ++ [⟨c, marked p.f1 (c + 1)⟩]) (c + 1 + p.f1.length) (by omega) (by simp; omega) (by omega)
    have e2 : done ++ [(⟨c, marked p.f1 (c + 1)⟩ : S57)] ++ t = (done ++ p :: t).set done.length ⟨c, marked p.f1 (c + 1)⟩ := by
      rw [List.set_append_right _ _ (Nat.le_refl _), Nat.sub_self, List.set_cons_zero, List.append_assoc]; rfl
    have e3 : ((done ++ [(⟨c, marked p.f1 (c + 1)⟩ : S57)]).length : Int) = ((done.length + 1 : Nat) : Int) := by simp
    rw [e2, e3] at ih
    simp only [endP, markP]
    rw [List.append_assoc] at ih
    (refine Ev.up ?_; simp only [laws_markPostS.l0, decT])
    rw [rd57_at hx, e1, wrap_succ (i := done.length) (by omega), Int.toNat_natCast]
    (repeat (first | with_reducible refine Ev.bindS ?_ | (with_reducible refine Ev.ifp ?_ ?_; (· first | omega | assumption | rfl | (simp only [List.length_map, List.length_replicate, List.length_take, List.length_drop, List.length_append, List.length_cons, List.length_nil, List.length_set]; omega) | (simp; done))) | (with_reducible refine Ev.ifn ?_ ?_; (· first | omega | assumption | rfl | (simp only [List.length_map, List.length_replicate, List.length_take, List.length_drop, List.length_append, List.length_cons, List.length_nil, List.length_set]; omega) | (simp; done)))))
    refine Ev.bind (markInts_far p.f1 hp (c + 1) (by omega) (by omega)) ?_
    exact ih
theorem heldPosts_loop (t : List S57) (hs : ∀ p ∈ t, p.f1.length ≤ 1048576) : ∀ (L : List S57) (i : Nat) (c : Int), L.drop i = markP t c → 0 < c → i + t.length ≤ 1048576 → c + 2097152 * (t.length : Int) ≤ 4611686018427387904 →
    Ev (fun k => laws_heldPostS.l0 k L c (i : Int)) (endP t c) := by
  induction t with
  | nil =>
    intro L i c hd h0 h1 h2
    have := drop_nil hd
    (refine Ev.up ?_; simp only [laws_heldPostS.l0, decT])
    (repeat (first | with_reducible refine Ev.bindS ?_ | (with_reducible refine Ev.ifp ?_ ?_; (· first | omega | assumption | rfl | (simp only [List.length_map, List.length_replicate, List.length_take, List.length_drop, List.length_append, List.length_cons, List.length_nil, List.length_set]; omega) | (simp; done))) | (with_reducible refine Ev.ifn ?_ ?_; (· first | omega | assumption | rfl | (simp only [List.length_map, List.length_replicate, List.length_take, List.length_drop, List.length_append, List.length_cons, List.length_nil, List.length_set]; omega) | (simp; done)))))
    exact Ev.val rfl
  | cons p t ih =>
    intro L i c hd h0 h1 h2
    have hp := hs p List.mem_cons_self
    simp only [List.length_cons] at h1 h2
    simp only [markP] at hd
    obtain ⟨p1, p2, p3⟩ := drop_cons hd
    have e1 : wrap64 (c + 1) = c + 1 := wrap_ok (by omega) (by omega)
    have ih := ih (fun q hq => hs q (List.mem_cons_of_mem _ hq)) L (i + 1) (c + 1 + p.f1.length) p3 (by omega) (by omega) (by omega)
    simp only [endP]
    (refine Ev.up ?_; simp only [laws_heldPostS.l0, decT])
    rw [rd57_at p2, e1, wrap_succ (i := i) (by omega)]
    (repeat (first | with_reducible refine Ev.bindS ?_ | (with_reducible refine Ev.ifp ?_ ?_; (· first | omega | assumption | rfl | (simp only [List.length_map, List.length_replicate, List.length_take, List.length_drop, List.length_append, List.length_cons, List.length_nil, List.length_set]; omega) | (simp; done))) | (with_reducible refine Ev.ifn ?_ ?_; (· first | omega | assumption | rfl | (simp only [List.length_map, List.length_replicate, List.length_take, List.length_drop, List.length_append, List.length_cons, List.length_nil, List.length_set]; omega) | (simp; done)))))
    refine Ev.bind (heldInts_far p.f1 hp (c + 1) (by omega) (by omega)) ?_
    (repeat (first | with_reducible refine Ev.bindS ?_ | (with_reducible refine Ev.ifp ?_ ?_; (· first | omega | assumption | rfl | (simp only [List.length_map, List.length_replicate, List.length_take, List.length_drop, List.length_append, List.length_cons, List.length_nil, List.length_set]; omega) | (simp; done))) | (with_reducible refine Ev.ifn ?_ ?_; (· first | omega | assumption | rfl | (simp only [List.length_map, List.length_replicate, List.length_take, List.length_drop, List.length_append, List.length_cons, List.length_nil, List.length_set]; omega) | (simp; done)))))
    exact ih
theorem markPosts_ev (l : List S57) (hl : Fit l) (c : Int) (h0 : 0 < c) (h1 : c ≤ 4398046511104) : Ev (fun k => laws_markPostS.f k l c) (endP l c, markP l c) := by
  have := markPosts_loop l hl.2 [] c h0 (by have := hl.1; simp; omega) (by have := hl.1; omega)
  simpa [laws_markPostS.f] using this
theorem heldPosts_ev (l : List S57) (hl : Fit l) (c : Int) (h0 : 0 < c) (h1 : c ≤ 4398046511104) : Ev (fun k => laws_heldPostS.f k (markP l c) c) (endP l c) :=
  heldPosts_loop l hl.2 (markP l c) 0 c rfl h0 (by have := hl.1; omega) (by have := hl.1; omega)
theorem endP_max (l : List S57) (hs : ∀ p ∈ l, p.f1.length ≤ 1048576) : ∀ c, endP l c ≤ c + 1048577 * (l.length : Int) := by
  induction l with
  | nil => intro c; simp [endP]
  | cons p t ih =>
    intro c
    have hp := hs p List.mem_cons_self
    have := ih (fun q hq => hs q (List.mem_cons_of_mem _ hq)) (c + 1 + p.f1.length)
    simp only [endP, List.length_cons]
    omega
theorem places_len (w s : ByteArray) (hs : s.size ≤ 1048575) : (places w s).length ≤ 1048576 := by
  have h1 := placesFrom_len w (wordsOf s) 0 []
  have h2 := words_len (nm s) eS []
  have h3 := nm_length s
  simp only [List.length_nil] at *
  show (placesFrom w (wordsOf s) 0 []).length ≤ _
  have : (wordsOf s).length = (wordsFrom (nm s) eS []).length := rfl
  omega
theorem postsFrom_fit (w : ByteArray) (t : List ByteArray) (ht : ∀ s ∈ t, s.size ≤ 1048575) : ∀ (i : Nat) (acc : List S57), (∀ p ∈ acc, p.f1.length ≤ 1048576) → ∀ p ∈ postsFrom w t i acc, p.f1.length ≤ 1048576 := by
  induction t with
  | nil => intro i acc h p hp; exact h p hp
  | cons s t ih =>
    intro i acc h p hp
    simp only [postsFrom] at hp
    split at hp
    · refine ih (fun s' h' => ht s' (List.mem_cons_of_mem _ h')) (i + 1) _ (fun q hq => ?_) p hp
      rcases List.mem_append.1 hq with hq | hq
      · exact h q hq
      · rw [List.mem_singleton.1 hq]
        exact places_len w s (ht s List.mem_cons_self)
    · exact ih (fun s' h' => ht s' (List.mem_cons_of_mem _ h')) (i + 1) acc h p hp
theorem docsOk_small {l : List ByteArray} (h : docsOk l = true) : ∀ s ∈ l, s.size ≤ 120 := by
  intro s hs
  rw [docsOk, Bool.and_eq_true, List.all_eq_true] at h
  have h2 := h.2 s hs
  rcases doc_cases s with ⟨_, h3⟩ | ⟨_, _, h3⟩ | ⟨h1, _, _⟩
  · rw [h3] at h2; cases h2
  · rw [h3] at h2; cases h2
  · omega
theorem postsRes_fit (l : List ByteArray) (w : ByteArray) (hl : Small l) : Fit (postsRes l w).1 := by
  refine ⟨postsRes_len l w hl, ?_⟩
  unfold postsRes
  split
  · rename_i h
    exact postsFrom_fit w l (fun s hs => by have := docsOk_small h.1 s hs; omega) 0 [] (fun p hp => by cases hp)
  · intro p hp; cases hp
end Go.Proofs.Ytcopakljdenolaa.Pure
namespace Go.Proofs.Ytcopakljdenolaa.Pure
open Go.RowKit Go.Proofs.Ytcopakljdenolaa.Fn Go.Proofs.YtcopakljdenolaaW.PrintWords Go.Proofs.YtcopakljdenolaaW.PrintLast Go.Proofs.YtcopakljdenolaaW.PrintMore
set_option linter.unusedSimpArgs false
set_option linter.unusedVariables false

theorem containsInt_ev (ys : List Int) (n : Int) (hl : ys.length ≤ 9223372036854775806) : Ev (fun k => slices_Contains_int_int.f k ys n) (decide (n ∈ ys)) := by
  have key : ∀ (t : List Int) (i : Nat), ys.drop i = t → i ≤ ys.length → ∃ r : Int, Ev (fun k => slices_Index_int_int.l0 k ys n ys.length i) r ∧ decide (r ≥ 0) = decide (n ∈ t) := by
    intro t
    induction t with
    | nil =>
      intro i h hi
      have := drop_nil h
      refine ⟨-1, ?_, by simp⟩
      (refine Ev.up ?_; simp only [slices_Index_int_int.l0, decT])
      (repeat (first | with_reducible refine Ev.bindS ?_ | (with_reducible refine Ev.ifp ?_ ?_; (· first | omega | assumption | rfl | (simp only [List.length_map, List.length_replicate, List.length_take, List.length_drop, List.length_append, List.length_cons, List.length_nil, List.length_set]; omega) | (simp; done))) | (with_reducible refine Ev.ifn ?_ ?_; (· first | omega | assumption | rfl | (simp only [List.length_map, List.length_replicate, List.length_take, List.length_drop, List.length_append, List.length_cons, List.length_nil, List.length_set]; omega) | (simp; done)))))
      exact Ev.val rfl
    | cons x t ih =>
      intro i h hi
      obtain ⟨p1, p2, p3⟩ := drop_cons h
      by_cases hx : n = x
      · refine ⟨i, ?_, by rw [hx]; simp⟩
        (refine Ev.up ?_; simp only [slices_Index_int_int.l0, decT])
        rw [rd_at p2]
        (repeat (first | with_reducible refine Ev.bindS ?_ | (with_reducible refine Ev.ifp ?_ ?_; (· first | omega | assumption | rfl | (simp only [List.length_map, List.length_replicate, List.length_take, List.length_drop, List.length_append, List.length_cons, List.length_nil, List.length_set]; omega) | (simp; done))) | (with_reducible refine Ev.ifn ?_ ?_; (· first | omega | assumption | rfl | (simp only [List.length_map, List.length_replicate, List.length_take, List.length_drop, List.length_append, List.length_cons, List.length_nil, List.length_set]; omega) | (simp; done)))))
        exact Ev.val rfl
      · obtain ⟨r, h1, h2⟩ := ih (i + 1) p3 (by omega)
        refine ⟨r, ?_, by rw [h2, decide_eq_decide]; simp [hx]⟩
        (refine Ev.up ?_; simp only [slices_Index_int_int.l0, decT])
        rw [rd_at p2, wrap_succ (by omega)]
        (repeat (first | with_reducible refine Ev.bindS ?_ | (with_reducible refine Ev.ifp ?_ ?_; (· first | omega | assumption | rfl | (simp only [List.length_map, List.length_replicate, List.length_take, List.length_drop, List.length_append, List.length_cons, List.length_nil, List.length_set]; omega) | (simp; done))) | (with_reducible refine Ev.ifn ?_ ?_; (· first | omega | assumption | rfl | (simp only [List.length_map, List.length_replicate, List.length_take, List.length_drop, List.length_append, List.length_cons, List.length_nil, List.length_set]; omega) | (simp; done)))))
        exact h1
  obtain ⟨r, h1, h2⟩ := key ys 0 rfl (by omega)
  simp only [slices_Contains_int_int.f]
  refine Ev.bind (g := fun k => slices_Index_int_int.f k ys n) h1 ?_
  exact Ev.val h2
theorem specHas_ev (ys : List Int) (n : Int) (hl : ys.length ≤ 9223372036854775806) : Ev (fun k => spec_l1Has.f k ys n) (decide (n ∈ ys)) := by
  have key : ∀ (t : List Int) (i : Nat), ys.drop i = t → i ≤ ys.length → Ev (fun k => spec_l1Has.l0 k n ys ys.length i) (decide (n ∈ t)) := by
    intro t
    induction t with
    | nil =>
      intro i h hi
      have := drop_nil h
      (refine Ev.up ?_; simp only [spec_l1Has.l0, decT])
      (repeat (first | with_reducible refine Ev.bindS ?_ | (with_reducible refine Ev.ifp ?_ ?_; (· first | omega | assumption | rfl | (simp only [List.length_map, List.length_replicate, List.length_take, List.length_drop, List.length_append, List.length_cons, List.length_nil, List.length_set]; omega) | (simp; done))) | (with_reducible refine Ev.ifn ?_ ?_; (· first | omega | assumption | rfl | (simp only [List.length_map, List.length_replicate, List.length_take, List.length_drop, List.length_append, List.length_cons, List.length_nil, List.length_set]; omega) | (simp; done)))))
      exact Ev.val (by simp)
    | cons x t ih =>
      intro i h hi
      obtain ⟨p1, p2, p3⟩ := drop_cons h
      have ih := ih (i + 1) p3 (by omega)
      (refine Ev.up ?_; simp only [spec_l1Has.l0, decT])
      rw [rd_at p2, wrap_succ (by omega)]
      by_cases hx : x = n
      · (repeat (first | with_reducible refine Ev.bindS ?_ | (with_reducible refine Ev.ifp ?_ ?_; (· first | omega | assumption | rfl | (simp only [List.length_map, List.length_replicate, List.length_take, List.length_drop, List.length_append, List.length_cons, List.length_nil, List.length_set]; omega) | (simp; done))) | (with_reducible refine Ev.ifn ?_ ?_; (· first | omega | assumption | rfl | (simp only [List.length_map, List.length_replicate, List.length_take, List.length_drop, List.length_append, List.length_cons, List.length_nil, List.length_set]; omega) | (simp; done)))))
        exact Ev.val (by rw [hx]; simp)
      · (repeat (first | with_reducible refine Ev.bindS ?_ | (with_reducible refine Ev.ifp ?_ ?_; (· first | omega | assumption | rfl | (simp only [List.length_map, List.length_replicate, List.length_take, List.length_drop, List.length_append, List.length_cons, List.length_nil, List.length_set]; omega) | (simp; done))) | (with_reducible refine Ev.ifn ?_ ?_; (· first | omega | assumption | rfl | (simp only [List.length_map, List.length_replicate, List.length_take, List.length_drop, List.length_append, List.length_cons, List.length_nil, List.length_set]; omega) | (simp; done)))))
        have e : decide (n ∈ x :: t) = decide (n ∈ t) := by rw [decide_eq_decide]; simp [Ne.symm hx]
        rw [e]
        exact ih
  exact key ys 0 rfl (by omega)
def keepBy (n : Int) (ys xs : List Int) : List Int := xs.filter fun x => decide (wrap64 (x + n) ∈ ys)
def other (d : Int) : List S57 → Option S57
  | [] => none
  | q :: t => if q.f0 = d then some q else other d t
def meetOne (n : Int) (b : List S57) (p : S57) : List S57 :=
  match other p.f0 b with
  | none => []
  | some q => if (keepBy n q.f1 p.f1).length = 0 then [] else [⟨p.f0, keepBy n q.f1 p.f1⟩]
def meetAll (n : Int) (b : List S57) (a : List S57) : List S57 := a.flatMap (meetOne n b)
theorem keepBy_len (n : Int) (ys xs : List Int) : (keepBy n ys xs).length ≤ xs.length := List.length_filter_le _ _
theorem meetOne_len (n : Int) (b : List S57) (p : S57) : (meetOne n b p).length ≤ 1 := by
  unfold meetOne
  split
  · simp
  · split <;> simp
theorem meetAll_len (n : Int) (b a : List S57) : (meetAll n b a).length ≤ a.length := by
  induction a with
  | nil => simp [meetAll]
  | cons p t ih =>
    have h1 := meetOne_len n b p
    simp only [meetAll, List.flatMap_cons, List.length_append, List.length_cons] at *
    omega
theorem meetAll_fit (n : Int) (b a : List S57) (ha : Fit a) : Fit (meetAll n b a) := by
  refine ⟨Nat.le_trans (meetAll_len n b a) ha.1, fun p hp => ?_⟩
  obtain ⟨q, hq, hp⟩ := List.mem_flatMap.1 hp
  have h1 := ha.2 q hq
  unfold meetOne at hp
  split at hp
  · cases hp
  · split at hp
    · cases hp
    · rw [List.mem_singleton.1 hp]
      exact Nat.le_trans (keepBy_len _ _ _) h1
theorem idx_other (d : Int) (b : List S57) : ∀ (t : List S57) (i : Nat), b.drop i = t → i ≤ b.length → (other d t = none ∧ idxDoc d t i = -1) ∨ ∃ (j : Nat) (q : S57), other d t = some q ∧ idxDoc d t i = (j : Int) ∧ b[j]? = some q := by
  intro t
  induction t with
  | nil => intro i h hi; exact .inl ⟨rfl, rfl⟩
  | cons x t ih =>
    intro i h hi
    obtain ⟨p1, p2, p3⟩ := drop_cons h
    by_cases hx : x.f0 = d
    · exact .inr ⟨i, x, by rw [other, if_pos hx], by rw [idxDoc, if_pos hx], p2⟩
    · rw [other, if_neg hx, idxDoc, if_neg hx]
      exact ih (i + 1) p3 (by omega)
theorem implMeet_inner (n : Int) (b out : List S57) (at_ : Nat) (q : S57) (hq : b[at_]? = some q) (a : List S57) (i : Nat) (p : S57) (hb : Fit b) (hp : p.f1.length ≤ 1048576) (ho : out.length < 4398046511104) (hi : i ≤ 9223372036854775806) (r : List S57)
    (hr : Ev (fun k => impl_meet.l0 k b n (if (keepBy n q.f1 p.f1).length = 0 then out else out ++ [⟨p.f0, keepBy n q.f1 p.f1⟩]) a a.length ((i + 1 : Nat) : Int)) r) :
    ∀ (t : List Int) (j : Nat) (acc : List Int), p.f1.drop j = t → j ≤ p.f1.length → acc.length ≤ j → acc ++ keepBy n q.f1 t = keepBy n q.f1 p.f1 →
      Ev (fun k => impl_meet.l1 k b n out at_ acc a a.length i p.f1 p.f1.length j p.f0 p.f1) r := by
  have hqb := hb.2 q (List.mem_of_getElem? hq)
  have hlt : at_ < b.length := (List.getElem?_eq_some_iff.1 hq).1
  intro t
  induction t with
  | nil =>
    intro j acc h hj ha e
    have := drop_nil h
    have e : acc = keepBy n q.f1 p.f1 := by rw [← e]; simp [keepBy]
    rw [← e] at hr
    (refine Ev.up ?_; simp only [impl_meet.l1, decT])
    rw [wrap_succ (i := i) hi]
    by_cases h0 : acc.length = 0
    · rw [if_pos h0] at hr
      (repeat (first | with_reducible refine Ev.bindS ?_ | (with_reducible refine Ev.ifp ?_ ?_; (· first | omega | assumption | rfl | (simp only [List.length_map, List.length_replicate, List.length_take, List.length_drop, List.length_append, List.length_cons, List.length_nil, List.length_set]; omega) | (simp; done))) | (with_reducible refine Ev.ifn ?_ ?_; (· first | omega | assumption | rfl | (simp only [List.length_map, List.length_replicate, List.length_take, List.length_drop, List.length_append, List.length_cons, List.length_nil, List.length_set]; omega) | (simp; done)))))
      exact hr
    · rw [if_neg h0] at hr
      (repeat (first | with_reducible refine Ev.bindS ?_ | (with_reducible refine Ev.ifp ?_ ?_; (· first | omega | assumption | rfl | (simp only [List.length_map, List.length_replicate, List.length_take, List.length_drop, List.length_append, List.length_cons, List.length_nil, List.length_set]; omega) | (simp; done))) | (with_reducible refine Ev.ifn ?_ ?_; (· first | omega | assumption | rfl | (simp only [List.length_map, List.length_replicate, List.length_take, List.length_drop, List.length_append, List.length_cons, List.length_nil, List.length_set]; omega) | (simp; done)))))
      exact hr
  | cons x t ih =>
    intro j acc h hj ha e
    obtain ⟨p1, p2, p3⟩ := drop_cons h
    (refine Ev.up ?_; simp only [impl_meet.l1, decT])
    rw [rd_at p2, rd57_at hq, wrap_succ (i := j) (by omega)]
    (repeat (first | with_reducible refine Ev.bindS ?_ | (with_reducible refine Ev.ifp ?_ ?_; (· first | omega | assumption | rfl | (simp only [List.length_map, List.length_replicate, List.length_take, List.length_drop, List.length_append, List.length_cons, List.length_nil, List.length_set]; omega) | (simp; done))) | (with_reducible refine Ev.ifn ?_ ?_; (· first | omega | assumption | rfl | (simp only [List.length_map, List.length_replicate, List.length_take, List.length_drop, List.length_append, List.length_cons, List.length_nil, List.length_set]; omega) | (simp; done)))))
    refine Ev.bind (containsInt_ev q.f1 (wrap64 (x + n)) (by omega)) ?_
    by_cases hx : wrap64 (x + n) ∈ q.f1
    · rw [decide_eq_true hx]
      (repeat (first | with_reducible refine Ev.bindS ?_ | (with_reducible refine Ev.ifp ?_ ?_; (· first | omega | assumption | rfl | (simp only [List.length_map, List.length_replicate, List.length_take, List.length_drop, List.length_append, List.length_cons, List.length_nil, List.length_set]; omega) | (simp; done))) | (with_reducible refine Ev.ifn ?_ ?_; (· first | omega | assumption | rfl | (simp only [List.length_map, List.length_replicate, List.length_take, List.length_drop, List.length_append, List.length_cons, List.length_nil, List.length_set]; omega) | (simp; done)))))
      refine ih (j + 1) (acc ++ [x]) p3 (by omega) (by simp; omega) ?_
      rw [← e, List.append_assoc]
      simp [keepBy, hx]
    · rw [decide_eq_false hx]
      (repeat (first | with_reducible refine Ev.bindS ?_ | (with_reducible refine Ev.ifp ?_ ?_; (· first | omega | assumption | rfl | (simp only [List.length_map, List.length_replicate, List.length_take, List.length_drop, List.length_append, List.length_cons, List.length_nil, List.length_set]; omega) | (simp; done))) | (with_reducible refine Ev.ifn ?_ ?_; (· first | omega | assumption | rfl | (simp only [List.length_map, List.length_replicate, List.length_take, List.length_drop, List.length_append, List.length_cons, List.length_nil, List.length_set]; omega) | (simp; done)))))
      refine ih (j + 1) acc p3 (by omega) (by omega) ?_
      rw [← e]
      simp [keepBy, hx]
theorem implMeet_ev (n : Int) (a b : List S57) (ha : Fit a) (hb : Fit b) : Ev (fun k => impl_meet.f k a b n) (meetAll n b a) := by
  have ha1 := ha.1
  have hb1 := hb.1
  have key : ∀ (t : List S57) (i : Nat) (out : List S57), a.drop i = t → i ≤ a.length → out.length ≤ i → Ev (fun k => impl_meet.l0 k b n out a a.length i) (out ++ meetAll n b t) := by
    intro t
    induction t with
    | nil =>
      intro i out h hi ho
      have := drop_nil h
      (refine Ev.up ?_; simp only [impl_meet.l0, decT])
      (repeat (first | with_reducible refine Ev.bindS ?_ | (with_reducible refine Ev.ifp ?_ ?_; (· first | omega | assumption | rfl | (simp only [List.length_map, List.length_replicate, List.length_take, List.length_drop, List.length_append, List.length_cons, List.length_nil, List.length_set]; omega) | (simp; done))) | (with_reducible refine Ev.ifn ?_ ?_; (· first | omega | assumption | rfl | (simp only [List.length_map, List.length_replicate, List.length_take, List.length_drop, List.length_append, List.length_cons, List.length_nil, List.length_set]; omega) | (simp; done)))))
      exact Ev.val (by simp [meetAll])
    | cons p t ih =>
      intro i out h hi ho
      obtain ⟨p1, p2, p3⟩ := drop_cons h
      have hp := ha.2 p (List.mem_of_getElem? p2)
      have e0 : meetAll n b (p :: t) = meetOne n b p ++ meetAll n b t := by simp [meetAll]
      rw [e0]
      (refine Ev.up ?_; simp only [impl_meet.l0, decT])
      rw [rd57_at p2, wrap_succ (i := i) (by omega)]
      (repeat (first | with_reducible refine Ev.bindS ?_ | (with_reducible refine Ev.ifp ?_ ?_; (· first | omega | assumption | rfl | (simp only [List.length_map, List.length_replicate, List.length_take, List.length_drop, List.length_append, List.length_cons, List.length_nil, List.length_set]; omega) | (simp; done))) | (with_reducible refine Ev.ifn ?_ ?_; (· first | omega | assumption | rfl | (simp only [List.length_map, List.length_replicate, List.length_take, List.length_drop, List.length_append, List.length_cons, List.length_nil, List.length_set]; omega) | (simp; done)))))
      simp only [meet_idx.f]
      (repeat (first | with_reducible refine Ev.bindS ?_ | (with_reducible refine Ev.ifp ?_ ?_; (· first | omega | assumption | rfl | (simp only [List.length_map, List.length_replicate, List.length_take, List.length_drop, List.length_append, List.length_cons, List.length_nil, List.length_set]; omega) | (simp; done))) | (with_reducible refine Ev.ifn ?_ ?_; (· first | omega | assumption | rfl | (simp only [List.length_map, List.length_replicate, List.length_take, List.length_drop, List.length_append, List.length_cons, List.length_nil, List.length_set]; omega) | (simp; done)))))
      rcases idx_other p.f0 b b 0 rfl (by omega) with ⟨e1, e2⟩ | ⟨j, q, e1, e2, e3⟩
      · rw [e2]
        (repeat (first | with_reducible refine Ev.bindS ?_ | (with_reducible refine Ev.ifp ?_ ?_; (· first | omega | assumption | rfl | (simp only [List.length_map, List.length_replicate, List.length_take, List.length_drop, List.length_append, List.length_cons, List.length_nil, List.length_set]; omega) | (simp; done))) | (with_reducible refine Ev.ifn ?_ ?_; (· first | omega | assumption | rfl | (simp only [List.length_map, List.length_replicate, List.length_take, List.length_drop, List.length_append, List.length_cons, List.length_nil, List.length_set]; omega) | (simp; done)))))
        have e4 : meetOne n b p = [] := by unfold meetOne; rw [e1]
        rw [e4, List.nil_append]
        exact ih (i + 1) out p3 (by omega) (by omega)
      · rw [e2]
        (repeat (first | with_reducible refine Ev.bindS ?_ | (with_reducible refine Ev.ifp ?_ ?_; (· first | omega | assumption | rfl | (simp only [List.length_map, List.length_replicate, List.length_take, List.length_drop, List.length_append, List.length_cons, List.length_nil, List.length_set]; omega) | (simp; done))) | (with_reducible refine Ev.ifn ?_ ?_; (· first | omega | assumption | rfl | (simp only [List.length_map, List.length_replicate, List.length_take, List.length_drop, List.length_append, List.length_cons, List.length_nil, List.length_set]; omega) | (simp; done)))))
        refine implMeet_inner n b out j q e3 a i p hb hp (by omega) (by omega) _ ?_ p.f1 0 [] rfl (by omega) (by simp) (by simp)
        have e4 : meetOne n b p = if (keepBy n q.f1 p.f1).length = 0 then [] else [⟨p.f0, keepBy n q.f1 p.f1⟩] := by unfold meetOne; rw [e1]
        rw [e4]
        by_cases h0 : (keepBy n q.f1 p.f1).length = 0
        · rw [if_pos h0, if_pos h0, List.nil_append]
          exact ih (i + 1) out p3 (by omega) (by omega)
        · rw [if_neg h0, if_neg h0, ← List.append_assoc]
          exact ih (i + 1) _ p3 (by omega) (by simp; omega)
  have h := key a 0 [] rfl (by omega) (by simp)
  simpa [impl_meet.f] using h
def Apart (b : List S57) : Prop := b.Pairwise fun x y => x.f0 ≠ y.f0
theorem other_none {d : Int} {t : List S57} (h : ∀ q ∈ t, q.f0 ≠ d) : other d t = none := by
  induction t with
  | nil => rfl
  | cons x t ih =>
    rw [other, if_neg (h x List.mem_cons_self)]
    exact ih (fun q hq => h q (List.mem_cons_of_mem _ hq))
theorem specMeet_places (n : Int) (b out : List S57) (a : List S57) (i jb : Nat) (p q : S57) (hp : p.f1.length ≤ 1048576) (hq : q.f1.length ≤ 1048576) (ho : out.length < 4398046511104) (hjb : jb ≤ 9223372036854775806) (r : List S57)
    (hr : Ev (fun k => spec_l9Meet.l1 k b n (if (keepBy n q.f1 p.f1).length = 0 then out else out ++ [⟨p.f0, keepBy n q.f1 p.f1⟩]) a a.length i b b.length ((jb + 1 : Nat) : Int) p.f0 p.f1) r) :
    ∀ (t : List Int) (j : Nat) (acc : List Int), p.f1.drop j = t → j ≤ p.f1.length → acc.length ≤ j → acc ++ keepBy n q.f1 t = keepBy n q.f1 p.f1 →
      Ev (fun k => spec_l9Meet.l2 k b n out a a.length i b b.length jb p.f1 p.f1.length j p.f0 p.f1 q.f0 q.f1 p.f0 acc) r := by
  intro t
  induction t with
  | nil =>
    intro j acc h hj ha e
    have := drop_nil h
    have e : acc = keepBy n q.f1 p.f1 := by rw [← e]; simp [keepBy]
    rw [← e] at hr
    (refine Ev.up ?_; simp only [spec_l9Meet.l2, decT])
    rw [wrap_succ (i := jb) hjb]
    by_cases h0 : acc.length = 0
    · rw [if_pos h0] at hr
      (repeat (first | with_reducible refine Ev.bindS ?_ | (with_reducible refine Ev.ifp ?_ ?_; (· first | omega | assumption | rfl | (simp only [List.length_map, List.length_replicate, List.length_take, List.length_drop, List.length_append, List.length_cons, List.length_nil, List.length_set]; omega) | (simp; done))) | (with_reducible refine Ev.ifn ?_ ?_; (· first | omega | assumption | rfl | (simp only [List.length_map, List.length_replicate, List.length_take, List.length_drop, List.length_append, List.length_cons, List.length_nil, List.length_set]; omega) | (simp; done)))))
      exact hr
    · rw [if_neg h0] at hr
      (repeat (first | with_reducible refine Ev.bindS ?_ | (with_reducible refine Ev.ifp ?_ ?_; (· first | omega | assumption | rfl | (simp only [List.length_map, List.length_replicate, List.length_take, List.length_drop, List.length_append, List.length_cons, List.length_nil, List.length_set]; omega) | (simp; done))) | (with_reducible refine Ev.ifn ?_ ?_; (· first | omega | assumption | rfl | (simp only [List.length_map, List.length_replicate, List.length_take, List.length_drop, List.length_append, List.length_cons, List.length_nil, List.length_set]; omega) | (simp; done)))))
      exact hr
  | cons x t ih =>
    intro j acc h hj ha e
    obtain ⟨p1, p2, p3⟩ := drop_cons h
    (refine Ev.up ?_; simp only [spec_l9Meet.l2, decT])
    rw [rd_at p2, wrap_succ (i := j) (by omega)]
    (repeat (first | with_reducible refine Ev.bindS ?_ | (with_reducible refine Ev.ifp ?_ ?_; (· first | omega | assumption | rfl | (simp only [List.length_map, List.length_replicate, List.length_take, List.length_drop, List.length_append, List.length_cons, List.length_nil, List.length_set]; omega) | (simp; done))) | (with_reducible refine Ev.ifn ?_ ?_; (· first | omega | assumption | rfl | (simp only [List.length_map, List.length_replicate, List.length_take, List.length_drop, List.length_append, List.length_cons, List.length_nil, List.length_set]; omega) | (simp; done)))))
    refine Ev.bind (specHas_ev q.f1 (wrap64 (x + n)) (by omega)) ?_
    by_cases hx : wrap64 (x + n) ∈ q.f1
    · rw [decide_eq_true hx]
      (repeat (first | with_reducible refine Ev.bindS ?_ | (with_reducible refine Ev.ifp ?_ ?_; (· first | omega | assumption | rfl | (simp only [List.length_map, List.length_replicate, List.length_take, List.length_drop, List.length_append, List.length_cons, List.length_nil, List.length_set]; omega) | (simp; done))) | (with_reducible refine Ev.ifn ?_ ?_; (· first | omega | assumption | rfl | (simp only [List.length_map, List.length_replicate, List.length_take, List.length_drop, List.length_append, List.length_cons, List.length_nil, List.length_set]; omega) | (simp; done)))))
      refine ih (j + 1) (acc ++ [x]) p3 (by omega) (by simp; omega) ?_
      rw [← e, List.append_assoc]
      simp [keepBy, hx]
    · rw [decide_eq_false hx]
      (repeat (first | with_reducible refine Ev.bindS ?_ | (with_reducible refine Ev.ifp ?_ ?_; (· first | omega | assumption | rfl | (simp only [List.length_map, List.length_replicate, List.length_take, List.length_drop, List.length_append, List.length_cons, List.length_nil, List.length_set]; omega) | (simp; done))) | (with_reducible refine Ev.ifn ?_ ?_; (· first | omega | assumption | rfl | (simp only [List.length_map, List.length_replicate, List.length_take, List.length_drop, List.length_append, List.length_cons, List.length_nil, List.length_set]; omega) | (simp; done)))))
      refine ih (j + 1) acc p3 (by omega) (by omega) ?_
      rw [← e]
      simp [keepBy, hx]
theorem specMeet_docs (n : Int) (b : List S57) (a : List S57) (i : Nat) (p : S57) (hb : Fit b) (hp : p.f1.length ≤ 1048576) (hi : i ≤ 9223372036854775806) (r : List S57) :
    ∀ (t : List S57) (j : Nat) (out : List S57), b.drop j = t → j ≤ b.length → Apart t → out.length + 1 < 4398046511104 → Ev (fun k => spec_l9Meet.l0 k b n (out ++ meetOne n t p) a a.length ((i + 1 : Nat) : Int)) r →
      Ev (fun k => spec_l9Meet.l1 k b n out a a.length i b b.length j p.f0 p.f1) r := by
  have hb1 := hb.1
  intro t
  induction t with
  | nil =>
    intro j out h hj hA ho hr
    have := drop_nil h
    have e : meetOne n [] p = [] := rfl
    rw [e, List.append_nil] at hr
    (refine Ev.up ?_; simp only [spec_l9Meet.l1, decT])
    rw [wrap_succ (i := i) hi]
    (repeat (first | with_reducible refine Ev.bindS ?_ | (with_reducible refine Ev.ifp ?_ ?_; (· first | omega | assumption | rfl | (simp only [List.length_map, List.length_replicate, List.length_take, List.length_drop, List.length_append, List.length_cons, List.length_nil, List.length_set]; omega) | (simp; done))) | (with_reducible refine Ev.ifn ?_ ?_; (· first | omega | assumption | rfl | (simp only [List.length_map, List.length_replicate, List.length_take, List.length_drop, List.length_append, List.length_cons, List.length_nil, List.length_set]; omega) | (simp; done)))))
    exact hr
  | cons q t ih =>
    intro j out h hj hA ho hr
    obtain ⟨p1, p2, p3⟩ := drop_cons h
    have hq := hb.2 q (List.mem_of_getElem? p2)
    obtain ⟨hA1, hA2⟩ := List.pairwise_cons.1 hA
    (refine Ev.up ?_; simp only [spec_l9Meet.l1, decT])
    rw [rd57_at p2]
    by_cases hd : p.f0 = q.f0
    · (repeat (first | with_reducible refine Ev.bindS ?_ | (with_reducible refine Ev.ifp ?_ ?_; (· first | omega | assumption | rfl | (simp only [List.length_map, List.length_replicate, List.length_take, List.length_drop, List.length_append, List.length_cons, List.length_nil, List.length_set]; omega) | (simp; done))) | (with_reducible refine Ev.ifn ?_ ?_; (· first | omega | assumption | rfl | (simp only [List.length_map, List.length_replicate, List.length_take, List.length_drop, List.length_append, List.length_cons, List.length_nil, List.length_set]; omega) | (simp; done)))))
      refine specMeet_places n b out a i j p q hp hq (by omega) (by omega) r ?_ p.f1 0 [] rfl (by omega) (by simp) (by simp)
      have e1 : meetOne n (q :: t) p = if (keepBy n q.f1 p.f1).length = 0 then [] else [⟨p.f0, keepBy n q.f1 p.f1⟩] := by
        unfold meetOne; rw [other, if_pos hd.symm]
      have e2 : ∀ o, out.length ≤ (o : List S57).length → True := fun _ _ => trivial
      have e3 : meetOne n t p = [] := by
        unfold meetOne; rw [other_none (fun x hx => by rw [hd]; exact Ne.symm (hA1 x hx))]
      rw [e1] at hr
      by_cases h0 : (keepBy n q.f1 p.f1).length = 0
      · rw [if_pos h0] at hr ⊢
        refine ih (j + 1) out p3 (by omega) hA2 ho ?_
        rw [e3]
        exact hr
      · rw [if_neg h0] at hr ⊢
        -- no further document is this one: the rest of the round does nothing
        have rest : ∀ (t' : List S57) (j' : Nat), b.drop j' = t' → j' ≤ b.length → (∀ x ∈ t', x.f0 ≠ p.f0) → Ev (fun k => spec_l9Meet.l1 k b n (out ++ [⟨p.f0, keepBy n q.f1 p.f1⟩]) a a.length i b b.length j' p.f0 p.f1) r := by
          intro t'
          induction t' with
          | nil =>
            intro j' h' hj' _
            have := drop_nil h'
            (refine Ev.up ?_; simp only [spec_l9Meet.l1, decT])
            rw [wrap_succ (i := i) hi]
            (repeat (first | with_reducible refine Ev.bindS ?_ | (with_reducible refine Ev.ifp ?_ ?_; (· first | omega | assumption | rfl | (simp only [List.length_map, List.length_replicate, List.length_take, List.length_drop, List.length_append, List.length_cons, List.length_nil, List.length_set]; omega) | (simp; done))) | (with_reducible refine Ev.ifn ?_ ?_; (· first | omega | assumption | rfl | (simp only [List.length_map, List.length_replicate, List.length_take, List.length_drop, List.length_append, List.length_cons, List.length_nil, List.length_set]; omega) | (simp; done)))))
            exact hr
          | cons z t' ih' =>
            intro j' h' hj' hz
            obtain ⟨z1, z2, z3⟩ := drop_cons h'
            have hne : ¬ p.f0 = z.f0 := fun e => hz z List.mem_cons_self e.symm
            (refine Ev.up ?_; simp only [spec_l9Meet.l1, decT])
            rw [rd57_at z2, wrap_succ (i := j') (by omega)]
            (repeat (first | with_reducible refine Ev.bindS ?_ | (with_reducible refine Ev.ifp ?_ ?_; (· first | omega | assumption | rfl | (simp only [List.length_map, List.length_replicate, List.length_take, List.length_drop, List.length_append, List.length_cons, List.length_nil, List.length_set]; omega) | (simp; done))) | (with_reducible refine Ev.ifn ?_ ?_; (· first | omega | assumption | rfl | (simp only [List.length_map, List.length_replicate, List.length_take, List.length_drop, List.length_append, List.length_cons, List.length_nil, List.length_set]; omega) | (simp; done)))))
            exact ih' (j' + 1) z3 (by omega) (fun x hx => hz x (List.mem_cons_of_mem _ hx))
        exact rest t (j + 1) p3 (by omega) (fun x hx => by rw [hd]; exact Ne.symm (hA1 x hx))
    · rw [wrap_succ (i := j) (by omega)]
      (repeat (first | with_reducible refine Ev.bindS ?_ | (with_reducible refine Ev.ifp ?_ ?_; (· first | omega | assumption | rfl | (simp only [List.length_map, List.length_replicate, List.length_take, List.length_drop, List.length_append, List.length_cons, List.length_nil, List.length_set]; omega) | (simp; done))) | (with_reducible refine Ev.ifn ?_ ?_; (· first | omega | assumption | rfl | (simp only [List.length_map, List.length_replicate, List.length_take, List.length_drop, List.length_append, List.length_cons, List.length_nil, List.length_set]; omega) | (simp; done)))))
      refine ih (j + 1) out p3 (by omega) hA2 ho ?_
      have e1 : meetOne n (q :: t) p = meetOne n t p := by unfold meetOne; rw [other, if_neg (fun e => hd e.symm)]
      rw [← e1]
      exact hr
theorem specMeet_ev (n : Int) (a b : List S57) (ha : Fit a) (hb : Fit b) (hA : Apart b) : Ev (fun k => spec_l9Meet.f k a b n) (meetAll n b a) := by
  have ha1 := ha.1
  have hb1 := hb.1
  have key : ∀ (t : List S57) (i : Nat) (out : List S57), a.drop i = t → i ≤ a.length → out.length ≤ i → Ev (fun k => spec_l9Meet.l0 k b n out a a.length i) (out ++ meetAll n b t) := by
    intro t
    induction t with
    | nil =>
      intro i out h hi ho
      have := drop_nil h
      (refine Ev.up ?_; simp only [spec_l9Meet.l0, decT])
      (repeat (first | with_reducible refine Ev.bindS ?_ | (with_reducible refine Ev.ifp ?_ ?_; (· first | omega | assumption | rfl | (simp only [List.length_map, List.length_replicate, List.length_take, List.length_drop, List.length_append, List.length_cons, List.length_nil, List.length_set]; omega) | (simp; done))) | (with_reducible refine Ev.ifn ?_ ?_; (· first | omega | assumption | rfl | (simp only [List.length_map, List.length_replicate, List.length_take, List.length_drop, List.length_append, List.length_cons, List.length_nil, List.length_set]; omega) | (simp; done)))))
      exact Ev.val (by simp [meetAll])
    | cons p t ih =>
      intro i out h hi ho
      obtain ⟨p1, p2, p3⟩ := drop_cons h
      have hp := ha.2 p (List.mem_of_getElem? p2)
      have h1 := meetOne_len n b p
      have e0 : meetAll n b (p :: t) = meetOne n b p ++ meetAll n b t := by simp [meetAll]
      rw [e0, ← List.append_assoc]
      (refine Ev.up ?_; simp only [spec_l9Meet.l0, decT])
      rw [rd57_at p2]
      (repeat (first | with_reducible refine Ev.bindS ?_ | (with_reducible refine Ev.ifp ?_ ?_; (· first | omega | assumption | rfl | (simp only [List.length_map, List.length_replicate, List.length_take, List.length_drop, List.length_append, List.length_cons, List.length_nil, List.length_set]; omega) | (simp; done))) | (with_reducible refine Ev.ifn ?_ ?_; (· first | omega | assumption | rfl | (simp only [List.length_map, List.length_replicate, List.length_take, List.length_drop, List.length_append, List.length_cons, List.length_nil, List.length_set]; omega) | (simp; done)))))
      refine specMeet_docs n b a i p hb hp (by omega) _ b 0 out rfl (by omega) hA (by omega) ?_
      exact ih (i + 1) _ p3 (by omega) (by simp; omega)
  have h := key a 0 [] rfl (by omega) (by simp)
  simpa [spec_l9Meet.f] using h
def goodB (l : List S57) : Bool := postsOk l l 0 && decide ((l.length : Int) ≤ 12)
theorem good_apart {l : List S57} (h : goodB l = true) : Apart l := by
  have h := (Bool.and_eq_true _ _ ▸ h : postsOk l l 0 = true ∧ _).1
  have key : ∀ (t : List S57) (i : Nat), l.drop i = t → postsOk l t i = true → t.Pairwise (fun x y => x.f0 < y.f0) ∧ (∀ x, 0 < i → l[i - 1]? = some x → ∀ y ∈ t, x.f0 < y.f0) := by
    intro t
    induction t with
    | nil => intro i hd h; exact ⟨List.Pairwise.nil, fun x _ _ y hy => by cases hy⟩
    | cons p t ih =>
      intro i hd h
      obtain ⟨p1, p2, p3⟩ := drop_cons hd
      simp only [postsOk, Bool.and_eq_true, Bool.or_eq_true, Bool.not_eq_true', decide_eq_true_eq, decide_eq_false_iff_not] at h
      have ht : postsOk l t (i + 1) = true := by
        first | exact h.2.2.2 | exact h.2.2.2.2 | exact h.2.2
      obtain ⟨i1, i2⟩ := ih (i + 1) p3 ht
      have hall := i2 p (by omega) (by simpa using p2)
      refine ⟨List.pairwise_cons.2 ⟨hall, i1⟩, fun x hi hx y hy => ?_⟩
      have hxp : x.f0 < p.f0 := by
        rcases h.2.1 with h0 | h0
        · omega
        · rw [rd57_at hx] at h0
          omega
      rcases List.mem_cons.1 hy with rfl | hy
      · exact hxp
      · have := hall y hy
        omega
  exact (key l 0 rfl h).1.imp (fun h e => by omega)
def meetRes (a b : List S57) (n : Int) : List S57 × Bool := if goodB a = true ∧ goodB b = true ∧ -20 ≤ n ∧ n ≤ 20 then (meetAll n b a, true) else ([], false)
theorem meetRes_fit (a b : List S57) (n : Int) (ha : Fit a) : Fit (meetRes a b n).1 := by
  unfold meetRes
  split
  · exact meetAll_fit n b a ha
  · exact ⟨by simp, fun p hp => by cases hp⟩
theorem implMeetPosts_ev (a b : List S57) (n : Int) (ha : Fit a) (hb : Fit b) : Ev (fun k => impl_MeetPosts.f k a b n) (meetRes a b n) := by
  have bad : ¬ (goodB a = true ∧ goodB b = true ∧ -20 ≤ n ∧ n ≤ 20) → Ev (fun _ : Nat => some (([], false) : List S57 × Bool)) (meetRes a b n) := fun h => by
    rw [meetRes, if_neg h]
    exact Ev.val rfl
  simp only [impl_MeetPosts.f]
  refine Ev.bind (implGood_ev a ha) ?_
  show Ev (fun k => if goodB a = true then _ else _) _
  cases h1 : goodB a with
  | false => exact Ev.ifn (by simp) (bad (fun h => by rw [h1] at h; cases h.1))
  | true =>
    refine Ev.ifp rfl (Ev.bind (implGood_ev b hb) ?_)
    show Ev (fun k => if goodB b = true then _ else _) _
    cases h2 : goodB b with
    | false => exact Ev.ifn (by simp) (bad (fun h => by rw [h2] at h; cases h.2.1))
    | true =>
      refine Ev.ifp rfl ?_
      rw [within_eq]
      by_cases h3 : -20 ≤ n ∧ n ≤ 20
      · rw [decide_eq_true h3]
        (repeat (first | with_reducible refine Ev.bindS ?_ | (with_reducible refine Ev.ifp ?_ ?_; (· first | omega | assumption | rfl | (simp only [List.length_map, List.length_replicate, List.length_take, List.length_drop, List.length_append, List.length_cons, List.length_nil, List.length_set]; omega) | (simp; done))) | (with_reducible refine Ev.ifn ?_ ?_; (· first | omega | assumption | rfl | (simp only [List.length_map, List.length_replicate, List.length_take, List.length_drop, List.length_append, List.length_cons, List.length_nil, List.length_set]; omega) | (simp; done)))))
        refine Ev.bind (implMeet_ev n a b ha hb) ?_
        rw [meetRes, if_pos ⟨h1, h2, h3⟩]
        exact Ev.val rfl
      · rw [decide_eq_false h3]
        (repeat (first | with_reducible refine Ev.bindS ?_ | (with_reducible refine Ev.ifp ?_ ?_; (· first | omega | assumption | rfl | (simp only [List.length_map, List.length_replicate, List.length_take, List.length_drop, List.length_append, List.length_cons, List.length_nil, List.length_set]; omega) | (simp; done))) | (with_reducible refine Ev.ifn ?_ ?_; (· first | omega | assumption | rfl | (simp only [List.length_map, List.length_replicate, List.length_take, List.length_drop, List.length_append, List.length_cons, List.length_nil, List.length_set]; omega) | (simp; done)))))
        exact bad (fun h => h3 h.2.2)
theorem specMeetPosts_ev (a b : List S57) (n : Int) (ha : Fit a) (hb : Fit b) : Ev (fun k => spec_MeetPosts.f k a b n) (meetRes a b n) := by
  have bad : ¬ (goodB a = true ∧ goodB b = true ∧ -20 ≤ n ∧ n ≤ 20) → Ev (fun _ : Nat => some (([], false) : List S57 × Bool)) (meetRes a b n) := fun h => by
    rw [meetRes, if_neg h]
    exact Ev.val rfl
  simp only [spec_MeetPosts.f]
  refine Ev.bind (specGood_ev a ha) ?_
  show Ev (fun k => if goodB a = true then _ else _) _
  cases h1 : goodB a with
  | false => exact Ev.ifn (by simp) (bad (fun h => by rw [h1] at h; cases h.1))
  | true =>
    refine Ev.ifp rfl (Ev.bind (specGood_ev b hb) ?_)
    show Ev (fun k => if goodB b = true then _ else _) _
    cases h2 : goodB b with
    | false => exact Ev.ifn (by simp) (bad (fun h => by rw [h2] at h; cases h.2.1))
    | true =>
      refine Ev.ifp rfl ?_
      rw [specIn_eq]
      by_cases h3 : -20 ≤ n ∧ n ≤ 20
      · rw [decide_eq_true h3]
        (repeat (first | with_reducible refine Ev.bindS ?_ | (with_reducible refine Ev.ifp ?_ ?_; (· first | omega | assumption | rfl | (simp only [List.length_map, List.length_replicate, List.length_take, List.length_drop, List.length_append, List.length_cons, List.length_nil, List.length_set]; omega) | (simp; done))) | (with_reducible refine Ev.ifn ?_ ?_; (· first | omega | assumption | rfl | (simp only [List.length_map, List.length_replicate, List.length_take, List.length_drop, List.length_append, List.length_cons, List.length_nil, List.length_set]; omega) | (simp; done)))))
        refine Ev.bind (specMeet_ev n a b ha hb (good_apart h2)) ?_
        rw [meetRes, if_pos ⟨h1, h2, h3⟩]
        exact Ev.val rfl
      · rw [decide_eq_false h3]
        (repeat (first | with_reducible refine Ev.bindS ?_ | (with_reducible refine Ev.ifp ?_ ?_; (· first | omega | assumption | rfl | (simp only [List.length_map, List.length_replicate, List.length_take, List.length_drop, List.length_append, List.length_cons, List.length_nil, List.length_set]; omega) | (simp; done))) | (with_reducible refine Ev.ifn ?_ ?_; (· first | omega | assumption | rfl | (simp only [List.length_map, List.length_replicate, List.length_take, List.length_drop, List.length_append, List.length_cons, List.length_nil, List.length_set]; omega) | (simp; done)))))
        exact bad (fun h => h3 h.2.2)
end Go.Proofs.Ytcopakljdenolaa.Pure
namespace Go.Proofs.Ytcopakljdenolaa.Pure
open Go.RowKit Go.Proofs.Ytcopakljdenolaa.Fn Go.Proofs.YtcopakljdenolaaW.PrintWords Go.Proofs.YtcopakljdenolaaW.PrintLast Go.Proofs.YtcopakljdenolaaW.PrintMore
set_option linter.unusedSimpArgs false
set_option linter.unusedVariables false

theorem FnExactMeetPosts : ∀ (l0 : List (S75)) (l1 : List (S75)) (a2 : Int), (l0.length ≤ maxLen ∧ ∀ y1 ∈ l0, ((Lit.int .i64 y1.f0).wf = true ∧ (y1.f1.length ≤ maxLen ∧ ∀ y2 ∈ y1.f1, (Lit.int .i64 y2).wf = true))) → (l1.length ≤ maxLen ∧ ∀ y3 ∈ l1, ((Lit.int .i64 y3.f0).wf = true ∧ (y3.f1.length ≤ maxLen ∧ ∀ y4 ∈ y3.f1, (Lit.int .i64 y4).wf = true))) → (Lit.int .i64 a2).wf = true → ∃ k, laws_FnExactMeetPosts.Runs k l0 l1 a2 := by
  intro l l2 n ⟨h1, h2⟩ ⟨g1, g2⟩ _
  refine Evt.now ?_
  simp only [laws_FnExactMeetPosts.Runs]
  obtain ⟨r, e, hr, hb⟩ := szPosts_ev l h1 (fun y hy => (h2 y hy).2.1) 1048576 (by omega) (by omega)
  refine Evt.ex r (Evt.and (Evt.of e) ?_)
  by_cases h : r < 0
  · exact Evt.inl (Evt.const h)
  obtain ⟨b1, b2⟩ := hb (by omega)
  refine Evt.inr ?_
  refine Evt.and (Evt.const (by omega)) ?_
  obtain ⟨r2, e2, hr2, hb2⟩ := szPosts_ev l2 g1 (fun y hy => (g2 y hy).2.1) r (by omega) (by omega)
  refine Evt.ex r2 (Evt.and (Evt.of e2) ?_)
  by_cases h' : r2 < 0
  · exact Evt.inl (Evt.const h')
  obtain ⟨b3, b4⟩ := hb2 (by omega)
  refine Evt.inr ?_
  have ht := Evt.of (toPosts_ev l (by omega) (fun y hy => by have := b2 y hy; omega))
  have ht2 := Evt.of (toPosts_ev l2 (by omega) (fun y hy => by have := b4 y hy; omega))
  have hf : Fit (l.map cv) := ⟨by rw [List.length_map]; omega, fun p hp => by
    obtain ⟨y, hy, rfl⟩ := List.mem_map.1 hp
    have := b2 y hy
    show y.f1.length ≤ _
    omega⟩
  have hf2 : Fit (l2.map cv) := ⟨by rw [List.length_map]; omega, fun p hp => by
    obtain ⟨y, hy, rfl⟩ := List.mem_map.1 hp
    have := b4 y hy
    show y.f1.length ≤ _
    omega⟩
  have hsp := Evt.of (specMeetPosts_ev (l.map cv) (l2.map cv) n hf hf2)
  have him := Evt.of (implMeetPosts_ev (l.map cv) (l2.map cv) n hf hf2)
  have hfr := meetRes_fit (l.map cv) (l2.map cv) n hf
  have heq := Evt.of (eqPosts_ev _ hfr)
  have hea := Evt.of (eqPosts_ev _ hf)
  have heb := Evt.of (eqPosts_ev _ hf2)
  have m0 := Evt.of (markPosts_ev _ hf 1 (by omega) (by omega))
  have c0 := endP_le (l.map cv) 1
  have c1 := endP_max (l.map cv) hf.2 1
  have hl1 := hf.1
  have m1 := Evt.of (markPosts_ev _ hf2 (endP (l.map cv) 1) (by omega) (by omega))
  have c2 := endP_le (l2.map cv) (endP (l.map cv) 1)
  have m2 := Evt.of (markPosts_ev _ hfr 1 (by omega) (by omega))
  have h2 := Evt.of (heldPosts_ev _ hfr 1 (by omega) (by omega))
  have c3 := endP_le (meetRes (l.map cv) (l2.map cv) n).1 1
  refine Evt.and (Evt.const (by omega)) ?_
  refine Evt.ex (l.map cv) (Evt.and ht ?_)
  refine Evt.ex (l2.map cv) (Evt.and ht2 ?_)
  refine Evt.ex (meetRes (l.map cv) (l2.map cv) n).1 (Evt.ex (meetRes (l.map cv) (l2.map cv) n).2 ?_)
  refine Evt.and hsp ?_
  refine Evt.and ht ?_
  refine Evt.and ht2 ?_
  refine Evt.and him ?_
  refine Evt.and heq ?_
  refine Evt.and ht ?_
  refine Evt.and hea ?_
  refine Evt.and ht2 ?_
  refine Evt.and heb ?_
  refine Evt.ex (endP (l.map cv) 1) (Evt.ex (markP (l.map cv) 1) ?_)
  refine Evt.and m0 ?_
  refine Evt.and (Evt.const (by omega)) ?_
  refine Evt.ex (endP (l2.map cv) (endP (l.map cv) 1)) (Evt.ex (markP (l2.map cv) (endP (l.map cv) 1)) ?_)
  refine Evt.and m1 ?_
  refine Evt.and (Evt.const (by omega)) ?_
  refine Evt.and heq ?_
  refine Evt.ex (endP (meetRes (l.map cv) (l2.map cv) n).1 1) (Evt.ex (markP (meetRes (l.map cv) (l2.map cv) n).1 1) ?_)
  refine Evt.and m2 ?_
  refine Evt.and (Evt.const (by omega)) ?_
  refine Evt.and h2 ?_
  refine Evt.and ht ?_
  refine Evt.and ht2 ?_
  refine Evt.and him ?_
  refine Evt.and heq ?_
  refine Evt.and h2 ?_
  exact Evt.const trivial
end Go.Proofs.Ytcopakljdenolaa.Pure
namespace Go.Proofs.Ytcopakljdenolaa.OpenA
open Go.RowKit Go.Deep Go.ChangeShapes Go.Joins Go.Proofs.YtcopakljdenolaaW Go.Proofs.YtcopakljdenolaaW.PrintWords

/-- What can be read as data of type t can be read as kind d, and is well formed. -/
def Op (P : Program) (t : TypeId) {α : Type} (d : Kd α) (Wf : α → Prop) : Prop :=
  ∀ {H : Type} {enc : TypeId × Value → H} {w : World} {base : Nat} {spare : Nat → Bool} {held : Bool} {fuel : Nat} {cs : List Value} {x : DataW H × List MemPlace},
    DataW.trod enc P w base spare held fuel t cs = some x → ∃ a : α, d.K w a cs ∧ Wf a

variable {P : Program} {t e : TypeId}

theorem op_int {k : IntKind} (hu : P.underlying t = some (.int k)) : Op P t (Kd.int k) (fun n => (Lit.int k n).wf = true) := by
  intro H enc w base spare held fuel cs x h
  obtain ⟨n, rfl, _, hw⟩ := DataW.trod_int hu h
  exact ⟨n, rfl, hw⟩
theorem op_bool (hu : P.underlying t = some .bool) : Op P t Kd.bool (fun _ => True) := by
  intro H enc w base spare held fuel cs x h
  obtain ⟨b, rfl, _⟩ := DataW.trod_bool hu h
  exact ⟨b, rfl, trivial⟩
theorem op_string (hu : P.underlying t = some .string) : Op P t Kd.string (fun s => s.size ≤ maxLen) := by
  intro H enc w base spare held fuel cs x h
  obtain ⟨s, rfl, _, hs⟩ := DataW.trod_string hu h
  exact ⟨s, rfl, hs⟩
theorem cells_of {w : World} {base : Nat} {a : Addr} {n : Nat} {cs : List Value} (h : w.cells? base a n = some cs) : cs.length = n ∧ ∀ j u, cs[j]? = some u → w.cell? (a.add j) = some u := by
  unfold World.cells? at h
  split at h
  · have hl := mapM_some_length h
    refine ⟨by simpa using hl, fun j u hj => ?_⟩
    have hlt : j < n := by
      have := (List.getElem?_eq_some_iff.1 hj).1
      have : cs.length = n := by simpa using hl
      omega
    have := mapM_some_get h j j (by simp [hlt])
    rw [hj] at this
    exact this
  · simp at h
theorem op_slice {α : Type} {d : Kd α} {Wf : α → Prop} (hu : P.underlying t = some (.slice e)) (hc : P.cellsOf e = d.sz) (h : Op P e d Wf) :
    Op P t (Kd.slice e d) (fun xs => xs.length ≤ maxLen ∧ ∀ x ∈ xs, Wf x) := by
  intro H enc w base spare held fuel cs x hf
  rcases open_slice hu hf with ⟨rfl, _⟩ | ⟨a, len, cap, m, n, D, Pl, rfl, _, hl, hm, hmm, hxe, hall⟩
  · exact ⟨[], ⟨none, 0, rfl, Nat.le_refl _, rfl, by simp, fun h => absurd h (by simp)⟩, by simp, by simp⟩
  · have hlm : len ≤ m := by rw [hmm]; split <;> omega
    have hx : ∀ i, i < len → ∃ y : α × List Value, w.cells? base (a.add (i * P.cellsOf e)) (P.cellsOf e) = some y.2 ∧ d.K w y.1 y.2 ∧ Wf y.1 := by
      intro i hi
      obtain ⟨cs', h1, h2⟩ := hall i (by omega)
      obtain ⟨y, h3, h4⟩ := h h2
      exact ⟨⟨y, cs'⟩, h1, h3, h4⟩
    have hx' : ∃ ys : List (α × List Value), ys.length = len ∧ ∀ i y, ys[i]? = some y → w.cells? base (a.add (i * P.cellsOf e)) (P.cellsOf e) = some y.2 ∧ d.K w y.1 y.2 ∧ Wf y.1 := by
      clear hall hf hmm hlm hl hm hxe
      induction len with
      | zero => exact ⟨[], rfl, by simp⟩
      | succ len ih =>
        obtain ⟨ys, h1, h2⟩ := ih (fun i hi => hx i (by omega))
        obtain ⟨y, hy⟩ := hx len (by omega)
        refine ⟨ys ++ [y], by simp [h1], fun i z hz => ?_⟩
        rcases Nat.lt_or_ge i ys.length with hi | hi
        · rw [List.getElem?_append_left hi] at hz
          exact h2 i z hz
        · rw [List.getElem?_append_right hi] at hz
          have h0 : i - ys.length = 0 := by
            rcases Nat.eq_zero_or_pos (i - ys.length) with h0 | h0
            · exact h0
            · rw [List.getElem?_eq_none (by simp; omega)] at hz
              cases hz
          rw [h0] at hz
          have hz' : y = z := by simpa using hz
          have : i = len := by omega
          subst this
          subst hz'
          exact hy
    obtain ⟨ys, hl2, hys⟩ := hx'
    have hlen : (ys.map (·.1)).length = len := by simp [hl2]
    refine ⟨ys.map (·.1), ⟨some a, cap, by rw [hlen], by omega, ?_⟩, by simp only [maxLen] at *; omega, ?_⟩
    · refine ⟨rfl, by rw [hlen]; simp only [maxLen] at hm; omega, fun _ => ⟨a, rfl, fun j p hj => ?_⟩⟩
      rw [List.getElem?_map] at hj
      obtain ⟨y, hy, rfl⟩ := Option.map_eq_some_iff.1 hj
      obtain ⟨h1, h2, _⟩ := hys j y hy
      obtain ⟨h3, h4⟩ := cells_of h1
      refine ⟨y.2, by rw [h3, hc], h2, fun i u hu => ?_⟩
      have := h4 i u hu
      rw [PrintWords.add_add, hc] at this
      exact this
    · intro x hx
      obtain ⟨y, hy, rfl⟩ := List.mem_map.1 hx
      obtain ⟨i, hi⟩ := List.mem_iff_getElem?.1 hy
      exact (hys i y hi).2.2

theorem len1 {l : List Value} (h : l.length = 1) : ∃ a, l = [a] := by
  match l, h with
  | [a], _ => exact ⟨a, rfl⟩
theorem len2 {l : List Value} (h : l.length = 2) : ∃ a b, l = [a, b] := by
  match l, h with
  | [a, b], _ => exact ⟨a, b, rfl⟩
theorem len3 {l : List Value} (h : l.length = 3) : ∃ a b c, l = [a, b, c] := by
  match l, h with
  | [a, b, c], _ => exact ⟨a, b, c, rfl⟩
theorem len4 {l : List Value} (h : l.length = 4) : ∃ a b c d, l = [a, b, c, d] := by
  match l, h with
  | [a, b, c, d], _ => exact ⟨a, b, c, d, rfl⟩

theorem fields_of {H : Type} {enc : TypeId × Value → H} {w : World} {base : Nat} {spare : Nat → Bool} {held : Bool} {fuel : Nat} {cs : List Value} {x : DataW H × List MemPlace} {fs : Array Field}
    (hs : P.underlying t = some (.struct fs)) (hone : oneCellFields P fs = true) (hC : P.cellsOf t = fs.size) (h : DataW.trod enc P w base spare held fuel t cs = some x) :
    cs.length = fs.size ∧ ∃ n, ∀ (i : Nat) (f : Field) (v : Value), fs[i]? = some f → cs[i]? = some v → ∃ y, DataW.trod enc P w base spare held n f.type [v] = some y := by
  obtain ⟨xs, n, _, _, hl, hx, hf⟩ := DataW.trod_struct hs h
  refine ⟨hl.trans hC, n, fun i f v hi hv => ?_⟩
  have h1 := hf i f hi
  obtain ⟨h2, h3⟩ := hone_of hone i f hi
  have hlt : i < fs.size := (Array.getElem?_eq_some_iff.1 hi).1
  have h4 : xs[i]? = some (xs[i]'(by omega)) := List.getElem?_eq_getElem (by omega)
  have h5 : (cs.drop f.offset).take (P.cellsOf f.type) = [v] := by
    rw [h2, h3]
    have hlt2 : i < cs.length := by omega
    rw [List.getElem?_eq_getElem hlt2] at hv
    injection hv with hv
    rw [List.drop_eq_getElem_cons hlt2, hv]
    simp
  rw [h5, h4] at h1
  exact ⟨_, h1⟩

theorem op_struct1 {α S : Type} {d0 : Kd α} {W0 : α → Prop} {f0 : Field} {f : S → α} (mk : α → S) (hf : ∀ a, f (mk a) = a)
    (hs : P.underlying t = some (.struct #[f0])) (hone : oneCellFields P #[f0] = true) (hC : P.cellsOf t = 1) (h0 : Op P f0.type d0 W0) :
    Op P t (Kd.iso d0 f) (fun x => W0 (f x)) := by
  intro H enc w base spare held fuel cs x h
  obtain ⟨hl, n, hF⟩ := fields_of hs hone hC h
  obtain ⟨c0, rfl⟩ := len1 hl
  obtain ⟨y0, k0⟩ := hF 0 f0 c0 rfl rfl
  obtain ⟨a0, q0, w0⟩ := h0 k0
  exact ⟨mk a0, by show d0.K w (f (mk a0)) [c0]; rw [hf]; exact q0, by show W0 (f (mk a0)); rw [hf]; exact w0⟩
theorem op_struct2 {α β S : Type} {d0 : Kd α} {d1 : Kd β} {W0 : α → Prop} {W1 : β → Prop} {f0 f1 : Field} {f : S → α × β} (mk : α → β → S) (hf : ∀ a b, f (mk a b) = (a, b))
    (hs : P.underlying t = some (.struct #[f0, f1])) (hone : oneCellFields P #[f0, f1] = true) (hC : P.cellsOf t = 2) (h0 : Op P f0.type d0 W0) (h1 : Op P f1.type d1 W1) :
    Op P t (Kd.iso (Kd.pair d0 d1) f) (fun x => W0 (f x).1 ∧ W1 (f x).2) := by
  intro H enc w base spare held fuel cs x h
  obtain ⟨hl, n, hF⟩ := fields_of hs hone hC h
  obtain ⟨c0, c1, rfl⟩ := len2 hl
  obtain ⟨y0, k0⟩ := hF 0 f0 c0 rfl rfl
  obtain ⟨y1, k1⟩ := hF 1 f1 c1 rfl rfl
  obtain ⟨a0, q0, w0⟩ := h0 k0
  obtain ⟨a1, q1, w1⟩ := h1 k1
  exact ⟨mk a0 a1, ⟨[c0], [c1], rfl, by rw [hf]; exact q0, by rw [hf]; exact q1⟩, by dsimp only; rw [hf]; exact ⟨w0, w1⟩⟩
theorem op_struct3 {α β γ S : Type} {d0 : Kd α} {d1 : Kd β} {d2 : Kd γ} {W0 : α → Prop} {W1 : β → Prop} {W2 : γ → Prop} {f0 f1 f2 : Field} {f : S → α × β × γ} (mk : α → β → γ → S) (hf : ∀ a b c, f (mk a b c) = (a, b, c))
    (hs : P.underlying t = some (.struct #[f0, f1, f2])) (hone : oneCellFields P #[f0, f1, f2] = true) (hC : P.cellsOf t = 3) (h0 : Op P f0.type d0 W0) (h1 : Op P f1.type d1 W1) (h2 : Op P f2.type d2 W2) :
    Op P t (Kd.iso (Kd.pair d0 (Kd.pair d1 d2)) f) (fun x => W0 (f x).1 ∧ W1 (f x).2.1 ∧ W2 (f x).2.2) := by
  intro H enc w base spare held fuel cs x h
  obtain ⟨hl, n, hF⟩ := fields_of hs hone hC h
  obtain ⟨c0, c1, c2, rfl⟩ := len3 hl
  obtain ⟨y0, k0⟩ := hF 0 f0 c0 rfl rfl
  obtain ⟨y1, k1⟩ := hF 1 f1 c1 rfl rfl
  obtain ⟨y2, k2⟩ := hF 2 f2 c2 rfl rfl
  obtain ⟨a0, q0, w0⟩ := h0 k0
  obtain ⟨a1, q1, w1⟩ := h1 k1
  obtain ⟨a2, q2, w2⟩ := h2 k2
  exact ⟨mk a0 a1 a2, ⟨[c0], [c1, c2], rfl, by rw [hf]; exact q0, [c1], [c2], rfl, by rw [hf]; exact q1, by rw [hf]; exact q2⟩, by dsimp only; rw [hf]; exact ⟨w0, w1, w2⟩⟩
theorem op_struct4 {α β γ δ S : Type} {d0 : Kd α} {d1 : Kd β} {d2 : Kd γ} {d3 : Kd δ} {W0 : α → Prop} {W1 : β → Prop} {W2 : γ → Prop} {W3 : δ → Prop} {f0 f1 f2 f3 : Field} {f : S → α × β × γ × δ} (mk : α → β → γ → δ → S) (hf : ∀ a b c d, f (mk a b c d) = (a, b, c, d))
    (hs : P.underlying t = some (.struct #[f0, f1, f2, f3])) (hone : oneCellFields P #[f0, f1, f2, f3] = true) (hC : P.cellsOf t = 4) (h0 : Op P f0.type d0 W0) (h1 : Op P f1.type d1 W1) (h2 : Op P f2.type d2 W2) (h3 : Op P f3.type d3 W3) :
    Op P t (Kd.iso (Kd.pair d0 (Kd.pair d1 (Kd.pair d2 d3))) f) (fun x => W0 (f x).1 ∧ W1 (f x).2.1 ∧ W2 (f x).2.2.1 ∧ W3 (f x).2.2.2) := by
  intro H enc w base spare held fuel cs x h
  obtain ⟨hl, n, hF⟩ := fields_of hs hone hC h
  obtain ⟨c0, c1, c2, c3, rfl⟩ := len4 hl
  obtain ⟨y0, k0⟩ := hF 0 f0 c0 rfl rfl
  obtain ⟨y1, k1⟩ := hF 1 f1 c1 rfl rfl
  obtain ⟨y2, k2⟩ := hF 2 f2 c2 rfl rfl
  obtain ⟨y3, k3⟩ := hF 3 f3 c3 rfl rfl
  obtain ⟨a0, q0, w0⟩ := h0 k0
  obtain ⟨a1, q1, w1⟩ := h1 k1
  obtain ⟨a2, q2, w2⟩ := h2 k2
  obtain ⟨a3, q3, w3⟩ := h3 k3
  exact ⟨mk a0 a1 a2 a3, ⟨[c0], [c1, c2, c3], rfl, by rw [hf]; exact q0, [c1], [c2, c3], rfl, by rw [hf]; exact q1, [c2], [c3], rfl, by rw [hf]; exact q2, by rw [hf]; exact q3⟩, by dsimp only; rw [hf]; exact ⟨w0, w1, w2, w3⟩⟩

/-- A struct's value, by its list of cells. -/
theorem agg_of {cs : Array Value} {l : List Value} (h : cs.toList = l) : cs = l.toArray := by
  cases cs
  simp at h
  simp [h]
end Go.Proofs.Ytcopakljdenolaa.OpenA
namespace Go.Proofs.Ytcopakljdenolaa.fnExactMeetPosts
open Go.ChangeShapes Go.WideShapes Go.ChangeAt Go.RowKit Go.Proofs.Ytcopakljdenolaa.Fn Go.Proofs.YtcopakljdenolaaW.PrintWords Go.Proofs.Ytcopakljdenolaa.OpenA
open Go.ChangeMaps (open_string shut_string)
set_option linter.unusedVariables false
theorem own : ownKnob Try.prog.godebug = none := by kernel_rfl
theorem laidOut : laidOutB Try.prog = true := by kernel_rfl
theorem op75 : OpenA.Op Try.prog 75 k75 (fun x => ((Lit.int .i64 x.f0).wf = true ∧ (x.f1.length ≤ maxLen ∧ ∀ y5 ∈ x.f1, (Lit.int .i64 y5).wf = true))) := op_struct2 (f := fun x : S75 => (x.f0, x.f1)) S75.mk (fun _ _ => rfl) Try.underlying75 (by kernel_rfl) (by kernel_rfl) (op_int Try.underlying3) (op_slice Try.underlying47 (by kernel_rfl) (op_int Try.underlying3))
set_option maxRecDepth 100000 in
theorem lifted (os : Os) (started : os.Started) (H : Type) (enc : TypeId × Value → H) :
    ReturnsInHanded {} Try.checked os 8 .any (Rows.fnExactMeetPostsSpec.pre6 enc Try.prog Try.f8 Rows.fnExactMeetPostsRow.domain false) (Rows.fnExactMeetPostsSpec.post enc Try.prog Try.f8 false true false false) := by
  refine returnsInHanded_of_change_sized (C := Try.checked) own started (by kernel_rfl) Try.func8
    (ChangeSpec.witness6 (enc := enc) (C := Try.checked) false ⟨#[], #[.slice none 0 0, .slice none 0 0, .int .i64 0], []⟩ 8 (by kernel_rfl) (by kernel_rfl) (by kernel_rfl) (by kernel_rfl)) ?_
  intro W base args ds gs before hval0 hW hcnd hsz0 _
  have hsz : (DataW.weightsEach Try.prog (Try.f8.params.toList ++ Rows.fnExactMeetPostsSpec.plain.varTypes Try.prog) (ds ++ gs)).all (· ≤ reachBytes) = true := hsz0
  have hval : ∀ (j : Nat) t v, Try.f8.params[j]? = some t → args[j]? = some v → Value.okWide Try.prog W .any base t v := hval0
  have hW' := hW
  obtain ⟨p, q, hA0, hV, rfl, hfz, hnd⟩ := hW
  have hA : DataW.TrodAll enc Try.prog W 0 (fun _ => true) true Try.f8.params.toList args.toList ds p := hA0
  rw [Try.params8] at hA hval hsz
  obtain ⟨v0, vs0, d0, ds0, p0, q0, hargs, rfl, rfl, h0, r0⟩ := trodAll_cons hA
  obtain ⟨v1, vs1, d1, ds1, p1, q1, rfl, rfl, rfl, h1, r1⟩ := trodAll_cons r0
  obtain ⟨v2, vs2, d2, ds2, p2, q2, rfl, rfl, rfl, h2, r2⟩ := trodAll_cons r1
  obtain ⟨rfl, rfl, rfl⟩ := trodAll_nil r2
  obtain rfl : args = #[v0, v1, v2] := by cases args; simp_all
  obtain ⟨rfl, rfl⟩ := trodVars_none hV
  obtain ⟨a0, len0, cap0, rfl⟩ := okWide_slice Try.underlying39 (hval 0 39 v0 rfl rfl)
  have k0 := h0
  have lt0 : ∀ x ∈ p0, x.block < W.heap.size := by obtain ⟨m, hm⟩ := k0; exact DataW.trod_lt m _ _ _ hm
  obtain ⟨fuel0, hf0⟩ := h0
  obtain ⟨l0, hK0, hw0⟩ := (op_slice Try.underlying39 (by kernel_rfl) op75) hf0
  obtain ⟨A0, c0, e0, hc0, hr0⟩ := hK0
  simp [Value.cells] at e0
  obtain ⟨rfl, rfl, rfl⟩ := e0
  obtain ⟨a1, len1, cap1, rfl⟩ := okWide_slice Try.underlying39 (hval 1 39 v1 rfl rfl)
  have k1 := h1
  have lt1 : ∀ x ∈ p1, x.block < W.heap.size := by obtain ⟨m, hm⟩ := k1; exact DataW.trod_lt m _ _ _ hm
  obtain ⟨fuel1, hf1⟩ := h1
  obtain ⟨l1, hK1, hw1⟩ := (op_slice Try.underlying39 (by kernel_rfl) op75) hf1
  obtain ⟨A1, c1, e1, hc1, hr1⟩ := hK1
  simp [Value.cells] at e1
  obtain ⟨rfl, rfl, rfl⟩ := e1
  obtain ⟨a2, rfl, rfl, rfl, w2⟩ := open_int Try.underlying3 (hval 2 3 v2 rfl rfl) h2
  clear hA0 hval0 hsz0 hsz
  obtain ⟨k, h⟩ := Pure.FnExactMeetPosts l0 l1 a2 hw0 hw1 w2
  refine (laws_FnExactMeetPosts.calls k _ _ l0 _ _ l1 a2 true W hr0 hc0 hr1 hc1 h rfl).mono fun e W' ⟨he, bel0⟩ => ?_
  have bel : Below W.heap.size W W' := bel0
  subst he
  exact ⟨_, rfl, _, _, _, [], _, [], hW', trodAll_mk1 (shut_bool Try.underlying4 _), (trodAll_cons_mk (Below.trod laidOut (by kernel_rfl) (of_decide_eq_true (by kernel_rfl)) k0 bel lt0) (trodAll_cons_mk (Below.trod laidOut (by kernel_rfl) (of_decide_eq_true (by kernel_rfl)) k1 bel lt1) (trodAll_cons_mk (shut_int Try.underlying3 w2) trodAll_mk0))), rfl, bel.frame _, fun h => by cases h⟩
theorem over : Rows.fnExactMeetPostsRow.holds Try.pinned (OpenSpec.ofChange Rows.fnExactMeetPostsSpec) :=
  OpenClaim.holds_of_wide 8 Try.f8 rfl rfl rfl rfl rfl rfl rfl ⟨rfl, rfl, rfl, rfl, rfl⟩ rfl rfl rfl rfl rfl (by kernel_rfl) Try.func8 (by kernel_rfl)
    (of_decide_eq_true (by kernel_rfl)) (by unfold Func.isWrapper; first | (rw [if_pos (by decide +kernel)]; kernel_rfl) | (rw [if_neg (by decide +kernel)]; exact ⟨rfl, rfl⟩))
    (fun os started H enc _ => lifted os started H enc)
theorem proved : Rows.FnExactMeetPostsSaid := over
#print axioms proved
end Go.Proofs.Ytcopakljdenolaa.fnExactMeetPosts
namespace Go.Proofs.Ytcopakljdenolaa
/-- The row, under a short name, for the claim. -/
theorem fnExactMeetPosts_holds : Rows.FnExactMeetPostsSaid := fnExactMeetPosts.proved
end Go.Proofs.Ytcopakljdenolaa
