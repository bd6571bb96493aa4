/- The law FnExactVocabularyOf holds of the given program: at every input it answers true and leaves its arguments as they were; no condition. -/
import Derived.Test.YtcopakljdenolaaWWords
import Derived.ChangeArms
import Derived.ChangeSame
import Derived.Deep.Slices
import Derived.Deep.Strs
import Derived.Deep.Fields
import Derived.Lib.SmallJoins
import Derived.WideShapes
import Derived.Test.YtcopakljdenolaaRows
import Derived.WalkKit
import Derived.ProofKit
import Derived.OpenShut
import Derived.ShutString
import Derived.ChangeOld
import Derived.Below
import Derived.SizedLaws
import Derived.Carry
import Derived.Test.YtcopakljdenolaaCXVocabularyOfA
import Derived.Test.YtcopakljdenolaaCXVocabularyOfB
namespace Go.Proofs.Ytcopakljdenolaa.Pure
open Go.RowKit Go.Proofs.Ytcopakljdenolaa.Fn Go.Proofs.YtcopakljdenolaaW.PrintWords Go.Proofs.YtcopakljdenolaaW.PrintLast Go.Proofs.YtcopakljdenolaaW.PrintMore
set_option linter.unusedSimpArgs false
set_option linter.unusedVariables false

/-- The words of a text and of its parts. -/
theorem wordsFrom_out (t : List Int) : ∀ (w : ByteArray) (out : List ByteArray), wordsFrom t w out = out ++ wordsFrom t w [] := by
  have hf : ∀ (w : ByteArray) (out : List ByteArray), flush w out = out ++ flush w [] := by
    intro w out
    unfold flush
    split <;> simp
  induction t with
  | nil => intro w out; simp only [wordsFrom]; exact hf w out
  | cons b t ih =>
    intro w out
    simp only [wordsFrom]
    split
    · rw [ih eS (flush w out), ih eS (flush w []), hf w out, List.append_assoc]
    · rw [ih]
theorem wordsFrom_split (b : List Int) (x : Int) (hx : letter x = 0) (a : List Int) : ∀ (w : ByteArray) (out : List ByteArray), wordsFrom (a ++ x :: b) w out = wordsFrom b eS (wordsFrom a w out) := by
  induction a with
  | nil => intro w out; simp only [List.nil_append, wordsFrom]; rw [if_pos hx]
  | cons y a ih =>
    intro w out
    simp only [List.cons_append, wordsFrom]
    split
    · exact ih _ _
    · exact ih _ _
theorem nm_ofL (l : List UInt8) : nm (ofL l) = l.map fun b => (b.toNat : Int) := by simp [nm, ofL]
theorem nm_toL (x : ByteArray) : nm x = (toL x).map fun b => (b.toNat : Int) := rfl
def joinN : List ByteArray → List Int
  | [] => []
  | [x] => nm x
  | x :: y :: t => nm x ++ 32 :: joinN (y :: t)
theorem join_nm (l : List ByteArray) : (Lib.join (l.map toL) [32]).map (fun b => (b.toNat : Int)) = joinN l := by
  cases l with
  | nil => rfl
  | cons x t =>
    rw [List.map_cons, Lib.join_cons]
    induction t generalizing x with
    | nil => simp [Lib.joinTail, joinN, nm_toL]
    | cons y t ih =>
      have h := ih y
      simp only [Lib.joinTail, List.map_cons, List.flatten_cons, List.map_append, joinN] at h ⊢
      rw [nm_toL]
      have e : ([32] ++ toL y ++ (List.map (fun x => [32] ++ x) (List.map toL t)).flatten).map (fun b : UInt8 => (b.toNat : Int)) = 32 :: joinN (y :: t) := by
        rw [List.append_assoc, List.map_append, List.map_append]
        rw [h]
        rfl
      simp only [List.map_append] at e
      rw [← e]
      simp
def allWords (l : List ByteArray) : List ByteArray := l.flatMap wordsOf
theorem joinN_words (l : List ByteArray) : wordsFrom (joinN l) eS [] = allWords l := by
  cases l with
  | nil => rfl
  | cons x t =>
    induction t generalizing x with
    | nil => simp [joinN, allWords, wordsOf]
    | cons y t ih =>
      have h := ih y
      simp only [joinN]
      rw [wordsFrom_split _ _ (by decide), wordsFrom_out, h]
      simp [allWords, wordsOf]
theorem words_joinB (l : List ByteArray) : wordsOf (joinB l) = allWords l := by
  rw [wordsOf, joinB, nm_ofL, join_nm, joinN_words]
theorem join_len (l : List ByteArray) (m : Nat) (hl : ∀ x ∈ l, x.size ≤ m) : (Lib.join (l.map toL) [32]).length ≤ (m + 1) * l.length := by
  have e : (Lib.join (l.map toL) [32]).length = (joinN l).length := by rw [← join_nm, List.length_map]
  rw [e]
  cases l with
  | nil => simp [joinN]
  | cons x t =>
    clear e
    induction t generalizing x with
    | nil =>
      have h1 := hl x List.mem_cons_self
      simp only [joinN, List.length_cons, List.length_nil]
      rw [nm_length]; omega
    | cons y t ih =>
      have h := ih y (fun z hz => hl z (List.mem_cons_of_mem _ hz))
      have h1 := hl x List.mem_cons_self
      simp only [joinN, List.length_append, List.length_cons] at h ⊢
      rw [nm_length]
      have e1 : (m + 1) * (t.length + 1 + 1) = (m + 1) * (t.length + 1) + (m + 1) * 1 := Nat.mul_add _ _ _
      rw [e1]
      omega
/-- The order of strings. -/
theorem bless_eq : ∀ (x y : List UInt8), Op.bytesLess x y = decide (x < y)
  | [], [] => by simp [Op.bytesLess]
  | _ :: _, [] => by simp [Op.bytesLess]
  | [], _ :: _ => by simp [Op.bytesLess]
  | a :: x, b :: y => by
    rw [Op.bytesLess, bless_eq x y]
    simp only [List.cons_lt_cons_iff]
    by_cases h1 : a < b <;> by_cases h2 : a = b <;> by_cases h3 : x < y <;> simp [h1, h2, h3]
def sl (x y : ByteArray) : Prop := toL x < toL y
theorem sl_iff (x y : ByteArray) : Op.bytesLess x.toList y.toList = true ↔ sl x y := by
  rw [Lib.toList_data, Lib.toList_data, bless_eq, decide_eq_true_iff]; rfl
theorem sl_irrefl (x : ByteArray) : ¬ sl x x := List.lt_irrefl _
theorem sl_trans {x y z : ByteArray} (h : sl x y) (k : sl y z) : sl x z := List.lt_trans h k
theorem toL_inj {x y : ByteArray} (h : toL x = toL y) : x = y := by rw [← ofL_toL x, ← ofL_toL y, h]
theorem sl_total (x y : ByteArray) : sl x y ∨ x = y ∨ sl y x := by
  by_cases h : toL x < toL y
  · exact .inl h
  · by_cases k : toL y < toL x
    · exact .inr (.inr k)
    · exact .inr (.inl (toL_inj (List.le_antisymm (List.not_lt.1 k) (List.not_lt.1 h))))
/-- Two rising lists of the same members are one. -/
theorem same_sorted : ∀ (a b : List ByteArray), a.Pairwise sl → b.Pairwise sl → (∀ x, x ∈ a ↔ x ∈ b) → a = b := by
  intro a
  induction a with
  | nil =>
    intro b _ _ h
    cases b with
    | nil => rfl
    | cons y b => exact absurd ((h y).2 List.mem_cons_self) (by simp)
  | cons x a ih =>
    intro b ha hb h
    cases b with
    | nil => exact absurd ((h x).1 List.mem_cons_self) (by simp)
    | cons y b =>
      obtain ⟨a1, a2⟩ := List.pairwise_cons.1 ha
      obtain ⟨b1, b2⟩ := List.pairwise_cons.1 hb
      have e : x = y := by
        rcases List.mem_cons.1 ((h x).1 List.mem_cons_self) with e | hx
        · exact e
        · rcases List.mem_cons.1 ((h y).2 List.mem_cons_self) with e | hy
          · exact e.symm
          · exact absurd (sl_trans (a1 y hy) (b1 x hx)) (sl_irrefl _)
      subst e
      rw [ih b a2 b2 (fun z => ?_)]
      constructor
      · intro hz
        rcases List.mem_cons.1 ((h z).1 (List.mem_cons_of_mem _ hz)) with e | hz'
        · rw [e] at hz; exact absurd (a1 x hz) (sl_irrefl _)
        · exact hz'
      · intro hz
        rcases List.mem_cons.1 ((h z).2 (List.mem_cons_of_mem _ hz)) with e | hz'
        · rw [e] at hz; exact absurd (b1 x hz) (sl_irrefl _)
        · exact hz'
/-- What the sort and the making single come to. -/
theorem compact_sorted (d : List (List UInt8)) (hd : d.Pairwise (fun x y => x ≤ y)) : ∀ m, m ≤ d.length →
    (Lib.compactUpTo d.toArray m).Pairwise (fun x y => x < y) ∧ (∀ x, x ∈ Lib.compactUpTo d.toArray m ↔ ∃ j, j < m ∧ d[j]? = some x) ∧ ∀ x ∈ Lib.compactUpTo d.toArray m, ∀ y, d[m - 1]? = some y → x ≤ y := by
  intro m
  induction m with
  | zero => intro _; exact ⟨List.Pairwise.nil, fun x => ⟨fun h => (by simp [Lib.compactUpTo] at h), fun ⟨j, hj, _⟩ => by omega⟩, fun x h => (by simp [Lib.compactUpTo] at h)⟩
  | succ m ih =>
    intro hm
    obtain ⟨i1, i2, i3⟩ := ih (by omega)
    have hx : d[m]? = some d[m] := List.getElem?_eq_getElem (by omega)
    have hat : d.toArray[m]! = d[m] := by rw [getElem!_pos d.toArray m (by simp; omega)]; simp
    rw [Lib.compactUpTo_succ, hat, show m + 1 - 1 = m by omega]
    have le_all : ∀ x ∈ Lib.compactUpTo d.toArray m, x ≤ d[m] := by
      intro x hx'
      obtain ⟨j, hj, e⟩ := (i2 x).1 hx'
      have hjl : j < d.length := by omega
      rw [List.getElem?_eq_getElem hjl] at e
      injection e with e
      rw [← e]
      exact List.pairwise_iff_getElem.1 hd j m hjl (by omega) hj
    by_cases hk : Lib.keeps d.toArray m = true
    · rw [if_pos hk]
      have hlt : ∀ x ∈ Lib.compactUpTo d.toArray m, x < d[m] := by
        intro x hx'
        have h0 : 0 < m := by
          obtain ⟨j, hj, _⟩ := (i2 x).1 hx'
          omega
        have hp : d[m - 1]? = some (d[m - 1]'(by omega)) := List.getElem?_eq_getElem (by omega)
        have hat2 : d.toArray[m - 1]! = d[m - 1]'(by omega) := by rw [getElem!_pos d.toArray (m - 1) (by simp; omega)]; simp
        have h1 := i3 x hx' _ hp
        have h2 : d[m - 1]'(by omega) ≤ d[m] := List.pairwise_iff_getElem.1 hd (m - 1) m (by omega) (by omega) (by omega)
        have hne : d[m] ≠ d[m - 1]'(by omega) := by
          unfold Lib.keeps at hk
          rw [decide_eq_true_iff, hat, hat2] at hk
          rcases hk with hk | hk
          · omega
          · exact hk
        rcases Decidable.em (x < d[m]) with h | h
        · exact h
        · have h3 : d[m] ≤ x := List.not_lt.1 h
          exact absurd (List.le_antisymm (List.le_trans h3 h1) h2) hne
      refine ⟨List.pairwise_append.2 ⟨i1, List.pairwise_singleton _ _, fun x hx' y hy => ?_⟩, fun x => ?_, fun x hx' y hy => ?_⟩
      · rw [List.mem_singleton.1 hy]
        exact hlt x hx'
      · rw [List.mem_append, i2, List.mem_singleton]
        constructor
        · rintro (⟨j, hj, e⟩ | e)
          · exact ⟨j, by omega, e⟩
          · exact ⟨m, by omega, by rw [e]; exact hx⟩
        · rintro ⟨j, hj, e⟩
          by_cases hjm : j < m
          · exact .inl ⟨j, hjm, e⟩
          · have : j = m := by omega
            subst this
            rw [hx] at e
            injection e with e
            exact .inr e.symm
      · rw [hx] at hy
        injection hy with hy
        subst hy
        rcases List.mem_append.1 hx' with hx' | hx'
        · exact le_all x hx'
        · rw [List.mem_singleton.1 hx']
          exact List.le_refl _
    · rw [if_neg hk, List.append_nil]
      have h0 : 0 < m := by
        rcases Nat.eq_zero_or_pos m with h0 | h0
        · subst h0
          exact absurd (by simp [Lib.keeps]) hk
        · exact h0
      have hp : d[m - 1]? = some (d[m - 1]'(by omega)) := List.getElem?_eq_getElem (by omega)
      have hat2 : d.toArray[m - 1]! = d[m - 1]'(by omega) := by rw [getElem!_pos d.toArray (m - 1) (by simp; omega)]; simp
      have heq : d[m] = d[m - 1]'(by omega) := by
        unfold Lib.keeps at hk
        rw [decide_eq_true_iff, hat, hat2] at hk
        exact Decidable.byContradiction fun h => hk (.inr h)
      refine ⟨i1, fun x => ?_, fun x hx' y hy => ?_⟩
      · rw [i2]
        constructor
        · rintro ⟨j, hj, e⟩
          exact ⟨j, by omega, e⟩
        · rintro ⟨j, hj, e⟩
          by_cases hjm : j < m
          · exact ⟨j, hjm, e⟩
          · have : j = m := by omega
            subst this
            rw [hx, heq] at e
            exact ⟨j - 1, by omega, by rw [hp]; exact e⟩
      · rw [hx] at hy
        injection hy with hy
        subst hy
        exact le_all x hx'
theorem vocab_sorted (ws : List ByteArray) : (compB (sortB ws)).Pairwise sl ∧ ∀ x, x ∈ compB (sortB ws) ↔ x ∈ ws := by
  have tr : ∀ a b c : List UInt8, decide (a ≤ b) = true → decide (b ≤ c) = true → decide (a ≤ c) = true := fun a b c h1 h2 => by simp only [decide_eq_true_eq] at *; exact List.le_trans h1 h2
  have tot : ∀ a b : List UInt8, (decide (a ≤ b) || decide (b ≤ a)) = true := fun a b => by simp only [Bool.or_eq_true, decide_eq_true_eq]; exact List.le_total a b
  have hs : ((ws.map toL).mergeSort fun x y => decide (x ≤ y)).Pairwise (fun x y => x ≤ y) := (List.pairwise_mergeSort tr tot (ws.map toL)).imp (fun h => by simpa using h)
  have em : (sortB ws).map toL = (ws.map toL).mergeSort fun x y => decide (x ≤ y) := by
    unfold sortB
    rw [List.map_map]
    conv => rhs; rw [← List.map_id ((ws.map toL).mergeSort fun x y => decide (x ≤ y))]
    exact List.map_congr_left fun x _ => toL_ofL x
  obtain ⟨h1, h2, _⟩ := compact_sorted _ hs _ (Nat.le_refl _)
  unfold compB Lib.compact
  rw [em]
  refine ⟨List.pairwise_map.2 (h1.imp (fun {a b} h => by show toL (ofL a) < toL (ofL b); rw [toL_ofL, toL_ofL]; exact h)), fun x => ?_⟩
  rw [List.mem_map]
  constructor
  · rintro ⟨l, hl, rfl⟩
    obtain ⟨j, _, e⟩ := (h2 l).1 hl
    have := List.mem_of_getElem? e
    rw [List.mem_mergeSort, List.mem_map] at this
    obtain ⟨y, hy, rfl⟩ := this
    rw [ofL_toL]
    exact hy
  · intro hx
    refine ⟨toL x, (h2 (toL x)).2 ?_, ofL_toL x⟩
    have : toL x ∈ (ws.map toL).mergeSort fun x y => decide (x ≤ y) := by
      rw [List.mem_mergeSort]
      exact List.mem_map_of_mem hx
    obtain ⟨j, hj, e⟩ := List.mem_iff_getElem.1 this
    exact ⟨j, hj, by rw [List.getElem?_eq_getElem hj, e]⟩
/-- A text put to its place, once. -/
def putU (s : ByteArray) : List ByteArray → List ByteArray
  | [] => [s]
  | x :: t => if Op.bytesLess x.toList s.toList = true then x :: putU s t else if x.toList = s.toList then x :: t else s :: x :: t
theorem putU_len (s : ByteArray) (l : List ByteArray) : (putU s l).length ≤ l.length + 1 := by
  induction l with
  | nil => simp [putU]
  | cons x t ih =>
    simp only [putU]
    split
    · simp only [List.length_cons]; omega
    · split <;> simp
theorem putU_mem (s : ByteArray) (l : List ByteArray) (y : ByteArray) : y ∈ putU s l ↔ y = s ∨ y ∈ l := by
  induction l with
  | nil => simp [putU]
  | cons x t ih =>
    simp only [putU]
    split
    · rw [List.mem_cons, List.mem_cons, ih]
      constructor
      · rintro (h | h | h)
        · exact .inr (.inl h)
        · exact .inl h
        · exact .inr (.inr h)
      · rintro (h | h | h)
        · exact .inr (.inl h)
        · exact .inl h
        · exact .inr (.inr h)
    · split
      · rename_i he
        have : x = s := toList_inj he
        subst this
        simp
      · rw [List.mem_cons]
theorem putU_sorted (s : ByteArray) (l : List ByteArray) (h : l.Pairwise sl) : (putU s l).Pairwise sl := by
  induction l with
  | nil => exact List.pairwise_singleton _ _
  | cons x t ih =>
    obtain ⟨h1, h2⟩ := List.pairwise_cons.1 h
    simp only [putU]
    split
    · rename_i hx
      refine List.pairwise_cons.2 ⟨fun y hy => ?_, ih h2⟩
      rcases (putU_mem s t y).1 hy with rfl | hy
      · exact (sl_iff _ _).1 hx
      · exact h1 y hy
    · split
      · exact h
      · rename_i hx he
        refine List.pairwise_cons.2 ⟨fun y hy => ?_, h⟩
        have hsx : sl s x := by
          rcases sl_total x s with h' | h' | h'
          · exact absurd ((sl_iff _ _).2 h') hx
          · subst h'; exact absurd rfl he
          · exact h'
        rcases List.mem_cons.1 hy with rfl | hy
        · exact hsx
        · exact sl_trans hsx (h1 y hy)
theorem insertStr_some (l : List ByteArray) (i : Nat) (s : ByteArray) (hi : i ≤ l.length) (hl : l.length ≤ 4194304) : spec_l5Insert.f l (i : Int) s = some (l.take i ++ s :: l.drop i) := by
  simp only [spec_l5Insert.f, Option.bind_some, Int.toNat_natCast, List.nil_append]
  rw [if_pos (by omega), if_pos (by omega), if_pos (by simp only [List.length_nil, List.length_take]; omega), if_pos (by simp only [List.length_take]; omega), if_pos (by simp only [List.length_append, List.length_take, List.length_drop, List.length_cons, List.length_nil]; omega)]
  simp
theorem put_ev (l : List ByteArray) (s : ByteArray) (hl : l.length ≤ 4194304) : Ev (fun k => spec_l9Put.f k l s) (putU s l) := by
  have key : ∀ (t : List ByteArray) (i : Nat), l.drop i = t → i ≤ l.length → Ev (fun k => spec_l9Put.l0 k l s i) (l.take i ++ putU s t) := by
    intro t
    induction t with
    | nil =>
      intro i h hi
      have := drop_nil h
      have e : i = l.length := by omega
      (refine Ev.up ?_; simp only [spec_l9Put.l0, decT])
      rw [insertStr_some l i s hi hl]
      (repeat (first | with_reducible refine Ev.bindS ?_ | (with_reducible refine Ev.ifp ?_ ?_; (· first | omega | assumption | rfl | (simp only [List.length_map, List.length_replicate, List.length_take, List.length_drop, List.length_append, List.length_cons, List.length_nil, List.length_set]; omega) | (simp; done))) | (with_reducible refine Ev.ifn ?_ ?_; (· first | omega | assumption | rfl | (simp only [List.length_map, List.length_replicate, List.length_take, List.length_drop, List.length_append, List.length_cons, List.length_nil, List.length_set]; omega) | (simp; done)))))
      exact Ev.val (by rw [h]; rfl)
    | cons x t ih =>
      intro i h hi
      obtain ⟨p1, p2, p3⟩ := drop_cons h
      have ih := ih (i + 1) p3 (by omega)
      by_cases h1 : Op.bytesLess x.toList s.toList = true
      · have e : putU s (x :: t) = x :: putU s t := by simp only [putU]; rw [if_pos h1]
        rw [e]
        (refine Ev.up ?_; simp only [spec_l9Put.l0, decT])
        rw [rdOf_at p2, wrap_succ (i := i) (by omega), insertStr_some l i s hi hl]
        (repeat (first | with_reducible refine Ev.bindS ?_ | (with_reducible refine Ev.ifp ?_ ?_; (· first | omega | assumption | rfl | (simp only [List.length_map, List.length_replicate, List.length_take, List.length_drop, List.length_append, List.length_cons, List.length_nil, List.length_set]; omega) | (simp; done))) | (with_reducible refine Ev.ifn ?_ ?_; (· first | omega | assumption | rfl | (simp only [List.length_map, List.length_replicate, List.length_take, List.length_drop, List.length_append, List.length_cons, List.length_nil, List.length_set]; omega) | (simp; done)))))
        rw [take_next h, List.append_assoc] at ih
        exact ih
      · by_cases h2 : x.toList = s.toList
        · have e : putU s (x :: t) = x :: t := by simp only [putU]; rw [if_neg h1, if_pos h2]
          rw [e]
          (refine Ev.up ?_; simp only [spec_l9Put.l0, decT])
          rw [rdOf_at p2, wrap_succ (i := i) (by omega), insertStr_some l i s hi hl]
          (repeat (first | with_reducible refine Ev.bindS ?_ | (with_reducible refine Ev.ifp ?_ ?_; (· first | omega | assumption | rfl | (simp only [List.length_map, List.length_replicate, List.length_take, List.length_drop, List.length_append, List.length_cons, List.length_nil, List.length_set]; omega) | (simp; done))) | (with_reducible refine Ev.ifn ?_ ?_; (· first | omega | assumption | rfl | (simp only [List.length_map, List.length_replicate, List.length_take, List.length_drop, List.length_append, List.length_cons, List.length_nil, List.length_set]; omega) | (simp; done)))))
          exact Ev.val (by rw [← h, List.take_append_drop])
        · have e : putU s (x :: t) = s :: x :: t := by simp only [putU]; rw [if_neg h1, if_neg h2]
          rw [e]
          (refine Ev.up ?_; simp only [spec_l9Put.l0, decT])
          rw [rdOf_at p2, wrap_succ (i := i) (by omega), insertStr_some l i s hi hl]
          (repeat (first | with_reducible refine Ev.bindS ?_ | (with_reducible refine Ev.ifp ?_ ?_; (· first | omega | assumption | rfl | (simp only [List.length_map, List.length_replicate, List.length_take, List.length_drop, List.length_append, List.length_cons, List.length_nil, List.length_set]; omega) | (simp; done))) | (with_reducible refine Ev.ifn ?_ ?_; (· first | omega | assumption | rfl | (simp only [List.length_map, List.length_replicate, List.length_take, List.length_drop, List.length_append, List.length_cons, List.length_nil, List.length_set]; omega) | (simp; done)))))
          exact Ev.val (by rw [h])
  exact key l 0 rfl (by omega)
def putAll (ws : List ByteArray) (acc : List ByteArray) : List ByteArray := ws.foldl (fun a w => putU w a) acc
theorem putAll_len (ws : List ByteArray) : ∀ acc, (putAll ws acc).length ≤ acc.length + ws.length := by
  induction ws with
  | nil => intro acc; simp [putAll]
  | cons w t ih =>
    intro acc
    have h1 := ih (putU w acc)
    have h2 := putU_len w acc
    simp only [putAll, List.foldl_cons, List.length_cons] at *
    omega
theorem putAll_good (ws : List ByteArray) : ∀ acc, acc.Pairwise sl → (putAll ws acc).Pairwise sl ∧ ∀ x, x ∈ putAll ws acc ↔ x ∈ acc ∨ x ∈ ws := by
  induction ws with
  | nil => intro acc h; exact ⟨h, fun x => by simp [putAll]⟩
  | cons w t ih =>
    intro acc h
    obtain ⟨h1, h2⟩ := ih (putU w acc) (putU_sorted w acc h)
    refine ⟨h1, fun x => ?_⟩
    have := h2 x
    simp only [putAll, List.foldl_cons] at this ⊢
    rw [this, putU_mem, List.mem_cons]
    constructor
    · rintro ((h | h) | h)
      · exact .inr (.inl h)
      · exact .inl h
      · exact .inr (.inr h)
    · rintro (h | h | h)
      · exact .inl (.inr h)
      · exact .inl (.inl h)
      · exact .inr h
theorem vocab_eq (ws : List ByteArray) : compB (sortB ws) = putAll ws [] := by
  obtain ⟨a1, a2⟩ := vocab_sorted ws
  obtain ⟨b1, b2⟩ := putAll_good ws [] List.Pairwise.nil
  exact same_sorted _ _ a1 b1 (fun x => by rw [a2, b2]; simp)
def vocabRes (docs : List ByteArray) : List ByteArray × Bool := if docsOk docs = true then (putAll (allWords docs) [], true) else ([], false)
theorem docs_few {docs : List ByteArray} (h : docsOk docs = true) : docs.length ≤ 12 ∧ ∀ s ∈ docs, s.size ≤ 120 ∧ (wordsOf s).length ≤ 20 := by
  rw [docsOk, Bool.and_eq_true, List.all_eq_true, decide_eq_true_iff] at h
  refine ⟨h.1, fun s hs => ?_⟩
  have h2 := h.2 s hs
  rcases doc_cases s with ⟨_, h3⟩ | ⟨_, _, h3⟩ | ⟨h1, h4, _⟩
  · rw [h3] at h2; cases h2
  · rw [h3] at h2; cases h2
  · omega
theorem allWords_len (docs : List ByteArray) (h : ∀ s ∈ docs, (wordsOf s).length ≤ 20) : (allWords docs).length ≤ 20 * docs.length := by
  induction docs with
  | nil => simp [allWords]
  | cons s t ih =>
    have h1 := h s List.mem_cons_self
    have h2 := ih (fun x hx => h x (List.mem_cons_of_mem _ hx))
    simp only [allWords, List.flatMap_cons, List.length_append, List.length_cons] at *
    omega
theorem vocabRes_len (docs : List ByteArray) : (vocabRes docs).1.length ≤ 240 := by
  unfold vocabRes
  split
  · rename_i h
    obtain ⟨h1, h2⟩ := docs_few h
    have h3 := allWords_len docs (fun s hs => (h2 s hs).2)
    have h4 := putAll_len (allWords docs) []
    simp only [List.length_nil] at h4
    show (putAll (allWords docs) []).length ≤ _
    omega
  · simp
theorem implVocab_ev (docs : List ByteArray) (hs : Small docs) : Ev (fun k => impl_VocabularyOf.f k docs) (vocabRes docs) := by
  simp only [impl_VocabularyOf.f]
  refine Ev.bind (implDocs_ev docs hs) ?_
  cases h : docsOk docs with
  | false =>
    rw [vocabRes, if_neg (by rw [h]; simp)]
    (repeat (first | with_reducible refine Ev.bindS ?_ | (with_reducible refine Ev.ifp ?_ ?_; (· first | omega | assumption | rfl | (simp only [List.length_map, List.length_replicate, List.length_take, List.length_drop, List.length_append, List.length_cons, List.length_nil, List.length_set]; omega) | (simp; done))) | (with_reducible refine Ev.ifn ?_ ?_; (· first | omega | assumption | rfl | (simp only [List.length_map, List.length_replicate, List.length_take, List.length_drop, List.length_append, List.length_cons, List.length_nil, List.length_set]; omega) | (simp; done)))))
    exact Ev.val rfl
  | true =>
    obtain ⟨h1, h2⟩ := docs_few h
    have h3 := allWords_len docs (fun s hs => (h2 s hs).2)
    have h4 := join_len docs 120 (fun s hs => (h2 s hs).1)
    have h5 : (joinB docs).size = (Lib.join (docs.map toL) [32]).length := by rw [← nm_length, joinB, nm_ofL, List.length_map]
    have hw := implWords_ev (joinB docs) (by omega)
    rw [words_joinB] at hw
    rw [vocabRes, if_pos h]
    refine Ev.ifp rfl (Ev.ifp ⟨by omega, by omega⟩ (Ev.bind hw (Ev.ifp (by omega) ?_)))
    exact Ev.val (by rw [vocab_eq])
theorem specVocab_inner (docs : List ByteArray) (i : Nat) (ws : List ByteArray) (hw : ws.length ≤ 100) (r : List ByteArray × Bool) :
    ∀ (t : List ByteArray) (j : Nat) (acc : List ByteArray), ws.drop j = t → j ≤ ws.length → acc.length + t.length ≤ 4194304 → Ev (fun k => spec_VocabularyOf.l0 k (putAll t acc) docs docs.length (wrap64 ((i : Int) + 1))) r →
      Ev (fun k => spec_VocabularyOf.l1 k acc docs docs.length i ws ws.length j) r := by
  intro t
  induction t with
  | nil =>
    intro j acc h hj ha hr
    have := drop_nil h
    (refine Ev.up ?_; simp only [spec_VocabularyOf.l1, decT])
    (repeat (first | with_reducible refine Ev.bindS ?_ | (with_reducible refine Ev.ifp ?_ ?_; (· first | omega | assumption | rfl | (simp only [List.length_map, List.length_replicate, List.length_take, List.length_drop, List.length_append, List.length_cons, List.length_nil, List.length_set]; omega) | (simp; done))) | (with_reducible refine Ev.ifn ?_ ?_; (· first | omega | assumption | rfl | (simp only [List.length_map, List.length_replicate, List.length_take, List.length_drop, List.length_append, List.length_cons, List.length_nil, List.length_set]; omega) | (simp; done)))))
    exact hr
  | cons w t ih =>
    intro j acc h hj ha hr
    obtain ⟨p1, p2, p3⟩ := drop_cons h
    simp only [List.length_cons] at ha
    have hp := putU_len w acc
    (refine Ev.up ?_; simp only [spec_VocabularyOf.l1, decT])
    rw [rdOf_at p2, wrap_succ (i := j) (by omega)]
    (repeat (first | with_reducible refine Ev.bindS ?_ | (with_reducible refine Ev.ifp ?_ ?_; (· first | omega | assumption | rfl | (simp only [List.length_map, List.length_replicate, List.length_take, List.length_drop, List.length_append, List.length_cons, List.length_nil, List.length_set]; omega) | (simp; done))) | (with_reducible refine Ev.ifn ?_ ?_; (· first | omega | assumption | rfl | (simp only [List.length_map, List.length_replicate, List.length_take, List.length_drop, List.length_append, List.length_cons, List.length_nil, List.length_set]; omega) | (simp; done)))))
    refine Ev.bind (put_ev acc w (by omega)) ?_
    exact ih (j + 1) (putU w acc) p3 (by omega) (by omega) hr
theorem specVocab_ev (docs : List ByteArray) (hs : Small docs) : Ev (fun k => spec_VocabularyOf.f k docs) (vocabRes docs) := by
  simp only [spec_VocabularyOf.f]
  refine Ev.bind (specDocs_ev docs hs) ?_
  cases h : docsOk docs with
  | false =>
    rw [vocabRes, if_neg (by rw [h]; simp)]
    (repeat (first | with_reducible refine Ev.bindS ?_ | (with_reducible refine Ev.ifp ?_ ?_; (· first | omega | assumption | rfl | (simp only [List.length_map, List.length_replicate, List.length_take, List.length_drop, List.length_append, List.length_cons, List.length_nil, List.length_set]; omega) | (simp; done))) | (with_reducible refine Ev.ifn ?_ ?_; (· first | omega | assumption | rfl | (simp only [List.length_map, List.length_replicate, List.length_take, List.length_drop, List.length_append, List.length_cons, List.length_nil, List.length_set]; omega) | (simp; done)))))
    exact Ev.val rfl
  | true =>
    obtain ⟨h1, h2⟩ := docs_few h
    rw [vocabRes, if_pos h]
    (repeat (first | with_reducible refine Ev.bindS ?_ | (with_reducible refine Ev.ifp ?_ ?_; (· first | omega | assumption | rfl | (simp only [List.length_map, List.length_replicate, List.length_take, List.length_drop, List.length_append, List.length_cons, List.length_nil, List.length_set]; omega) | (simp; done))) | (with_reducible refine Ev.ifn ?_ ?_; (· first | omega | assumption | rfl | (simp only [List.length_map, List.length_replicate, List.length_take, List.length_drop, List.length_append, List.length_cons, List.length_nil, List.length_set]; omega) | (simp; done)))))
    have key : ∀ (t : List ByteArray) (i : Nat) (acc : List ByteArray), docs.drop i = t → i ≤ docs.length → acc.length ≤ 20 * i → Ev (fun k => spec_VocabularyOf.l0 k acc docs docs.length i) (putAll (allWords t) acc, true) := by
      intro t
      induction t with
      | nil =>
        intro i acc hd hi ha
        have := drop_nil hd
        (refine Ev.up ?_; simp only [spec_VocabularyOf.l0, decT])
        (repeat (first | with_reducible refine Ev.bindS ?_ | (with_reducible refine Ev.ifp ?_ ?_; (· first | omega | assumption | rfl | (simp only [List.length_map, List.length_replicate, List.length_take, List.length_drop, List.length_append, List.length_cons, List.length_nil, List.length_set]; omega) | (simp; done))) | (with_reducible refine Ev.ifn ?_ ?_; (· first | omega | assumption | rfl | (simp only [List.length_map, List.length_replicate, List.length_take, List.length_drop, List.length_append, List.length_cons, List.length_nil, List.length_set]; omega) | (simp; done)))))
        exact Ev.val rfl
      | cons s t ih =>
        intro i acc hd hi ha
        obtain ⟨p1, p2, p3⟩ := drop_cons hd
        have hsm := List.mem_of_getElem? p2
        have hw := (h2 s hsm).2
        have hl := putAll_len (wordsOf s) acc
        have ih := ih (i + 1) (putAll (wordsOf s) acc) p3 (by omega) (by omega)
        (refine Ev.up ?_; simp only [spec_VocabularyOf.l0, decT])
        rw [rdOf_at p2]
        (repeat (first | with_reducible refine Ev.bindS ?_ | (with_reducible refine Ev.ifp ?_ ?_; (· first | omega | assumption | rfl | (simp only [List.length_map, List.length_replicate, List.length_take, List.length_drop, List.length_append, List.length_cons, List.length_nil, List.length_set]; omega) | (simp; done))) | (with_reducible refine Ev.ifn ?_ ?_; (· first | omega | assumption | rfl | (simp only [List.length_map, List.length_replicate, List.length_take, List.length_drop, List.length_append, List.length_cons, List.length_nil, List.length_set]; omega) | (simp; done)))))
        refine Ev.bind (specWords_ev s (hs.2 s hsm)) ?_
        refine specVocab_inner docs i (wordsOf s) (by omega) _ (wordsOf s) 0 acc rfl (by omega) (by omega) ?_
        rw [wrap_succ (i := i) (by omega)]
        have e : putAll (allWords (s :: t)) acc = putAll (allWords t) (putAll (wordsOf s) acc) := by
          simp [allWords, putAll, List.foldl_append]
        rw [e]
        exact ih
    exact key docs 0 [] rfl (by omega) (by simp)
end Go.Proofs.Ytcopakljdenolaa.Pure
namespace Go.Proofs.Ytcopakljdenolaa.Pure
open Go.RowKit Go.Proofs.Ytcopakljdenolaa.Fn Go.Proofs.YtcopakljdenolaaW.PrintWords Go.Proofs.YtcopakljdenolaaW.PrintLast Go.Proofs.YtcopakljdenolaaW.PrintMore
set_option linter.unusedSimpArgs false
set_option linter.unusedVariables false

theorem FnExactVocabularyOf : ∀ (l0 : List ByteArray), (l0.length ≤ maxLen ∧ ∀ y1 ∈ l0, y1.size ≤ maxLen) → ∃ k, laws_FnExactVocabularyOf.f k l0 = some true := by
  intro l ⟨h1, h2⟩
  refine Ev.some (g := fun k => laws_FnExactVocabularyOf.f k l) ?_
  simp only [laws_FnExactVocabularyOf.f]
  obtain ⟨r, e, hr, hbd⟩ := szStrs_ev l h1 h2 1048576 (by omega) (by omega)
  refine Ev.bind e ?_
  by_cases h : r < 0
  · (repeat (first | with_reducible refine Ev.bindS ?_ | (with_reducible refine Ev.ifp ?_ ?_; (· first | omega | assumption | rfl | (simp only [List.length_map, List.length_replicate, List.length_take, List.length_drop, List.length_append, List.length_cons, List.length_nil, List.length_set]; omega) | (simp; done))) | (with_reducible refine Ev.ifn ?_ ?_; (· first | omega | assumption | rfl | (simp only [List.length_map, List.length_replicate, List.length_take, List.length_drop, List.length_append, List.length_cons, List.length_nil, List.length_set]; omega) | (simp; done))))); exact Ev.val rfl
  · obtain ⟨b1, b2⟩ := hbd (by omega)
    have hs : Small l := ⟨by omega, fun y hy => by have := b2 y hy; omega⟩
    have ht := toStrs_ev l (by omega)
    have hsp := specVocab_ev l hs
    have him := implVocab_ev l hs
    have hlen := vocabRes_len l
    have heq := eqStrs_ev (vocabRes l).1 (by omega)
    obtain ⟨l', m1, m2, m3⟩ := markStrs_ev l (by omega) 1 (by omega) (by omega)
    obtain ⟨g', n1, n2, n3⟩ := markStrs_ev (vocabRes l).1 (by omega) 1 (by omega) (by omega)
    (repeat (first | with_reducible refine Ev.bindS ?_ | (with_reducible refine Ev.ifp ?_ ?_; (· first | omega | assumption | rfl | (simp only [List.length_map, List.length_replicate, List.length_take, List.length_drop, List.length_append, List.length_cons, List.length_nil, List.length_set]; omega) | (simp; done))) | (with_reducible refine Ev.ifn ?_ ?_; (· first | omega | assumption | rfl | (simp only [List.length_map, List.length_replicate, List.length_take, List.length_drop, List.length_append, List.length_cons, List.length_nil, List.length_set]; omega) | (simp; done)))))
    refine Ev.bind ht (Ev.bind hsp (Ev.bind ht (Ev.bind him (Ev.bind heq ?_))))
    simp only [bne_self_eq_false]
    (repeat (first | with_reducible refine Ev.bindS ?_ | (with_reducible refine Ev.ifp ?_ ?_; (· first | omega | assumption | rfl | (simp only [List.length_map, List.length_replicate, List.length_take, List.length_drop, List.length_append, List.length_cons, List.length_nil, List.length_set]; omega) | (simp; done))) | (with_reducible refine Ev.ifn ?_ ?_; (· first | omega | assumption | rfl | (simp only [List.length_map, List.length_replicate, List.length_take, List.length_drop, List.length_append, List.length_cons, List.length_nil, List.length_set]; omega) | (simp; done)))))
    (refine Ev.up ?_; simp only [laws_FnExactVocabularyOf.j0, decT])
    (repeat (first | with_reducible refine Ev.bindS ?_ | (with_reducible refine Ev.ifp ?_ ?_; (· first | omega | assumption | rfl | (simp only [List.length_map, List.length_replicate, List.length_take, List.length_drop, List.length_append, List.length_cons, List.length_nil, List.length_set]; omega) | (simp; done))) | (with_reducible refine Ev.ifn ?_ ?_; (· first | omega | assumption | rfl | (simp only [List.length_map, List.length_replicate, List.length_take, List.length_drop, List.length_append, List.length_cons, List.length_nil, List.length_set]; omega) | (simp; done)))))
    refine Ev.bind ht (Ev.bind (eqStrs_ev l (by omega)) ?_)
    (repeat (first | with_reducible refine Ev.bindS ?_ | (with_reducible refine Ev.ifp ?_ ?_; (· first | omega | assumption | rfl | (simp only [List.length_map, List.length_replicate, List.length_take, List.length_drop, List.length_append, List.length_cons, List.length_nil, List.length_set]; omega) | (simp; done))) | (with_reducible refine Ev.ifn ?_ ?_; (· first | omega | assumption | rfl | (simp only [List.length_map, List.length_replicate, List.length_take, List.length_drop, List.length_append, List.length_cons, List.length_nil, List.length_set]; omega) | (simp; done)))))
    refine Ev.bind m2 ?_
    (repeat (first | with_reducible refine Ev.bindS ?_ | (with_reducible refine Ev.ifp ?_ ?_; (· first | omega | assumption | rfl | (simp only [List.length_map, List.length_replicate, List.length_take, List.length_drop, List.length_append, List.length_cons, List.length_nil, List.length_set]; omega) | (simp; done))) | (with_reducible refine Ev.ifn ?_ ?_; (· first | omega | assumption | rfl | (simp only [List.length_map, List.length_replicate, List.length_take, List.length_drop, List.length_append, List.length_cons, List.length_nil, List.length_set]; omega) | (simp; done)))))
    refine Ev.bind heq ?_
    simp only [bne_self_eq_false]
    (repeat (first | with_reducible refine Ev.bindS ?_ | (with_reducible refine Ev.ifp ?_ ?_; (· first | omega | assumption | rfl | (simp only [List.length_map, List.length_replicate, List.length_take, List.length_drop, List.length_append, List.length_cons, List.length_nil, List.length_set]; omega) | (simp; done))) | (with_reducible refine Ev.ifn ?_ ?_; (· first | omega | assumption | rfl | (simp only [List.length_map, List.length_replicate, List.length_take, List.length_drop, List.length_append, List.length_cons, List.length_nil, List.length_set]; omega) | (simp; done)))))
    (refine Ev.up ?_; simp only [laws_FnExactVocabularyOf.j1, decT])
    (repeat (first | with_reducible refine Ev.bindS ?_ | (with_reducible refine Ev.ifp ?_ ?_; (· first | omega | assumption | rfl | (simp only [List.length_map, List.length_replicate, List.length_take, List.length_drop, List.length_append, List.length_cons, List.length_nil, List.length_set]; omega) | (simp; done))) | (with_reducible refine Ev.ifn ?_ ?_; (· first | omega | assumption | rfl | (simp only [List.length_map, List.length_replicate, List.length_take, List.length_drop, List.length_append, List.length_cons, List.length_nil, List.length_set]; omega) | (simp; done)))))
    refine Ev.bind n2 (Ev.bind n3 ?_)
    (repeat (first | with_reducible refine Ev.bindS ?_ | (with_reducible refine Ev.ifp ?_ ?_; (· first | omega | assumption | rfl | (simp only [List.length_map, List.length_replicate, List.length_take, List.length_drop, List.length_append, List.length_cons, List.length_nil, List.length_set]; omega) | (simp; done))) | (with_reducible refine Ev.ifn ?_ ?_; (· first | omega | assumption | rfl | (simp only [List.length_map, List.length_replicate, List.length_take, List.length_drop, List.length_append, List.length_cons, List.length_nil, List.length_set]; omega) | (simp; done)))))
    refine Ev.bind ht (Ev.bind him (Ev.bind heq ?_))
    simp only [bne_self_eq_false]
    (repeat (first | with_reducible refine Ev.bindS ?_ | (with_reducible refine Ev.ifp ?_ ?_; (· first | omega | assumption | rfl | (simp only [List.length_map, List.length_replicate, List.length_take, List.length_drop, List.length_append, List.length_cons, List.length_nil, List.length_set]; omega) | (simp; done))) | (with_reducible refine Ev.ifn ?_ ?_; (· first | omega | assumption | rfl | (simp only [List.length_map, List.length_replicate, List.length_take, List.length_drop, List.length_append, List.length_cons, List.length_nil, List.length_set]; omega) | (simp; done)))))
    (refine Ev.up ?_; simp only [laws_FnExactVocabularyOf.j2, decT])
    (repeat (first | with_reducible refine Ev.bindS ?_ | (with_reducible refine Ev.ifp ?_ ?_; (· first | omega | assumption | rfl | (simp only [List.length_map, List.length_replicate, List.length_take, List.length_drop, List.length_append, List.length_cons, List.length_nil, List.length_set]; omega) | (simp; done))) | (with_reducible refine Ev.ifn ?_ ?_; (· first | omega | assumption | rfl | (simp only [List.length_map, List.length_replicate, List.length_take, List.length_drop, List.length_append, List.length_cons, List.length_nil, List.length_set]; omega) | (simp; done)))))
    refine Ev.bind n3 ?_
    (repeat (first | with_reducible refine Ev.bindS ?_ | (with_reducible refine Ev.ifp ?_ ?_; (· first | omega | assumption | rfl | (simp only [List.length_map, List.length_replicate, List.length_take, List.length_drop, List.length_append, List.length_cons, List.length_nil, List.length_set]; omega) | (simp; done))) | (with_reducible refine Ev.ifn ?_ ?_; (· first | omega | assumption | rfl | (simp only [List.length_map, List.length_replicate, List.length_take, List.length_drop, List.length_append, List.length_cons, List.length_nil, List.length_set]; omega) | (simp; done)))))
    exact Ev.val rfl
end Go.Proofs.Ytcopakljdenolaa.Pure
namespace Go.Proofs.Ytcopakljdenolaa.OpenA
open Go.RowKit Go.Deep Go.ChangeShapes Go.Joins Go.Proofs.YtcopakljdenolaaW Go.Proofs.YtcopakljdenolaaW.PrintWords

/-- What can be read as data of type t can be read as kind d, and is well formed. -/
def Op (P : Program) (t : TypeId) {α : Type} (d : Kd α) (Wf : α → Prop) : Prop :=
  ∀ {H : Type} {enc : TypeId × Value → H} {w : World} {base : Nat} {spare : Nat → Bool} {held : Bool} {fuel : Nat} {cs : List Value} {x : DataW H × List MemPlace},
    DataW.trod enc P w base spare held fuel t cs = some x → ∃ a : α, d.K w a cs ∧ Wf a

variable {P : Program} {t e : TypeId}

theorem op_int {k : IntKind} (hu : P.underlying t = some (.int k)) : Op P t (Kd.int k) (fun n => (Lit.int k n).wf = true) := by
  intro H enc w base spare held fuel cs x h
  obtain ⟨n, rfl, _, hw⟩ := DataW.trod_int hu h
  exact ⟨n, rfl, hw⟩
theorem op_bool (hu : P.underlying t = some .bool) : Op P t Kd.bool (fun _ => True) := by
  intro H enc w base spare held fuel cs x h
  obtain ⟨b, rfl, _⟩ := DataW.trod_bool hu h
  exact ⟨b, rfl, trivial⟩
theorem op_string (hu : P.underlying t = some .string) : Op P t Kd.string (fun s => s.size ≤ maxLen) := by
  intro H enc w base spare held fuel cs x h
  obtain ⟨s, rfl, _, hs⟩ := DataW.trod_string hu h
  exact ⟨s, rfl, hs⟩
theorem cells_of {w : World} {base : Nat} {a : Addr} {n : Nat} {cs : List Value} (h : w.cells? base a n = some cs) : cs.length = n ∧ ∀ j u, cs[j]? = some u → w.cell? (a.add j) = some u := by
  unfold World.cells? at h
  split at h
  · have hl := mapM_some_length h
    refine ⟨by simpa using hl, fun j u hj => ?_⟩
    have hlt : j < n := by
      have := (List.getElem?_eq_some_iff.1 hj).1
      have : cs.length = n := by simpa using hl
      omega
    have := mapM_some_get h j j (by simp [hlt])
    rw [hj] at this
    exact this
  · simp at h
theorem op_slice {α : Type} {d : Kd α} {Wf : α → Prop} (hu : P.underlying t = some (.slice e)) (hc : P.cellsOf e = d.sz) (h : Op P e d Wf) :
    Op P t (Kd.slice e d) (fun xs => xs.length ≤ maxLen ∧ ∀ x ∈ xs, Wf x) := by
  intro H enc w base spare held fuel cs x hf
  rcases open_slice hu hf with ⟨rfl, _⟩ | ⟨a, len, cap, m, n, D, Pl, rfl, _, hl, hm, hmm, hxe, hall⟩
  · exact ⟨[], ⟨none, 0, rfl, Nat.le_refl _, rfl, by simp, fun h => absurd h (by simp)⟩, by simp, by simp⟩
  · have hlm : len ≤ m := by rw [hmm]; split <;> omega
    have hx : ∀ i, i < len → ∃ y : α × List Value, w.cells? base (a.add (i * P.cellsOf e)) (P.cellsOf e) = some y.2 ∧ d.K w y.1 y.2 ∧ Wf y.1 := by
      intro i hi
      obtain ⟨cs', h1, h2⟩ := hall i (by omega)
      obtain ⟨y, h3, h4⟩ := h h2
      exact ⟨⟨y, cs'⟩, h1, h3, h4⟩
    have hx' : ∃ ys : List (α × List Value), ys.length = len ∧ ∀ i y, ys[i]? = some y → w.cells? base (a.add (i * P.cellsOf e)) (P.cellsOf e) = some y.2 ∧ d.K w y.1 y.2 ∧ Wf y.1 := by
      clear hall hf hmm hlm hl hm hxe
      induction len with
      | zero => exact ⟨[], rfl, by simp⟩
      | succ len ih =>
        obtain ⟨ys, h1, h2⟩ := ih (fun i hi => hx i (by omega))
        obtain ⟨y, hy⟩ := hx len (by omega)
        refine ⟨ys ++ [y], by simp [h1], fun i z hz => ?_⟩
        rcases Nat.lt_or_ge i ys.length with hi | hi
        · rw [List.getElem?_append_left hi] at hz
          exact h2 i z hz
        · rw [List.getElem?_append_right hi] at hz
          have h0 : i - ys.length = 0 := by
            rcases Nat.eq_zero_or_pos (i - ys.length) with h0 | h0
            · exact h0
            · rw [List.getElem?_eq_none (by simp; omega)] at hz
              cases hz
          rw [h0] at hz
          have hz' : y = z := by simpa using hz
          have : i = len := by omega
          subst this
          subst hz'
          exact hy
    obtain ⟨ys, hl2, hys⟩ := hx'
    have hlen : (ys.map (·.1)).length = len := by simp [hl2]
    refine ⟨ys.map (·.1), ⟨some a, cap, by rw [hlen], by omega, ?_⟩, by simp only [maxLen] at *; omega, ?_⟩
    · refine ⟨rfl, by rw [hlen]; simp only [maxLen] at hm; omega, fun _ => ⟨a, rfl, fun j p hj => ?_⟩⟩
      rw [List.getElem?_map] at hj
      obtain ⟨y, hy, rfl⟩ := Option.map_eq_some_iff.1 hj
      obtain ⟨h1, h2, _⟩ := hys j y hy
      obtain ⟨h3, h4⟩ := cells_of h1
      refine ⟨y.2, by rw [h3, hc], h2, fun i u hu => ?_⟩
      have := h4 i u hu
      rw [PrintWords.add_add, hc] at this
      exact this
    · intro x hx
      obtain ⟨y, hy, rfl⟩ := List.mem_map.1 hx
      obtain ⟨i, hi⟩ := List.mem_iff_getElem?.1 hy
      exact (hys i y hi).2.2

theorem len1 {l : List Value} (h : l.length = 1) : ∃ a, l = [a] := by
  match l, h with
  | [a], _ => exact ⟨a, rfl⟩
theorem len2 {l : List Value} (h : l.length = 2) : ∃ a b, l = [a, b] := by
  match l, h with
  | [a, b], _ => exact ⟨a, b, rfl⟩
theorem len3 {l : List Value} (h : l.length = 3) : ∃ a b c, l = [a, b, c] := by
  match l, h with
  | [a, b, c], _ => exact ⟨a, b, c, rfl⟩
theorem len4 {l : List Value} (h : l.length = 4) : ∃ a b c d, l = [a, b, c, d] := by
  match l, h with
  | [a, b, c, d], _ => exact ⟨a, b, c, d, rfl⟩

theorem fields_of {H : Type} {enc : TypeId × Value → H} {w : World} {base : Nat} {spare : Nat → Bool} {held : Bool} {fuel : Nat} {cs : List Value} {x : DataW H × List MemPlace} {fs : Array Field}
    (hs : P.underlying t = some (.struct fs)) (hone : oneCellFields P fs = true) (hC : P.cellsOf t = fs.size) (h : DataW.trod enc P w base spare held fuel t cs = some x) :
    cs.length = fs.size ∧ ∃ n, ∀ (i : Nat) (f : Field) (v : Value), fs[i]? = some f → cs[i]? = some v → ∃ y, DataW.trod enc P w base spare held n f.type [v] = some y := by
  obtain ⟨xs, n, _, _, hl, hx, hf⟩ := DataW.trod_struct hs h
  refine ⟨hl.trans hC, n, fun i f v hi hv => ?_⟩
  have h1 := hf i f hi
  obtain ⟨h2, h3⟩ := hone_of hone i f hi
  have hlt : i < fs.size := (Array.getElem?_eq_some_iff.1 hi).1
  have h4 : xs[i]? = some (xs[i]'(by omega)) := List.getElem?_eq_getElem (by omega)
  have h5 : (cs.drop f.offset).take (P.cellsOf f.type) = [v] := by
    rw [h2, h3]
    have hlt2 : i < cs.length := by omega
    rw [List.getElem?_eq_getElem hlt2] at hv
    injection hv with hv
    rw [List.drop_eq_getElem_cons hlt2, hv]
    simp
  rw [h5, h4] at h1
  exact ⟨_, h1⟩

theorem op_struct1 {α S : Type} {d0 : Kd α} {W0 : α → Prop} {f0 : Field} {f : S → α} (mk : α → S) (hf : ∀ a, f (mk a) = a)
    (hs : P.underlying t = some (.struct #[f0])) (hone : oneCellFields P #[f0] = true) (hC : P.cellsOf t = 1) (h0 : Op P f0.type d0 W0) :
    Op P t (Kd.iso d0 f) (fun x => W0 (f x)) := by
  intro H enc w base spare held fuel cs x h
  obtain ⟨hl, n, hF⟩ := fields_of hs hone hC h
  obtain ⟨c0, rfl⟩ := len1 hl
  obtain ⟨y0, k0⟩ := hF 0 f0 c0 rfl rfl
  obtain ⟨a0, q0, w0⟩ := h0 k0
  exact ⟨mk a0, by show d0.K w (f (mk a0)) [c0]; rw [hf]; exact q0, by show W0 (f (mk a0)); rw [hf]; exact w0⟩
theorem op_struct2 {α β S : Type} {d0 : Kd α} {d1 : Kd β} {W0 : α → Prop} {W1 : β → Prop} {f0 f1 : Field} {f : S → α × β} (mk : α → β → S) (hf : ∀ a b, f (mk a b) = (a, b))
    (hs : P.underlying t = some (.struct #[f0, f1])) (hone : oneCellFields P #[f0, f1] = true) (hC : P.cellsOf t = 2) (h0 : Op P f0.type d0 W0) (h1 : Op P f1.type d1 W1) :
    Op P t (Kd.iso (Kd.pair d0 d1) f) (fun x => W0 (f x).1 ∧ W1 (f x).2) := by
  intro H enc w base spare held fuel cs x h
  obtain ⟨hl, n, hF⟩ := fields_of hs hone hC h
  obtain ⟨c0, c1, rfl⟩ := len2 hl
  obtain ⟨y0, k0⟩ := hF 0 f0 c0 rfl rfl
  obtain ⟨y1, k1⟩ := hF 1 f1 c1 rfl rfl
  obtain ⟨a0, q0, w0⟩ := h0 k0
  obtain ⟨a1, q1, w1⟩ := h1 k1
  exact ⟨mk a0 a1, ⟨[c0], [c1], rfl, by rw [hf]; exact q0, by rw [hf]; exact q1⟩, by dsimp only; rw [hf]; exact ⟨w0, w1⟩⟩
theorem op_struct3 {α β γ S : Type} {d0 : Kd α} {d1 : Kd β} {d2 : Kd γ} {W0 : α → Prop} {W1 : β → Prop} {W2 : γ → Prop} {f0 f1 f2 : Field} {f : S → α × β × γ} (mk : α → β → γ → S) (hf : ∀ a b c, f (mk a b c) = (a, b, c))
    (hs : P.underlying t = some (.struct #[f0, f1, f2])) (hone : oneCellFields P #[f0, f1, f2] = true) (hC : P.cellsOf t = 3) (h0 : Op P f0.type d0 W0) (h1 : Op P f1.type d1 W1) (h2 : Op P f2.type d2 W2) :
    Op P t (Kd.iso (Kd.pair d0 (Kd.pair d1 d2)) f) (fun x => W0 (f x).1 ∧ W1 (f x).2.1 ∧ W2 (f x).2.2) := by
  intro H enc w base spare held fuel cs x h
  obtain ⟨hl, n, hF⟩ := fields_of hs hone hC h
  obtain ⟨c0, c1, c2, rfl⟩ := len3 hl
  obtain ⟨y0, k0⟩ := hF 0 f0 c0 rfl rfl
  obtain ⟨y1, k1⟩ := hF 1 f1 c1 rfl rfl
  obtain ⟨y2, k2⟩ := hF 2 f2 c2 rfl rfl
  obtain ⟨a0, q0, w0⟩ := h0 k0
  obtain ⟨a1, q1, w1⟩ := h1 k1
  obtain ⟨a2, q2, w2⟩ := h2 k2
  exact ⟨mk a0 a1 a2, ⟨[c0], [c1, c2], rfl, by rw [hf]; exact q0, [c1], [c2], rfl, by rw [hf]; exact q1, by rw [hf]; exact q2⟩, by dsimp only; rw [hf]; exact ⟨w0, w1, w2⟩⟩
theorem op_struct4 {α β γ δ S : Type} {d0 : Kd α} {d1 : Kd β} {d2 : Kd γ} {d3 : Kd δ} {W0 : α → Prop} {W1 : β → Prop} {W2 : γ → Prop} {W3 : δ → Prop} {f0 f1 f2 f3 : Field} {f : S → α × β × γ × δ} (mk : α → β → γ → δ → S) (hf : ∀ a b c d, f (mk a b c d) = (a, b, c, d))
    (hs : P.underlying t = some (.struct #[f0, f1, f2, f3])) (hone : oneCellFields P #[f0, f1, f2, f3] = true) (hC : P.cellsOf t = 4) (h0 : Op P f0.type d0 W0) (h1 : Op P f1.type d1 W1) (h2 : Op P f2.type d2 W2) (h3 : Op P f3.type d3 W3) :
    Op P t (Kd.iso (Kd.pair d0 (Kd.pair d1 (Kd.pair d2 d3))) f) (fun x => W0 (f x).1 ∧ W1 (f x).2.1 ∧ W2 (f x).2.2.1 ∧ W3 (f x).2.2.2) := by
  intro H enc w base spare held fuel cs x h
  obtain ⟨hl, n, hF⟩ := fields_of hs hone hC h
  obtain ⟨c0, c1, c2, c3, rfl⟩ := len4 hl
  obtain ⟨y0, k0⟩ := hF 0 f0 c0 rfl rfl
  obtain ⟨y1, k1⟩ := hF 1 f1 c1 rfl rfl
  obtain ⟨y2, k2⟩ := hF 2 f2 c2 rfl rfl
  obtain ⟨y3, k3⟩ := hF 3 f3 c3 rfl rfl
  obtain ⟨a0, q0, w0⟩ := h0 k0
  obtain ⟨a1, q1, w1⟩ := h1 k1
  obtain ⟨a2, q2, w2⟩ := h2 k2
  obtain ⟨a3, q3, w3⟩ := h3 k3
  exact ⟨mk a0 a1 a2 a3, ⟨[c0], [c1, c2, c3], rfl, by rw [hf]; exact q0, [c1], [c2, c3], rfl, by rw [hf]; exact q1, [c2], [c3], rfl, by rw [hf]; exact q2, by rw [hf]; exact q3⟩, by dsimp only; rw [hf]; exact ⟨w0, w1, w2, w3⟩⟩

/-- A struct's value, by its list of cells. -/
theorem agg_of {cs : Array Value} {l : List Value} (h : cs.toList = l) : cs = l.toArray := by
  cases cs
  simp at h
  simp [h]
end Go.Proofs.Ytcopakljdenolaa.OpenA
namespace Go.Proofs.Ytcopakljdenolaa.fnExactVocabularyOf
open Go.ChangeShapes Go.WideShapes Go.ChangeAt Go.RowKit Go.Proofs.Ytcopakljdenolaa.Fn Go.Proofs.YtcopakljdenolaaW.PrintWords Go.Proofs.Ytcopakljdenolaa.OpenA
open Go.ChangeMaps (open_string shut_string)
set_option linter.unusedVariables false
theorem own : ownKnob Try.prog.godebug = none := by kernel_rfl
theorem laidOut : laidOutB Try.prog = true := by kernel_rfl
set_option maxRecDepth 100000 in
theorem lifted (os : Os) (started : os.Started) (H : Type) (enc : TypeId × Value → H) :
    ReturnsInHanded {} Try.checked os 6 .any (Rows.fnExactVocabularyOfSpec.pre6 enc Try.prog Try.f6 Rows.fnExactVocabularyOfRow.domain false) (Rows.fnExactVocabularyOfSpec.post enc Try.prog Try.f6 false true false false) := by
  refine returnsInHanded_of_change_sized (C := Try.checked) own started (by kernel_rfl) Try.func6
    (ChangeSpec.witness6 (enc := enc) (C := Try.checked) false ⟨#[], #[.slice none 0 0], []⟩ 8 (by kernel_rfl) (by kernel_rfl) (by kernel_rfl) (by kernel_rfl)) ?_
  intro W base args ds gs before hval0 hW hcnd hsz0 _
  have hsz : (DataW.weightsEach Try.prog (Try.f6.params.toList ++ Rows.fnExactVocabularyOfSpec.plain.varTypes Try.prog) (ds ++ gs)).all (· ≤ reachBytes) = true := hsz0
  have hval : ∀ (j : Nat) t v, Try.f6.params[j]? = some t → args[j]? = some v → Value.okWide Try.prog W .any base t v := hval0
  have hW' := hW
  obtain ⟨p, q, hA0, hV, rfl, hfz, hnd⟩ := hW
  have hA : DataW.TrodAll enc Try.prog W 0 (fun _ => true) true Try.f6.params.toList args.toList ds p := hA0
  rw [Try.params6] at hA hval hsz
  obtain ⟨v0, vs0, d0, ds0, p0, q0, hargs, rfl, rfl, h0, r0⟩ := trodAll_cons hA
  obtain ⟨rfl, rfl, rfl⟩ := trodAll_nil r0
  obtain rfl : args = #[v0] := by cases args; simp_all
  obtain ⟨rfl, rfl⟩ := trodVars_none hV
  obtain ⟨a0, len0, cap0, rfl⟩ := okWide_slice Try.underlying22 (hval 0 22 v0 rfl rfl)
  have k0 := h0
  have lt0 : ∀ x ∈ p0, x.block < W.heap.size := by obtain ⟨m, hm⟩ := k0; exact DataW.trod_lt m _ _ _ hm
  obtain ⟨fuel0, hf0⟩ := h0
  obtain ⟨l0, hK0, hw0⟩ := (op_slice Try.underlying22 (by kernel_rfl) (op_string Try.underlying9)) hf0
  obtain ⟨A0, c0, e0, hc0, hr0⟩ := hK0
  simp [Value.cells] at e0
  obtain ⟨rfl, rfl, rfl⟩ := e0
  clear hA0 hval0 hsz0 hsz
  obtain ⟨k, h⟩ := Pure.FnExactVocabularyOf l0 hw0
  refine (laws_FnExactVocabularyOf.calls k _ _ l0 true W hr0 hc0 h rfl).mono fun e W' ⟨he, bel0⟩ => ?_
  have bel : Below W.heap.size W W' := bel0
  subst he
  exact ⟨_, rfl, _, _, _, [], _, [], hW', trodAll_mk1 (shut_bool Try.underlying4 _), (trodAll_cons_mk (Below.trod laidOut (by kernel_rfl) (of_decide_eq_true (by kernel_rfl)) k0 bel lt0) trodAll_mk0), rfl, bel.frame _, fun h => by cases h⟩
theorem over : Rows.fnExactVocabularyOfRow.holds Try.pinned (OpenSpec.ofChange Rows.fnExactVocabularyOfSpec) :=
  OpenClaim.holds_of_wide 6 Try.f6 rfl rfl rfl rfl rfl rfl rfl ⟨rfl, rfl, rfl, rfl, rfl⟩ rfl rfl rfl rfl rfl (by kernel_rfl) Try.func6 (by kernel_rfl)
    (of_decide_eq_true (by kernel_rfl)) (by unfold Func.isWrapper; first | (rw [if_pos (by decide +kernel)]; kernel_rfl) | (rw [if_neg (by decide +kernel)]; exact ⟨rfl, rfl⟩))
    (fun os started H enc _ => lifted os started H enc)
theorem proved : Rows.FnExactVocabularyOfSaid := over
#print axioms proved
end Go.Proofs.Ytcopakljdenolaa.fnExactVocabularyOf
namespace Go.Proofs.Ytcopakljdenolaa
/-- The row, under a short name, for the claim. -/
theorem fnExactVocabularyOf_holds : Rows.FnExactVocabularyOfSaid := fnExactVocabularyOf.proved
end Go.Proofs.Ytcopakljdenolaa
