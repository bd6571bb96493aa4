/- The law FnWords holds of the given program: at every input it answers true and leaves its arguments as they were; no condition. This text: part 4 of what its proof reaches. -/
import Derived.Test.YtcopakljdenolaaCFWordsA
import Derived.Test.YtcopakljdenolaaCFWordsB
import Derived.Test.YtcopakljdenolaaCFWordsC
namespace Go.Proofs.Ytcopakljdenolaa.Pure
open Go.RowKit Go.Proofs.Ytcopakljdenolaa.Fn Go.Proofs.YtcopakljdenolaaW.PrintWords Go.Proofs.YtcopakljdenolaaW.PrintLast Go.Proofs.YtcopakljdenolaaW.PrintMore
set_option linter.unusedSimpArgs false
set_option linter.unusedVariables false

abbrev eS : ByteArray := ⟨#[]⟩
def letter (b : Int) : Int := if 97 ≤ b ∧ b ≤ 122 then b else if 65 ≤ b ∧ b ≤ 90 then b + 32 else 0
theorem nil_size {w : ByteArray} : w.toList = ([] : List UInt8) ↔ w.size = 0 := by
  rw [toList_nil, ← nm_length]
  exact List.length_eq_zero_iff.symm
def flush (w : ByteArray) (out : List ByteArray) : List ByteArray := if w.size = 0 then out else out ++ [w]
def wordsFrom : List Int → ByteArray → List ByteArray → List ByteArray
  | [], w, out => flush w out
  | b :: t, w, out => if letter b = 0 then wordsFrom t eS (flush w out) else wordsFrom t (w ++ strOfNums [letter b]) out
def wordsOf (s : ByteArray) : List ByteArray := wordsFrom (nm s) eS []
theorem flush_len (w : ByteArray) (out : List ByteArray) : (flush w out).length ≤ out.length + 1 := by
  unfold flush
  split
  · omega
  · simp
theorem words_len (t : List Int) : ∀ (w : ByteArray) (out : List ByteArray), (wordsFrom t w out).length ≤ out.length + t.length + 1 := by
  induction t with
  | nil => intro w out; have := flush_len w out; simp only [wordsFrom, List.length_nil]; omega
  | cons b t ih =>
    intro w out
    simp only [wordsFrom, List.length_cons]
    split
    · have h1 := ih eS (flush w out)
      have h2 := flush_len w out
      omega
    · have := ih (w ++ strOfNums [letter b]) out
      omega
theorem specLetter_ev (b : Int) (h0 : 0 ≤ b) (h1 : b < 256) : Ev (fun k => spec_l9Letter.f k b) (letter b) := by
  simp only [spec_l9Letter.f]
  by_cases h : b ≥ 97
  · (repeat (first | with_reducible refine Ev.bindS ?_ | (with_reducible refine Ev.ifp ?_ ?_; (· first | omega | assumption | rfl | (simp only [List.length_map, List.length_replicate, List.length_take, List.length_drop, List.length_append, List.length_cons, List.length_nil, List.length_set]; omega) | (simp; done))) | (with_reducible refine Ev.ifn ?_ ?_; (· first | omega | assumption | rfl | (simp only [List.length_map, List.length_replicate, List.length_take, List.length_drop, List.length_append, List.length_cons, List.length_nil, List.length_set]; omega) | (simp; done)))))
    (refine Ev.up ?_; simp only [spec_l9Letter.j0, decT])
    by_cases h2 : b ≤ 122
    · (repeat (first | with_reducible refine Ev.bindS ?_ | (with_reducible refine Ev.ifp ?_ ?_; (· first | omega | assumption | rfl | (simp only [List.length_map, List.length_replicate, List.length_take, List.length_drop, List.length_append, List.length_cons, List.length_nil, List.length_set]; omega) | (simp; done))) | (with_reducible refine Ev.ifn ?_ ?_; (· first | omega | assumption | rfl | (simp only [List.length_map, List.length_replicate, List.length_take, List.length_drop, List.length_append, List.length_cons, List.length_nil, List.length_set]; omega) | (simp; done)))))
      exact Ev.val (by rw [letter, if_pos ⟨h, h2⟩])
    · (repeat (first | with_reducible refine Ev.bindS ?_ | (with_reducible refine Ev.ifp ?_ ?_; (· first | omega | assumption | rfl | (simp only [List.length_map, List.length_replicate, List.length_take, List.length_drop, List.length_append, List.length_cons, List.length_nil, List.length_set]; omega) | (simp; done))) | (with_reducible refine Ev.ifn ?_ ?_; (· first | omega | assumption | rfl | (simp only [List.length_map, List.length_replicate, List.length_take, List.length_drop, List.length_append, List.length_cons, List.length_nil, List.length_set]; omega) | (simp; done)))))
      exact Ev.val (by rw [letter, if_neg (by omega), if_neg (by omega)])
  · (repeat (first | with_reducible refine Ev.bindS ?_ | (with_reducible refine Ev.ifp ?_ ?_; (· first | omega | assumption | rfl | (simp only [List.length_map, List.length_replicate, List.length_take, List.length_drop, List.length_append, List.length_cons, List.length_nil, List.length_set]; omega) | (simp; done))) | (with_reducible refine Ev.ifn ?_ ?_; (· first | omega | assumption | rfl | (simp only [List.length_map, List.length_replicate, List.length_take, List.length_drop, List.length_append, List.length_cons, List.length_nil, List.length_set]; omega) | (simp; done)))))
    (refine Ev.up ?_; simp only [spec_l9Letter.j0, decT])
    (repeat (first | with_reducible refine Ev.bindS ?_ | (with_reducible refine Ev.ifp ?_ ?_; (· first | omega | assumption | rfl | (simp only [List.length_map, List.length_replicate, List.length_take, List.length_drop, List.length_append, List.length_cons, List.length_nil, List.length_set]; omega) | (simp; done))) | (with_reducible refine Ev.ifn ?_ ?_; (· first | omega | assumption | rfl | (simp only [List.length_map, List.length_replicate, List.length_take, List.length_drop, List.length_append, List.length_cons, List.length_nil, List.length_set]; omega) | (simp; done)))))
    by_cases h2 : b ≥ 65
    · by_cases h3 : b ≤ 90
      · (repeat (first | with_reducible refine Ev.bindS ?_ | (with_reducible refine Ev.ifp ?_ ?_; (· first | omega | assumption | rfl | (simp only [List.length_map, List.length_replicate, List.length_take, List.length_drop, List.length_append, List.length_cons, List.length_nil, List.length_set]; omega) | (simp; done))) | (with_reducible refine Ev.ifn ?_ ?_; (· first | omega | assumption | rfl | (simp only [List.length_map, List.length_replicate, List.length_take, List.length_drop, List.length_append, List.length_cons, List.length_nil, List.length_set]; omega) | (simp; done)))))
        exact Ev.val (by rw [letter, if_neg (by omega), if_pos (by omega)]; omega)
      · (repeat (first | with_reducible refine Ev.bindS ?_ | (with_reducible refine Ev.ifp ?_ ?_; (· first | omega | assumption | rfl | (simp only [List.length_map, List.length_replicate, List.length_take, List.length_drop, List.length_append, List.length_cons, List.length_nil, List.length_set]; omega) | (simp; done))) | (with_reducible refine Ev.ifn ?_ ?_; (· first | omega | assumption | rfl | (simp only [List.length_map, List.length_replicate, List.length_take, List.length_drop, List.length_append, List.length_cons, List.length_nil, List.length_set]; omega) | (simp; done)))))
        exact Ev.val (by rw [letter, if_neg (by omega), if_neg (by omega)])
    · (repeat (first | with_reducible refine Ev.bindS ?_ | (with_reducible refine Ev.ifp ?_ ?_; (· first | omega | assumption | rfl | (simp only [List.length_map, List.length_replicate, List.length_take, List.length_drop, List.length_append, List.length_cons, List.length_nil, List.length_set]; omega) | (simp; done))) | (with_reducible refine Ev.ifn ?_ ?_; (· first | omega | assumption | rfl | (simp only [List.length_map, List.length_replicate, List.length_take, List.length_drop, List.length_append, List.length_cons, List.length_nil, List.length_set]; omega) | (simp; done)))))
      exact Ev.val (by rw [letter, if_neg (by omega), if_neg (by omega)])
theorem app_size (w : ByteArray) (c : Int) : (w ++ strOfNums [c]).size = w.size + 1 := by rw [str_append_size, one_size]
theorem specWords_ev (s : ByteArray) (hs : s.size ≤ 1048576) : Ev (fun k => spec_l9Words.f k s) (wordsOf s) := by
  have hn := nm_length s
  have key : ∀ (t : List Int) (i : Nat) (out : List ByteArray) (w : ByteArray), (nm s).drop i = t → i ≤ s.size → w.size ≤ i → out.length ≤ i →
      Ev (fun k => spec_l9Words.l0 k s out w i) (wordsFrom t w out) := by
    intro t
    induction t with
    | nil =>
      intro i out w h hi hw ho
      have := drop_nil h
      (refine Ev.up ?_; simp only [spec_l9Words.l0, decT])
      simp only [wordsFrom, flush]
      by_cases h0 : w.size = 0
      · have h1 := nil_size.2 h0
        rw [if_pos h0]
        (repeat (first | with_reducible refine Ev.bindS ?_ | (with_reducible refine Ev.ifp ?_ ?_; (· first | omega | assumption | rfl | (simp only [List.length_map, List.length_replicate, List.length_take, List.length_drop, List.length_append, List.length_cons, List.length_nil, List.length_set]; omega) | (simp; done))) | (with_reducible refine Ev.ifn ?_ ?_; (· first | omega | assumption | rfl | (simp only [List.length_map, List.length_replicate, List.length_take, List.length_drop, List.length_append, List.length_cons, List.length_nil, List.length_set]; omega) | (simp; done)))))
        exact Ev.val rfl
      · have h1 : ¬ w.toList = ([] : List UInt8) := fun h => h0 (nil_size.1 h)
        rw [if_neg h0]
        (repeat (first | with_reducible refine Ev.bindS ?_ | (with_reducible refine Ev.ifp ?_ ?_; (· first | omega | assumption | rfl | (simp only [List.length_map, List.length_replicate, List.length_take, List.length_drop, List.length_append, List.length_cons, List.length_nil, List.length_set]; omega) | (simp; done))) | (with_reducible refine Ev.ifn ?_ ?_; (· first | omega | assumption | rfl | (simp only [List.length_map, List.length_replicate, List.length_take, List.length_drop, List.length_append, List.length_cons, List.length_nil, List.length_set]; omega) | (simp; done)))))
        exact Ev.val rfl
    | cons b t ih =>
      intro i out w h hi hw ho
      obtain ⟨p1, p2, p3⟩ := drop_cons h
      have hb := nm_range (List.mem_of_getElem? p2)
      (refine Ev.up ?_; simp only [spec_l9Words.l0, decT])
      rw [nm_get p2, wrap_succ (by omega)]
      (repeat (first | with_reducible refine Ev.bindS ?_ | (with_reducible refine Ev.ifp ?_ ?_; (· first | omega | assumption | rfl | (simp only [List.length_map, List.length_replicate, List.length_take, List.length_drop, List.length_append, List.length_cons, List.length_nil, List.length_set]; omega) | (simp; done))) | (with_reducible refine Ev.ifn ?_ ?_; (· first | omega | assumption | rfl | (simp only [List.length_map, List.length_replicate, List.length_take, List.length_drop, List.length_append, List.length_cons, List.length_nil, List.length_set]; omega) | (simp; done)))))
      refine Ev.bind (specLetter_ev b hb.1 hb.2) ?_
      simp only [wordsFrom]
      by_cases hl : letter b = 0
      · rw [if_pos hl]
        (repeat (first | with_reducible refine Ev.bindS ?_ | (with_reducible refine Ev.ifp ?_ ?_; (· first | omega | assumption | rfl | (simp only [List.length_map, List.length_replicate, List.length_take, List.length_drop, List.length_append, List.length_cons, List.length_nil, List.length_set]; omega) | (simp; done))) | (with_reducible refine Ev.ifn ?_ ?_; (· first | omega | assumption | rfl | (simp only [List.length_map, List.length_replicate, List.length_take, List.length_drop, List.length_append, List.length_cons, List.length_nil, List.length_set]; omega) | (simp; done)))))
        by_cases h0 : w.size = 0
        · have h1 := nil_size.2 h0
          have e : flush w out = out := by rw [flush, if_pos h0]
          rw [e]
          (repeat (first | with_reducible refine Ev.bindS ?_ | (with_reducible refine Ev.ifp ?_ ?_; (· first | omega | assumption | rfl | (simp only [List.length_map, List.length_replicate, List.length_take, List.length_drop, List.length_append, List.length_cons, List.length_nil, List.length_set]; omega) | (simp; done))) | (with_reducible refine Ev.ifn ?_ ?_; (· first | omega | assumption | rfl | (simp only [List.length_map, List.length_replicate, List.length_take, List.length_drop, List.length_append, List.length_cons, List.length_nil, List.length_set]; omega) | (simp; done)))))
          exact ih (i + 1) out eS p3 (by omega) (by show 0 ≤ _; omega) (by omega)
        · have h1 : ¬ w.toList = ([] : List UInt8) := fun h => h0 (nil_size.1 h)
          have e : flush w out = out ++ [w] := by rw [flush, if_neg h0]
          rw [e]
          (repeat (first | with_reducible refine Ev.bindS ?_ | (with_reducible refine Ev.ifp ?_ ?_; (· first | omega | assumption | rfl | (simp only [List.length_map, List.length_replicate, List.length_take, List.length_drop, List.length_append, List.length_cons, List.length_nil, List.length_set]; omega) | (simp; done))) | (with_reducible refine Ev.ifn ?_ ?_; (· first | omega | assumption | rfl | (simp only [List.length_map, List.length_replicate, List.length_take, List.length_drop, List.length_append, List.length_cons, List.length_nil, List.length_set]; omega) | (simp; done)))))
          exact ih (i + 1) (out ++ [w]) eS p3 (by omega) (by show 0 ≤ _; omega) (by simp; omega)
      · rw [if_neg hl]
        (repeat (first | with_reducible refine Ev.bindS ?_ | (with_reducible refine Ev.ifp ?_ ?_; (· first | omega | assumption | rfl | (simp only [List.length_map, List.length_replicate, List.length_take, List.length_drop, List.length_append, List.length_cons, List.length_nil, List.length_set]; omega) | (simp; done))) | (with_reducible refine Ev.ifn ?_ ?_; (· first | omega | assumption | rfl | (simp only [List.length_map, List.length_replicate, List.length_take, List.length_drop, List.length_append, List.length_cons, List.length_nil, List.length_set]; omega) | (simp; done)))))
        rw [one_size]
        (repeat (first | with_reducible refine Ev.bindS ?_ | (with_reducible refine Ev.ifp ?_ ?_; (· first | omega | assumption | rfl | (simp only [List.length_map, List.length_replicate, List.length_take, List.length_drop, List.length_append, List.length_cons, List.length_nil, List.length_set]; omega) | (simp; done))) | (with_reducible refine Ev.ifn ?_ ?_; (· first | omega | assumption | rfl | (simp only [List.length_map, List.length_replicate, List.length_take, List.length_drop, List.length_append, List.length_cons, List.length_nil, List.length_set]; omega) | (simp; done)))))
        exact ih (i + 1) out _ p3 (by omega) (by rw [app_size]; omega) (by omega)
  exact key (nm s) 0 [] eS rfl (by omega) (by show 0 ≤ _; omega) (by simp)
theorem isLetter_eq (c : Int) : impl_isLetter.f c = some (decide (97 ≤ c ∧ c ≤ 122)) := by
  simp only [impl_isLetter.f]
  by_cases h : c ≥ 97
  · rw [if_pos h]; simp [h]
  · rw [if_neg h]; simp [h]
theorem implWords_ev (s : ByteArray) (hs : s.size ≤ 1048576) : Ev (fun k => impl_words.f k s) (wordsOf s) := by
  have hn := nm_length s
  have e0 : wrap64 ((s.size : Int) + 1) = ((s.size + 1 : Nat) : Int) := wrap_succ (by omega)
  -- one letter, as the program turns it
  have step : ∀ (b : Int) (i : Nat) (out : List ByteArray) (w : ByteArray) (r : List ByteArray), 0 ≤ b → b < 256 → i ≤ s.size → w.size ≤ i → out.length ≤ i →
      (letter b = 0 → Ev (fun k => impl_words.l0 k s (flush w out) eS ((s.size + 1 : Nat) : Int) ((i + 1 : Nat) : Int)) r) →
      (letter b ≠ 0 → Ev (fun k => impl_words.l0 k s out (w ++ strOfNums [letter b]) ((s.size + 1 : Nat) : Int) ((i + 1 : Nat) : Int)) r) →
      Ev (fun k => impl_words.j1 k s out w b ((s.size + 1 : Nat) : Int) (i : Int)) r := by
    intro b i out w r hb0 hb1 hi hw ho hz hl
    have last : ∀ c : Int, (97 ≤ c ∧ c ≤ 122 → c = letter b ∧ letter b ≠ 0) → (¬ (97 ≤ c ∧ c ≤ 122) → letter b = 0) → Ev (fun k => impl_words.j3 k s out w c ((s.size + 1 : Nat) : Int) (i : Int)) r := by
      intro c h1 h2
      (refine Ev.up ?_; simp only [impl_words.j3, decT])
      rw [isLetter_eq, wrap_succ (by omega)]
      by_cases hc : 97 ≤ c ∧ c ≤ 122
      · obtain ⟨q1, q2⟩ := h1 hc
        rw [decide_eq_true hc]
        (repeat (first | with_reducible refine Ev.bindS ?_ | (with_reducible refine Ev.ifp ?_ ?_; (· first | omega | assumption | rfl | (simp only [List.length_map, List.length_replicate, List.length_take, List.length_drop, List.length_append, List.length_cons, List.length_nil, List.length_set]; omega) | (simp; done))) | (with_reducible refine Ev.ifn ?_ ?_; (· first | omega | assumption | rfl | (simp only [List.length_map, List.length_replicate, List.length_take, List.length_drop, List.length_append, List.length_cons, List.length_nil, List.length_set]; omega) | (simp; done)))))
        rw [one_size]
        (repeat (first | with_reducible refine Ev.bindS ?_ | (with_reducible refine Ev.ifp ?_ ?_; (· first | omega | assumption | rfl | (simp only [List.length_map, List.length_replicate, List.length_take, List.length_drop, List.length_append, List.length_cons, List.length_nil, List.length_set]; omega) | (simp; done))) | (with_reducible refine Ev.ifn ?_ ?_; (· first | omega | assumption | rfl | (simp only [List.length_map, List.length_replicate, List.length_take, List.length_drop, List.length_append, List.length_cons, List.length_nil, List.length_set]; omega) | (simp; done)))))
        rw [q1]
        exact hl q2
      · have q := h2 hc
        rw [decide_eq_false hc]
        (repeat (first | with_reducible refine Ev.bindS ?_ | (with_reducible refine Ev.ifp ?_ ?_; (· first | omega | assumption | rfl | (simp only [List.length_map, List.length_replicate, List.length_take, List.length_drop, List.length_append, List.length_cons, List.length_nil, List.length_set]; omega) | (simp; done))) | (with_reducible refine Ev.ifn ?_ ?_; (· first | omega | assumption | rfl | (simp only [List.length_map, List.length_replicate, List.length_take, List.length_drop, List.length_append, List.length_cons, List.length_nil, List.length_set]; omega) | (simp; done)))))
        have hz := hz q
        by_cases h0 : w.size = 0
        · have h1 := nil_size.2 h0
          have e : flush w out = out := by rw [flush, if_pos h0]
          have ew : w = eS := nm_inj (by rw [nm_empty]; exact List.length_eq_zero_iff.1 (by rw [nm_length]; exact h0))
          rw [e] at hz
          (repeat (first | with_reducible refine Ev.bindS ?_ | (with_reducible refine Ev.ifp ?_ ?_; (· first | omega | assumption | rfl | (simp only [List.length_map, List.length_replicate, List.length_take, List.length_drop, List.length_append, List.length_cons, List.length_nil, List.length_set]; omega) | (simp; done))) | (with_reducible refine Ev.ifn ?_ ?_; (· first | omega | assumption | rfl | (simp only [List.length_map, List.length_replicate, List.length_take, List.length_drop, List.length_append, List.length_cons, List.length_nil, List.length_set]; omega) | (simp; done)))))
          rw [ew]
          exact hz
        · have h1 : ¬ w.toList = ([] : List UInt8) := fun h => h0 (nil_size.1 h)
          have e : flush w out = out ++ [w] := by rw [flush, if_neg h0]
          rw [e] at hz
          (repeat (first | with_reducible refine Ev.bindS ?_ | (with_reducible refine Ev.ifp ?_ ?_; (· first | omega | assumption | rfl | (simp only [List.length_map, List.length_replicate, List.length_take, List.length_drop, List.length_append, List.length_cons, List.length_nil, List.length_set]; omega) | (simp; done))) | (with_reducible refine Ev.ifn ?_ ?_; (· first | omega | assumption | rfl | (simp only [List.length_map, List.length_replicate, List.length_take, List.length_drop, List.length_append, List.length_cons, List.length_nil, List.length_set]; omega) | (simp; done)))))
          exact hz
    (refine Ev.up ?_; simp only [impl_words.j1, decT])
    by_cases ha : b ≥ 65
    · (repeat (first | with_reducible refine Ev.bindS ?_ | (with_reducible refine Ev.ifp ?_ ?_; (· first | omega | assumption | rfl | (simp only [List.length_map, List.length_replicate, List.length_take, List.length_drop, List.length_append, List.length_cons, List.length_nil, List.length_set]; omega) | (simp; done))) | (with_reducible refine Ev.ifn ?_ ?_; (· first | omega | assumption | rfl | (simp only [List.length_map, List.length_replicate, List.length_take, List.length_drop, List.length_append, List.length_cons, List.length_nil, List.length_set]; omega) | (simp; done)))))
      (refine Ev.up ?_; simp only [impl_words.j2, decT])
      by_cases hz2 : b ≤ 90
      · (repeat (first | with_reducible refine Ev.bindS ?_ | (with_reducible refine Ev.ifp ?_ ?_; (· first | omega | assumption | rfl | (simp only [List.length_map, List.length_replicate, List.length_take, List.length_drop, List.length_append, List.length_cons, List.length_nil, List.length_set]; omega) | (simp; done))) | (with_reducible refine Ev.ifn ?_ ?_; (· first | omega | assumption | rfl | (simp only [List.length_map, List.length_replicate, List.length_take, List.length_drop, List.length_append, List.length_cons, List.length_nil, List.length_set]; omega) | (simp; done)))))
        have e : (b + 32) % 256 = b + 32 := by omega
        have el : letter b = b + 32 := by rw [letter, if_neg (by omega), if_pos (by omega)]
        rw [e]
        exact last (b + 32) (fun _ => ⟨el.symm, by omega⟩) (fun h => by omega)
      · (repeat (first | with_reducible refine Ev.bindS ?_ | (with_reducible refine Ev.ifp ?_ ?_; (· first | omega | assumption | rfl | (simp only [List.length_map, List.length_replicate, List.length_take, List.length_drop, List.length_append, List.length_cons, List.length_nil, List.length_set]; omega) | (simp; done))) | (with_reducible refine Ev.ifn ?_ ?_; (· first | omega | assumption | rfl | (simp only [List.length_map, List.length_replicate, List.length_take, List.length_drop, List.length_append, List.length_cons, List.length_nil, List.length_set]; omega) | (simp; done)))))
        refine last b (fun h => ⟨by rw [letter, if_pos h], by rw [letter, if_pos h]; omega⟩) (fun h => ?_)
        rw [letter, if_neg h, if_neg (by omega)]
    · (repeat (first | with_reducible refine Ev.bindS ?_ | (with_reducible refine Ev.ifp ?_ ?_; (· first | omega | assumption | rfl | (simp only [List.length_map, List.length_replicate, List.length_take, List.length_drop, List.length_append, List.length_cons, List.length_nil, List.length_set]; omega) | (simp; done))) | (with_reducible refine Ev.ifn ?_ ?_; (· first | omega | assumption | rfl | (simp only [List.length_map, List.length_replicate, List.length_take, List.length_drop, List.length_append, List.length_cons, List.length_nil, List.length_set]; omega) | (simp; done)))))
      (refine Ev.up ?_; simp only [impl_words.j2, decT])
      (repeat (first | with_reducible refine Ev.bindS ?_ | (with_reducible refine Ev.ifp ?_ ?_; (· first | omega | assumption | rfl | (simp only [List.length_map, List.length_replicate, List.length_take, List.length_drop, List.length_append, List.length_cons, List.length_nil, List.length_set]; omega) | (simp; done))) | (with_reducible refine Ev.ifn ?_ ?_; (· first | omega | assumption | rfl | (simp only [List.length_map, List.length_replicate, List.length_take, List.length_drop, List.length_append, List.length_cons, List.length_nil, List.length_set]; omega) | (simp; done)))))
      refine last b (fun h => ⟨by rw [letter, if_pos h], by rw [letter, if_pos h]; omega⟩) (fun h => ?_)
      rw [letter, if_neg h, if_neg (by omega)]
  have key : ∀ (t : List Int) (i : Nat) (out : List ByteArray) (w : ByteArray), (nm s).drop i = t → i ≤ s.size → w.size ≤ i → out.length ≤ i →
      Ev (fun k => impl_words.l0 k s out w ((s.size + 1 : Nat) : Int) i) (wordsFrom t w out) := by
    intro t
    induction t with
    | nil =>
      intro i out w h hi hw ho
      have hd := drop_nil h
      have ei : i = s.size := by omega
      have done : ∀ out', Ev (fun k => impl_words.l0 k s out' eS ((s.size + 1 : Nat) : Int) ((i + 1 : Nat) : Int)) out' := by
        intro out'
        (refine Ev.up ?_; simp only [impl_words.l0, decT])
        (repeat (first | with_reducible refine Ev.bindS ?_ | (with_reducible refine Ev.ifp ?_ ?_; (· first | omega | assumption | rfl | (simp only [List.length_map, List.length_replicate, List.length_take, List.length_drop, List.length_append, List.length_cons, List.length_nil, List.length_set]; omega) | (simp; done))) | (with_reducible refine Ev.ifn ?_ ?_; (· first | omega | assumption | rfl | (simp only [List.length_map, List.length_replicate, List.length_take, List.length_drop, List.length_append, List.length_cons, List.length_nil, List.length_set]; omega) | (simp; done)))))
        exact Ev.val rfl
      (refine Ev.up ?_; simp only [impl_words.l0, decT])
      (repeat (first | with_reducible refine Ev.bindS ?_ | (with_reducible refine Ev.ifp ?_ ?_; (· first | omega | assumption | rfl | (simp only [List.length_map, List.length_replicate, List.length_take, List.length_drop, List.length_append, List.length_cons, List.length_nil, List.length_set]; omega) | (simp; done))) | (with_reducible refine Ev.ifn ?_ ?_; (· first | omega | assumption | rfl | (simp only [List.length_map, List.length_replicate, List.length_take, List.length_drop, List.length_append, List.length_cons, List.length_nil, List.length_set]; omega) | (simp; done)))))
      refine step 0 i out w _ (by omega) (by omega) hi hw ho (fun _ => ?_) (fun h => absurd rfl h)
      exact done _
    | cons b t ih =>
      intro i out w h hi hw ho
      obtain ⟨p1, p2, p3⟩ := drop_cons h
      have hb := nm_range (List.mem_of_getElem? p2)
      (refine Ev.up ?_; simp only [impl_words.l0, decT])
      rw [nm_get p2]
      (repeat (first | with_reducible refine Ev.bindS ?_ | (with_reducible refine Ev.ifp ?_ ?_; (· first | omega | assumption | rfl | (simp only [List.length_map, List.length_replicate, List.length_take, List.length_drop, List.length_append, List.length_cons, List.length_nil, List.length_set]; omega) | (simp; done))) | (with_reducible refine Ev.ifn ?_ ?_; (· first | omega | assumption | rfl | (simp only [List.length_map, List.length_replicate, List.length_take, List.length_drop, List.length_append, List.length_cons, List.length_nil, List.length_set]; omega) | (simp; done)))))
      refine step b i out w _ hb.1 hb.2 hi hw ho (fun hl => ?_) (fun hl => ?_)
      · simp only [wordsFrom]
        rw [if_pos hl]
        have := flush_len w out
        exact ih (i + 1) _ eS p3 (by omega) (by show 0 ≤ _; omega) (by omega)
      · simp only [wordsFrom]
        rw [if_neg hl]
        exact ih (i + 1) out _ p3 (by omega) (by rw [app_size]; omega) (by omega)
  simp only [impl_words.f, e0]
  exact key (nm s) 0 [] eS rfl (by omega) (by show 0 ≤ _; omega) (by simp)
/-- What both call the words of a text. -/
def wordsRes (s : ByteArray) : List ByteArray × Bool := if (s.size : Int) > 120 then ([], false) else if ((wordsOf s).length : Int) > 20 then ([], false) else (wordsOf s, true)
theorem specWordsOf_ev (s : ByteArray) (hs : s.size ≤ 1048576) : Ev (fun k => spec_WordsOf.f k s) (wordsRes s) := by
  simp only [spec_WordsOf.f]
  refine Ev.bind (specWords_ev s hs) ?_
  by_cases h1 : (s.size : Int) > 120
  · have e : wordsRes s = ([], false) := by rw [wordsRes, if_pos h1]
    rw [e]; (repeat (first | with_reducible refine Ev.bindS ?_ | (with_reducible refine Ev.ifp ?_ ?_; (· first | omega | assumption | rfl | (simp only [List.length_map, List.length_replicate, List.length_take, List.length_drop, List.length_append, List.length_cons, List.length_nil, List.length_set]; omega) | (simp; done))) | (with_reducible refine Ev.ifn ?_ ?_; (· first | omega | assumption | rfl | (simp only [List.length_map, List.length_replicate, List.length_take, List.length_drop, List.length_append, List.length_cons, List.length_nil, List.length_set]; omega) | (simp; done))))); exact Ev.val rfl
  · by_cases h2 : ((wordsOf s).length : Int) > 20
    · have e : wordsRes s = ([], false) := by rw [wordsRes, if_neg h1, if_pos h2]
      rw [e]; (repeat (first | with_reducible refine Ev.bindS ?_ | (with_reducible refine Ev.ifp ?_ ?_; (· first | omega | assumption | rfl | (simp only [List.length_map, List.length_replicate, List.length_take, List.length_drop, List.length_append, List.length_cons, List.length_nil, List.length_set]; omega) | (simp; done))) | (with_reducible refine Ev.ifn ?_ ?_; (· first | omega | assumption | rfl | (simp only [List.length_map, List.length_replicate, List.length_take, List.length_drop, List.length_append, List.length_cons, List.length_nil, List.length_set]; omega) | (simp; done))))); exact Ev.val rfl
    · have e : wordsRes s = (wordsOf s, true) := by rw [wordsRes, if_neg h1, if_neg h2]
      rw [e]; (repeat (first | with_reducible refine Ev.bindS ?_ | (with_reducible refine Ev.ifp ?_ ?_; (· first | omega | assumption | rfl | (simp only [List.length_map, List.length_replicate, List.length_take, List.length_drop, List.length_append, List.length_cons, List.length_nil, List.length_set]; omega) | (simp; done))) | (with_reducible refine Ev.ifn ?_ ?_; (· first | omega | assumption | rfl | (simp only [List.length_map, List.length_replicate, List.length_take, List.length_drop, List.length_append, List.length_cons, List.length_nil, List.length_set]; omega) | (simp; done))))); exact Ev.val rfl
theorem implWordsOf_ev (s : ByteArray) (hs : s.size ≤ 1048576) : Ev (fun k => impl_WordsOf.f k s) (wordsRes s) := by
  simp only [impl_WordsOf.f]
  by_cases h1 : (s.size : Int) > 120
  · have e : wordsRes s = ([], false) := by rw [wordsRes, if_pos h1]
    rw [e]; (repeat (first | with_reducible refine Ev.bindS ?_ | (with_reducible refine Ev.ifp ?_ ?_; (· first | omega | assumption | rfl | (simp only [List.length_map, List.length_replicate, List.length_take, List.length_drop, List.length_append, List.length_cons, List.length_nil, List.length_set]; omega) | (simp; done))) | (with_reducible refine Ev.ifn ?_ ?_; (· first | omega | assumption | rfl | (simp only [List.length_map, List.length_replicate, List.length_take, List.length_drop, List.length_append, List.length_cons, List.length_nil, List.length_set]; omega) | (simp; done))))); exact Ev.val rfl
  · (repeat (first | with_reducible refine Ev.bindS ?_ | (with_reducible refine Ev.ifp ?_ ?_; (· first | omega | assumption | rfl | (simp only [List.length_map, List.length_replicate, List.length_take, List.length_drop, List.length_append, List.length_cons, List.length_nil, List.length_set]; omega) | (simp; done))) | (with_reducible refine Ev.ifn ?_ ?_; (· first | omega | assumption | rfl | (simp only [List.length_map, List.length_replicate, List.length_take, List.length_drop, List.length_append, List.length_cons, List.length_nil, List.length_set]; omega) | (simp; done)))))
    refine Ev.bind (implWords_ev s hs) ?_
    by_cases h2 : ((wordsOf s).length : Int) > 20
    · have e : wordsRes s = ([], false) := by rw [wordsRes, if_neg h1, if_pos h2]
      rw [e]; (repeat (first | with_reducible refine Ev.bindS ?_ | (with_reducible refine Ev.ifp ?_ ?_; (· first | omega | assumption | rfl | (simp only [List.length_map, List.length_replicate, List.length_take, List.length_drop, List.length_append, List.length_cons, List.length_nil, List.length_set]; omega) | (simp; done))) | (with_reducible refine Ev.ifn ?_ ?_; (· first | omega | assumption | rfl | (simp only [List.length_map, List.length_replicate, List.length_take, List.length_drop, List.length_append, List.length_cons, List.length_nil, List.length_set]; omega) | (simp; done))))); exact Ev.val rfl
    · have e : wordsRes s = (wordsOf s, true) := by rw [wordsRes, if_neg h1, if_neg h2]
      rw [e]; (repeat (first | with_reducible refine Ev.bindS ?_ | (with_reducible refine Ev.ifp ?_ ?_; (· first | omega | assumption | rfl | (simp only [List.length_map, List.length_replicate, List.length_take, List.length_drop, List.length_append, List.length_cons, List.length_nil, List.length_set]; omega) | (simp; done))) | (with_reducible refine Ev.ifn ?_ ?_; (· first | omega | assumption | rfl | (simp only [List.length_map, List.length_replicate, List.length_take, List.length_drop, List.length_append, List.length_cons, List.length_nil, List.length_set]; omega) | (simp; done))))); exact Ev.val rfl
theorem wordsRes_len (s : ByteArray) : (wordsRes s).1.length ≤ 20 := by
  unfold wordsRes
  split
  · simp
  · split
    · simp
    · dsimp only; omega
end Go.Proofs.Ytcopakljdenolaa.Pure
namespace Go.Proofs.Ytcopakljdenolaa.Pure
open Go.RowKit Go.Proofs.Ytcopakljdenolaa.Fn Go.Proofs.YtcopakljdenolaaW.PrintWords Go.Proofs.YtcopakljdenolaaW.PrintLast Go.Proofs.YtcopakljdenolaaW.PrintMore
set_option linter.unusedSimpArgs false
set_option linter.unusedVariables false

theorem within_eq (a b c : Int) : impl_within.f a b c = some (decide (b ≤ a ∧ a ≤ c)) := by
  unfold impl_within.f
  by_cases h : b ≤ a
  · rw [if_pos h]; simp [h]
  · rw [if_neg h]; simp [h]
theorem specIn_eq (a b c : Int) : spec_l1In.f a b c = some (decide (b ≤ a ∧ a ≤ c)) := within_eq a b c
def docOk (s : ByteArray) : Bool := (wordsRes s).2
def docsOk (l : List ByteArray) : Bool := decide (l.length ≤ 12) && l.all docOk
def Small (l : List ByteArray) : Prop := l.length ≤ 1048576 ∧ ∀ y ∈ l, y.size ≤ 1048576
theorem doc_cases (s : ByteArray) : ((s.size : Int) > 120 ∧ docOk s = false) ∨ (¬ (s.size : Int) > 120 ∧ ((wordsOf s).length : Int) > 20 ∧ docOk s = false) ∨ (¬ (s.size : Int) > 120 ∧ ¬ ((wordsOf s).length : Int) > 20 ∧ docOk s = true) := by
  by_cases h1 : (s.size : Int) > 120
  · exact .inl ⟨h1, by rw [docOk, wordsRes, if_pos h1]⟩
  · by_cases h2 : ((wordsOf s).length : Int) > 20
    · exact .inr (.inl ⟨h1, h2, by rw [docOk, wordsRes, if_neg h1, if_pos h2]⟩)
    · exact .inr (.inr ⟨h1, h2, by rw [docOk, wordsRes, if_neg h1, if_neg h2]⟩)
theorem specDocs_ev (l : List ByteArray) (hl : Small l) : Ev (fun k => spec_l9Docs.f k l) (docsOk l) := by
  have hl1 := hl.1
  have key : ∀ (t : List ByteArray) (i : Nat), l.drop i = t → i ≤ l.length → Ev (fun k => spec_l9Docs.l0 k l l l.length i) (t.all docOk && decide ((l.length : Int) ≤ 12)) := by
    intro t
    induction t with
    | nil =>
      intro i h hi
      have := drop_nil h
      (refine Ev.up ?_; simp only [spec_l9Docs.l0, decT])
      (repeat (first | with_reducible refine Ev.bindS ?_ | (with_reducible refine Ev.ifp ?_ ?_; (· first | omega | assumption | rfl | (simp only [List.length_map, List.length_replicate, List.length_take, List.length_drop, List.length_append, List.length_cons, List.length_nil, List.length_set]; omega) | (simp; done))) | (with_reducible refine Ev.ifn ?_ ?_; (· first | omega | assumption | rfl | (simp only [List.length_map, List.length_replicate, List.length_take, List.length_drop, List.length_append, List.length_cons, List.length_nil, List.length_set]; omega) | (simp; done)))))
      exact Ev.val (by simp)
    | cons s t ih =>
      intro i h hi
      obtain ⟨p1, p2, p3⟩ := drop_cons h
      have ih := ih (i + 1) p3 (by omega)
      have hs := hl.2 s (List.mem_of_getElem? p2)
      (refine Ev.up ?_; simp only [spec_l9Docs.l0, decT])
      rw [rdOf_at p2, wrap_succ (by omega)]
      rw [List.all_cons]
      rcases doc_cases s with ⟨h1, h2⟩ | ⟨h1, h2, h3⟩ | ⟨h1, h2, h3⟩
      · (repeat (first | with_reducible refine Ev.bindS ?_ | (with_reducible refine Ev.ifp ?_ ?_; (· first | omega | assumption | rfl | (simp only [List.length_map, List.length_replicate, List.length_take, List.length_drop, List.length_append, List.length_cons, List.length_nil, List.length_set]; omega) | (simp; done))) | (with_reducible refine Ev.ifn ?_ ?_; (· first | omega | assumption | rfl | (simp only [List.length_map, List.length_replicate, List.length_take, List.length_drop, List.length_append, List.length_cons, List.length_nil, List.length_set]; omega) | (simp; done)))))
        exact Ev.val (by rw [h2]; rfl)
      · (repeat (first | with_reducible refine Ev.bindS ?_ | (with_reducible refine Ev.ifp ?_ ?_; (· first | omega | assumption | rfl | (simp only [List.length_map, List.length_replicate, List.length_take, List.length_drop, List.length_append, List.length_cons, List.length_nil, List.length_set]; omega) | (simp; done))) | (with_reducible refine Ev.ifn ?_ ?_; (· first | omega | assumption | rfl | (simp only [List.length_map, List.length_replicate, List.length_take, List.length_drop, List.length_append, List.length_cons, List.length_nil, List.length_set]; omega) | (simp; done)))))
        refine Ev.bind (specWords_ev s hs) ?_
        (repeat (first | with_reducible refine Ev.bindS ?_ | (with_reducible refine Ev.ifp ?_ ?_; (· first | omega | assumption | rfl | (simp only [List.length_map, List.length_replicate, List.length_take, List.length_drop, List.length_append, List.length_cons, List.length_nil, List.length_set]; omega) | (simp; done))) | (with_reducible refine Ev.ifn ?_ ?_; (· first | omega | assumption | rfl | (simp only [List.length_map, List.length_replicate, List.length_take, List.length_drop, List.length_append, List.length_cons, List.length_nil, List.length_set]; omega) | (simp; done)))))
        exact Ev.val (by rw [h3]; rfl)
      · (repeat (first | with_reducible refine Ev.bindS ?_ | (with_reducible refine Ev.ifp ?_ ?_; (· first | omega | assumption | rfl | (simp only [List.length_map, List.length_replicate, List.length_take, List.length_drop, List.length_append, List.length_cons, List.length_nil, List.length_set]; omega) | (simp; done))) | (with_reducible refine Ev.ifn ?_ ?_; (· first | omega | assumption | rfl | (simp only [List.length_map, List.length_replicate, List.length_take, List.length_drop, List.length_append, List.length_cons, List.length_nil, List.length_set]; omega) | (simp; done)))))
        refine Ev.bind (specWords_ev s hs) ?_
        rw [h3, Bool.true_and]
        (repeat (first | with_reducible refine Ev.bindS ?_ | (with_reducible refine Ev.ifp ?_ ?_; (· first | omega | assumption | rfl | (simp only [List.length_map, List.length_replicate, List.length_take, List.length_drop, List.length_append, List.length_cons, List.length_nil, List.length_set]; omega) | (simp; done))) | (with_reducible refine Ev.ifn ?_ ?_; (· first | omega | assumption | rfl | (simp only [List.length_map, List.length_replicate, List.length_take, List.length_drop, List.length_append, List.length_cons, List.length_nil, List.length_set]; omega) | (simp; done)))))
        exact ih
  have h := key l 0 rfl (by omega)
  have e : docsOk l = (l.all docOk && decide ((l.length : Int) ≤ 12)) := by
    have e2 : decide ((l.length : Int) ≤ 12) = decide (l.length ≤ 12) := by rw [decide_eq_decide]; omega
    rw [docsOk, e2, Bool.and_comm]
  rw [e]
  exact h
theorem find_ev (l : List ByteArray) (hl : Small l) : Ev (fun k => slices_ContainsFunc_at89.f k l) (!(l.all docOk)) := by
  have hl1 := hl.1
  have hd : ∀ x, x.size ≤ 1048576 → Ev (fun k => impl_areDocs_1.f k x) (!docOk x) := by
    intro x hx
    simp only [impl_areDocs_1.f]
    refine Ev.bind (implWordsOf_ev x hx) ?_
    exact Ev.val rfl
  have key : ∀ (t : List ByteArray) (i : Nat), l.drop i = t → i ≤ l.length → ∃ r : Int, Ev (fun k => slices_IndexFunc_at89.l0 k l l.length i) r ∧ decide (r ≥ 0) = !(t.all docOk) := by
    intro t
    induction t with
    | nil =>
      intro i h hi
      have := drop_nil h
      refine ⟨-1, ?_, by simp⟩
      (refine Ev.up ?_; simp only [slices_IndexFunc_at89.l0, decT])
      (repeat (first | with_reducible refine Ev.bindS ?_ | (with_reducible refine Ev.ifp ?_ ?_; (· first | omega | assumption | rfl | (simp only [List.length_map, List.length_replicate, List.length_take, List.length_drop, List.length_append, List.length_cons, List.length_nil, List.length_set]; omega) | (simp; done))) | (with_reducible refine Ev.ifn ?_ ?_; (· first | omega | assumption | rfl | (simp only [List.length_map, List.length_replicate, List.length_take, List.length_drop, List.length_append, List.length_cons, List.length_nil, List.length_set]; omega) | (simp; done)))))
      exact Ev.val rfl
    | cons x t ih =>
      intro i h hi
      obtain ⟨p1, p2, p3⟩ := drop_cons h
      have hx := hl.2 x (List.mem_of_getElem? p2)
      obtain ⟨r, ih, hr⟩ := ih (i + 1) p3 (by omega)
      cases hk : docOk x with
      | true =>
        refine ⟨r, ?_, by rw [List.all_cons, hk, hr]; simp⟩
        (refine Ev.up ?_; simp only [slices_IndexFunc_at89.l0, decT])
        rw [rdOf_at p2, wrap_succ (by omega)]
        (repeat (first | with_reducible refine Ev.bindS ?_ | (with_reducible refine Ev.ifp ?_ ?_; (· first | omega | assumption | rfl | (simp only [List.length_map, List.length_replicate, List.length_take, List.length_drop, List.length_append, List.length_cons, List.length_nil, List.length_set]; omega) | (simp; done))) | (with_reducible refine Ev.ifn ?_ ?_; (· first | omega | assumption | rfl | (simp only [List.length_map, List.length_replicate, List.length_take, List.length_drop, List.length_append, List.length_cons, List.length_nil, List.length_set]; omega) | (simp; done)))))
        refine Ev.bind (hd x hx) ?_
        rw [hk]
        (repeat (first | with_reducible refine Ev.bindS ?_ | (with_reducible refine Ev.ifp ?_ ?_; (· first | omega | assumption | rfl | (simp only [List.length_map, List.length_replicate, List.length_take, List.length_drop, List.length_append, List.length_cons, List.length_nil, List.length_set]; omega) | (simp; done))) | (with_reducible refine Ev.ifn ?_ ?_; (· first | omega | assumption | rfl | (simp only [List.length_map, List.length_replicate, List.length_take, List.length_drop, List.length_append, List.length_cons, List.length_nil, List.length_set]; omega) | (simp; done)))))
        exact ih
      | false =>
        refine ⟨i, ?_, by rw [List.all_cons, hk]; simp⟩
        (refine Ev.up ?_; simp only [slices_IndexFunc_at89.l0, decT])
        rw [rdOf_at p2, wrap_succ (by omega)]
        (repeat (first | with_reducible refine Ev.bindS ?_ | (with_reducible refine Ev.ifp ?_ ?_; (· first | omega | assumption | rfl | (simp only [List.length_map, List.length_replicate, List.length_take, List.length_drop, List.length_append, List.length_cons, List.length_nil, List.length_set]; omega) | (simp; done))) | (with_reducible refine Ev.ifn ?_ ?_; (· first | omega | assumption | rfl | (simp only [List.length_map, List.length_replicate, List.length_take, List.length_drop, List.length_append, List.length_cons, List.length_nil, List.length_set]; omega) | (simp; done)))))
        refine Ev.bind (hd x hx) ?_
        rw [hk]
        (repeat (first | with_reducible refine Ev.bindS ?_ | (with_reducible refine Ev.ifp ?_ ?_; (· first | omega | assumption | rfl | (simp only [List.length_map, List.length_replicate, List.length_take, List.length_drop, List.length_append, List.length_cons, List.length_nil, List.length_set]; omega) | (simp; done))) | (with_reducible refine Ev.ifn ?_ ?_; (· first | omega | assumption | rfl | (simp only [List.length_map, List.length_replicate, List.length_take, List.length_drop, List.length_append, List.length_cons, List.length_nil, List.length_set]; omega) | (simp; done)))))
        exact Ev.val rfl
  obtain ⟨r, h1, h2⟩ := key l 0 rfl (by omega)
  simp only [slices_ContainsFunc_at89.f]
  refine Ev.bind (g := fun k => slices_IndexFunc_at89.f k l) h1 ?_
  exact Ev.val h2
theorem implDocs_ev (l : List ByteArray) (hl : Small l) : Ev (fun k => impl_areDocs.f k l) (docsOk l) := by
  have hl1 := hl.1
  simp only [impl_areDocs.f, docsOk]
  by_cases h : l.length ≤ 12
  · rw [decide_eq_true h, Bool.true_and]
    (repeat (first | with_reducible refine Ev.bindS ?_ | (with_reducible refine Ev.ifp ?_ ?_; (· first | omega | assumption | rfl | (simp only [List.length_map, List.length_replicate, List.length_take, List.length_drop, List.length_append, List.length_cons, List.length_nil, List.length_set]; omega) | (simp; done))) | (with_reducible refine Ev.ifn ?_ ?_; (· first | omega | assumption | rfl | (simp only [List.length_map, List.length_replicate, List.length_take, List.length_drop, List.length_append, List.length_cons, List.length_nil, List.length_set]; omega) | (simp; done)))))
    refine Ev.bind (find_ev l hl) ?_
    exact Ev.val (by simp)
  · rw [decide_eq_false h]
    (repeat (first | with_reducible refine Ev.bindS ?_ | (with_reducible refine Ev.ifp ?_ ?_; (· first | omega | assumption | rfl | (simp only [List.length_map, List.length_replicate, List.length_take, List.length_drop, List.length_append, List.length_cons, List.length_nil, List.length_set]; omega) | (simp; done))) | (with_reducible refine Ev.ifn ?_ ?_; (· first | omega | assumption | rfl | (simp only [List.length_map, List.length_replicate, List.length_take, List.length_drop, List.length_append, List.length_cons, List.length_nil, List.length_set]; omega) | (simp; done)))))
    exact Ev.val rfl
def lower (b : Int) : Bool := decide (97 ≤ b ∧ b ≤ 122)
def wordOk (w : ByteArray) : Bool := (nm w).all lower && decide (1 ≤ (w.size : Int) ∧ (w.size : Int) ≤ 12)
theorem specWord_ev (w : ByteArray) (hw : w.size ≤ 1048576) : Ev (fun k => spec_l9Word.f k w) (wordOk w) := by
  have hn := nm_length w
  have key : ∀ (t : List Int) (i : Nat), (nm w).drop i = t → i ≤ w.size → Ev (fun k => spec_l9Word.l0 k w i) (t.all lower && decide (1 ≤ (w.size : Int) ∧ (w.size : Int) ≤ 12)) := by
    intro t
    induction t with
    | nil =>
      intro i h hi
      have := drop_nil h
      (refine Ev.up ?_; simp only [spec_l9Word.l0, decT])
      rw [specIn_eq]
      (repeat (first | with_reducible refine Ev.bindS ?_ | (with_reducible refine Ev.ifp ?_ ?_; (· first | omega | assumption | rfl | (simp only [List.length_map, List.length_replicate, List.length_take, List.length_drop, List.length_append, List.length_cons, List.length_nil, List.length_set]; omega) | (simp; done))) | (with_reducible refine Ev.ifn ?_ ?_; (· first | omega | assumption | rfl | (simp only [List.length_map, List.length_replicate, List.length_take, List.length_drop, List.length_append, List.length_cons, List.length_nil, List.length_set]; omega) | (simp; done)))))
      exact Ev.val (by simp)
    | cons b t ih =>
      intro i h hi
      obtain ⟨p1, p2, p3⟩ := drop_cons h
      have ih := ih (i + 1) p3 (by omega)
      (refine Ev.up ?_; simp only [spec_l9Word.l0, decT])
      rw [nm_get p2, wrap_succ (by omega), List.all_cons]
      by_cases h1 : b < 97
      · have e : lower b = false := decide_eq_false (by omega)
        rw [e]
        (repeat (first | with_reducible refine Ev.bindS ?_ | (with_reducible refine Ev.ifp ?_ ?_; (· first | omega | assumption | rfl | (simp only [List.length_map, List.length_replicate, List.length_take, List.length_drop, List.length_append, List.length_cons, List.length_nil, List.length_set]; omega) | (simp; done))) | (with_reducible refine Ev.ifn ?_ ?_; (· first | omega | assumption | rfl | (simp only [List.length_map, List.length_replicate, List.length_take, List.length_drop, List.length_append, List.length_cons, List.length_nil, List.length_set]; omega) | (simp; done)))))
        exact Ev.val rfl
      · by_cases h2 : b > 122
        · have e : lower b = false := decide_eq_false (by omega)
          rw [e]
          (repeat (first | with_reducible refine Ev.bindS ?_ | (with_reducible refine Ev.ifp ?_ ?_; (· first | omega | assumption | rfl | (simp only [List.length_map, List.length_replicate, List.length_take, List.length_drop, List.length_append, List.length_cons, List.length_nil, List.length_set]; omega) | (simp; done))) | (with_reducible refine Ev.ifn ?_ ?_; (· first | omega | assumption | rfl | (simp only [List.length_map, List.length_replicate, List.length_take, List.length_drop, List.length_append, List.length_cons, List.length_nil, List.length_set]; omega) | (simp; done)))))
          exact Ev.val rfl
        · have e : lower b = true := decide_eq_true (by omega)
          rw [e, Bool.true_and]
          (repeat (first | with_reducible refine Ev.bindS ?_ | (with_reducible refine Ev.ifp ?_ ?_; (· first | omega | assumption | rfl | (simp only [List.length_map, List.length_replicate, List.length_take, List.length_drop, List.length_append, List.length_cons, List.length_nil, List.length_set]; omega) | (simp; done))) | (with_reducible refine Ev.ifn ?_ ?_; (· first | omega | assumption | rfl | (simp only [List.length_map, List.length_replicate, List.length_take, List.length_drop, List.length_append, List.length_cons, List.length_nil, List.length_set]; omega) | (simp; done)))))
          exact ih
  exact key (nm w) 0 rfl (by omega)
theorem implWord_ev (w : ByteArray) (hw : w.size ≤ 1048576) : Ev (fun k => impl_isWord.f k w) (wordOk w) := by
  have hn := nm_length w
  have key : ∀ (t : List Int) (i : Nat), (nm w).drop i = t → i ≤ w.size → Ev (fun k => impl_areLetters.l0 k w w.size i) (t.all lower && decide ((w.size : Int) ≤ 12)) := by
    intro t
    induction t with
    | nil =>
      intro i h hi
      have := drop_nil h
      (refine Ev.up ?_; simp only [impl_areLetters.l0, decT])
      (repeat (first | with_reducible refine Ev.bindS ?_ | (with_reducible refine Ev.ifp ?_ ?_; (· first | omega | assumption | rfl | (simp only [List.length_map, List.length_replicate, List.length_take, List.length_drop, List.length_append, List.length_cons, List.length_nil, List.length_set]; omega) | (simp; done))) | (with_reducible refine Ev.ifn ?_ ?_; (· first | omega | assumption | rfl | (simp only [List.length_map, List.length_replicate, List.length_take, List.length_drop, List.length_append, List.length_cons, List.length_nil, List.length_set]; omega) | (simp; done)))))
      exact Ev.val (by simp)
    | cons b t ih =>
      intro i h hi
      obtain ⟨p1, p2, p3⟩ := drop_cons h
      have ih := ih (i + 1) p3 (by omega)
      (refine Ev.up ?_; simp only [impl_areLetters.l0, decT])
      rw [nm_get p2, wrap_succ (by omega), isLetter_eq, List.all_cons]
      by_cases h1 : 97 ≤ b ∧ b ≤ 122
      · have e : lower b = true := decide_eq_true h1
        rw [e, Bool.true_and, decide_eq_true h1]
        (repeat (first | with_reducible refine Ev.bindS ?_ | (with_reducible refine Ev.ifp ?_ ?_; (· first | omega | assumption | rfl | (simp only [List.length_map, List.length_replicate, List.length_take, List.length_drop, List.length_append, List.length_cons, List.length_nil, List.length_set]; omega) | (simp; done))) | (with_reducible refine Ev.ifn ?_ ?_; (· first | omega | assumption | rfl | (simp only [List.length_map, List.length_replicate, List.length_take, List.length_drop, List.length_append, List.length_cons, List.length_nil, List.length_set]; omega) | (simp; done)))))
        exact ih
      · have e : lower b = false := decide_eq_false h1
        rw [e, decide_eq_false h1]
        (repeat (first | with_reducible refine Ev.bindS ?_ | (with_reducible refine Ev.ifp ?_ ?_; (· first | omega | assumption | rfl | (simp only [List.length_map, List.length_replicate, List.length_take, List.length_drop, List.length_append, List.length_cons, List.length_nil, List.length_set]; omega) | (simp; done))) | (with_reducible refine Ev.ifn ?_ ?_; (· first | omega | assumption | rfl | (simp only [List.length_map, List.length_replicate, List.length_take, List.length_drop, List.length_append, List.length_cons, List.length_nil, List.length_set]; omega) | (simp; done)))))
        exact Ev.val rfl
  simp only [impl_isWord.f]
  by_cases h0 : w.size = 0
  · have h1 := nil_size.2 h0
    (repeat (first | with_reducible refine Ev.bindS ?_ | (with_reducible refine Ev.ifp ?_ ?_; (· first | omega | assumption | rfl | (simp only [List.length_map, List.length_replicate, List.length_take, List.length_drop, List.length_append, List.length_cons, List.length_nil, List.length_set]; omega) | (simp; done))) | (with_reducible refine Ev.ifn ?_ ?_; (· first | omega | assumption | rfl | (simp only [List.length_map, List.length_replicate, List.length_take, List.length_drop, List.length_append, List.length_cons, List.length_nil, List.length_set]; omega) | (simp; done)))))
    exact Ev.val (by simp [wordOk, h0])
  · have h1 : ¬ w.toList = ([] : List UInt8) := fun h => h0 (nil_size.1 h)
    (repeat (first | with_reducible refine Ev.bindS ?_ | (with_reducible refine Ev.ifp ?_ ?_; (· first | omega | assumption | rfl | (simp only [List.length_map, List.length_replicate, List.length_take, List.length_drop, List.length_append, List.length_cons, List.length_nil, List.length_set]; omega) | (simp; done))) | (with_reducible refine Ev.ifn ?_ ?_; (· first | omega | assumption | rfl | (simp only [List.length_map, List.length_replicate, List.length_take, List.length_drop, List.length_append, List.length_cons, List.length_nil, List.length_set]; omega) | (simp; done)))))
    refine Ev.bind (g := fun k => impl_areLetters.f k w) (key (nm w) 0 rfl (by omega)) ?_
    refine Ev.val ?_
    rw [wordOk]
    congr 1
    rw [decide_eq_decide]
    omega
/-- The places of a word in a list of words. -/
def placesFrom (w : ByteArray) : List ByteArray → Nat → List Int → List Int
  | [], _, acc => acc
  | x :: t, i, acc => if x.toList = w.toList then placesFrom w t (i + 1) (acc ++ [(i : Int)]) else placesFrom w t (i + 1) acc
def places (w : ByteArray) (s : ByteArray) : List Int := placesFrom w (wordsOf s) 0 []
theorem placesFrom_len (w : ByteArray) (t : List ByteArray) : ∀ (i : Nat) (acc : List Int), (placesFrom w t i acc).length ≤ acc.length + t.length := by
  induction t with
  | nil => intro i acc; simp [placesFrom]
  | cons x t ih =>
    intro i acc
    simp only [placesFrom, List.length_cons]
    split
    · have := ih (i + 1) (acc ++ [(i : Int)])
      simp only [List.length_append, List.length_cons, List.length_nil] at this
      omega
    · have := ih (i + 1) acc
      omega
theorem places_mem (w : ByteArray) (t : List ByteArray) : ∀ (i : Nat) (acc : List Int) (p : Int), p ∈ placesFrom w t i acc ↔ p ∈ acc ∨ ∃ (j : Nat) (y : ByteArray), t[j]? = some y ∧ y.toList = w.toList ∧ p = ((i + j : Nat) : Int) := by
  induction t with
  | nil => intro i acc p; simp [placesFrom]
  | cons x t ih =>
    intro i acc p
    have step : (∃ (j : Nat) (y : ByteArray), (x :: t)[j]? = some y ∧ y.toList = w.toList ∧ p = ((i + j : Nat) : Int)) ↔ (x.toList = w.toList ∧ p = (i : Int)) ∨ ∃ (j : Nat) (y : ByteArray), t[j]? = some y ∧ y.toList = w.toList ∧ p = ((i + 1 + j : Nat) : Int) := by
      constructor
      · rintro ⟨j, y, h1, h2, h3⟩
        cases j with
        | zero =>
          have : x = y := by simpa using h1
          subst this
          exact .inl ⟨h2, by simpa using h3⟩
        | succ j => exact .inr ⟨j, y, by simpa using h1, h2, by rw [h3]; omega⟩
      · rintro (⟨h1, h2⟩ | ⟨j, y, h1, h2, h3⟩)
        · exact ⟨0, x, rfl, h1, by simpa using h2⟩
        · exact ⟨j + 1, y, by simpa using h1, h2, by rw [h3]; omega⟩
    rw [step]
    simp only [placesFrom]
    split
    · rename_i hx
      rw [ih, List.mem_append, List.mem_singleton]
      constructor
      · rintro ((h | h) | h)
        · exact .inl h
        · exact .inr (.inl ⟨hx, h⟩)
        · exact .inr (.inr h)
      · rintro (h | ⟨_, h⟩ | h)
        · exact .inl (.inl h)
        · exact .inl (.inr h)
        · exact .inr h
    · rename_i hx
      rw [ih]
      constructor
      · rintro (h | h)
        · exact .inl h
        · exact .inr (.inr h)
      · rintro (h | ⟨h, _⟩ | h)
        · exact .inl h
        · exact absurd h hx
        · exact .inr h
def postsFrom (w : ByteArray) : List ByteArray → Nat → List S57 → List S57
  | [], _, acc => acc
  | s :: t, i, acc => if ((places w s).length : Int) > 0 then postsFrom w t (i + 1) (acc ++ [⟨(i : Int), places w s⟩]) else postsFrom w t (i + 1) acc
theorem implPlaces_ev (w : ByteArray) (l : List ByteArray) (hl : l.length ≤ 2097152) : Ev (fun k => impl_placesOf.f k l w) (placesFrom w l 0 []) := by
  have key : ∀ (t : List ByteArray) (i : Nat) (acc : List Int), l.drop i = t → i ≤ l.length → acc.length ≤ i → Ev (fun k => impl_placesOf.l0 k w acc l l.length i) (placesFrom w t i acc) := by
    intro t
    induction t with
    | nil =>
      intro i acc h hi ha
      have := drop_nil h
      (refine Ev.up ?_; simp only [impl_placesOf.l0, decT])
      (repeat (first | with_reducible refine Ev.bindS ?_ | (with_reducible refine Ev.ifp ?_ ?_; (· first | omega | assumption | rfl | (simp only [List.length_map, List.length_replicate, List.length_take, List.length_drop, List.length_append, List.length_cons, List.length_nil, List.length_set]; omega) | (simp; done))) | (with_reducible refine Ev.ifn ?_ ?_; (· first | omega | assumption | rfl | (simp only [List.length_map, List.length_replicate, List.length_take, List.length_drop, List.length_append, List.length_cons, List.length_nil, List.length_set]; omega) | (simp; done)))))
      exact Ev.val rfl
    | cons x t ih =>
      intro i acc h hi ha
      obtain ⟨p1, p2, p3⟩ := drop_cons h
      (refine Ev.up ?_; simp only [impl_placesOf.l0, decT])
      rw [rdOf_at p2, wrap_succ (by omega)]
      simp only [placesFrom]
      by_cases hx : x.toList = w.toList
      · rw [if_pos hx]
        (repeat (first | with_reducible refine Ev.bindS ?_ | (with_reducible refine Ev.ifp ?_ ?_; (· first | omega | assumption | rfl | (simp only [List.length_map, List.length_replicate, List.length_take, List.length_drop, List.length_append, List.length_cons, List.length_nil, List.length_set]; omega) | (simp; done))) | (with_reducible refine Ev.ifn ?_ ?_; (· first | omega | assumption | rfl | (simp only [List.length_map, List.length_replicate, List.length_take, List.length_drop, List.length_append, List.length_cons, List.length_nil, List.length_set]; omega) | (simp; done)))))
        exact ih (i + 1) _ p3 (by omega) (by simp; omega)
      · rw [if_neg hx]
        (repeat (first | with_reducible refine Ev.bindS ?_ | (with_reducible refine Ev.ifp ?_ ?_; (· first | omega | assumption | rfl | (simp only [List.length_map, List.length_replicate, List.length_take, List.length_drop, List.length_append, List.length_cons, List.length_nil, List.length_set]; omega) | (simp; done))) | (with_reducible refine Ev.ifn ?_ ?_; (· first | omega | assumption | rfl | (simp only [List.length_map, List.length_replicate, List.length_take, List.length_drop, List.length_append, List.length_cons, List.length_nil, List.length_set]; omega) | (simp; done)))))
        exact ih (i + 1) _ p3 (by omega) (by omega)
  exact key l 0 [] rfl (by omega) (by simp)
theorem implPosts_ev (l : List ByteArray) (hl : Small l) (w : ByteArray) : Ev (fun k => impl_posts.f k l w) (postsFrom w l 0 []) := by
  have hl1 := hl.1
  have key : ∀ (t : List ByteArray) (i : Nat) (acc : List S57), l.drop i = t → i ≤ l.length → acc.length ≤ i → Ev (fun k => impl_posts.l0 k w acc l l.length i) (postsFrom w t i acc) := by
    intro t
    induction t with
    | nil =>
      intro i acc h hi ha
      have := drop_nil h
      (refine Ev.up ?_; simp only [impl_posts.l0, decT])
      (repeat (first | with_reducible refine Ev.bindS ?_ | (with_reducible refine Ev.ifp ?_ ?_; (· first | omega | assumption | rfl | (simp only [List.length_map, List.length_replicate, List.length_take, List.length_drop, List.length_append, List.length_cons, List.length_nil, List.length_set]; omega) | (simp; done))) | (with_reducible refine Ev.ifn ?_ ?_; (· first | omega | assumption | rfl | (simp only [List.length_map, List.length_replicate, List.length_take, List.length_drop, List.length_append, List.length_cons, List.length_nil, List.length_set]; omega) | (simp; done)))))
      exact Ev.val rfl
    | cons s t ih =>
      intro i acc h hi ha
      obtain ⟨p1, p2, p3⟩ := drop_cons h
      have hs := hl.2 s (List.mem_of_getElem? p2)
      have hw := words_len (nm s) eS []
      have hn := nm_length s
      simp only [List.length_nil] at hw
      (refine Ev.up ?_; simp only [impl_posts.l0, decT])
      rw [rdOf_at p2, wrap_succ (by omega)]
      (repeat (first | with_reducible refine Ev.bindS ?_ | (with_reducible refine Ev.ifp ?_ ?_; (· first | omega | assumption | rfl | (simp only [List.length_map, List.length_replicate, List.length_take, List.length_drop, List.length_append, List.length_cons, List.length_nil, List.length_set]; omega) | (simp; done))) | (with_reducible refine Ev.ifn ?_ ?_; (· first | omega | assumption | rfl | (simp only [List.length_map, List.length_replicate, List.length_take, List.length_drop, List.length_append, List.length_cons, List.length_nil, List.length_set]; omega) | (simp; done)))))
      refine Ev.bind (implWords_ev s hs) ?_
      refine Ev.bind (implPlaces_ev w (wordsOf s) (by rw [wordsOf]; omega)) ?_
      simp only [postsFrom]
      by_cases hx : ((places w s).length : Int) > 0
      · have hx' : ((placesFrom w (wordsOf s) 0 []).length : Int) > 0 := hx
        rw [if_pos hx]
        (repeat (first | with_reducible refine Ev.bindS ?_ | (with_reducible refine Ev.ifp ?_ ?_; (· first | omega | assumption | rfl | (simp only [List.length_map, List.length_replicate, List.length_take, List.length_drop, List.length_append, List.length_cons, List.length_nil, List.length_set]; omega) | (simp; done))) | (with_reducible refine Ev.ifn ?_ ?_; (· first | omega | assumption | rfl | (simp only [List.length_map, List.length_replicate, List.length_take, List.length_drop, List.length_append, List.length_cons, List.length_nil, List.length_set]; omega) | (simp; done)))))
        exact ih (i + 1) _ p3 (by omega) (by simp; omega)
      · have hx' : ¬ ((placesFrom w (wordsOf s) 0 []).length : Int) > 0 := hx
        rw [if_neg hx]
        (repeat (first | with_reducible refine Ev.bindS ?_ | (with_reducible refine Ev.ifp ?_ ?_; (· first | omega | assumption | rfl | (simp only [List.length_map, List.length_replicate, List.length_take, List.length_drop, List.length_append, List.length_cons, List.length_nil, List.length_set]; omega) | (simp; done))) | (with_reducible refine Ev.ifn ?_ ?_; (· first | omega | assumption | rfl | (simp only [List.length_map, List.length_replicate, List.length_take, List.length_drop, List.length_append, List.length_cons, List.length_nil, List.length_set]; omega) | (simp; done)))))
        exact ih (i + 1) _ p3 (by omega) (by omega)
  exact key l 0 [] rfl (by omega) (by simp)
theorem specPosts_ev (l : List ByteArray) (hl : Small l) (w : ByteArray) : Ev (fun k => spec_l9Posts.f k l w) (postsFrom w l 0 []) := by
  have hl1 := hl.1
  -- the inner loop: the places of a text's words
  have inner : ∀ (i : Nat) (ws : List ByteArray) (out : List S57) (r : List S57), ws.length ≤ 2097152 →
      (((placesFrom w ws 0 []).length : Int) > 0 → Ev (fun k => if out.length < 4398046511104 then spec_l9Posts.l0 k w (out ++ [⟨(i : Int), placesFrom w ws 0 []⟩]) l l.length (wrap64 ((i : Int) + 1)) else none) r) →
      (¬ ((placesFrom w ws 0 []).length : Int) > 0 → Ev (fun k => spec_l9Posts.l0 k w out l l.length (wrap64 ((i : Int) + 1))) r) →
      Ev (fun k => spec_l9Posts.l1 k w out l l.length i ws ws.length 0 i []) r := by
    intro i ws out r hws hyes hno
    have key : ∀ (t : List ByteArray) (j : Nat) (acc : List Int), ws.drop j = t → j ≤ ws.length → acc.length ≤ j → placesFrom w t j acc = placesFrom w ws 0 [] → Ev (fun k => spec_l9Posts.l1 k w out l l.length i ws ws.length j i acc) r := by
      intro t
      induction t with
      | nil =>
        intro j acc h hj ha he
        have := drop_nil h
        simp only [placesFrom] at he
        rw [← he] at hyes hno
        (refine Ev.up ?_; simp only [spec_l9Posts.l1, decT])
        by_cases hx : (acc.length : Int) > 0
        · have := hyes hx
          exact Ev.ifn (by omega) (Ev.ifp hx this)
        · have := hno hx
          (repeat (first | with_reducible refine Ev.bindS ?_ | (with_reducible refine Ev.ifp ?_ ?_; (· first | omega | assumption | rfl | (simp only [List.length_map, List.length_replicate, List.length_take, List.length_drop, List.length_append, List.length_cons, List.length_nil, List.length_set]; omega) | (simp; done))) | (with_reducible refine Ev.ifn ?_ ?_; (· first | omega | assumption | rfl | (simp only [List.length_map, List.length_replicate, List.length_take, List.length_drop, List.length_append, List.length_cons, List.length_nil, List.length_set]; omega) | (simp; done)))))
          exact this
      | cons x t ih =>
        intro j acc h hj ha he
        obtain ⟨p1, p2, p3⟩ := drop_cons h
        simp only [placesFrom] at he
        (refine Ev.up ?_; simp only [spec_l9Posts.l1, decT])
        rw [rdOf_at p2, wrap_succ (i := j) (by omega)]
        by_cases hx : x.toList = w.toList
        · rw [if_pos hx] at he
          (repeat (first | with_reducible refine Ev.bindS ?_ | (with_reducible refine Ev.ifp ?_ ?_; (· first | omega | assumption | rfl | (simp only [List.length_map, List.length_replicate, List.length_take, List.length_drop, List.length_append, List.length_cons, List.length_nil, List.length_set]; omega) | (simp; done))) | (with_reducible refine Ev.ifn ?_ ?_; (· first | omega | assumption | rfl | (simp only [List.length_map, List.length_replicate, List.length_take, List.length_drop, List.length_append, List.length_cons, List.length_nil, List.length_set]; omega) | (simp; done)))))
          exact ih (j + 1) _ p3 (by omega) (by simp; omega) he
        · rw [if_neg hx] at he
          (repeat (first | with_reducible refine Ev.bindS ?_ | (with_reducible refine Ev.ifp ?_ ?_; (· first | omega | assumption | rfl | (simp only [List.length_map, List.length_replicate, List.length_take, List.length_drop, List.length_append, List.length_cons, List.length_nil, List.length_set]; omega) | (simp; done))) | (with_reducible refine Ev.ifn ?_ ?_; (· first | omega | assumption | rfl | (simp only [List.length_map, List.length_replicate, List.length_take, List.length_drop, List.length_append, List.length_cons, List.length_nil, List.length_set]; omega) | (simp; done)))))
          exact ih (j + 1) _ p3 (by omega) (by omega) he
    exact key ws 0 [] rfl (by omega) (by simp) rfl
  have key : ∀ (t : List ByteArray) (i : Nat) (acc : List S57), l.drop i = t → i ≤ l.length → acc.length ≤ i → Ev (fun k => spec_l9Posts.l0 k w acc l l.length i) (postsFrom w t i acc) := by
    intro t
    induction t with
    | nil =>
      intro i acc h hi ha
      have := drop_nil h
      (refine Ev.up ?_; simp only [spec_l9Posts.l0, decT])
      (repeat (first | with_reducible refine Ev.bindS ?_ | (with_reducible refine Ev.ifp ?_ ?_; (· first | omega | assumption | rfl | (simp only [List.length_map, List.length_replicate, List.length_take, List.length_drop, List.length_append, List.length_cons, List.length_nil, List.length_set]; omega) | (simp; done))) | (with_reducible refine Ev.ifn ?_ ?_; (· first | omega | assumption | rfl | (simp only [List.length_map, List.length_replicate, List.length_take, List.length_drop, List.length_append, List.length_cons, List.length_nil, List.length_set]; omega) | (simp; done)))))
      exact Ev.val rfl
    | cons s t ih =>
      intro i acc h hi ha
      obtain ⟨p1, p2, p3⟩ := drop_cons h
      have hs := hl.2 s (List.mem_of_getElem? p2)
      have hw := words_len (nm s) eS []
      have hn := nm_length s
      simp only [List.length_nil] at hw
      (refine Ev.up ?_; simp only [spec_l9Posts.l0, decT])
      rw [rdOf_at p2]
      (repeat (first | with_reducible refine Ev.bindS ?_ | (with_reducible refine Ev.ifp ?_ ?_; (· first | omega | assumption | rfl | (simp only [List.length_map, List.length_replicate, List.length_take, List.length_drop, List.length_append, List.length_cons, List.length_nil, List.length_set]; omega) | (simp; done))) | (with_reducible refine Ev.ifn ?_ ?_; (· first | omega | assumption | rfl | (simp only [List.length_map, List.length_replicate, List.length_take, List.length_drop, List.length_append, List.length_cons, List.length_nil, List.length_set]; omega) | (simp; done)))))
      refine Ev.bind (specWords_ev s hs) ?_
      simp only [postsFrom]
      refine inner i (wordsOf s) acc _ (by rw [wordsOf]; omega) (fun hx => ?_) (fun hx => ?_)
      · have hx' : ((places w s).length : Int) > 0 := hx
        rw [if_pos hx', wrap_succ (by omega)]
        (repeat (first | with_reducible refine Ev.bindS ?_ | (with_reducible refine Ev.ifp ?_ ?_; (· first | omega | assumption | rfl | (simp only [List.length_map, List.length_replicate, List.length_take, List.length_drop, List.length_append, List.length_cons, List.length_nil, List.length_set]; omega) | (simp; done))) | (with_reducible refine Ev.ifn ?_ ?_; (· first | omega | assumption | rfl | (simp only [List.length_map, List.length_replicate, List.length_take, List.length_drop, List.length_append, List.length_cons, List.length_nil, List.length_set]; omega) | (simp; done)))))
        exact ih (i + 1) _ p3 (by omega) (by simp; omega)
      · have hx' : ¬ ((places w s).length : Int) > 0 := hx
        rw [if_neg hx', wrap_succ (by omega)]
        exact ih (i + 1) _ p3 (by omega) (by omega)
  exact key l 0 [] rfl (by omega) (by simp)
def postsRes (l : List ByteArray) (w : ByteArray) : List S57 × Bool := if docsOk l = true ∧ wordOk w = true then (postsFrom w l 0 [], true) else ([], false)
theorem specPostsOf_ev (l : List ByteArray) (hl : Small l) (w : ByteArray) (hw : w.size ≤ 1048576) : Ev (fun k => spec_PostsOf.f k l w) (postsRes l w) := by
  simp only [spec_PostsOf.f]
  refine Ev.bind (specDocs_ev l hl) ?_
  cases h1 : docsOk l with
  | false =>
    have e : postsRes l w = ([], false) := by rw [postsRes, if_neg (by rw [h1]; simp)]
    rw [e]; (repeat (first | with_reducible refine Ev.bindS ?_ | (with_reducible refine Ev.ifp ?_ ?_; (· first | omega | assumption | rfl | (simp only [List.length_map, List.length_replicate, List.length_take, List.length_drop, List.length_append, List.length_cons, List.length_nil, List.length_set]; omega) | (simp; done))) | (with_reducible refine Ev.ifn ?_ ?_; (· first | omega | assumption | rfl | (simp only [List.length_map, List.length_replicate, List.length_take, List.length_drop, List.length_append, List.length_cons, List.length_nil, List.length_set]; omega) | (simp; done))))); exact Ev.val rfl
  | true =>
    (repeat (first | with_reducible refine Ev.bindS ?_ | (with_reducible refine Ev.ifp ?_ ?_; (· first | omega | assumption | rfl | (simp only [List.length_map, List.length_replicate, List.length_take, List.length_drop, List.length_append, List.length_cons, List.length_nil, List.length_set]; omega) | (simp; done))) | (with_reducible refine Ev.ifn ?_ ?_; (· first | omega | assumption | rfl | (simp only [List.length_map, List.length_replicate, List.length_take, List.length_drop, List.length_append, List.length_cons, List.length_nil, List.length_set]; omega) | (simp; done)))))
    refine Ev.bind (specWord_ev w hw) ?_
    cases h2 : wordOk w with
    | false =>
      have e : postsRes l w = ([], false) := by rw [postsRes, if_neg (by rw [h2]; simp)]
      rw [e]; (repeat (first | with_reducible refine Ev.bindS ?_ | (with_reducible refine Ev.ifp ?_ ?_; (· first | omega | assumption | rfl | (simp only [List.length_map, List.length_replicate, List.length_take, List.length_drop, List.length_append, List.length_cons, List.length_nil, List.length_set]; omega) | (simp; done))) | (with_reducible refine Ev.ifn ?_ ?_; (· first | omega | assumption | rfl | (simp only [List.length_map, List.length_replicate, List.length_take, List.length_drop, List.length_append, List.length_cons, List.length_nil, List.length_set]; omega) | (simp; done))))); exact Ev.val rfl
    | true =>
      have e : postsRes l w = (postsFrom w l 0 [], true) := by rw [postsRes, if_pos ⟨h1, h2⟩]
      rw [e]; (repeat (first | with_reducible refine Ev.bindS ?_ | (with_reducible refine Ev.ifp ?_ ?_; (· first | omega | assumption | rfl | (simp only [List.length_map, List.length_replicate, List.length_take, List.length_drop, List.length_append, List.length_cons, List.length_nil, List.length_set]; omega) | (simp; done))) | (with_reducible refine Ev.ifn ?_ ?_; (· first | omega | assumption | rfl | (simp only [List.length_map, List.length_replicate, List.length_take, List.length_drop, List.length_append, List.length_cons, List.length_nil, List.length_set]; omega) | (simp; done)))))
      refine Ev.bind (specPosts_ev l hl w) ?_
      exact Ev.val rfl
theorem implPostsOf_ev (l : List ByteArray) (hl : Small l) (w : ByteArray) (hw : w.size ≤ 1048576) : Ev (fun k => impl_PostsOf.f k l w) (postsRes l w) := by
  simp only [impl_PostsOf.f]
  refine Ev.bind (implDocs_ev l hl) ?_
  cases h1 : docsOk l with
  | false =>
    have e : postsRes l w = ([], false) := by rw [postsRes, if_neg (by rw [h1]; simp)]
    rw [e]; (repeat (first | with_reducible refine Ev.bindS ?_ | (with_reducible refine Ev.ifp ?_ ?_; (· first | omega | assumption | rfl | (simp only [List.length_map, List.length_replicate, List.length_take, List.length_drop, List.length_append, List.length_cons, List.length_nil, List.length_set]; omega) | (simp; done))) | (with_reducible refine Ev.ifn ?_ ?_; (· first | omega | assumption | rfl | (simp only [List.length_map, List.length_replicate, List.length_take, List.length_drop, List.length_append, List.length_cons, List.length_nil, List.length_set]; omega) | (simp; done))))); exact Ev.val rfl
  | true =>
    (repeat (first | with_reducible refine Ev.bindS ?_ | (with_reducible refine Ev.ifp ?_ ?_; (· first | omega | assumption | rfl | (simp only [List.length_map, List.length_replicate, List.length_take, List.length_drop, List.length_append, List.length_cons, List.length_nil, List.length_set]; omega) | (simp; done))) | (with_reducible refine Ev.ifn ?_ ?_; (· first | omega | assumption | rfl | (simp only [List.length_map, List.length_replicate, List.length_take, List.length_drop, List.length_append, List.length_cons, List.length_nil, List.length_set]; omega) | (simp; done)))))
    refine Ev.bind (implWord_ev w hw) ?_
    cases h2 : wordOk w with
    | false =>
      have e : postsRes l w = ([], false) := by rw [postsRes, if_neg (by rw [h2]; simp)]
      rw [e]; (repeat (first | with_reducible refine Ev.bindS ?_ | (with_reducible refine Ev.ifp ?_ ?_; (· first | omega | assumption | rfl | (simp only [List.length_map, List.length_replicate, List.length_take, List.length_drop, List.length_append, List.length_cons, List.length_nil, List.length_set]; omega) | (simp; done))) | (with_reducible refine Ev.ifn ?_ ?_; (· first | omega | assumption | rfl | (simp only [List.length_map, List.length_replicate, List.length_take, List.length_drop, List.length_append, List.length_cons, List.length_nil, List.length_set]; omega) | (simp; done))))); exact Ev.val rfl
    | true =>
      have e : postsRes l w = (postsFrom w l 0 [], true) := by rw [postsRes, if_pos ⟨h1, h2⟩]
      rw [e]; (repeat (first | with_reducible refine Ev.bindS ?_ | (with_reducible refine Ev.ifp ?_ ?_; (· first | omega | assumption | rfl | (simp only [List.length_map, List.length_replicate, List.length_take, List.length_drop, List.length_append, List.length_cons, List.length_nil, List.length_set]; omega) | (simp; done))) | (with_reducible refine Ev.ifn ?_ ?_; (· first | omega | assumption | rfl | (simp only [List.length_map, List.length_replicate, List.length_take, List.length_drop, List.length_append, List.length_cons, List.length_nil, List.length_set]; omega) | (simp; done)))))
      refine Ev.bind (implPosts_ev l hl w) ?_
      exact Ev.val rfl
theorem postsFrom_len (w : ByteArray) (t : List ByteArray) : ∀ (i : Nat) (acc : List S57), (postsFrom w t i acc).length ≤ acc.length + t.length := by
  induction t with
  | nil => intro i acc; simp [postsFrom]
  | cons x t ih =>
    intro i acc
    simp only [postsFrom, List.length_cons]
    split
    · have := ih (i + 1) (acc ++ [⟨(i : Int), places w x⟩])
      simp only [List.length_append, List.length_cons, List.length_nil] at this
      omega
    · have := ih (i + 1) acc
      omega
theorem postsRes_len (l : List ByteArray) (w : ByteArray) (hl : Small l) : (postsRes l w).1.length ≤ 1048576 := by
  unfold postsRes
  split
  · have := postsFrom_len w l 0 []
    have := hl.1
    simp only [List.length_nil] at *
    omega
  · simp
theorem rd57_at {l : List S57} {i : Nat} {x : S57} (h : l[i]? = some x) : rd_T57 l (i : Int) = x := getD_at h
end Go.Proofs.Ytcopakljdenolaa.Pure
namespace Go.Proofs.Ytcopakljdenolaa.Pure
open Go.RowKit Go.Proofs.Ytcopakljdenolaa.Fn Go.Proofs.YtcopakljdenolaaW.PrintWords Go.Proofs.YtcopakljdenolaaW.PrintLast Go.Proofs.YtcopakljdenolaaW.PrintMore
set_option linter.unusedSimpArgs false
set_option linter.unusedVariables false

/-- The words of a text and of its parts. -/
theorem wordsFrom_out (t : List Int) : ∀ (w : ByteArray) (out : List ByteArray), wordsFrom t w out = out ++ wordsFrom t w [] := by
  have hf : ∀ (w : ByteArray) (out : List ByteArray), flush w out = out ++ flush w [] := by
    intro w out
    unfold flush
    split <;> simp
  induction t with
  | nil => intro w out; simp only [wordsFrom]; exact hf w out
  | cons b t ih =>
    intro w out
    simp only [wordsFrom]
    split
    · rw [ih eS (flush w out), ih eS (flush w []), hf w out, List.append_assoc]
    · rw [ih]
theorem wordsFrom_split (b : List Int) (x : Int) (hx : letter x = 0) (a : List Int) : ∀ (w : ByteArray) (out : List ByteArray), wordsFrom (a ++ x :: b) w out = wordsFrom b eS (wordsFrom a w out) := by
  induction a with
  | nil => intro w out; simp only [List.nil_append, wordsFrom]; rw [if_pos hx]
  | cons y a ih =>
    intro w out
    simp only [List.cons_append, wordsFrom]
    split
    · exact ih _ _
    · exact ih _ _
theorem nm_ofL (l : List UInt8) : nm (ofL l) = l.map fun b => (b.toNat : Int) := by simp [nm, ofL]
theorem nm_toL (x : ByteArray) : nm x = (toL x).map fun b => (b.toNat : Int) := rfl
def joinN : List ByteArray → List Int
  | [] => []
  | [x] => nm x
  | x :: y :: t => nm x ++ 32 :: joinN (y :: t)
theorem join_nm (l : List ByteArray) : (Lib.join (l.map toL) [32]).map (fun b => (b.toNat : Int)) = joinN l := by
  cases l with
  | nil => rfl
  | cons x t =>
    rw [List.map_cons, Lib.join_cons]
    induction t generalizing x with
    | nil => simp [Lib.joinTail, joinN, nm_toL]
    | cons y t ih =>
      have h := ih y
      simp only [Lib.joinTail, List.map_cons, List.flatten_cons, List.map_append, joinN] at h ⊢
      rw [nm_toL]
      have e : ([32] ++ toL y ++ (List.map (fun x => [32] ++ x) (List.map toL t)).flatten).map (fun b : UInt8 => (b.toNat : Int)) = 32 :: joinN (y :: t) := by
        rw [List.append_assoc, List.map_append, List.map_append]
        rw [h]
        rfl
      simp only [List.map_append] at e
      rw [← e]
      simp
def allWords (l : List ByteArray) : List ByteArray := l.flatMap wordsOf
theorem joinN_words (l : List ByteArray) : wordsFrom (joinN l) eS [] = allWords l := by
  cases l with
  | nil => rfl
  | cons x t =>
    induction t generalizing x with
    | nil => simp [joinN, allWords, wordsOf]
    | cons y t ih =>
      have h := ih y
      simp only [joinN]
      rw [wordsFrom_split _ _ (by decide), wordsFrom_out, h]
      simp [allWords, wordsOf]
theorem words_joinB (l : List ByteArray) : wordsOf (joinB l) = allWords l := by
  rw [wordsOf, joinB, nm_ofL, join_nm, joinN_words]
theorem join_len (l : List ByteArray) (m : Nat) (hl : ∀ x ∈ l, x.size ≤ m) : (Lib.join (l.map toL) [32]).length ≤ (m + 1) * l.length := by
  have e : (Lib.join (l.map toL) [32]).length = (joinN l).length := by rw [← join_nm, List.length_map]
  rw [e]
  cases l with
  | nil => simp [joinN]
  | cons x t =>
    clear e
    induction t generalizing x with
    | nil =>
      have h1 := hl x List.mem_cons_self
      simp only [joinN, List.length_cons, List.length_nil]
      rw [nm_length]; omega
    | cons y t ih =>
      have h := ih y (fun z hz => hl z (List.mem_cons_of_mem _ hz))
      have h1 := hl x List.mem_cons_self
      simp only [joinN, List.length_append, List.length_cons] at h ⊢
      rw [nm_length]
      have e1 : (m + 1) * (t.length + 1 + 1) = (m + 1) * (t.length + 1) + (m + 1) * 1 := Nat.mul_add _ _ _
      rw [e1]
      omega
/-- The order of strings. -/
theorem bless_eq : ∀ (x y : List UInt8), Op.bytesLess x y = decide (x < y)
  | [], [] => by simp [Op.bytesLess]
  | _ :: _, [] => by simp [Op.bytesLess]
  | [], _ :: _ => by simp [Op.bytesLess]
  | a :: x, b :: y => by
    rw [Op.bytesLess, bless_eq x y]
    simp only [List.cons_lt_cons_iff]
    by_cases h1 : a < b <;> by_cases h2 : a = b <;> by_cases h3 : x < y <;> simp [h1, h2, h3]
def sl (x y : ByteArray) : Prop := toL x < toL y
theorem sl_iff (x y : ByteArray) : Op.bytesLess x.toList y.toList = true ↔ sl x y := by
  rw [Lib.toList_data, Lib.toList_data, bless_eq, decide_eq_true_iff]; rfl
theorem sl_irrefl (x : ByteArray) : ¬ sl x x := List.lt_irrefl _
theorem sl_trans {x y z : ByteArray} (h : sl x y) (k : sl y z) : sl x z := List.lt_trans h k
theorem toL_inj {x y : ByteArray} (h : toL x = toL y) : x = y := by rw [← ofL_toL x, ← ofL_toL y, h]
theorem sl_total (x y : ByteArray) : sl x y ∨ x = y ∨ sl y x := by
  by_cases h : toL x < toL y
  · exact .inl h
  · by_cases k : toL y < toL x
    · exact .inr (.inr k)
    · exact .inr (.inl (toL_inj (List.le_antisymm (List.not_lt.1 k) (List.not_lt.1 h))))
/-- Two rising lists of the same members are one. -/
theorem same_sorted : ∀ (a b : List ByteArray), a.Pairwise sl → b.Pairwise sl → (∀ x, x ∈ a ↔ x ∈ b) → a = b := by
  intro a
  induction a with
  | nil =>
    intro b _ _ h
    cases b with
    | nil => rfl
    | cons y b => exact absurd ((h y).2 List.mem_cons_self) (by simp)
  | cons x a ih =>
    intro b ha hb h
    cases b with
    | nil => exact absurd ((h x).1 List.mem_cons_self) (by simp)
    | cons y b =>
      obtain ⟨a1, a2⟩ := List.pairwise_cons.1 ha
      obtain ⟨b1, b2⟩ := List.pairwise_cons.1 hb
      have e : x = y := by
        rcases List.mem_cons.1 ((h x).1 List.mem_cons_self) with e | hx
        · exact e
        · rcases List.mem_cons.1 ((h y).2 List.mem_cons_self) with e | hy
          · exact e.symm
          · exact absurd (sl_trans (a1 y hy) (b1 x hx)) (sl_irrefl _)
      subst e
      rw [ih b a2 b2 (fun z => ?_)]
      constructor
      · intro hz
        rcases List.mem_cons.1 ((h z).1 (List.mem_cons_of_mem _ hz)) with e | hz'
        · rw [e] at hz; exact absurd (a1 x hz) (sl_irrefl _)
        · exact hz'
      · intro hz
        rcases List.mem_cons.1 ((h z).2 (List.mem_cons_of_mem _ hz)) with e | hz'
        · rw [e] at hz; exact absurd (b1 x hz) (sl_irrefl _)
        · exact hz'
/-- What the sort and the making single come to. -/
theorem compact_sorted (d : List (List UInt8)) (hd : d.Pairwise (fun x y => x ≤ y)) : ∀ m, m ≤ d.length →
    (Lib.compactUpTo d.toArray m).Pairwise (fun x y => x < y) ∧ (∀ x, x ∈ Lib.compactUpTo d.toArray m ↔ ∃ j, j < m ∧ d[j]? = some x) ∧ ∀ x ∈ Lib.compactUpTo d.toArray m, ∀ y, d[m - 1]? = some y → x ≤ y := by
  intro m
  induction m with
  | zero => intro _; exact ⟨List.Pairwise.nil, fun x => ⟨fun h => (by simp [Lib.compactUpTo] at h), fun ⟨j, hj, _⟩ => by omega⟩, fun x h => (by simp [Lib.compactUpTo] at h)⟩
  | succ m ih =>
    intro hm
    obtain ⟨i1, i2, i3⟩ := ih (by omega)
    have hx : d[m]? = some d[m] := List.getElem?_eq_getElem (by omega)
    have hat : d.toArray[m]! = d[m] := by rw [getElem!_pos d.toArray m (by simp; omega)]; simp
    rw [Lib.compactUpTo_succ, hat, show m + 1 - 1 = m by omega]
    have le_all : ∀ x ∈ Lib.compactUpTo d.toArray m, x ≤ d[m] := by
      intro x hx'
      obtain ⟨j, hj, e⟩ := (i2 x).1 hx'
      have hjl : j < d.length := by omega
      rw [List.getElem?_eq_getElem hjl] at e
      injection e with e
      rw [← e]
      exact List.pairwise_iff_getElem.1 hd j m hjl (by omega) hj
    by_cases hk : Lib.keeps d.toArray m = true
    · rw [if_pos hk]
      have hlt : ∀ x ∈ Lib.compactUpTo d.toArray m, x < d[m] := by
        intro x hx'
        have h0 : 0 < m := by
          obtain ⟨j, hj, _⟩ := (i2 x).1 hx'
          omega
        have hp : d[m - 1]? = some (d[m - 1]'(by omega)) := List.getElem?_eq_getElem (by omega)
        have hat2 : d.toArray[m - 1]! = d[m - 1]'(by omega) := by rw [getElem!_pos d.toArray (m - 1) (by simp; omega)]; simp
        have h1 := i3 x hx' _ hp
        have h2 : d[m - 1]'(by omega) ≤ d[m] := List.pairwise_iff_getElem.1 hd (m - 1) m (by omega) (by omega) (by omega)
        have hne : d[m] ≠ d[m - 1]'(by omega) := by
          unfold Lib.keeps at hk
          rw [decide_eq_true_iff, hat, hat2] at hk
          rcases hk with hk | hk
          · omega
          · exact hk
        rcases Decidable.em (x < d[m]) with h | h
        · exact h
        · have h3 : d[m] ≤ x := List.not_lt.1 h
          exact absurd (List.le_antisymm (List.le_trans h3 h1) h2) hne
      refine ⟨List.pairwise_append.2 ⟨i1, List.pairwise_singleton _ _, fun x hx' y hy => ?_⟩, fun x => ?_, fun x hx' y hy => ?_⟩
      · rw [List.mem_singleton.1 hy]
        exact hlt x hx'
      · rw [List.mem_append, i2, List.mem_singleton]
        constructor
        · rintro (⟨j, hj, e⟩ | e)
          · exact ⟨j, by omega, e⟩
          · exact ⟨m, by omega, by rw [e]; exact hx⟩
        · rintro ⟨j, hj, e⟩
          by_cases hjm : j < m
          · exact .inl ⟨j, hjm, e⟩
          · have : j = m := by omega
            subst this
            rw [hx] at e
            injection e with e
            exact .inr e.symm
      · rw [hx] at hy
        injection hy with hy
        subst hy
        rcases List.mem_append.1 hx' with hx' | hx'
        · exact le_all x hx'
        · rw [List.mem_singleton.1 hx']
          exact List.le_refl _
    · rw [if_neg hk, List.append_nil]
      have h0 : 0 < m := by
        rcases Nat.eq_zero_or_pos m with h0 | h0
        · subst h0
          exact absurd (by simp [Lib.keeps]) hk
        · exact h0
      have hp : d[m - 1]? = some (d[m - 1]'(by omega)) := List.getElem?_eq_getElem (by omega)
      have hat2 : d.toArray[m - 1]! = d[m - 1]'(by omega) := by rw [getElem!_pos d.toArray (m - 1) (by simp; omega)]; simp
      have heq : d[m] = d[m - 1]'(by omega) := by
        unfold Lib.keeps at hk
        rw [decide_eq_true_iff, hat, hat2] at hk
        exact Decidable.byContradiction fun h => hk (.inr h)
      refine ⟨i1, fun x => ?_, fun x hx' y hy => ?_⟩
      · rw [i2]
        constructor
        · rintro ⟨j, hj, e⟩
          exact ⟨j, by omega, e⟩
        · rintro ⟨j, hj, e⟩
          by_cases hjm : j < m
          · exact ⟨j, hjm, e⟩
          · have : j = m := by omega
            subst this
            rw [hx, heq] at e
            exact ⟨j - 1, by omega, by rw [hp]; exact e⟩
      · rw [hx] at hy
        injection hy with hy
        subst hy
        exact le_all x hx'
theorem vocab_sorted (ws : List ByteArray) : (compB (sortB ws)).Pairwise sl ∧ ∀ x, x ∈ compB (sortB ws) ↔ x ∈ ws := by
  have tr : ∀ a b c : List UInt8, decide (a ≤ b) = true → decide (b ≤ c) = true → decide (a ≤ c) = true := fun a b c h1 h2 => by simp only [decide_eq_true_eq] at *; exact List.le_trans h1 h2
  have tot : ∀ a b : List UInt8, (decide (a ≤ b) || decide (b ≤ a)) = true := fun a b => by simp only [Bool.or_eq_true, decide_eq_true_eq]; exact List.le_total a b
  have hs : ((ws.map toL).mergeSort fun x y => decide (x ≤ y)).Pairwise (fun x y => x ≤ y) := (List.pairwise_mergeSort tr tot (ws.map toL)).imp (fun h => by simpa using h)
  have em : (sortB ws).map toL = (ws.map toL).mergeSort fun x y => decide (x ≤ y) := by
    unfold sortB
    rw [List.map_map]
    conv => rhs; rw [← List.map_id ((ws.map toL).mergeSort fun x y => decide (x ≤ y))]
    exact List.map_congr_left fun x _ => toL_ofL x
  obtain ⟨h1, h2, _⟩ := compact_sorted _ hs _ (Nat.le_refl _)
  unfold compB Lib.compact
  rw [em]
  refine ⟨List.pairwise_map.2 (h1.imp (fun {a b} h => by show toL (ofL a) < toL (ofL b); rw [toL_ofL, toL_ofL]; exact h)), fun x => ?_⟩
  rw [List.mem_map]
  constructor
  · rintro ⟨l, hl, rfl⟩
    obtain ⟨j, _, e⟩ := (h2 l).1 hl
    have := List.mem_of_getElem? e
    rw [List.mem_mergeSort, List.mem_map] at this
    obtain ⟨y, hy, rfl⟩ := this
    rw [ofL_toL]
    exact hy
  · intro hx
    refine ⟨toL x, (h2 (toL x)).2 ?_, ofL_toL x⟩
    have : toL x ∈ (ws.map toL).mergeSort fun x y => decide (x ≤ y) := by
      rw [List.mem_mergeSort]
      exact List.mem_map_of_mem hx
    obtain ⟨j, hj, e⟩ := List.mem_iff_getElem.1 this
    exact ⟨j, hj, by rw [List.getElem?_eq_getElem hj, e]⟩
/-- A text put to its place, once. -/
def putU (s : ByteArray) : List ByteArray → List ByteArray
  | [] => [s]
  | x :: t => if Op.bytesLess x.toList s.toList = true then x :: putU s t else if x.toList = s.toList then x :: t else s :: x :: t
theorem putU_len (s : ByteArray) (l : List ByteArray) : (putU s l).length ≤ l.length + 1 := by
  induction l with
  | nil => simp [putU]
  | cons x t ih =>
    simp only [putU]
    split
    · simp only [List.length_cons]; omega
    · split <;> simp
theorem putU_mem (s : ByteArray) (l : List ByteArray) (y : ByteArray) : y ∈ putU s l ↔ y = s ∨ y ∈ l := by
  induction l with
  | nil => simp [putU]
  | cons x t ih =>
    simp only [putU]
    split
    · rw [List.mem_cons, List.mem_cons, ih]
      constructor
      · rintro (h | h | h)
        · exact .inr (.inl h)
        · exact .inl h
        · exact .inr (.inr h)
      · rintro (h | h | h)
        · exact .inr (.inl h)
        · exact .inl h
        · exact .inr (.inr h)
    · split
      · rename_i he
        have : x = s := toList_inj he
        subst this
        simp
      · rw [List.mem_cons]
theorem putU_sorted (s : ByteArray) (l : List ByteArray) (h : l.Pairwise sl) : (putU s l).Pairwise sl := by
  induction l with
  | nil => exact List.pairwise_singleton _ _
  | cons x t ih =>
    obtain ⟨h1, h2⟩ := List.pairwise_cons.1 h
    simp only [putU]
    split
    · rename_i hx
      refine List.pairwise_cons.2 ⟨fun y hy => ?_, ih h2⟩
      rcases (putU_mem s t y).1 hy with rfl | hy
      · exact (sl_iff _ _).1 hx
      · exact h1 y hy
    · split
      · exact h
      · rename_i hx he
        refine List.pairwise_cons.2 ⟨fun y hy => ?_, h⟩
        have hsx : sl s x := by
          rcases sl_total x s with h' | h' | h'
          · exact absurd ((sl_iff _ _).2 h') hx
          · subst h'; exact absurd rfl he
          · exact h'
        rcases List.mem_cons.1 hy with rfl | hy
        · exact hsx
        · exact sl_trans hsx (h1 y hy)
theorem insertStr_some (l : List ByteArray) (i : Nat) (s : ByteArray) (hi : i ≤ l.length) (hl : l.length ≤ 4194304) : spec_l5Insert.f l (i : Int) s = some (l.take i ++ s :: l.drop i) := by
  simp only [spec_l5Insert.f, Option.bind_some, Int.toNat_natCast, List.nil_append]
  rw [if_pos (by omega), if_pos (by omega), if_pos (by simp only [List.length_nil, List.length_take]; omega), if_pos (by simp only [List.length_take]; omega), if_pos (by simp only [List.length_append, List.length_take, List.length_drop, List.length_cons, List.length_nil]; omega)]
  simp
theorem put_ev (l : List ByteArray) (s : ByteArray) (hl : l.length ≤ 4194304) : Ev (fun k => spec_l9Put.f k l s) (putU s l) := by
  have key : ∀ (t : List ByteArray) (i : Nat), l.drop i = t → i ≤ l.length → Ev (fun k => spec_l9Put.l0 k l s i) (l.take i ++ putU s t) := by
    intro t
    induction t with
    | nil =>
      intro i h hi
      have := drop_nil h
      have e : i = l.length := by omega
      (refine Ev.up ?_; simp only [spec_l9Put.l0, decT])
      rw [insertStr_some l i s hi hl]
      (repeat (first | with_reducible refine Ev.bindS ?_ | (with_reducible refine Ev.ifp ?_ ?_; (· first | omega | assumption | rfl | (simp only [List.length_map, List.length_replicate, List.length_take, List.length_drop, List.length_append, List.length_cons, List.length_nil, List.length_set]; omega) | (simp; done))) | (with_reducible refine Ev.ifn ?_ ?_; (· first | omega | assumption | rfl | (simp only [List.length_map, List.length_replicate, List.length_take, List.length_drop, List.length_append, List.length_cons, List.length_nil, List.length_set]; omega) | (simp; done)))))
      exact Ev.val (by rw [h]; rfl)
    | cons x t ih =>
      intro i h hi
      obtain ⟨p1, p2, p3⟩ := drop_cons h
      have ih := ih (i + 1) p3 (by omega)
      by_cases h1 : Op.bytesLess x.toList s.toList = true
      · have e : putU s (x :: t) = x :: putU s t := by simp only [putU]; rw [if_pos h1]
        rw [e]
        (refine Ev.up ?_; simp only [spec_l9Put.l0, decT])
        rw [rdOf_at p2, wrap_succ (i := i) (by omega), insertStr_some l i s hi hl]
        (repeat (first | with_reducible refine Ev.bindS ?_ | (with_reducible refine Ev.ifp ?_ ?_; (· first | omega | assumption | rfl | (simp only [List.length_map, List.length_replicate, List.length_take, List.length_drop, List.length_append, List.length_cons, List.length_nil, List.length_set]; omega) | (simp; done))) | (with_reducible refine Ev.ifn ?_ ?_; (· first | omega | assumption | rfl | (simp only [List.length_map, List.length_replicate, List.length_take, List.length_drop, List.length_append, List.length_cons, List.length_nil, List.length_set]; omega) | (simp; done)))))
        rw [take_next h, List.append_assoc] at ih
        exact ih
      · by_cases h2 : x.toList = s.toList
        · have e : putU s (x :: t) = x :: t := by simp only [putU]; rw [if_neg h1, if_pos h2]
          rw [e]
          (refine Ev.up ?_; simp only [spec_l9Put.l0, decT])
          rw [rdOf_at p2, wrap_succ (i := i) (by omega), insertStr_some l i s hi hl]
          (repeat (first | with_reducible refine Ev.bindS ?_ | (with_reducible refine Ev.ifp ?_ ?_; (· first | omega | assumption | rfl | (simp only [List.length_map, List.length_replicate, List.length_take, List.length_drop, List.length_append, List.length_cons, List.length_nil, List.length_set]; omega) | (simp; done))) | (with_reducible refine Ev.ifn ?_ ?_; (· first | omega | assumption | rfl | (simp only [List.length_map, List.length_replicate, List.length_take, List.length_drop, List.length_append, List.length_cons, List.length_nil, List.length_set]; omega) | (simp; done)))))
          exact Ev.val (by rw [← h, List.take_append_drop])
        · have e : putU s (x :: t) = s :: x :: t := by simp only [putU]; rw [if_neg h1, if_neg h2]
          rw [e]
          (refine Ev.up ?_; simp only [spec_l9Put.l0, decT])
          rw [rdOf_at p2, wrap_succ (i := i) (by omega), insertStr_some l i s hi hl]
          (repeat (first | with_reducible refine Ev.bindS ?_ | (with_reducible refine Ev.ifp ?_ ?_; (· first | omega | assumption | rfl | (simp only [List.length_map, List.length_replicate, List.length_take, List.length_drop, List.length_append, List.length_cons, List.length_nil, List.length_set]; omega) | (simp; done))) | (with_reducible refine Ev.ifn ?_ ?_; (· first | omega | assumption | rfl | (simp only [List.length_map, List.length_replicate, List.length_take, List.length_drop, List.length_append, List.length_cons, List.length_nil, List.length_set]; omega) | (simp; done)))))
          exact Ev.val (by rw [h])
  exact key l 0 rfl (by omega)
def putAll (ws : List ByteArray) (acc : List ByteArray) : List ByteArray := ws.foldl (fun a w => putU w a) acc
theorem putAll_len (ws : List ByteArray) : ∀ acc, (putAll ws acc).length ≤ acc.length + ws.length := by
  induction ws with
  | nil => intro acc; simp [putAll]
  | cons w t ih =>
    intro acc
    have h1 := ih (putU w acc)
    have h2 := putU_len w acc
    simp only [putAll, List.foldl_cons, List.length_cons] at *
    omega
theorem putAll_good (ws : List ByteArray) : ∀ acc, acc.Pairwise sl → (putAll ws acc).Pairwise sl ∧ ∀ x, x ∈ putAll ws acc ↔ x ∈ acc ∨ x ∈ ws := by
  induction ws with
  | nil => intro acc h; exact ⟨h, fun x => by simp [putAll]⟩
  | cons w t ih =>
    intro acc h
    obtain ⟨h1, h2⟩ := ih (putU w acc) (putU_sorted w acc h)
    refine ⟨h1, fun x => ?_⟩
    have := h2 x
    simp only [putAll, List.foldl_cons] at this ⊢
    rw [this, putU_mem, List.mem_cons]
    constructor
    · rintro ((h | h) | h)
      · exact .inr (.inl h)
      · exact .inl h
      · exact .inr (.inr h)
    · rintro (h | h | h)
      · exact .inl (.inr h)
      · exact .inl (.inl h)
      · exact .inr h
theorem vocab_eq (ws : List ByteArray) : compB (sortB ws) = putAll ws [] := by
  obtain ⟨a1, a2⟩ := vocab_sorted ws
  obtain ⟨b1, b2⟩ := putAll_good ws [] List.Pairwise.nil
  exact same_sorted _ _ a1 b1 (fun x => by rw [a2, b2]; simp)
def vocabRes (docs : List ByteArray) : List ByteArray × Bool := if docsOk docs = true then (putAll (allWords docs) [], true) else ([], false)
theorem docs_few {docs : List ByteArray} (h : docsOk docs = true) : docs.length ≤ 12 ∧ ∀ s ∈ docs, s.size ≤ 120 ∧ (wordsOf s).length ≤ 20 := by
  rw [docsOk, Bool.and_eq_true, List.all_eq_true, decide_eq_true_iff] at h
  refine ⟨h.1, fun s hs => ?_⟩
  have h2 := h.2 s hs
  rcases doc_cases s with ⟨_, h3⟩ | ⟨_, _, h3⟩ | ⟨h1, h4, _⟩
  · rw [h3] at h2; cases h2
  · rw [h3] at h2; cases h2
  · omega
theorem allWords_len (docs : List ByteArray) (h : ∀ s ∈ docs, (wordsOf s).length ≤ 20) : (allWords docs).length ≤ 20 * docs.length := by
  induction docs with
  | nil => simp [allWords]
  | cons s t ih =>
    have h1 := h s List.mem_cons_self
    have h2 := ih (fun x hx => h x (List.mem_cons_of_mem _ hx))
    simp only [allWords, List.flatMap_cons, List.length_append, List.length_cons] at *
    omega
theorem vocabRes_len (docs : List ByteArray) : (vocabRes docs).1.length ≤ 240 := by
  unfold vocabRes
  split
  · rename_i h
    obtain ⟨h1, h2⟩ := docs_few h
    have h3 := allWords_len docs (fun s hs => (h2 s hs).2)
    have h4 := putAll_len (allWords docs) []
    simp only [List.length_nil] at h4
    show (putAll (allWords docs) []).length ≤ _
    omega
  · simp
theorem implVocab_ev (docs : List ByteArray) (hs : Small docs) : Ev (fun k => impl_VocabularyOf.f k docs) (vocabRes docs) := by
  simp only [impl_VocabularyOf.f]
  refine Ev.bind (implDocs_ev docs hs) ?_
  cases h : docsOk docs with
  | false =>
    rw [vocabRes, if_neg (by rw [h]; simp)]
    (repeat (first | with_reducible refine Ev.bindS ?_ | (with_reducible refine Ev.ifp ?_ ?_; (· first | omega | assumption | rfl | (simp only [List.length_map, List.length_replicate, List.length_take, List.length_drop, List.length_append, List.length_cons, List.length_nil, List.length_set]; omega) | (simp; done))) | (with_reducible refine Ev.ifn ?_ ?_; (· first | omega | assumption | rfl | (simp only [List.length_map, List.length_replicate, List.length_take, List.length_drop, List.length_append, List.length_cons, List.length_nil, List.length_set]; omega) | (simp; done)))))
    exact Ev.val rfl
  | true =>
    obtain ⟨h1, h2⟩ := docs_few h
    have h3 := allWords_len docs (fun s hs => (h2 s hs).2)
    have h4 := join_len docs 120 (fun s hs => (h2 s hs).1)
    have h5 : (joinB docs).size = (Lib.join (docs.map toL) [32]).length := by rw [← nm_length, joinB, nm_ofL, List.length_map]
    have hw := implWords_ev (joinB docs) (by omega)
    rw [words_joinB] at hw
    rw [vocabRes, if_pos h]
    refine Ev.ifp rfl (Ev.ifp ⟨by omega, by omega⟩ (Ev.bind hw (Ev.ifp (by omega) ?_)))
    exact Ev.val (by rw [vocab_eq])
theorem specVocab_inner (docs : List ByteArray) (i : Nat) (ws : List ByteArray) (hw : ws.length ≤ 100) (r : List ByteArray × Bool) :
    ∀ (t : List ByteArray) (j : Nat) (acc : List ByteArray), ws.drop j = t → j ≤ ws.length → acc.length + t.length ≤ 4194304 → Ev (fun k => spec_VocabularyOf.l0 k (putAll t acc) docs docs.length (wrap64 ((i : Int) + 1))) r →
      Ev (fun k => spec_VocabularyOf.l1 k acc docs docs.length i ws ws.length j) r := by
  intro t
  induction t with
  | nil =>
    intro j acc h hj ha hr
    have := drop_nil h
    (refine Ev.up ?_; simp only [spec_VocabularyOf.l1, decT])
    (repeat (first | with_reducible refine Ev.bindS ?_ | (with_reducible refine Ev.ifp ?_ ?_; (· first | omega | assumption | rfl | (simp only [List.length_map, List.length_replicate, List.length_take, List.length_drop, List.length_append, List.length_cons, List.length_nil, List.length_set]; omega) | (simp; done))) | (with_reducible refine Ev.ifn ?_ ?_; (· first | omega | assumption | rfl | (simp only [List.length_map, List.length_replicate, List.length_take, List.length_drop, List.length_append, List.length_cons, List.length_nil, List.length_set]; omega) | (simp; done)))))
    exact hr
  | cons w t ih =>
    intro j acc h hj ha hr
    obtain ⟨p1, p2, p3⟩ := drop_cons h
    simp only [List.length_cons] at ha
    have hp := putU_len w acc
    (refine Ev.up ?_; simp only [spec_VocabularyOf.l1, decT])
    rw [rdOf_at p2, wrap_succ (i := j) (by omega)]
    (repeat (first | with_reducible refine Ev.bindS ?_ | (with_reducible refine Ev.ifp ?_ ?_; (· first | omega | assumption | rfl | (simp only [List.length_map, List.length_replicate, List.length_take, List.length_drop, List.length_append, List.length_cons, List.length_nil, List.length_set]; omega) | (simp; done))) | (with_reducible refine Ev.ifn ?_ ?_; (· first | omega | assumption | rfl | (simp only [List.length_map, List.length_replicate, List.length_take, List.length_drop, List.length_append, List.length_cons, List.length_nil, List.length_set]; omega) | (simp; done)))))
    refine Ev.bind (put_ev acc w (by omega)) ?_
    exact ih (j + 1) (putU w acc) p3 (by omega) (by omega) hr
theorem specVocab_ev (docs : List ByteArray) (hs : Small docs) : Ev (fun k => spec_VocabularyOf.f k docs) (vocabRes docs) := by
  simp only [spec_VocabularyOf.f]
  refine Ev.bind (specDocs_ev docs hs) ?_
  cases h : docsOk docs with
  | false =>
    rw [vocabRes, if_neg (by rw [h]; simp)]
    (repeat (first | with_reducible refine Ev.bindS ?_ | (with_reducible refine Ev.ifp ?_ ?_; (· first | omega | assumption | rfl | (simp only [List.length_map, List.length_replicate, List.length_take, List.length_drop, List.length_append, List.length_cons, List.length_nil, List.length_set]; omega) | (simp; done))) | (with_reducible refine Ev.ifn ?_ ?_; (· first | omega | assumption | rfl | (simp only [List.length_map, List.length_replicate, List.length_take, List.length_drop, List.length_append, List.length_cons, List.length_nil, List.length_set]; omega) | (simp; done)))))
    exact Ev.val rfl
  | true =>
    obtain ⟨h1, h2⟩ := docs_few h
    rw [vocabRes, if_pos h]
    (repeat (first | with_reducible refine Ev.bindS ?_ | (with_reducible refine Ev.ifp ?_ ?_; (· first | omega | assumption | rfl | (simp only [List.length_map, List.length_replicate, List.length_take, List.length_drop, List.length_append, List.length_cons, List.length_nil, List.length_set]; omega) | (simp; done))) | (with_reducible refine Ev.ifn ?_ ?_; (· first | omega | assumption | rfl | (simp only [List.length_map, List.length_replicate, List.length_take, List.length_drop, List.length_append, List.length_cons, List.length_nil, List.length_set]; omega) | (simp; done)))))
    have key : ∀ (t : List ByteArray) (i : Nat) (acc : List ByteArray), docs.drop i = t → i ≤ docs.length → acc.length ≤ 20 * i → Ev (fun k => spec_VocabularyOf.l0 k acc docs docs.length i) (putAll (allWords t) acc, true) := by
      intro t
      induction t with
      | nil =>
        intro i acc hd hi ha
        have := drop_nil hd
        (refine Ev.up ?_; simp only [spec_VocabularyOf.l0, decT])
        (repeat (first | with_reducible refine Ev.bindS ?_ | (with_reducible refine Ev.ifp ?_ ?_; (· first | omega | assumption | rfl | (simp only [List.length_map, List.length_replicate, List.length_take, List.length_drop, List.length_append, List.length_cons, List.length_nil, List.length_set]; omega) | (simp; done))) | (with_reducible refine Ev.ifn ?_ ?_; (· first | omega | assumption | rfl | (simp only [List.length_map, List.length_replicate, List.length_take, List.length_drop, List.length_append, List.length_cons, List.length_nil, List.length_set]; omega) | (simp; done)))))
        exact Ev.val rfl
      | cons s t ih =>
        intro i acc hd hi ha
        obtain ⟨p1, p2, p3⟩ := drop_cons hd
        have hsm := List.mem_of_getElem? p2
        have hw := (h2 s hsm).2
        have hl := putAll_len (wordsOf s) acc
        have ih := ih (i + 1) (putAll (wordsOf s) acc) p3 (by omega) (by omega)
        (refine Ev.up ?_; simp only [spec_VocabularyOf.l0, decT])
        rw [rdOf_at p2]
        (repeat (first | with_reducible refine Ev.bindS ?_ | (with_reducible refine Ev.ifp ?_ ?_; (· first | omega | assumption | rfl | (simp only [List.length_map, List.length_replicate, List.length_take, List.length_drop, List.length_append, List.length_cons, List.length_nil, List.length_set]; omega) | (simp; done))) | (with_reducible refine Ev.ifn ?_ ?_; (· first | omega | assumption | rfl | (simp only [List.length_map, List.length_replicate, List.length_take, List.length_drop, List.length_append, List.length_cons, List.length_nil, List.length_set]; omega) | (simp; done)))))
        refine Ev.bind (specWords_ev s (hs.2 s hsm)) ?_
        refine specVocab_inner docs i (wordsOf s) (by omega) _ (wordsOf s) 0 acc rfl (by omega) (by omega) ?_
        rw [wrap_succ (i := i) (by omega)]
        have e : putAll (allWords (s :: t)) acc = putAll (allWords t) (putAll (wordsOf s) acc) := by
          simp [allWords, putAll, List.foldl_append]
        rw [e]
        exact ih
    exact key docs 0 [] rfl (by omega) (by simp)
end Go.Proofs.Ytcopakljdenolaa.Pure
namespace Go.Proofs.Ytcopakljdenolaa.Fn
open Go.RowKit Go.Proofs.YtcopakljdenolaaW.PrintWords Go.Proofs.YtcopakljdenolaaW.PrintLast Go.Proofs.YtcopakljdenolaaW.PrintMore
attribute [local go_sem] max2_int min2_int max_two min_two max_three min_three max_four min_four   -- for this text's walks alone
set_option linter.unusedVariables false
set_option linter.unusedSimpArgs false

/-! ### laws_toIntS: function 98 -/
def laws_toIntS.l0 : Nat → List Int → List Int → Int → Option (List Int)
  | 0, _, _, _ => none
  | k + 1, x0, x3, x4 => if x4 < (x0.length : Int) then (if 0 ≤ x4 then (if x4 < (x3.length : Int) then (laws_toIntS.l0 k x0 (x3.set (x4 : Int).toNat (rd x0 x4)) (wrap64 (x4 + 1))) else (none)) else (none)) else (some x3)
def laws_toIntS.f (k : Nat) (l0 : List Int) : Option (List Int) := if 0 ≤ (l0.length : Int) then (if ((l0.length : Int) : Int).toNat ≤ 35184372088832 then (laws_toIntS.l0 k l0 (List.replicate ((l0.length : Int) : Int).toNat 0) 0) else (none)) else (none)
theorem laws_toIntS.mono_l : ∀ k, (∀ y0 y1 y2, LeO (laws_toIntS.l0 k y0 y1 y2) (laws_toIntS.l0 (k + 1) y0 y1 y2))
  | 0 => fun _ _ _ r h => by simp [laws_toIntS.l0] at h
  | k + 1 => by
    have ih0 := laws_toIntS.mono_l k
    · intro y0 y1 y2
      unfold laws_toIntS.l0
      repeat' first
      | (with_reducible exact ih0 _ _ _)
      | (with_reducible exact LeO.refl _)
      | (with_reducible exact LeO.none _)
      | (with_reducible refine LeO.ite ?_ ?_)
      | (with_reducible refine LeO.bind ?_ (fun _ => ?_))
      | exact ih0 _ _ _
      | exact LeO.none _
      | refine LeO.ite ?_ ?_
      | refine LeO.bind ?_ (fun _ => ?_)
theorem laws_toIntS.mono : ∀ a0 k, LeO (laws_toIntS.f k a0) (laws_toIntS.f (k + 1) a0) := by
  intro a0 k
  have ih0 := laws_toIntS.mono_l k
  unfold laws_toIntS.f
  repeat' first
      | (with_reducible exact ih0 _ _ _)
      | (with_reducible exact LeO.refl _)
      | (with_reducible exact LeO.none _)
      | (with_reducible refine LeO.ite ?_ ?_)
      | (with_reducible refine LeO.bind ?_ (fun _ => ?_))
      | exact ih0 _ _ _
      | exact LeO.none _
      | refine LeO.ite ?_ ?_
      | refine LeO.bind ?_ (fun _ => ?_)
set_option maxHeartbeats 8000000 in
set_option maxRecDepth 100000 in
theorem laws_toIntS.calls (k : Nat) (A0 : Option Addr) (c0 : Nat) (l0 : List Int) (r : List Int) (w : World) (hr0 : Kd.C (Kd.int .i64) w A0 l0.length l0) (hc0 : l0.length ≤ c0) (h : laws_toIntS.f k l0 = some r) :
    Calls Try.prog 98 #[.slice A0 l0.length c0] w fun e w' => ∃ v0_ : Value, e = .returned (v0_) ∧ Kd.R (Kd.int .i64) 3 w' w.heap.size (fun _ => True) v0_ r ∧ Below w.heap.size w w' := by
  have HR0 := Aside0.mk hr0
  have HC0 := Aside0.mk hc0
  clear hr0 hc0
  have HB := Aside0.mk (Below.refl w.heap.size w)
  have H : (if 0 ≤ (l0.length : Int) then (if ((l0.length : Int) : Int).toNat ≤ 35184372088832 then (laws_toIntS.l0 k l0 (List.replicate ((l0.length : Int) : Int).toNat 0) 0) else (none)) else (none)) = some r := h
  clear h
  by_cases c2 : 0 ≤ (l0.length : Int)
  · rw [if_pos c2] at H
    have c2b0 := eq_true c2
    have c2b1 : decide (0 ≤ (l0.length : Int)) = true := decide_eq_true c2
    clear c2
    by_cases c3 : ((l0.length : Int) : Int).toNat ≤ 35184372088832
    · rw [if_pos c3] at H
      have c3b0 := eq_true c3
      have c3b1 : decide (((l0.length : Int) : Int).toNat ≤ 35184372088832) = true := decide_eq_true c3
      clear c3
      obtain ⟨y230, hy230⟩ : ∃ y_ : List Int, y_ = (List.replicate ((l0.length : Int) : Int).toNat 0) := ⟨_, rfl⟩
      replace H : (laws_toIntS.l0 k l0 y230 0) = some r := by first | (rw [hy230]; with_reducible exact H) | (have H2_ := (Option.bind_some _ _).symm.trans H; rw [hy230]; with_reducible exact H2_) | (have H2_ := (Option.bind_some _ _).symm.trans H; with_reducible exact H2_) | with_reducible exact H | (rw [hy230]; exact H) | exact H
      have Ny230 := Aside0.mk hy230
      clear hy230
      have H' := Aside0.mk H
      clear H
      go_enter Try.func98, Try.ntmps98
      go_wp2_with (first | ((with_reducible refine gate_dst (N := 7) rfl ?_); refine Kd.R_make (Kd.int .i64) _ 3 rfl (N := 7) rfl 47 _ _ rfl (l0.length : Int) rfl rfl Try.underlying47 (.int .i64 0) 8 info3 rfl (by decide) (by omega) 0 (ok := fun _ => True) (okp := fun _ => True) rfl (fun _ hk => hk) trivial (of_decide_eq_true (by first | (with_reducible assumption) | assumption)) (Nat.le_trans (Nat.mul_le_mul_right _ (of_decide_eq_true (by first | (with_reducible assumption) | assumption) : (l0.length : Int).toNat ≤ 35184372088832)) (by omega)) (Below.refl _ _) (Nat.le_refl _) ?_; intro v231 w4 ho5 hb hg_ hnew_; clear hg_ hnew_; (first | rw [← Ny230.out] at ho5 | (simp only [Int.reduceToNat] at ho5; rw [← Ny230.out] at ho5)); have n0_ := Aside0.mk (Kd.R_lower ho5 (below_size (by repeat (first | (with_reducible first | exact HB.out | apply below_alloc | apply pw_below_drewN | apply below_drew1) | exact HB.out)))); have n1_ := Aside0.mk (below_step (by repeat (first | (with_reducible first | exact HB.out | apply below_alloc | apply pw_below_drewN | apply below_drew1) | exact HB.out)) hb); clear HB; have HO232 := n0_; have HB := n1_; clear n0_ n1_; clear hb ho5))
      go_loopg [4] k (fun kq v4 w' => ∃ (x3_1 : List Int) (x4_1 : Int), v4 = .int .i64 x4_1 ∧ Aside0 (laws_toIntS.l0 kq l0 x3_1 x4_1 = some r) ∧ Aside0 (kq ≤ k) ∧ Aside0 (Kd.R (Kd.int .i64) 3 w' w.heap.size (fun _ => True) v231 x3_1) ∧ Aside0 (Below w.heap.size w w'))
      case atStart => exact ⟨(y230), (0), (by first | rfl | (simp; done) | (simp [*]; done)), H', ⟨Nat.le_refl _⟩, ⟨by (with_reducible repeat (first | apply Kd.R_alloc | apply Kd.R_drewN | apply Kd.R_drew)); exact HO232.out⟩, ⟨by repeat (first | (with_reducible first | exact HB.out | apply below_alloc | apply pw_below_drewN | apply below_drew1) | exact HB.out)⟩⟩
      case round =>
        clear H'
        try clear c2
        try clear c2b0
        try clear c2b1
        try clear p2
        try clear c3
        try clear c3b0
        try clear c3b1
        obtain ⟨x3_1, x4_1, rfl, HA, HK1, HO_3, HB⟩ := hrel
        cases gk with
        | zero => exact absurd HA.out (by simp [laws_toIntS.l0])
        | succ k1 =>
          have H := HA.out
          clear HA
          simp only [laws_toIntS.l0] at H
          by_cases c6 : x4_1 < (l0.length : Int)
          · rw [if_pos c6] at H
            have c6b0 : decide (x4_1 < (l0.length : Int)) = true := decide_eq_true c6
            clear c6
            by_cases c7 : 0 ≤ x4_1
            · rw [if_pos c7] at H
              have c7b0 : decide (0 ≤ x4_1) = true := decide_eq_true c7
              clear c7
              by_cases c8 : x4_1 < (x3_1.length : Int)
              · rw [if_pos c8] at H
                have c8b0 : decide (x4_1 < (x3_1.length : Int)) = true := decide_eq_true c8
                clear c8
                obtain ⟨y234, hy234⟩ : ∃ y_ : List Int, y_ = (x3_1.set (x4_1 : Int).toNat (rd l0 x4_1)) := ⟨_, rfl⟩
                replace H : (laws_toIntS.l0 k1 l0 y234 (wrap64 (x4_1 + 1))) = some r := by first | (rw [hy234]; with_reducible exact H) | (have H2_ := (Option.bind_some _ _).symm.trans H; rw [hy234]; with_reducible exact H2_) | (have H2_ := (Option.bind_some _ _).symm.trans H; with_reducible exact H2_) | with_reducible exact H | (rw [hy234]; exact H) | exact H
                have Ny234 := Aside0.mk hy234
                clear hy234
                have H' := Aside0.mk H
                clear H
                have p233 : 0 ≤ (x4_1 : Int) := of_decide_eq_true (by first | (with_reducible assumption) | assumption)
                have q233 : x4_1 < (l0.length : Int) := of_decide_eq_true (by first | (with_reducible assumption) | assumption)
                obtain ⟨ad233, e233, hx233_0⟩ := Kd.at_int HR0.out x4_1 p233 q233
                cases e233
                replace hx233_0 := (HB.out.cell (World.block_lt_of_cell? w _ hx233_0)).trans hx233_0
                replace p233 := eq_true p233
                replace q233 := eq_true q233
                have p9 : 0 ≤ (x4_1 : Int) := of_decide_eq_true (by first | (with_reducible assumption) | assumption)
                have q9 : (x4_1 : Int) < ((x3_1.length : Int) : Int) := of_decide_eq_true (by first | (with_reducible assumption) | assumption)
                obtain ⟨go9, co9, eo9, gb9, gl9, cl9, HG9⟩ := Kd.R_form HO_3.out (by omega)
                (first | cases eo9 | (injection eo9 with ea_ en_ ec_; (first | subst ea_ | (injection ea_ with ea_; subst ea_)); subst ec_; clear en_))
                have GB9 := Aside0.mk gb9
                have GG9 := Aside0.mk HG9
                clear gb9 gl9 HG9
                obtain ⟨hx9_0, hf9_0⟩ := Kd.R_celln 0 HO_3.out (x4_1 : Int) p9 q9
                replace p9 := eq_true p9
                replace q9 := eq_true q9
                have HP10 := Kd.R_putg HO_3.out (x4_1 : Int) (rd l0 x4_1)
                go_wp2_with (first | ((with_reducible refine gate_store (t := 3) (p := 20) rfl ?_); refine store_event (t := 3) (p := 20) (v := ?vo_w11) (w1 := (wr.setCell ⟨go9, (x4_1 : Int).toNat, none⟩ (.int .i64 (rd l0 x4_1)))) ?hg ?ho ?hn ?hr ?_; (case ho => rfl); (case hg => rfl); (case hn => rfl); (case hr => first | (go_simp; done) | (go_simp; rfl)); intro w11 hw; have hg : wr.grownBy w11 (some go9) := (by rw [hw]; exact HP10.2); have hp_ : Kd.R (Kd.int .i64) 3 w11 w.heap.size (fun _ => True) (.slice (some ⟨go9, 0, none⟩) x3_1.length co9) y234 := (by rw [hw, Ny234.out]; exact HP10.1); clear HP10; have n0_ := Aside0.mk (hp_); have n1_ := Aside0.mk ((by rw [hw]; exact below_set (HB.out) GB9.out : Below w.heap.size w w11)); clear HO_3; clear HB; have HO_3 := n0_; have HB := n1_; clear n0_ n1_; clear hg hw hp_))
                go_roundg k1
                case measure => have := HK1.out; omega
                case rel => exact ⟨(y234), (wrap64 (x4_1 + 1)), (by first | rfl | (simp; done) | (simp [*]; done)), H', ⟨by have := HK1.out; omega⟩, ⟨by (with_reducible repeat (first | apply Kd.R_alloc | apply Kd.R_drewN | apply Kd.R_drew)); exact HO_3.out⟩, ⟨by repeat (first | (with_reducible first | exact HB.out | apply below_alloc | apply pw_below_drewN | apply below_drew1) | exact HB.out)⟩⟩
              · rw [if_neg c8] at H
                exact absurd H (by simp)
            · rw [if_neg c7] at H
              exact absurd H (by simp)
          · rw [if_neg c6] at H
            have c6b0 : decide (x4_1 < (l0.length : Int)) = false := decide_eq_false c6
            clear c6
            obtain rfl := Option.some.inj H
            go_wp2
            go_ret
            exact ⟨_, by first | rfl | (simp [errW_none, errW_some] <;> rfl) | (simp [*, errW_none, errW_some] <;> rfl), by (with_reducible repeat (first | apply Kd.R_alloc | apply Kd.R_drewN | apply Kd.R_drew)); exact HO_3.out, by repeat (first | (with_reducible first | exact HB.out | apply below_alloc | apply pw_below_drewN | apply below_drew1) | exact HB.out)⟩
    · rw [if_neg c3] at H
      exact absurd H (by simp)
  · rw [if_neg c2] at H
    exact absurd H (by simp)

end Go.Proofs.Ytcopakljdenolaa.Fn
namespace Go.Proofs.Ytcopakljdenolaa.Fn
open Go.RowKit Go.Proofs.YtcopakljdenolaaW.PrintWords Go.Proofs.YtcopakljdenolaaW.PrintLast Go.Proofs.YtcopakljdenolaaW.PrintMore
attribute [local go_sem] max2_int min2_int max_two min_two max_three min_three max_four min_four   -- for this text's walks alone
set_option linter.unusedVariables false
set_option linter.unusedSimpArgs false

/-! ### laws_eqIntS: function 39 -/
def laws_eqIntS.l0 : Nat → List Int → List Int → Int → Option (Bool)
  | 0, _, _, _ => none
  | k + 1, x0, x1, x5 => if x5 < (x0.length : Int) then (if 0 ≤ x5 then (if x5 < (x1.length : Int) then (if (rd x0 x5) = (rd x1 x5) then (laws_eqIntS.l0 k x0 x1 (wrap64 (x5 + 1))) else (some false)) else (none)) else (none)) else (some true)
def laws_eqIntS.f (k : Nat) (l0 : List Int) (l1 : List Int) : Option (Bool) := if (l0.length : Int) = (l1.length : Int) then (laws_eqIntS.l0 k l0 l1 0) else (some false)
theorem laws_eqIntS.mono_l : ∀ k, (∀ y0 y1 y2, LeO (laws_eqIntS.l0 k y0 y1 y2) (laws_eqIntS.l0 (k + 1) y0 y1 y2))
  | 0 => fun _ _ _ r h => by simp [laws_eqIntS.l0] at h
  | k + 1 => by
    have ih0 := laws_eqIntS.mono_l k
    · intro y0 y1 y2
      unfold laws_eqIntS.l0
      repeat' first
      | (with_reducible exact ih0 _ _ _)
      | (with_reducible exact LeO.refl _)
      | (with_reducible exact LeO.none _)
      | (with_reducible refine LeO.ite ?_ ?_)
      | (with_reducible refine LeO.bind ?_ (fun _ => ?_))
      | exact ih0 _ _ _
      | exact LeO.none _
      | refine LeO.ite ?_ ?_
      | refine LeO.bind ?_ (fun _ => ?_)
theorem laws_eqIntS.mono : ∀ a0 a1 k, LeO (laws_eqIntS.f k a0 a1) (laws_eqIntS.f (k + 1) a0 a1) := by
  intro a0 a1 k
  have ih0 := laws_eqIntS.mono_l k
  unfold laws_eqIntS.f
  repeat' first
      | (with_reducible exact ih0 _ _ _)
      | (with_reducible exact LeO.refl _)
      | (with_reducible exact LeO.none _)
      | (with_reducible refine LeO.ite ?_ ?_)
      | (with_reducible refine LeO.bind ?_ (fun _ => ?_))
      | exact ih0 _ _ _
      | exact LeO.none _
      | refine LeO.ite ?_ ?_
      | refine LeO.bind ?_ (fun _ => ?_)
set_option maxHeartbeats 8000000 in
set_option maxRecDepth 100000 in
theorem laws_eqIntS.calls (k : Nat) (A0 : Option Addr) (c0 : Nat) (l0 : List Int) (A1 : Option Addr) (c1 : Nat) (l1 : List Int) (r : Bool) (w : World) (hr0 : Kd.C (Kd.int .i64) w A0 l0.length l0) (hc0 : l0.length ≤ c0) (hr1 : Kd.C (Kd.int .i64) w A1 l1.length l1) (hc1 : l1.length ≤ c1) (h : laws_eqIntS.f k l0 l1 = some r) :
    Calls Try.prog 39 #[.slice A0 l0.length c0, .slice A1 l1.length c1] w fun e w' => e = .returned (.bool r) ∧ Drawn0 w w' := by
  have HR0 := Aside0.mk hr0
  have HC0 := Aside0.mk hc0
  clear hr0 hc0
  have HR1 := Aside0.mk hr1
  have HC1 := Aside0.mk hc1
  clear hr1 hc1
  have H : (if (l0.length : Int) = (l1.length : Int) then (laws_eqIntS.l0 k l0 l1 0) else (some false)) = some r := h
  clear h
  by_cases c3 : (l0.length : Int) = (l1.length : Int)
  · rw [if_pos c3] at H
    have c3b0 : ((l0.length : Int) == (l1.length : Int)) = true := beq_iff_eq.mpr c3
    have c3b1 : ((l0.length : Int) != (l1.length : Int)) = false := bne_eq_false_iff_eq.mpr c3
    have c3b2 : (l0.length == l1.length) = true := by first | simpa using c3 | (simp at c3 ⊢; omega)
    clear c3
    have H' := Aside0.mk H
    clear H
    go_enter Try.func39, Try.ntmps39
    go_wp2
    repeat (go_quiet (fail); try go_wp2)
    go_loopg [5] k (fun kq v5 w' => ∃ (x5_1 : Int), v5 = .int .i64 x5_1 ∧ Aside0 (laws_eqIntS.l0 kq l0 l1 x5_1 = some r) ∧ Aside0 (kq ≤ k) ∧ Drawn0 w w')
    case atStart => exact ⟨(0), (by first | rfl | (simp; done) | (simp [*]; done)), H', ⟨Nat.le_refl _⟩, by repeat (first | exact Drawn0.refl _ | apply Drawn0.step)⟩
    case round =>
      clear H'
      try clear c1
      try clear p2
      try clear c3
      try clear c3b0
      try clear c3b1
      try clear c3b2
      obtain ⟨x5_1, rfl, HA, HK1, ⟨m1, rfl⟩⟩ := hrel
      cases gk with
      | zero => exact absurd HA.out (by simp [laws_eqIntS.l0])
      | succ k1 =>
        have H := HA.out
        clear HA
        simp only [laws_eqIntS.l0] at H
        by_cases c4 : x5_1 < (l0.length : Int)
        · rw [if_pos c4] at H
          have c4b0 : decide (x5_1 < (l0.length : Int)) = true := decide_eq_true c4
          clear c4
          by_cases c5 : 0 ≤ x5_1
          · rw [if_pos c5] at H
            have c5b0 : decide (0 ≤ x5_1) = true := decide_eq_true c5
            clear c5
            by_cases c6 : x5_1 < (l1.length : Int)
            · rw [if_pos c6] at H
              have c6b0 : decide (x5_1 < (l1.length : Int)) = true := decide_eq_true c6
              clear c6
              by_cases c7 : (rd l0 x5_1) = (rd l1 x5_1)
              · rw [if_pos c7] at H
                have c7b0 : ((rd l0 x5_1) == (rd l1 x5_1)) = true := beq_iff_eq.mpr c7
                have c7b1 : ((rd l0 x5_1) != (rd l1 x5_1)) = false := bne_eq_false_iff_eq.mpr c7
                clear c7
                have H' := Aside0.mk H
                clear H
                have p209 : 0 ≤ (x5_1 : Int) := of_decide_eq_true (by first | (with_reducible assumption) | assumption)
                have q209 : x5_1 < (l0.length : Int) := of_decide_eq_true (by first | (with_reducible assumption) | assumption)
                obtain ⟨ad209, e209, hx209_0⟩ := Kd.at_int HR0.out x5_1 p209 q209
                cases e209
                replace p209 := eq_true p209
                replace q209 := eq_true q209
                have p210 : 0 ≤ (x5_1 : Int) := of_decide_eq_true (by first | (with_reducible assumption) | assumption)
                have q210 : x5_1 < (l1.length : Int) := of_decide_eq_true (by first | (with_reducible assumption) | assumption)
                obtain ⟨ad210, e210, hx210_0⟩ := Kd.at_int HR1.out x5_1 p210 q210
                cases e210
                replace p210 := eq_true p210
                replace q210 := eq_true q210
                go_wp2
                repeat (go_quiet (fail); try go_wp2)
                go_roundg k1
                case measure => have := HK1.out; omega
                case rel => exact ⟨(wrap64 (x5_1 + 1)), (by first | rfl | (simp; done) | (simp [*]; done)), H', ⟨by have := HK1.out; omega⟩, by repeat (first | exact Drawn0.refl _ | apply Drawn0.step)⟩
              · rw [if_neg c7] at H
                have c7b0 : ((rd l0 x5_1) == (rd l1 x5_1)) = false := beq_eq_false_iff_ne.mpr c7
                have c7b1 : ((rd l0 x5_1) != (rd l1 x5_1)) = true := bne_iff_ne.mpr c7
                obtain rfl := Option.some.inj H
                have p209 : 0 ≤ (x5_1 : Int) := of_decide_eq_true (by first | (with_reducible assumption) | assumption)
                have q209 : x5_1 < (l0.length : Int) := of_decide_eq_true (by first | (with_reducible assumption) | assumption)
                obtain ⟨ad209, e209, hx209_0⟩ := Kd.at_int HR0.out x5_1 p209 q209
                cases e209
                replace p209 := eq_true p209
                replace q209 := eq_true q209
                have p210 : 0 ≤ (x5_1 : Int) := of_decide_eq_true (by first | (with_reducible assumption) | assumption)
                have q210 : x5_1 < (l1.length : Int) := of_decide_eq_true (by first | (with_reducible assumption) | assumption)
                obtain ⟨ad210, e210, hx210_0⟩ := Kd.at_int HR1.out x5_1 p210 q210
                cases e210
                replace p210 := eq_true p210
                replace q210 := eq_true q210
                go_wp2
                repeat (go_quiet (fail); try go_wp2)
                go_ret
                exact ⟨by first | rfl | (simp; done) | (simp [*]; done), by repeat (first | exact Drawn0.refl _ | apply Drawn0.step)⟩
            · rw [if_neg c6] at H
              exact absurd H (by simp)
          · rw [if_neg c5] at H
            exact absurd H (by simp)
        · rw [if_neg c4] at H
          have c4b0 : decide (x5_1 < (l0.length : Int)) = false := decide_eq_false c4
          clear c4
          obtain rfl := Option.some.inj H
          go_wp2
          repeat (go_quiet (fail); try go_wp2)
          go_ret
          exact ⟨by first | rfl | (simp; done) | (simp [*]; done), by repeat (first | exact Drawn0.refl _ | apply Drawn0.step)⟩
  · rw [if_neg c3] at H
    have c3b0 : ((l0.length : Int) == (l1.length : Int)) = false := beq_eq_false_iff_ne.mpr c3
    have c3b1 : ((l0.length : Int) != (l1.length : Int)) = true := bne_iff_ne.mpr c3
    have c3b2 : (l0.length == l1.length) = false := by first | simpa using c3 | (simp at c3 ⊢; omega)
    obtain rfl := Option.some.inj H
    go_enter Try.func39, Try.ntmps39
    go_wp2
    repeat (go_quiet (fail); try go_wp2)
    go_ret
    exact ⟨by first | rfl | (simp; done) | (simp [*]; done), by repeat (first | exact Drawn0.refl _ | apply Drawn0.step)⟩

end Go.Proofs.Ytcopakljdenolaa.Fn
namespace Go.Proofs.Ytcopakljdenolaa.Fn
open Go.RowKit Go.Proofs.YtcopakljdenolaaW.PrintWords Go.Proofs.YtcopakljdenolaaW.PrintLast Go.Proofs.YtcopakljdenolaaW.PrintMore
attribute [local go_sem] max2_int min2_int max_two min_two max_three min_three max_four min_four   -- for this text's walks alone
set_option linter.unusedVariables false
set_option linter.unusedSimpArgs false

/-! ### laws_markIntS: function 40 -/
def laws_markIntS.l0 : Nat → List Int → Int → Int → Option (Int × List Int)
  | 0, _, _, _ => none
  | k + 1, x0, x1, x5 => if x5 < (x0.length : Int) then (if 0 ≤ x5 then (laws_markIntS.l0 k (x0.set (x5 : Int).toNat x1) (wrap64 (x1 + 1)) (wrap64 (x5 + 1))) else (none)) else (some (x1, x0))
def laws_markIntS.f (k : Nat) (l0 : List Int) (a1 : Int) : Option (Int × List Int) := laws_markIntS.l0 k l0 a1 0
theorem laws_markIntS.mono_l : ∀ k, (∀ y0 y1 y2, LeO (laws_markIntS.l0 k y0 y1 y2) (laws_markIntS.l0 (k + 1) y0 y1 y2))
  | 0 => fun _ _ _ r h => by simp [laws_markIntS.l0] at h
  | k + 1 => by
    have ih0 := laws_markIntS.mono_l k
    · intro y0 y1 y2
      unfold laws_markIntS.l0
      repeat' first
      | (with_reducible exact ih0 _ _ _)
      | (with_reducible exact LeO.refl _)
      | (with_reducible exact LeO.none _)
      | (with_reducible refine LeO.ite ?_ ?_)
      | (with_reducible refine LeO.bind ?_ (fun _ => ?_))
      | exact ih0 _ _ _
      | exact LeO.none _
      | refine LeO.ite ?_ ?_
      | refine LeO.bind ?_ (fun _ => ?_)
theorem laws_markIntS.mono : ∀ a0 a1 k, LeO (laws_markIntS.f k a0 a1) (laws_markIntS.f (k + 1) a0 a1) := by
  intro a0 a1 k
  have ih0 := laws_markIntS.mono_l k
  unfold laws_markIntS.f
  repeat' first
      | (with_reducible exact ih0 _ _ _)
      | (with_reducible exact LeO.refl _)
      | (with_reducible exact LeO.none _)
      | (with_reducible refine LeO.ite ?_ ?_)
      | (with_reducible refine LeO.bind ?_ (fun _ => ?_))
      | exact ih0 _ _ _
      | exact LeO.none _
      | refine LeO.ite ?_ ?_
      | refine LeO.bind ?_ (fun _ => ?_)
set_option maxHeartbeats 8000000 in
set_option maxRecDepth 100000 in
theorem laws_markIntS.calls (k : Nat) (P0_ : Nat → Prop) (u9000_ : Value) (l0 : List Int) (a1 : Int) (r1 : Int) (r2 : List Int) (w0 w : World) (hB : Below w0.heap.size w0 w) (ho0 : Kd.R (Kd.int .i64) 3 w w0.heap.size P0_ u9000_ l0) (h : laws_markIntS.f k l0 a1 = some (r1, r2)) :
    Calls Try.prog 40 #[u9000_, .int .i64 a1] w fun e w' => e = .returned (.int .i64 r1) ∧ Kd.R (Kd.int .i64) 3 w' w0.heap.size (fun k_ => (P0_ k_ ∨ w.heap.size ≤ k_)) u9000_ r2 ∧ Below w0.heap.size w0 w' ∧ Kept w w' (fun k_ => P0_ k_) := by
  have HO0 := Aside0.mk (show Kd.R (Kd.int .i64) 3 w w0.heap.size (fun k_ => (P0_ k_ ∨ w.heap.size ≤ k_)) u9000_ l0 from Kd.R_mono ho0 (fun k_ hk => (.inl hk)))
  have HK := Aside0.mk (Kept.refl w (fun k_ => P0_ k_))
  have HW0 := Aside0.mk hB.size
  have HB := Aside0.mk hB
  clear hB
  have H : (laws_markIntS.l0 k l0 a1 0) = some (r1, r2) := h
  clear h
  have H' := Aside0.mk H
  clear H
  go_enter Try.func40, Try.ntmps40
  go_wp2
  go_loopg [1, 5] k (fun kq v1 v5 w' => ∃ (x0_1 : List Int) (x1_1 : Int) (x5_1 : Int), v1 = .int .i64 x1_1 ∧ v5 = .int .i64 x5_1 ∧ Aside0 (laws_markIntS.l0 kq x0_1 x1_1 x5_1 = some (r1, r2)) ∧ Aside0 (kq ≤ k) ∧ Aside0 (Kd.R (Kd.int .i64) 3 w' w0.heap.size (fun k_ => (P0_ k_ ∨ w.heap.size ≤ k_)) u9000_ x0_1) ∧ Aside0 (Kept w w' (fun k_ => P0_ k_)) ∧ Aside0 (Below w0.heap.size w0 w'))
  case atStart => exact ⟨(l0), (a1), (0), (by first | rfl | (simp; done) | (simp [*]; done)), (by first | rfl | (simp; done) | (simp [*]; done)), H', ⟨Nat.le_refl _⟩, ⟨by (with_reducible repeat (first | apply Kd.R_alloc | apply Kd.R_drewN | apply Kd.R_drew)); exact HO0.out⟩, ⟨by repeat (first | (with_reducible first | exact HK.out | apply Kept.alloc | apply Kept.drewN | apply Kept.drew) | exact HK.out)⟩, ⟨by repeat (first | (with_reducible first | exact HB.out | apply below_alloc | apply pw_below_drewN | apply below_drew1) | exact HB.out)⟩⟩
  case round =>
    clear H'
    try clear p2
    obtain ⟨x0_1, x1_1, x5_1, rfl, rfl, HA, HK1, HO_0, HK, HB⟩ := hrel
    cases gk with
    | zero => exact absurd HA.out (by simp [laws_markIntS.l0])
    | succ k1 =>
      have H := HA.out
      clear HA
      simp only [laws_markIntS.l0] at H
      by_cases c3 : x5_1 < (x0_1.length : Int)
      · rw [if_pos c3] at H
        have c3b0 : decide (x5_1 < (x0_1.length : Int)) = true := decide_eq_true c3
        clear c3
        by_cases c4 : 0 ≤ x5_1
        · rw [if_pos c4] at H
          have c4b0 : decide (0 ≤ x5_1) = true := decide_eq_true c4
          clear c4
          obtain ⟨y272, hy272⟩ : ∃ y_ : List Int, y_ = (x0_1.set (x5_1 : Int).toNat x1_1) := ⟨_, rfl⟩
          replace H : (laws_markIntS.l0 k1 y272 (wrap64 (x1_1 + 1)) (wrap64 (x5_1 + 1))) = some (r1, r2) := by first | (rw [hy272]; with_reducible exact H) | (have H2_ := (Option.bind_some _ _).symm.trans H; rw [hy272]; with_reducible exact H2_) | (have H2_ := (Option.bind_some _ _).symm.trans H; with_reducible exact H2_) | with_reducible exact H | (rw [hy272]; exact H) | exact H
          have Ny272 := Aside0.mk hy272
          clear hy272
          have H' := Aside0.mk H
          clear H
          obtain ⟨Ao6, co6, eo6⟩ := Kd.R_slice HO_0.out
          subst eo6
          have p5 : 0 ≤ (x5_1 : Int) := of_decide_eq_true (by first | (with_reducible assumption) | assumption)
          have q5 : (x5_1 : Int) < ((x0_1.length : Int) : Int) := of_decide_eq_true (by first | (with_reducible assumption) | assumption)
          obtain ⟨go5, co5, eo5, gb5, gl5, cl5, HG5⟩ := Kd.R_form HO_0.out (by omega)
          (first | cases eo5 | (injection eo5 with ea_ en_ ec_; (first | subst ea_ | (injection ea_ with ea_; subst ea_)); subst ec_; clear en_))
          have GB5 := Aside0.mk gb5
          have GG5 := Aside0.mk HG5
          clear gb5 gl5 HG5
          have HMgo5 := Aside0.mk (show (P0_ go5 ∨ w.heap.size ≤ go5) from (HO_0.out.1 _ rfl))
          obtain ⟨hx5_0, hf5_0⟩ := Kd.R_celln 0 HO_0.out (x5_1 : Int) p5 q5
          replace p5 := eq_true p5
          replace q5 := eq_true q5
          have HP7 := Kd.R_putg HO_0.out (x5_1 : Int) x1_1
          go_wp2_with (first | ((with_reducible refine gate_store (t := 3) (p := 15) rfl ?_); refine store_event (t := 3) (p := 15) (v := ?vo_w8) (w1 := (wr.setCell ⟨go5, (x5_1 : Int).toNat, none⟩ (.int .i64 x1_1))) ?hg ?ho ?hn ?hr ?_; (case ho => rfl); (case hg => rfl); (case hn => rfl); (case hr => first | (go_simp; done) | (go_simp; rfl)); intro w8 hw; have hg : wr.grownBy w8 (some go5) := (by rw [hw]; exact HP7.2); have hp_ : Kd.R (Kd.int .i64) 3 w8 w0.heap.size (fun k_ => (P0_ k_ ∨ w.heap.size ≤ k_)) (.slice (some ⟨go5, 0, none⟩) x0_1.length co6) y272 := (by rw [hw, Ny272.out]; exact HP7.1); clear HP7; have n0_ := Aside0.mk (hp_); have n1_ := Aside0.mk ((by rw [hw]; exact below_set (HB.out) GB5.out : Below w0.heap.size w0 w8)); have n2_ := Aside0.mk (Kept.of_grown (S := (fun k_ => P0_ k_)) hg (by repeat (first | (with_reducible first | exact HK.out | apply Kept.alloc | apply Kept.drewN | apply Kept.drew) | exact HK.out)) (fun k_ e_ => (HO_0.out.1 k_ e_))); clear HO_0; clear HB; clear HK; have HO_0 := n0_; have HB := n1_; have HK := n2_; clear n0_ n1_ n2_; clear hg hw hp_))
          go_roundg k1
          case measure => have := HK1.out; omega
          case rel => exact ⟨(y272), (wrap64 (x1_1 + 1)), (wrap64 (x5_1 + 1)), (by first | rfl | (simp; done) | (simp [*]; done)), (by first | rfl | (simp; done) | (simp [*]; done)), H', ⟨by have := HK1.out; omega⟩, ⟨by (with_reducible repeat (first | apply Kd.R_alloc | apply Kd.R_drewN | apply Kd.R_drew)); exact HO_0.out⟩, ⟨by repeat (first | (with_reducible first | exact HK.out | apply Kept.alloc | apply Kept.drewN | apply Kept.drew) | exact HK.out)⟩, ⟨by repeat (first | (with_reducible first | exact HB.out | apply below_alloc | apply pw_below_drewN | apply below_drew1) | exact HB.out)⟩⟩
        · rw [if_neg c4] at H
          exact absurd H (by simp)
      · rw [if_neg c3] at H
        have c3b0 : decide (x5_1 < (x0_1.length : Int)) = false := decide_eq_false c3
        clear c3
        simp only [Option.some.injEq, Prod.mk.injEq] at H
        obtain ⟨rfl, rfl⟩ := H
        obtain ⟨Ao9, co9, eo9⟩ := Kd.R_slice HO_0.out
        subst eo9
        go_wp2
        go_ret
        exact ⟨by first | rfl | (simp [errW_none, errW_some] <;> rfl) | (simp [*, errW_none, errW_some] <;> rfl), by (with_reducible repeat (first | apply Kd.R_alloc | apply Kd.R_drewN | apply Kd.R_drew)); exact HO_0.out, by repeat (first | (with_reducible first | exact HB.out | apply below_alloc | apply pw_below_drewN | apply below_drew1) | exact HB.out), by repeat (first | (with_reducible first | exact HK.out | apply Kept.alloc | apply Kept.drewN | apply Kept.drew) | exact HK.out)⟩

end Go.Proofs.Ytcopakljdenolaa.Fn
namespace Go.Proofs.Ytcopakljdenolaa.Fn
open Go.RowKit Go.Proofs.YtcopakljdenolaaW.PrintWords Go.Proofs.YtcopakljdenolaaW.PrintLast Go.Proofs.YtcopakljdenolaaW.PrintMore
attribute [local go_sem] max2_int min2_int max_two min_two max_three min_three max_four min_four   -- for this text's walks alone
set_option linter.unusedVariables false
set_option linter.unusedSimpArgs false

/-! ### laws_heldIntS: function 41 -/
def laws_heldIntS.l0 : Nat → List Int → Int → Int → Option (Int)
  | 0, _, _, _ => none
  | k + 1, x0, x1, x5 => if x5 < (x0.length : Int) then (if 0 ≤ x5 then (if (rd x0 x5) = x1 then (laws_heldIntS.l0 k x0 (wrap64 (x1 + 1)) (wrap64 (x5 + 1))) else (some (-1))) else (none)) else (some x1)
def laws_heldIntS.f (k : Nat) (l0 : List Int) (a1 : Int) : Option (Int) := laws_heldIntS.l0 k l0 a1 0
theorem laws_heldIntS.mono_l : ∀ k, (∀ y0 y1 y2, LeO (laws_heldIntS.l0 k y0 y1 y2) (laws_heldIntS.l0 (k + 1) y0 y1 y2))
  | 0 => fun _ _ _ r h => by simp [laws_heldIntS.l0] at h
  | k + 1 => by
    have ih0 := laws_heldIntS.mono_l k
    · intro y0 y1 y2
      unfold laws_heldIntS.l0
      repeat' first
      | (with_reducible exact ih0 _ _ _)
      | (with_reducible exact LeO.refl _)
      | (with_reducible exact LeO.none _)
      | (with_reducible refine LeO.ite ?_ ?_)
      | (with_reducible refine LeO.bind ?_ (fun _ => ?_))
      | exact ih0 _ _ _
      | exact LeO.none _
      | refine LeO.ite ?_ ?_
      | refine LeO.bind ?_ (fun _ => ?_)
theorem laws_heldIntS.mono : ∀ a0 a1 k, LeO (laws_heldIntS.f k a0 a1) (laws_heldIntS.f (k + 1) a0 a1) := by
  intro a0 a1 k
  have ih0 := laws_heldIntS.mono_l k
  unfold laws_heldIntS.f
  repeat' first
      | (with_reducible exact ih0 _ _ _)
      | (with_reducible exact LeO.refl _)
      | (with_reducible exact LeO.none _)
      | (with_reducible refine LeO.ite ?_ ?_)
      | (with_reducible refine LeO.bind ?_ (fun _ => ?_))
      | exact ih0 _ _ _
      | exact LeO.none _
      | refine LeO.ite ?_ ?_
      | refine LeO.bind ?_ (fun _ => ?_)
set_option maxHeartbeats 8000000 in
set_option maxRecDepth 100000 in
theorem laws_heldIntS.calls (k : Nat) (A0 : Option Addr) (c0 : Nat) (l0 : List Int) (a1 : Int) (r : Int) (w : World) (hr0 : Kd.C (Kd.int .i64) w A0 l0.length l0) (hc0 : l0.length ≤ c0) (h : laws_heldIntS.f k l0 a1 = some r) :
    Calls Try.prog 41 #[.slice A0 l0.length c0, .int .i64 a1] w fun e w' => e = .returned (.int .i64 r) ∧ Drawn0 w w' := by
  have HR0 := Aside0.mk hr0
  have HC0 := Aside0.mk hc0
  clear hr0 hc0
  have H : (laws_heldIntS.l0 k l0 a1 0) = some r := h
  clear h
  have H' := Aside0.mk H
  clear H
  go_enter Try.func41, Try.ntmps41
  go_wp2
  go_loopg [1, 5] k (fun kq v1 v5 w' => ∃ (x1_1 : Int) (x5_1 : Int), v1 = .int .i64 x1_1 ∧ v5 = .int .i64 x5_1 ∧ Aside0 (laws_heldIntS.l0 kq l0 x1_1 x5_1 = some r) ∧ Aside0 (kq ≤ k) ∧ Drawn0 w w')
  case atStart => exact ⟨(a1), (0), (by first | rfl | (simp; done) | (simp [*]; done)), (by first | rfl | (simp; done) | (simp [*]; done)), H', ⟨Nat.le_refl _⟩, by repeat (first | exact Drawn0.refl _ | apply Drawn0.step)⟩
  case round =>
    clear H'
    try clear p2
    obtain ⟨x1_1, x5_1, rfl, rfl, HA, HK1, ⟨m1, rfl⟩⟩ := hrel
    cases gk with
    | zero => exact absurd HA.out (by simp [laws_heldIntS.l0])
    | succ k1 =>
      have H := HA.out
      clear HA
      simp only [laws_heldIntS.l0] at H
      by_cases c3 : x5_1 < (l0.length : Int)
      · rw [if_pos c3] at H
        have c3b0 : decide (x5_1 < (l0.length : Int)) = true := decide_eq_true c3
        clear c3
        by_cases c4 : 0 ≤ x5_1
        · rw [if_pos c4] at H
          have c4b0 : decide (0 ≤ x5_1) = true := decide_eq_true c4
          clear c4
          by_cases c5 : (rd l0 x5_1) = x1_1
          · rw [if_pos c5] at H
            have c5b0 : ((rd l0 x5_1) == x1_1) = true := beq_iff_eq.mpr c5
            have c5b1 : ((rd l0 x5_1) != x1_1) = false := bne_eq_false_iff_eq.mpr c5
            clear c5
            have H' := Aside0.mk H
            clear H
            have p273 : 0 ≤ (x5_1 : Int) := of_decide_eq_true (by first | (with_reducible assumption) | assumption)
            have q273 : x5_1 < (l0.length : Int) := of_decide_eq_true (by first | (with_reducible assumption) | assumption)
            obtain ⟨ad273, e273, hx273_0⟩ := Kd.at_int HR0.out x5_1 p273 q273
            cases e273
            replace p273 := eq_true p273
            replace q273 := eq_true q273
            go_wp2
            go_roundg k1
            case measure => have := HK1.out; omega
            case rel => exact ⟨(wrap64 (x1_1 + 1)), (wrap64 (x5_1 + 1)), (by first | rfl | (simp; done) | (simp [*]; done)), (by first | rfl | (simp; done) | (simp [*]; done)), H', ⟨by have := HK1.out; omega⟩, by repeat (first | exact Drawn0.refl _ | apply Drawn0.step)⟩
          · rw [if_neg c5] at H
            have c5b0 : ((rd l0 x5_1) == x1_1) = false := beq_eq_false_iff_ne.mpr c5
            have c5b1 : ((rd l0 x5_1) != x1_1) = true := bne_iff_ne.mpr c5
            obtain rfl := Option.some.inj H
            have p273 : 0 ≤ (x5_1 : Int) := of_decide_eq_true (by first | (with_reducible assumption) | assumption)
            have q273 : x5_1 < (l0.length : Int) := of_decide_eq_true (by first | (with_reducible assumption) | assumption)
            obtain ⟨ad273, e273, hx273_0⟩ := Kd.at_int HR0.out x5_1 p273 q273
            cases e273
            replace p273 := eq_true p273
            replace q273 := eq_true q273
            go_wp2
            go_ret
            exact ⟨by first | rfl | (simp; done) | (simp [*]; done), by repeat (first | exact Drawn0.refl _ | apply Drawn0.step)⟩
        · rw [if_neg c4] at H
          exact absurd H (by simp)
      · rw [if_neg c3] at H
        have c3b0 : decide (x5_1 < (l0.length : Int)) = false := decide_eq_false c3
        clear c3
        obtain rfl := Option.some.inj H
        go_wp2
        go_ret
        exact ⟨by first | rfl | (simp; done) | (simp [*]; done), by repeat (first | exact Drawn0.refl _ | apply Drawn0.step)⟩

end Go.Proofs.Ytcopakljdenolaa.Fn
namespace Go.Proofs.Ytcopakljdenolaa.Pure
open Go.RowKit Go.Proofs.Ytcopakljdenolaa.Fn Go.Proofs.YtcopakljdenolaaW.PrintWords Go.Proofs.YtcopakljdenolaaW.PrintLast Go.Proofs.YtcopakljdenolaaW.PrintMore
set_option linter.unusedSimpArgs false

theorem toInts_ev (l : List Int) (hl : l.length ≤ 1048576) : Ev (fun k => laws_toIntS.f k l) l := by
  have h := copy_ev (fun k x3 i => laws_toIntS.l0 k l x3 i) id 0 l ?_ ?_
  · rw [List.map_id] at h
    simp only [laws_toIntS.f, Int.toNat_natCast]
    (repeat (first | with_reducible refine Ev.bindS ?_ | (with_reducible refine Ev.ifp ?_ ?_; (· first | omega | assumption | rfl | (simp only [List.length_map, List.length_replicate, List.length_take, List.length_drop, List.length_append, List.length_cons, List.length_nil, List.length_set]; omega) | (simp; done))) | (with_reducible refine Ev.ifn ?_ ?_; (· first | omega | assumption | rfl | (simp only [List.length_map, List.length_replicate, List.length_take, List.length_drop, List.length_append, List.length_cons, List.length_nil, List.length_set]; omega) | (simp; done)))))
    exact h
  · intro k x3
    simp only [laws_toIntS.l0]
    rw [if_neg (by omega)]
  · intro i x hx
    have hlt := (List.getElem?_eq_some_iff.1 hx).1
    refine ⟨0, fun k x3 _ h3 => ?_⟩
    simp only [laws_toIntS.l0]
    rw [if_pos (by omega), if_pos (by omega), rd_at hx, if_pos (by omega), wrap_succ (by omega), Int.toNat_natCast]
    rfl
theorem eqInts_ev (l : List Int) (hl : l.length ≤ 1048576) : Ev (fun k => laws_eqIntS.f k l l) true := by
  have h := all_ev (fun k i => laws_eqIntS.l0 k l l i) l.length true ?_ ?_
  · simp only [laws_eqIntS.f]
    (repeat (first | with_reducible refine Ev.bindS ?_ | (with_reducible refine Ev.ifp ?_ ?_; (· first | omega | assumption | rfl | (simp only [List.length_map, List.length_replicate, List.length_take, List.length_drop, List.length_append, List.length_cons, List.length_nil, List.length_set]; omega) | (simp; done))) | (with_reducible refine Ev.ifn ?_ ?_; (· first | omega | assumption | rfl | (simp only [List.length_map, List.length_replicate, List.length_take, List.length_drop, List.length_append, List.length_cons, List.length_nil, List.length_set]; omega) | (simp; done)))))
    exact h
  · intro k
    simp only [laws_eqIntS.l0]
    rw [if_neg (by omega)]
  · intro i hi
    refine ⟨0, fun k _ => ?_⟩
    simp only [laws_eqIntS.l0]
    rw [if_pos (by omega), if_pos (by omega), if_pos (by omega), wrap_succ (by omega)]
    simp
theorem markInts_ev (l : List Int) (hl : l.length ≤ 1048576) (c : Int) (h0 : 0 < c) (h1 : c ≤ 1000000000) :
    Ev (fun k => laws_markIntS.f k l c) (c + l.length, l.mapIdx fun i _ => c + (i : Int)) := by
  have h := mark_ev (fun k x c i => laws_markIntS.l0 k x c i) (fun i => c + (i : Int)) (fun i _ => c + (i : Int)) l ?_ ?_
  · simpa [laws_markIntS.f] using h
  · intro k x hx
    simp only [laws_markIntS.l0]
    rw [if_neg (by omega)]
  · intro i y hy
    have hlt : i < l.length := (List.getElem?_eq_some_iff.1 hy).1
    refine ⟨0, fun k x _ hx _ => ?_⟩
    simp only [laws_markIntS.l0]
    have e : wrap64 (c + (i : Int) + 1) = c + ((i + 1 : Nat) : Int) := by rw [wrap_ok (by omega) (by omega)]; omega
    rw [if_pos (by omega), if_pos (by omega), e, wrap_succ (by omega), Int.toNat_natCast]
theorem heldInts_ev (l : List Int) (hl : l.length ≤ 1048576) (c : Int) (h0 : 0 < c) (h1 : c ≤ 1000000000) :
    Ev (fun k => laws_heldIntS.f k (l.mapIdx fun i _ => c + (i : Int)) c) (c + l.length) := by
  have h := all_ev (fun k i => laws_heldIntS.l0 k (l.mapIdx fun i _ => c + (i : Int)) (c + i) i) l.length (c + l.length) ?_ ?_
  · simpa [laws_heldIntS.f] using h
  · intro k
    simp only [laws_heldIntS.l0]
    rw [if_neg (by simp)]
  · intro i hi
    refine ⟨0, fun k _ => ?_⟩
    have hat : rd (l.mapIdx fun i _ => c + (i : Int)) (i : Int) = c + (i : Int) := rd_at (by simp [hi])
    have e : wrap64 (c + (i : Int) + 1) = c + ((i + 1 : Nat) : Int) := by rw [wrap_ok (by omega) (by omega)]; omega
    simp only [laws_heldIntS.l0, hat]
    rw [if_pos (by simp; omega), if_pos (by omega), if_pos trivial, e, wrap_succ (by omega)]
end Go.Proofs.Ytcopakljdenolaa.Pure
namespace Go.Proofs.Ytcopakljdenolaa.Fn
open Go.RowKit Go.Proofs.YtcopakljdenolaaW.PrintWords Go.Proofs.YtcopakljdenolaaW.PrintLast Go.Proofs.YtcopakljdenolaaW.PrintMore
attribute [local go_sem] max2_int min2_int max_two min_two max_three min_three max_four min_four   -- for this text's walks alone
set_option linter.unusedVariables false
set_option linter.unusedSimpArgs false

/-! ### laws_eqPost: function 61 -/
def laws_eqPost.f (k : Nat) (a0_0 : Int) (l0_1 : List Int) (a1_0 : Int) (l1_1 : List Int) : Option (Bool) := if a0_0 = a1_0 then ((laws_eqIntS.f k l0_1 l1_1).bind fun t213 => (if t213 = true then (some true) else (some false))) else (some false)
theorem laws_eqPost.mono : ∀ a0 a1 a2 a3 k, LeO (laws_eqPost.f k a0 a1 a2 a3) (laws_eqPost.f (k + 1) a0 a1 a2 a3) := by
  intro a0 a1 a2 a3 k
  unfold laws_eqPost.f
  repeat' first
      | (with_reducible exact laws_eqIntS.mono _ _ _)
      | (with_reducible exact LeO.refl _)
      | (with_reducible exact LeO.none _)
      | (with_reducible refine LeO.ite ?_ ?_)
      | (with_reducible refine LeO.bind ?_ (fun _ => ?_))
      | exact laws_eqIntS.mono _ _ _
      | exact LeO.none _
      | refine LeO.ite ?_ ?_
      | refine LeO.bind ?_ (fun _ => ?_)
set_option maxHeartbeats 8000000 in
set_option maxRecDepth 100000 in
theorem laws_eqPost.calls (k : Nat) (a0_0 : Int) (A0_1 : Option Addr) (c0_1 : Nat) (l0_1 : List Int) (a1_0 : Int) (A1_1 : Option Addr) (c1_1 : Nat) (l1_1 : List Int) (r : Bool) (w : World) (hr0_1 : Kd.C (Kd.int .i64) w A0_1 l0_1.length l0_1) (hc0_1 : l0_1.length ≤ c0_1) (hr1_1 : Kd.C (Kd.int .i64) w A1_1 l1_1.length l1_1) (hc1_1 : l1_1.length ≤ c1_1) (h : laws_eqPost.f k a0_0 l0_1 a1_0 l1_1 = some r) :
    Calls Try.prog 61 #[.agg #[.int .i64 a0_0, .slice A0_1 l0_1.length c0_1], .agg #[.int .i64 a1_0, .slice A1_1 l1_1.length c1_1]] w fun e w' => e = .returned (.bool r) ∧ Below w.heap.size w w' := by
  have hu57 := Try.underlying57
  have HR0_1 := Aside0.mk hr0_1
  have HC0_1 := Aside0.mk hc0_1
  clear hr0_1 hc0_1
  have HR1_1 := Aside0.mk hr1_1
  have HC1_1 := Aside0.mk hc1_1
  clear hr1_1 hc1_1
  have HB := Aside0.mk (Below.refl w.heap.size w)
  have H : (if a0_0 = a1_0 then ((laws_eqIntS.f k l0_1 l1_1).bind fun t213 => (if t213 = true then (some true) else (some false))) else (some false)) = some r := h
  clear h
  by_cases c3 : a0_0 = a1_0
  · rw [if_pos c3] at H
    have c3b0 : (a0_0 == a1_0) = true := beq_iff_eq.mpr c3
    have c3b1 : (a0_0 != a1_0) = false := bne_eq_false_iff_eq.mpr c3
    clear c3
    replace H := Option.bind_eq_some_iff.mp H
    obtain ⟨t213, A40, H⟩ := H
    replace H : (if t213 = true then (some true) else (some false)) = some r := H
    have A4 := Aside0.mk A40
    clear A40
    by_cases c5 : t213 = true
    · subst c5
      have H1 : (some true) = some r := by rw [if_pos rfl] at H; exact H
      clear H
      have H := H1
      clear H1
      obtain rfl := Option.some.inj H
      go_enter Try.func61, Try.ntmps61
      go_wp2_with (first | ((with_reducible refine gate_dst (N := 2) rfl ?_); refine box_event ?hg (N := 2) ?hd (cs := #[.int .i64 a0_0, .slice A0_1 l0_1.length c0_1]) (t := 57) ?hr ?_; (case hd => rfl); (case hg => rfl); (case hr => first | (go_simp; done) | (go_simp; rfl)); intro gb211 hg w6 hbox hb; have n0_ := Aside0.mk (below_step (by repeat (first | (with_reducible first | exact HB.out | apply below_alloc | apply pw_below_drewN | apply below_drew1) | exact HB.out)) hb); have n1_ := Aside0.mk (hbox); have n2_ := Aside0.mk ((by rw [hg]; exact (below_size (by repeat (first | (with_reducible first | exact HB.out | apply below_alloc | apply pw_below_drewN | apply below_drew1) | exact HB.out))) : w.heap.size ≤ gb211)); have n3_ := Aside0.mk ((by rw [hg]; exact (below_size (by repeat (first | (with_reducible first | exact HB.out | apply below_alloc | apply pw_below_drewN | apply below_drew1) | exact HB.out))) : w.heap.size ≤ gb211)); clear HB; have HB := n0_; have BK211 := n1_; have GW211 := n2_; have GE211 := n3_; clear n0_ n1_ n2_ n3_; clear hb hbox hg) | ((with_reducible refine gate_dst (N := 3) rfl ?_); refine box_event ?hg (N := 3) ?hd (cs := #[.int .i64 a1_0, .slice A1_1 l1_1.length c1_1]) (t := 57) ?hr ?_; (case hd => rfl); (case hg => rfl); (case hr => first | (go_simp; done) | (go_simp; rfl)); intro gb212 hg w7 hbox hb; have n0_ := Aside0.mk (blk_below (g := gb211) (o := .cells #[.int .i64 a0_0, .slice A0_1 l0_1.length c0_1] 57 (0, 0)) (by (with_reducible repeat (first | refine blk_drewN ?_ _ | refine blk_drew ?_ | refine blk_alloc ?_ _)); exact BK211.out) hb); have n1_ := Aside0.mk (below_step (by repeat (first | (with_reducible first | exact HB.out | apply below_alloc | apply pw_below_drewN | apply below_drew1 | refine below_set ?_ GE211.out) | exact HB.out)) hb); have n2_ := Aside0.mk (hbox); have n3_ := Aside0.mk ((by rw [hg]; exact (below_size (by repeat (first | (with_reducible first | exact HB.out | apply below_alloc | apply pw_below_drewN | apply below_drew1 | refine below_set ?_ GE211.out) | exact HB.out))) : w.heap.size ≤ gb212)); have n4_ := Aside0.mk ((by rw [hg]; exact (below_size (by repeat (first | (with_reducible first | exact HB.out | apply below_alloc | apply pw_below_drewN | apply below_drew1 | refine below_set ?_ GE211.out) | exact HB.out))) : w.heap.size ≤ gb212)); have n5_ := Aside0.mk ((by rw [hg]; exact Nat.ne_of_lt (blk_lt (g := gb211) (o := .cells #[.int .i64 a0_0, .slice A0_1 l0_1.length c0_1] 57 (0, 0)) (by (with_reducible repeat (first | refine blk_drewN ?_ _ | refine blk_drew ?_ | refine blk_alloc ?_ _)); exact BK211.out)) : gb211 ≠ gb212)); have n6_ := Aside0.mk ((by rw [hg]; exact Nat.ne_of_gt (blk_lt (g := gb211) (o := .cells #[.int .i64 a0_0, .slice A0_1 l0_1.length c0_1] 57 (0, 0)) (by (with_reducible repeat (first | refine blk_drewN ?_ _ | refine blk_drew ?_ | refine blk_alloc ?_ _)); exact BK211.out)) : gb212 ≠ gb211)); clear BK211; clear HB; have BK211 := n0_; have HB := n1_; have BK212 := n2_; have GW212 := n3_; have GE212 := n4_; have NB211_212 := n5_; have NB212_211 := n6_; clear n0_ n1_ n2_ n3_ n4_ n5_ n6_; clear hb hbox hg; have hnb8 := NB211_212.out; have hnc8 := NB212_211.out; have hcz9_0 : w7.cell? ⟨gb211, 0, none⟩ = some (.int .i64 a0_0) := (blk_cell BK211.out 0).trans rfl; have hcz9_1 : w7.cell? ⟨gb211, 1, none⟩ = some (.slice A0_1 l0_1.length c0_1) := (blk_cell BK211.out 1).trans rfl; have hfz9_0 := blk_frozen BK211.out 0; have hfz9_1 := blk_frozen BK211.out 1; have hcz10_0 : w7.cell? ⟨gb212, 0, none⟩ = some (.int .i64 a1_0) := (blk_cell BK212.out 0).trans rfl; have hcz10_1 : w7.cell? ⟨gb212, 1, none⟩ = some (.slice A1_1 l1_1.length c1_1) := (blk_cell BK212.out 1).trans rfl; have hfz10_0 := blk_frozen BK212.out 0; have hfz10_1 := blk_frozen BK212.out 1) | ((with_reducible refine gate_callee (f := 39) rfl ?_); refine goesL_ (some 14) rfl rfl Try.func39 (by kernel_rfl) rfl #[.slice A0_1 l0_1.length c0_1, .slice A1_1 l1_1.length c1_1] rfl (by (try simp only [List.map_toArray, List.map_cons, List.map_nil]); first | done | rfl | (simp only [List.length_drop, List.length_take]; rfl)) ?_; (with_reducible refine (laws_eqIntS.calls k _ _ l0_1 _ _ l1_1 true _ ?side1 ?side2 ?side3 ?side4 A4.out).mono ?_); (case side1 => repeat (first | exact (Kd.C_below HR0_1.out HB.out) | (with_reducible refine Kd.C_alloc ?_ _) | (with_reducible refine Kd.C_drewN ?_ _) | (with_reducible refine Kd.C_drew ?_))); (case side2 => exact HC0_1.out); (case side3 => repeat (first | exact (Kd.C_below HR1_1.out HB.out) | (with_reducible refine Kd.C_alloc ?_ _) | (with_reducible refine Kd.C_drewN ?_ _) | (with_reducible refine Kd.C_drew ?_))); (case side4 => exact HC1_1.out); rintro e w' ⟨rfl, ⟨nd, rfl⟩⟩; refine ⟨_, rfl, ?_⟩))
      go_ret
      exact ⟨by first | rfl | (simp [errW_none, errW_some] <;> rfl) | (simp [*, errW_none, errW_some] <;> rfl), by repeat (first | (with_reducible first | exact HB.out | apply below_alloc | apply pw_below_drewN | apply below_drew1 | refine below_set ?_ GE211.out | refine below_set ?_ GE212.out) | exact HB.out)⟩
    · replace c5 := Bool.eq_false_iff.mpr c5
      subst c5
      have H1 : (some false) = some r := by rw [if_neg (show ¬ (false = true) by decide)] at H; exact H
      clear H
      have H := H1
      clear H1
      obtain rfl := Option.some.inj H
      go_enter Try.func61, Try.ntmps61
      go_wp2_with (first | ((with_reducible refine gate_dst (N := 2) rfl ?_); refine box_event ?hg (N := 2) ?hd (cs := #[.int .i64 a0_0, .slice A0_1 l0_1.length c0_1]) (t := 57) ?hr ?_; (case hd => rfl); (case hg => rfl); (case hr => first | (go_simp; done) | (go_simp; rfl)); intro gb211 hg w11 hbox hb; have n0_ := Aside0.mk (below_step (by repeat (first | (with_reducible first | exact HB.out | apply below_alloc | apply pw_below_drewN | apply below_drew1) | exact HB.out)) hb); have n1_ := Aside0.mk (hbox); have n2_ := Aside0.mk ((by rw [hg]; exact (below_size (by repeat (first | (with_reducible first | exact HB.out | apply below_alloc | apply pw_below_drewN | apply below_drew1) | exact HB.out))) : w.heap.size ≤ gb211)); have n3_ := Aside0.mk ((by rw [hg]; exact (below_size (by repeat (first | (with_reducible first | exact HB.out | apply below_alloc | apply pw_below_drewN | apply below_drew1) | exact HB.out))) : w.heap.size ≤ gb211)); clear HB; have HB := n0_; have BK211 := n1_; have GW211 := n2_; have GE211 := n3_; clear n0_ n1_ n2_ n3_; clear hb hbox hg) | ((with_reducible refine gate_dst (N := 3) rfl ?_); refine box_event ?hg (N := 3) ?hd (cs := #[.int .i64 a1_0, .slice A1_1 l1_1.length c1_1]) (t := 57) ?hr ?_; (case hd => rfl); (case hg => rfl); (case hr => first | (go_simp; done) | (go_simp; rfl)); intro gb212 hg w12 hbox hb; have n0_ := Aside0.mk (blk_below (g := gb211) (o := .cells #[.int .i64 a0_0, .slice A0_1 l0_1.length c0_1] 57 (0, 0)) (by (with_reducible repeat (first | refine blk_drewN ?_ _ | refine blk_drew ?_ | refine blk_alloc ?_ _)); exact BK211.out) hb); have n1_ := Aside0.mk (below_step (by repeat (first | (with_reducible first | exact HB.out | apply below_alloc | apply pw_below_drewN | apply below_drew1 | refine below_set ?_ GE211.out) | exact HB.out)) hb); have n2_ := Aside0.mk (hbox); have n3_ := Aside0.mk ((by rw [hg]; exact (below_size (by repeat (first | (with_reducible first | exact HB.out | apply below_alloc | apply pw_below_drewN | apply below_drew1 | refine below_set ?_ GE211.out) | exact HB.out))) : w.heap.size ≤ gb212)); have n4_ := Aside0.mk ((by rw [hg]; exact (below_size (by repeat (first | (with_reducible first | exact HB.out | apply below_alloc | apply pw_below_drewN | apply below_drew1 | refine below_set ?_ GE211.out) | exact HB.out))) : w.heap.size ≤ gb212)); have n5_ := Aside0.mk ((by rw [hg]; exact Nat.ne_of_lt (blk_lt (g := gb211) (o := .cells #[.int .i64 a0_0, .slice A0_1 l0_1.length c0_1] 57 (0, 0)) (by (with_reducible repeat (first | refine blk_drewN ?_ _ | refine blk_drew ?_ | refine blk_alloc ?_ _)); exact BK211.out)) : gb211 ≠ gb212)); have n6_ := Aside0.mk ((by rw [hg]; exact Nat.ne_of_gt (blk_lt (g := gb211) (o := .cells #[.int .i64 a0_0, .slice A0_1 l0_1.length c0_1] 57 (0, 0)) (by (with_reducible repeat (first | refine blk_drewN ?_ _ | refine blk_drew ?_ | refine blk_alloc ?_ _)); exact BK211.out)) : gb212 ≠ gb211)); clear BK211; clear HB; have BK211 := n0_; have HB := n1_; have BK212 := n2_; have GW212 := n3_; have GE212 := n4_; have NB211_212 := n5_; have NB212_211 := n6_; clear n0_ n1_ n2_ n3_ n4_ n5_ n6_; clear hb hbox hg; have hnb13 := NB211_212.out; have hnc13 := NB212_211.out; have hcz14_0 : w12.cell? ⟨gb211, 0, none⟩ = some (.int .i64 a0_0) := (blk_cell BK211.out 0).trans rfl; have hcz14_1 : w12.cell? ⟨gb211, 1, none⟩ = some (.slice A0_1 l0_1.length c0_1) := (blk_cell BK211.out 1).trans rfl; have hfz14_0 := blk_frozen BK211.out 0; have hfz14_1 := blk_frozen BK211.out 1; have hcz15_0 : w12.cell? ⟨gb212, 0, none⟩ = some (.int .i64 a1_0) := (blk_cell BK212.out 0).trans rfl; have hcz15_1 : w12.cell? ⟨gb212, 1, none⟩ = some (.slice A1_1 l1_1.length c1_1) := (blk_cell BK212.out 1).trans rfl; have hfz15_0 := blk_frozen BK212.out 0; have hfz15_1 := blk_frozen BK212.out 1) | ((with_reducible refine gate_callee (f := 39) rfl ?_); refine goesL_ (some 14) rfl rfl Try.func39 (by kernel_rfl) rfl #[.slice A0_1 l0_1.length c0_1, .slice A1_1 l1_1.length c1_1] rfl (by (try simp only [List.map_toArray, List.map_cons, List.map_nil]); first | done | rfl | (simp only [List.length_drop, List.length_take]; rfl)) ?_; (with_reducible refine (laws_eqIntS.calls k _ _ l0_1 _ _ l1_1 false _ ?side1 ?side2 ?side3 ?side4 A4.out).mono ?_); (case side1 => repeat (first | exact (Kd.C_below HR0_1.out HB.out) | (with_reducible refine Kd.C_alloc ?_ _) | (with_reducible refine Kd.C_drewN ?_ _) | (with_reducible refine Kd.C_drew ?_))); (case side2 => exact HC0_1.out); (case side3 => repeat (first | exact (Kd.C_below HR1_1.out HB.out) | (with_reducible refine Kd.C_alloc ?_ _) | (with_reducible refine Kd.C_drewN ?_ _) | (with_reducible refine Kd.C_drew ?_))); (case side4 => exact HC1_1.out); rintro e w' ⟨rfl, ⟨nd, rfl⟩⟩; refine ⟨_, rfl, ?_⟩))
      go_ret
      exact ⟨by first | rfl | (simp [errW_none, errW_some] <;> rfl) | (simp [*, errW_none, errW_some] <;> rfl), by repeat (first | (with_reducible first | exact HB.out | apply below_alloc | apply pw_below_drewN | apply below_drew1 | refine below_set ?_ GE211.out | refine below_set ?_ GE212.out) | exact HB.out)⟩
  · rw [if_neg c3] at H
    have c3b0 : (a0_0 == a1_0) = false := beq_eq_false_iff_ne.mpr c3
    have c3b1 : (a0_0 != a1_0) = true := bne_iff_ne.mpr c3
    obtain rfl := Option.some.inj H
    go_enter Try.func61, Try.ntmps61
    go_wp2_with (first | ((with_reducible refine gate_dst (N := 2) rfl ?_); refine box_event ?hg (N := 2) ?hd (cs := #[.int .i64 a0_0, .slice A0_1 l0_1.length c0_1]) (t := 57) ?hr ?_; (case hd => rfl); (case hg => rfl); (case hr => first | (go_simp; done) | (go_simp; rfl)); intro gb211 hg w16 hbox hb; have n0_ := Aside0.mk (below_step (by repeat (first | (with_reducible first | exact HB.out | apply below_alloc | apply pw_below_drewN | apply below_drew1) | exact HB.out)) hb); have n1_ := Aside0.mk (hbox); have n2_ := Aside0.mk ((by rw [hg]; exact (below_size (by repeat (first | (with_reducible first | exact HB.out | apply below_alloc | apply pw_below_drewN | apply below_drew1) | exact HB.out))) : w.heap.size ≤ gb211)); have n3_ := Aside0.mk ((by rw [hg]; exact (below_size (by repeat (first | (with_reducible first | exact HB.out | apply below_alloc | apply pw_below_drewN | apply below_drew1) | exact HB.out))) : w.heap.size ≤ gb211)); clear HB; have HB := n0_; have BK211 := n1_; have GW211 := n2_; have GE211 := n3_; clear n0_ n1_ n2_ n3_; clear hb hbox hg) | ((with_reducible refine gate_dst (N := 3) rfl ?_); refine box_event ?hg (N := 3) ?hd (cs := #[.int .i64 a1_0, .slice A1_1 l1_1.length c1_1]) (t := 57) ?hr ?_; (case hd => rfl); (case hg => rfl); (case hr => first | (go_simp; done) | (go_simp; rfl)); intro gb212 hg w17 hbox hb; have n0_ := Aside0.mk (blk_below (g := gb211) (o := .cells #[.int .i64 a0_0, .slice A0_1 l0_1.length c0_1] 57 (0, 0)) (by (with_reducible repeat (first | refine blk_drewN ?_ _ | refine blk_drew ?_ | refine blk_alloc ?_ _)); exact BK211.out) hb); have n1_ := Aside0.mk (below_step (by repeat (first | (with_reducible first | exact HB.out | apply below_alloc | apply pw_below_drewN | apply below_drew1 | refine below_set ?_ GE211.out) | exact HB.out)) hb); have n2_ := Aside0.mk (hbox); have n3_ := Aside0.mk ((by rw [hg]; exact (below_size (by repeat (first | (with_reducible first | exact HB.out | apply below_alloc | apply pw_below_drewN | apply below_drew1 | refine below_set ?_ GE211.out) | exact HB.out))) : w.heap.size ≤ gb212)); have n4_ := Aside0.mk ((by rw [hg]; exact (below_size (by repeat (first | (with_reducible first | exact HB.out | apply below_alloc | apply pw_below_drewN | apply below_drew1 | refine below_set ?_ GE211.out) | exact HB.out))) : w.heap.size ≤ gb212)); have n5_ := Aside0.mk ((by rw [hg]; exact Nat.ne_of_lt (blk_lt (g := gb211) (o := .cells #[.int .i64 a0_0, .slice A0_1 l0_1.length c0_1] 57 (0, 0)) (by (with_reducible repeat (first | refine blk_drewN ?_ _ | refine blk_drew ?_ | refine blk_alloc ?_ _)); exact BK211.out)) : gb211 ≠ gb212)); have n6_ := Aside0.mk ((by rw [hg]; exact Nat.ne_of_gt (blk_lt (g := gb211) (o := .cells #[.int .i64 a0_0, .slice A0_1 l0_1.length c0_1] 57 (0, 0)) (by (with_reducible repeat (first | refine blk_drewN ?_ _ | refine blk_drew ?_ | refine blk_alloc ?_ _)); exact BK211.out)) : gb212 ≠ gb211)); clear BK211; clear HB; have BK211 := n0_; have HB := n1_; have BK212 := n2_; have GW212 := n3_; have GE212 := n4_; have NB211_212 := n5_; have NB212_211 := n6_; clear n0_ n1_ n2_ n3_ n4_ n5_ n6_; clear hb hbox hg; have hnb18 := NB211_212.out; have hnc18 := NB212_211.out; have hcz19_0 : w17.cell? ⟨gb211, 0, none⟩ = some (.int .i64 a0_0) := (blk_cell BK211.out 0).trans rfl; have hcz19_1 : w17.cell? ⟨gb211, 1, none⟩ = some (.slice A0_1 l0_1.length c0_1) := (blk_cell BK211.out 1).trans rfl; have hfz19_0 := blk_frozen BK211.out 0; have hfz19_1 := blk_frozen BK211.out 1; have hcz20_0 : w17.cell? ⟨gb212, 0, none⟩ = some (.int .i64 a1_0) := (blk_cell BK212.out 0).trans rfl; have hcz20_1 : w17.cell? ⟨gb212, 1, none⟩ = some (.slice A1_1 l1_1.length c1_1) := (blk_cell BK212.out 1).trans rfl; have hfz20_0 := blk_frozen BK212.out 0; have hfz20_1 := blk_frozen BK212.out 1))
    go_ret
    exact ⟨by first | rfl | (simp [errW_none, errW_some] <;> rfl) | (simp [*, errW_none, errW_some] <;> rfl), by repeat (first | (with_reducible first | exact HB.out | apply below_alloc | apply pw_below_drewN | apply below_drew1 | refine below_set ?_ GE211.out | refine below_set ?_ GE212.out) | exact HB.out)⟩

end Go.Proofs.Ytcopakljdenolaa.Fn
namespace Go.Proofs.Ytcopakljdenolaa.Fn
open Go.RowKit Go.Proofs.YtcopakljdenolaaW.PrintWords Go.Proofs.YtcopakljdenolaaW.PrintLast Go.Proofs.YtcopakljdenolaaW.PrintMore
attribute [local go_sem] max2_int min2_int max_two min_two max_three min_three max_four min_four   -- for this text's walks alone
set_option linter.unusedVariables false
set_option linter.unusedSimpArgs false

/-! ### laws_eqPostS: function 22 -/
def laws_eqPostS.l0 : Nat → List (S57) → List (S57) → Int → Option (Bool)
  | 0, _, _, _ => none
  | k + 1, x0, x1, x5 => if x5 < (x0.length : Int) then (if 0 ≤ x5 then (if x5 < (x1.length : Int) then ((laws_eqPost.f k ((rd_T57 x0 x5).f0) ((rd_T57 x0 x5).f1) ((rd_T57 x1 x5).f0) ((rd_T57 x1 x5).f1)).bind fun t216 => (if t216 = true then (laws_eqPostS.l0 k x0 x1 (wrap64 (x5 + 1))) else (some false))) else (none)) else (none)) else (some true)
def laws_eqPostS.f (k : Nat) (l0 : List (S57)) (l1 : List (S57)) : Option (Bool) := if (l0.length : Int) = (l1.length : Int) then (laws_eqPostS.l0 k l0 l1 0) else (some false)
theorem laws_eqPostS.mono_l : ∀ k, (∀ y0 y1 y2, LeO (laws_eqPostS.l0 k y0 y1 y2) (laws_eqPostS.l0 (k + 1) y0 y1 y2))
  | 0 => fun _ _ _ r h => by simp [laws_eqPostS.l0] at h
  | k + 1 => by
    have ih0 := laws_eqPostS.mono_l k
    · intro y0 y1 y2
      unfold laws_eqPostS.l0
      repeat' first
      | (with_reducible exact ih0 _ _ _)
      | (with_reducible exact laws_eqPost.mono _ _ _ _ _)
      | (with_reducible exact LeO.refl _)
      | (with_reducible exact LeO.none _)
      | (with_reducible refine LeO.ite ?_ ?_)
      | (with_reducible refine LeO.bind ?_ (fun _ => ?_))
      | exact ih0 _ _ _
      | exact laws_eqPost.mono _ _ _ _ _
      | exact LeO.none _
      | refine LeO.ite ?_ ?_
      | refine LeO.bind ?_ (fun _ => ?_)
theorem laws_eqPostS.mono : ∀ a0 a1 k, LeO (laws_eqPostS.f k a0 a1) (laws_eqPostS.f (k + 1) a0 a1) := by
  intro a0 a1 k
  have ih0 := laws_eqPostS.mono_l k
  unfold laws_eqPostS.f
  repeat' first
      | (with_reducible exact ih0 _ _ _)
      | (with_reducible exact laws_eqPost.mono _ _ _ _ _)
      | (with_reducible exact LeO.refl _)
      | (with_reducible exact LeO.none _)
      | (with_reducible refine LeO.ite ?_ ?_)
      | (with_reducible refine LeO.bind ?_ (fun _ => ?_))
      | exact ih0 _ _ _
      | exact laws_eqPost.mono _ _ _ _ _
      | exact LeO.none _
      | refine LeO.ite ?_ ?_
      | refine LeO.bind ?_ (fun _ => ?_)
def laws_eqPostS.T6 : Bool × List (List Nat × List Nat) := (true, [([], []), ([], []), ([0, 1], [0, 1]), ([2], [2]), ([], []), ([], []), ([4, 5], [4, 5]), ([6], [6]), ([3, 7], [3, 7]), ([8], [8])])
def laws_eqPostS.B6 : List Nat := [0, 0, 3, 7, 0, 0, 48, 112, 255, 511]
theorem laws_eqPostS.tab6 : rtab .any (opsOf Try.f22 6) = laws_eqPostS.T6 := by kernel_rfl
theorem laws_eqPostS.bits6 : waitsOk laws_eqPostS.T6.2 laws_eqPostS.B6 = true := by kernel_rfl
set_option maxHeartbeats 8000000 in
set_option maxRecDepth 100000 in
theorem laws_eqPostS.calls (k : Nat) (A0 : Option Addr) (c0 : Nat) (l0 : List (S57)) (A1 : Option Addr) (c1 : Nat) (l1 : List (S57)) (r : Bool) (w : World) (hr0 : Kd.C k57 w A0 l0.length l0) (hc0 : l0.length ≤ c0) (hr1 : Kd.C k57 w A1 l1.length l1) (hc1 : l1.length ≤ c1) (h : laws_eqPostS.f k l0 l1 = some r) :
    Calls Try.prog 22 #[.slice A0 l0.length c0, .slice A1 l1.length c1] w fun e w' => e = .returned (.bool r) ∧ Below w.heap.size w w' := by
  have hu57 := Try.underlying57
  have HR0 := Aside0.mk hr0
  have HC0 := Aside0.mk hc0
  clear hr0 hc0
  have HR1 := Aside0.mk hr1
  have HC1 := Aside0.mk hc1
  clear hr1 hc1
  have HB := Aside0.mk (Below.refl w.heap.size w)
  have H : (if (l0.length : Int) = (l1.length : Int) then (laws_eqPostS.l0 k l0 l1 0) else (some false)) = some r := h
  clear h
  by_cases c3 : (l0.length : Int) = (l1.length : Int)
  · rw [if_pos c3] at H
    have c3b0 : ((l0.length : Int) == (l1.length : Int)) = true := beq_iff_eq.mpr c3
    have c3b1 : ((l0.length : Int) != (l1.length : Int)) = false := bne_eq_false_iff_eq.mpr c3
    have c3b2 : (l0.length == l1.length) = true := by first | simpa using c3 | (simp at c3 ⊢; omega)
    clear c3
    have H' := Aside0.mk H
    clear H
    go_enter Try.func22, Try.ntmps22
    go_wp2
    go_loopg [5] k (fun kq v5 w' => ∃ (x5_1 : Int), v5 = .int .i64 x5_1 ∧ Aside0 (laws_eqPostS.l0 kq l0 l1 x5_1 = some r) ∧ Aside0 (kq ≤ k) ∧ Aside0 (Below w.heap.size w w'))
    case atStart => exact ⟨(0), (by first | rfl | (simp; done) | (simp [*]; done)), H', ⟨Nat.le_refl _⟩, ⟨by repeat (first | (with_reducible first | exact HB.out | apply below_alloc | apply pw_below_drewN | apply below_drew1) | exact HB.out)⟩⟩
    case round =>
      clear H'
      try clear c1
      try clear c2
      try clear p2
      try clear c3
      try clear c3b0
      try clear c3b1
      try clear c3b2
      obtain ⟨x5_1, rfl, HA, HK1, HB⟩ := hrel
      cases gk with
      | zero => exact absurd HA.out (by simp [laws_eqPostS.l0])
      | succ k1 =>
        have H := HA.out
        clear HA
        simp only [laws_eqPostS.l0] at H
        by_cases c4 : x5_1 < (l0.length : Int)
        · rw [if_pos c4] at H
          have c4b0 : decide (x5_1 < (l0.length : Int)) = true := decide_eq_true c4
          clear c4
          by_cases c5 : 0 ≤ x5_1
          · rw [if_pos c5] at H
            have c5b0 : decide (0 ≤ x5_1) = true := decide_eq_true c5
            clear c5
            by_cases c6 : x5_1 < (l1.length : Int)
            · rw [if_pos c6] at H
              have c6b0 : decide (x5_1 < (l1.length : Int)) = true := decide_eq_true c6
              clear c6
              replace H := Option.bind_eq_some_iff.mp H
              obtain ⟨t216, A70, H⟩ := H
              replace H : (if t216 = true then (laws_eqPostS.l0 k1 l0 l1 (wrap64 (x5_1 + 1))) else (some false)) = some r := H
              have A7 := Aside0.mk A70
              clear A70
              by_cases c8 : t216 = true
              · subst c8
                have H1 : (laws_eqPostS.l0 k1 l0 l1 (wrap64 (x5_1 + 1))) = some r := by rw [if_pos rfl] at H; exact H
                clear H
                have H := H1
                clear H1
                have H' := Aside0.mk H
                clear H
                try go_wp2
                have n0_ := Aside0.mk (below_drew1 HB.out)
                clear HB
                have HB := n0_
                clear n0_
                have p214 : 0 ≤ (x5_1 : Int) := of_decide_eq_true (by first | (with_reducible assumption) | assumption)
                have q214 : x5_1 < (l0.length : Int) := of_decide_eq_true (by first | (with_reducible assumption) | assumption)
                obtain ⟨ad214, A214_1, c214_1, e214, hx214_0, hx214_1, hl214_1, hi214_1⟩ := at_T57 HR0.out x5_1 p214 q214
                have hw214_1 := hx214_1
                have hw214_0 := hx214_0
                cases e214
                replace hx214_0 := (HB.out.cell (World.block_lt_of_cell? w _ hx214_0)).trans hx214_0
                replace hx214_1 := (HB.out.cell (World.block_lt_of_cell? w _ hx214_1)).trans hx214_1
                have HR214_1 := Aside0.mk hi214_1
                have HC214_1 := Aside0.mk hl214_1
                clear hi214_1 hl214_1
                replace p214 := eq_true p214
                replace q214 := eq_true q214
                have p215 : 0 ≤ (x5_1 : Int) := of_decide_eq_true (by first | (with_reducible assumption) | assumption)
                have q215 : x5_1 < (l1.length : Int) := of_decide_eq_true (by first | (with_reducible assumption) | assumption)
                obtain ⟨ad215, A215_1, c215_1, e215, hx215_0, hx215_1, hl215_1, hi215_1⟩ := at_T57 HR1.out x5_1 p215 q215
                have hw215_1 := hx215_1
                have hw215_0 := hx215_0
                cases e215
                replace hx215_0 := (HB.out.cell (World.block_lt_of_cell? w _ hx215_0)).trans hx215_0
                replace hx215_1 := (HB.out.cell (World.block_lt_of_cell? w _ hx215_1)).trans hx215_1
                have HR215_1 := Aside0.mk hi215_1
                have HC215_1 := Aside0.mk hl215_1
                clear hi215_1 hl215_1
                replace p215 := eq_true p215
                replace q215 := eq_true q215
                refine start_ (n := 10) (S := fun w' => w'.cell? (ad214.add ((x5_1).toNat * 2)) = some (.int .i64 ((rd_T57 l0 x5_1).f0)) ∧ w'.cell? ⟨(ad214.add ((x5_1).toNat * 2)).block, (ad214.add ((x5_1).toNat * 2)).off + 1, none⟩ = some (.slice A214_1 ((rd_T57 l0 x5_1).f1).length c214_1) ∧ w'.cell? (ad215.add ((x5_1).toNat * 2)) = some (.int .i64 ((rd_T57 l1 x5_1).f0)) ∧ w'.cell? ⟨(ad215.add ((x5_1).toNat * 2)).block, (ad215.add ((x5_1).toNat * 2)).off + 1, none⟩ = some (.slice A215_1 ((rd_T57 l1 x5_1).f1).length c215_1)) (ds := []) #[false, false, false, false, false, false, false, false, false, false] (by kernel_rfl) rfl rfl ⟨((HB.out.cell (World.block_lt_of_cell? w _ hw214_0)).trans hw214_0), ((HB.out.cell (World.block_lt_of_cell? w _ hw214_1)).trans hw214_1), ((HB.out.cell (World.block_lt_of_cell? w _ hw215_0)).trans hw215_0), ((HB.out.cell (World.block_lt_of_cell? w _ hw215_1)).trans hw215_1)⟩ (fun hHeld => ?_); refine with_tabW laws_eqPostS.tab6 laws_eqPostS.bits6 (fun HT_ HW_ => ?_)
                generalize wr.drew = w9 at HB HR214_1 HR215_1 hx214_0 hx214_1 hx215_0 hx215_1 hHeld ⊢
                refine pure_ (i := 0) (N := some 17) (v := ?_) (a' := ?_) #[true, false, false, false, false, false, false, false, false, false] rfl rfl (any_of HT_.out (by kernel_rfl)) (fun _ _ _ h => h) (Or.inl ⟨by rfl, ?_⟩) ?_ ?_
                rotate_left
                · intro w'
                  go_simp
                  with_reducible rfl
                rotate_left
                · simp only [Act.put, List.setIfInBounds_toArray, List.set_cons_zero, List.set_cons_succ, i64_w, i32_w]
                  rfl
                refine pure_ (i := 1) (N := some 18) (v := ?_) (a' := ?_) #[true, true, false, false, false, false, false, false, false, false] rfl rfl (any_of HT_.out (by kernel_rfl)) (fun _ _ _ h => h) (Or.inl ⟨by rfl, ?_⟩) ?_ ?_
                rotate_left
                · intro w'
                  go_simp
                  with_reducible rfl
                rotate_left
                · simp only [Act.put, List.setIfInBounds_toArray, List.set_cons_zero, List.set_cons_succ, i64_w, i32_w]
                  rfl
                refine pure_ (i := 2) (N := some 19) (v := ?_) (a' := ?_) #[true, true, true, false, false, false, false, false, false, false] rfl rfl (any_of HT_.out (by kernel_rfl)) (fun _ _ _ h => h) (Or.inl ⟨by rfl, ?_⟩) ?_ ?_
                rotate_left
                · intro w'
                  go_simp
                  with_reducible rfl
                rotate_left
                · simp only [Act.put, List.setIfInBounds_toArray, List.set_cons_zero, List.set_cons_succ, i64_w, i32_w]
                  rfl
                refine pure_ (i := 4) (N := some 21) (v := ?_) (a' := ?_) #[true, true, true, false, true, false, false, false, false, false] rfl rfl (any_of HT_.out (by kernel_rfl)) (fun _ _ _ h => h) (Or.inl ⟨by rfl, ?_⟩) ?_ ?_
                rotate_left
                · intro w'
                  go_simp
                  with_reducible rfl
                rotate_left
                · simp only [Act.put, List.setIfInBounds_toArray, List.set_cons_zero, List.set_cons_succ, i64_w, i32_w]
                  rfl
                refine pure_ (i := 5) (N := some 22) (v := ?_) (a' := ?_) #[true, true, true, false, true, true, false, false, false, false] rfl rfl (any_of HT_.out (by kernel_rfl)) (fun _ _ _ h => h) (Or.inl ⟨by rfl, ?_⟩) ?_ ?_
                rotate_left
                · intro w'
                  go_simp
                  with_reducible rfl
                rotate_left
                · simp only [Act.put, List.setIfInBounds_toArray, List.set_cons_zero, List.set_cons_succ, i64_w, i32_w]
                  rfl
                refine pure_ (i := 6) (N := some 23) (v := ?_) (a' := ?_) #[true, true, true, false, true, true, true, false, false, false] rfl rfl (any_of HT_.out (by kernel_rfl)) (fun _ _ _ h => h) (Or.inl ⟨by rfl, ?_⟩) ?_ ?_
                rotate_left
                · intro w'
                  go_simp
                  with_reducible rfl
                rotate_left
                · simp only [Act.put, List.setIfInBounds_toArray, List.set_cons_zero, List.set_cons_succ, i64_w, i32_w]
                  rfl
                refine take_ (i := 3) (N := some 20) (v := ?_) (a' := ?_) #[true, true, true, true, true, true, true, false, false, false] rfl rfl (take_ofW HT_.out HW_.out (by kernel_rfl)) (fun _ _ _ h => h) (Or.inl ⟨by rfl, ?_⟩) hHeld ?_ ?_
                rotate_left
                · rintro w' ⟨s0, s1, s2, s3⟩
                  go_simp
                  with_reducible rfl
                rotate_left
                · simp only [Act.put, List.setIfInBounds_toArray, List.set_cons_zero, List.set_cons_succ, i64_w, i32_w]
                  rfl
                refine take_ (i := 7) (N := some 24) (v := ?_) (a' := ?_) #[true, true, true, true, true, true, true, true, false, false] rfl rfl (take_ofW HT_.out HW_.out (by kernel_rfl)) (fun _ _ _ h => h) (Or.inl ⟨by rfl, ?_⟩) hHeld ?_ ?_
                rotate_left
                · rintro w' ⟨s0, s1, s2, s3⟩
                  go_simp
                  with_reducible rfl
                rotate_left
                · simp only [Act.put, List.setIfInBounds_toArray, List.set_cons_zero, List.set_cons_succ, i64_w, i32_w]
                  rfl
                refine one_ (i := 8) (N := some 25) #[true, true, true, true, true, true, true, true, true, false] rfl rfl (one_of HT_.out (by kernel_rfl)) (by decide) (fun K hK => ?_)
                refine goes_ Try.func61 (by kernel_rfl) rfl #[.agg #[.int .i64 ((rd_T57 l0 x5_1).f0), .slice A214_1 ((rd_T57 l0 x5_1).f1).length c214_1], .agg #[.int .i64 ((rd_T57 l1 x5_1).f0), .slice A215_1 ((rd_T57 l1 x5_1).f1).length c215_1]] (by rfl) rfl rfl (by (try simp only [List.map_toArray, List.map_cons, List.map_nil]); first | done | rfl | (simp only [List.length_drop, List.length_take]; rfl)) ?_
                with_reducible refine (laws_eqPost.calls k1 ((rd_T57 l0 x5_1).f0) _ _ ((rd_T57 l0 x5_1).f1) ((rd_T57 l1 x5_1).f0) _ _ ((rd_T57 l1 x5_1).f1) true _ ?side1 ?side2 ?side3 ?side4 A7.out).mono ?_
                (case side1 => repeat (first | exact (Kd.C_below HR214_1.out HB.out) | (with_reducible refine Kd.C_alloc ?_ _) | (with_reducible refine Kd.C_drewN ?_ _) | (with_reducible refine Kd.C_drew ?_)))
                (case side2 => exact HC214_1.out)
                (case side3 => repeat (first | exact (Kd.C_below HR215_1.out HB.out) | (with_reducible refine Kd.C_alloc ?_ _) | (with_reducible refine Kd.C_drewN ?_ _) | (with_reducible refine Kd.C_drew ?_)))
                (case side4 => exact HC215_1.out)
                rintro e w10 ⟨rfl, hb⟩
                refine ⟨_, rfl, ?_⟩
                have n0_ := Aside0.mk (below_step (by repeat (first | (with_reducible first | exact HB.out | apply below_alloc | apply pw_below_drewN | apply below_drew1) | exact HB.out)) hb)
                clear HB
                have HB := n0_
                clear n0_
                (try clear hb)
                (try clear hb2)
                (try clear hk)
                (try clear hi)
                refine hK.out _ _ ⟨((HB.out.cell (World.block_lt_of_cell? w _ hw214_0)).trans hw214_0), ((HB.out.cell (World.block_lt_of_cell? w _ hw214_1)).trans hw214_1), ((HB.out.cell (World.block_lt_of_cell? w _ hw215_0)).trans hw215_0), ((HB.out.cell (World.block_lt_of_cell? w _ hw215_1)).trans hw215_1)⟩ (fun hHeld => ?_)
                clear hK K
                refine norm_ (a' := ?_) ?_ ?_
                rotate_left
                · show Act.put _ (some 25) _ = _
                  simp only [Act.put, List.setIfInBounds_toArray, List.set_cons_zero, List.set_cons_succ, i64_w, i32_w]
                  rfl
                refine pure_ (i := 9) (N := some 26) (v := ?_) (a' := ?_) #[true, true, true, true, true, true, true, true, true, true] rfl rfl (any_of HT_.out (by kernel_rfl)) (fun _ _ _ h => h) (Or.inl ⟨by rfl, ?_⟩) ?_ ?_
                rotate_left
                · intro w'
                  go_simp
                  with_reducible rfl
                rotate_left
                · simp only [Act.put, List.setIfInBounds_toArray, List.set_cons_zero, List.set_cons_succ, i64_w, i32_w]
                  rfl
                refine done_ (done_of HT_.out (by kernel_rfl)) ?_
                try go_wp2
                go_roundg k1
                case measure => have := HK1.out; omega
                case rel => exact ⟨(wrap64 (x5_1 + 1)), (by first | rfl | (simp; done) | (simp [*]; done)), H', ⟨by have := HK1.out; omega⟩, ⟨by repeat (first | (with_reducible first | exact HB.out | apply below_alloc | apply pw_below_drewN | apply below_drew1) | exact HB.out)⟩⟩
              · replace c8 := Bool.eq_false_iff.mpr c8
                subst c8
                have H1 : (some false) = some r := by rw [if_neg (show ¬ (false = true) by decide)] at H; exact H
                clear H
                have H := H1
                clear H1
                obtain rfl := Option.some.inj H
                try go_wp2
                have n0_ := Aside0.mk (below_drew1 HB.out)
                clear HB
                have HB := n0_
                clear n0_
                have p214 : 0 ≤ (x5_1 : Int) := of_decide_eq_true (by first | (with_reducible assumption) | assumption)
                have q214 : x5_1 < (l0.length : Int) := of_decide_eq_true (by first | (with_reducible assumption) | assumption)
                obtain ⟨ad214, A214_1, c214_1, e214, hx214_0, hx214_1, hl214_1, hi214_1⟩ := at_T57 HR0.out x5_1 p214 q214
                have hw214_1 := hx214_1
                have hw214_0 := hx214_0
                cases e214
                replace hx214_0 := (HB.out.cell (World.block_lt_of_cell? w _ hx214_0)).trans hx214_0
                replace hx214_1 := (HB.out.cell (World.block_lt_of_cell? w _ hx214_1)).trans hx214_1
                have HR214_1 := Aside0.mk hi214_1
                have HC214_1 := Aside0.mk hl214_1
                clear hi214_1 hl214_1
                replace p214 := eq_true p214
                replace q214 := eq_true q214
                have p215 : 0 ≤ (x5_1 : Int) := of_decide_eq_true (by first | (with_reducible assumption) | assumption)
                have q215 : x5_1 < (l1.length : Int) := of_decide_eq_true (by first | (with_reducible assumption) | assumption)
                obtain ⟨ad215, A215_1, c215_1, e215, hx215_0, hx215_1, hl215_1, hi215_1⟩ := at_T57 HR1.out x5_1 p215 q215
                have hw215_1 := hx215_1
                have hw215_0 := hx215_0
                cases e215
                replace hx215_0 := (HB.out.cell (World.block_lt_of_cell? w _ hx215_0)).trans hx215_0
                replace hx215_1 := (HB.out.cell (World.block_lt_of_cell? w _ hx215_1)).trans hx215_1
                have HR215_1 := Aside0.mk hi215_1
                have HC215_1 := Aside0.mk hl215_1
                clear hi215_1 hl215_1
                replace p215 := eq_true p215
                replace q215 := eq_true q215
                refine start_ (n := 10) (S := fun w' => w'.cell? (ad214.add ((x5_1).toNat * 2)) = some (.int .i64 ((rd_T57 l0 x5_1).f0)) ∧ w'.cell? ⟨(ad214.add ((x5_1).toNat * 2)).block, (ad214.add ((x5_1).toNat * 2)).off + 1, none⟩ = some (.slice A214_1 ((rd_T57 l0 x5_1).f1).length c214_1) ∧ w'.cell? (ad215.add ((x5_1).toNat * 2)) = some (.int .i64 ((rd_T57 l1 x5_1).f0)) ∧ w'.cell? ⟨(ad215.add ((x5_1).toNat * 2)).block, (ad215.add ((x5_1).toNat * 2)).off + 1, none⟩ = some (.slice A215_1 ((rd_T57 l1 x5_1).f1).length c215_1)) (ds := []) #[false, false, false, false, false, false, false, false, false, false] (by kernel_rfl) rfl rfl ⟨((HB.out.cell (World.block_lt_of_cell? w _ hw214_0)).trans hw214_0), ((HB.out.cell (World.block_lt_of_cell? w _ hw214_1)).trans hw214_1), ((HB.out.cell (World.block_lt_of_cell? w _ hw215_0)).trans hw215_0), ((HB.out.cell (World.block_lt_of_cell? w _ hw215_1)).trans hw215_1)⟩ (fun hHeld => ?_); refine with_tabW laws_eqPostS.tab6 laws_eqPostS.bits6 (fun HT_ HW_ => ?_)
                generalize wr.drew = w11 at HB HR214_1 HR215_1 hx214_0 hx214_1 hx215_0 hx215_1 hHeld ⊢
                refine pure_ (i := 0) (N := some 17) (v := ?_) (a' := ?_) #[true, false, false, false, false, false, false, false, false, false] rfl rfl (any_of HT_.out (by kernel_rfl)) (fun _ _ _ h => h) (Or.inl ⟨by rfl, ?_⟩) ?_ ?_
                rotate_left
                · intro w'
                  go_simp
                  with_reducible rfl
                rotate_left
                · simp only [Act.put, List.setIfInBounds_toArray, List.set_cons_zero, List.set_cons_succ, i64_w, i32_w]
                  rfl
                refine pure_ (i := 1) (N := some 18) (v := ?_) (a' := ?_) #[true, true, false, false, false, false, false, false, false, false] rfl rfl (any_of HT_.out (by kernel_rfl)) (fun _ _ _ h => h) (Or.inl ⟨by rfl, ?_⟩) ?_ ?_
                rotate_left
                · intro w'
                  go_simp
                  with_reducible rfl
                rotate_left
                · simp only [Act.put, List.setIfInBounds_toArray, List.set_cons_zero, List.set_cons_succ, i64_w, i32_w]
                  rfl
                refine pure_ (i := 2) (N := some 19) (v := ?_) (a' := ?_) #[true, true, true, false, false, false, false, false, false, false] rfl rfl (any_of HT_.out (by kernel_rfl)) (fun _ _ _ h => h) (Or.inl ⟨by rfl, ?_⟩) ?_ ?_
                rotate_left
                · intro w'
                  go_simp
                  with_reducible rfl
                rotate_left
                · simp only [Act.put, List.setIfInBounds_toArray, List.set_cons_zero, List.set_cons_succ, i64_w, i32_w]
                  rfl
                refine pure_ (i := 4) (N := some 21) (v := ?_) (a' := ?_) #[true, true, true, false, true, false, false, false, false, false] rfl rfl (any_of HT_.out (by kernel_rfl)) (fun _ _ _ h => h) (Or.inl ⟨by rfl, ?_⟩) ?_ ?_
                rotate_left
                · intro w'
                  go_simp
                  with_reducible rfl
                rotate_left
                · simp only [Act.put, List.setIfInBounds_toArray, List.set_cons_zero, List.set_cons_succ, i64_w, i32_w]
                  rfl
                refine pure_ (i := 5) (N := some 22) (v := ?_) (a' := ?_) #[true, true, true, false, true, true, false, false, false, false] rfl rfl (any_of HT_.out (by kernel_rfl)) (fun _ _ _ h => h) (Or.inl ⟨by rfl, ?_⟩) ?_ ?_
                rotate_left
                · intro w'
                  go_simp
                  with_reducible rfl
                rotate_left
                · simp only [Act.put, List.setIfInBounds_toArray, List.set_cons_zero, List.set_cons_succ, i64_w, i32_w]
                  rfl
                refine pure_ (i := 6) (N := some 23) (v := ?_) (a' := ?_) #[true, true, true, false, true, true, true, false, false, false] rfl rfl (any_of HT_.out (by kernel_rfl)) (fun _ _ _ h => h) (Or.inl ⟨by rfl, ?_⟩) ?_ ?_
                rotate_left
                · intro w'
                  go_simp
                  with_reducible rfl
                rotate_left
                · simp only [Act.put, List.setIfInBounds_toArray, List.set_cons_zero, List.set_cons_succ, i64_w, i32_w]
                  rfl
                refine take_ (i := 3) (N := some 20) (v := ?_) (a' := ?_) #[true, true, true, true, true, true, true, false, false, false] rfl rfl (take_ofW HT_.out HW_.out (by kernel_rfl)) (fun _ _ _ h => h) (Or.inl ⟨by rfl, ?_⟩) hHeld ?_ ?_
                rotate_left
                · rintro w' ⟨s0, s1, s2, s3⟩
                  go_simp
                  with_reducible rfl
                rotate_left
                · simp only [Act.put, List.setIfInBounds_toArray, List.set_cons_zero, List.set_cons_succ, i64_w, i32_w]
                  rfl
                refine take_ (i := 7) (N := some 24) (v := ?_) (a' := ?_) #[true, true, true, true, true, true, true, true, false, false] rfl rfl (take_ofW HT_.out HW_.out (by kernel_rfl)) (fun _ _ _ h => h) (Or.inl ⟨by rfl, ?_⟩) hHeld ?_ ?_
                rotate_left
                · rintro w' ⟨s0, s1, s2, s3⟩
                  go_simp
                  with_reducible rfl
                rotate_left
                · simp only [Act.put, List.setIfInBounds_toArray, List.set_cons_zero, List.set_cons_succ, i64_w, i32_w]
                  rfl
                refine one_ (i := 8) (N := some 25) #[true, true, true, true, true, true, true, true, true, false] rfl rfl (one_of HT_.out (by kernel_rfl)) (by decide) (fun K hK => ?_)
                refine goes_ Try.func61 (by kernel_rfl) rfl #[.agg #[.int .i64 ((rd_T57 l0 x5_1).f0), .slice A214_1 ((rd_T57 l0 x5_1).f1).length c214_1], .agg #[.int .i64 ((rd_T57 l1 x5_1).f0), .slice A215_1 ((rd_T57 l1 x5_1).f1).length c215_1]] (by rfl) rfl rfl (by (try simp only [List.map_toArray, List.map_cons, List.map_nil]); first | done | rfl | (simp only [List.length_drop, List.length_take]; rfl)) ?_
                with_reducible refine (laws_eqPost.calls k1 ((rd_T57 l0 x5_1).f0) _ _ ((rd_T57 l0 x5_1).f1) ((rd_T57 l1 x5_1).f0) _ _ ((rd_T57 l1 x5_1).f1) false _ ?side1 ?side2 ?side3 ?side4 A7.out).mono ?_
                (case side1 => repeat (first | exact (Kd.C_below HR214_1.out HB.out) | (with_reducible refine Kd.C_alloc ?_ _) | (with_reducible refine Kd.C_drewN ?_ _) | (with_reducible refine Kd.C_drew ?_)))
                (case side2 => exact HC214_1.out)
                (case side3 => repeat (first | exact (Kd.C_below HR215_1.out HB.out) | (with_reducible refine Kd.C_alloc ?_ _) | (with_reducible refine Kd.C_drewN ?_ _) | (with_reducible refine Kd.C_drew ?_)))
                (case side4 => exact HC215_1.out)
                rintro e w12 ⟨rfl, hb⟩
                refine ⟨_, rfl, ?_⟩
                have n0_ := Aside0.mk (below_step (by repeat (first | (with_reducible first | exact HB.out | apply below_alloc | apply pw_below_drewN | apply below_drew1) | exact HB.out)) hb)
                clear HB
                have HB := n0_
                clear n0_
                (try clear hb)
                (try clear hb2)
                (try clear hk)
                (try clear hi)
                refine hK.out _ _ ⟨((HB.out.cell (World.block_lt_of_cell? w _ hw214_0)).trans hw214_0), ((HB.out.cell (World.block_lt_of_cell? w _ hw214_1)).trans hw214_1), ((HB.out.cell (World.block_lt_of_cell? w _ hw215_0)).trans hw215_0), ((HB.out.cell (World.block_lt_of_cell? w _ hw215_1)).trans hw215_1)⟩ (fun hHeld => ?_)
                clear hK K
                refine norm_ (a' := ?_) ?_ ?_
                rotate_left
                · show Act.put _ (some 25) _ = _
                  simp only [Act.put, List.setIfInBounds_toArray, List.set_cons_zero, List.set_cons_succ, i64_w, i32_w]
                  rfl
                refine pure_ (i := 9) (N := some 26) (v := ?_) (a' := ?_) #[true, true, true, true, true, true, true, true, true, true] rfl rfl (any_of HT_.out (by kernel_rfl)) (fun _ _ _ h => h) (Or.inl ⟨by rfl, ?_⟩) ?_ ?_
                rotate_left
                · intro w'
                  go_simp
                  with_reducible rfl
                rotate_left
                · simp only [Act.put, List.setIfInBounds_toArray, List.set_cons_zero, List.set_cons_succ, i64_w, i32_w]
                  rfl
                refine done_ (done_of HT_.out (by kernel_rfl)) ?_
                try go_wp2
                go_ret
                exact ⟨by first | rfl | (simp [errW_none, errW_some] <;> rfl) | (simp [*, errW_none, errW_some] <;> rfl), by repeat (first | (with_reducible first | exact HB.out | apply below_alloc | apply pw_below_drewN | apply below_drew1) | exact HB.out)⟩
            · rw [if_neg c6] at H
              exact absurd H (by simp)
          · rw [if_neg c5] at H
            exact absurd H (by simp)
        · rw [if_neg c4] at H
          have c4b0 : decide (x5_1 < (l0.length : Int)) = false := decide_eq_false c4
          clear c4
          obtain rfl := Option.some.inj H
          go_wp2
          go_ret
          exact ⟨by first | rfl | (simp [errW_none, errW_some] <;> rfl) | (simp [*, errW_none, errW_some] <;> rfl), by repeat (first | (with_reducible first | exact HB.out | apply below_alloc | apply pw_below_drewN | apply below_drew1) | exact HB.out)⟩
  · rw [if_neg c3] at H
    have c3b0 : ((l0.length : Int) == (l1.length : Int)) = false := beq_eq_false_iff_ne.mpr c3
    have c3b1 : ((l0.length : Int) != (l1.length : Int)) = true := bne_iff_ne.mpr c3
    have c3b2 : (l0.length == l1.length) = false := by first | simpa using c3 | (simp at c3 ⊢; omega)
    obtain rfl := Option.some.inj H
    go_enter Try.func22, Try.ntmps22
    go_wp2
    go_ret
    exact ⟨by first | rfl | (simp [errW_none, errW_some] <;> rfl) | (simp [*, errW_none, errW_some] <;> rfl), by repeat (first | (with_reducible first | exact HB.out | apply below_alloc | apply pw_below_drewN | apply below_drew1) | exact HB.out)⟩

end Go.Proofs.Ytcopakljdenolaa.Fn
namespace Go.Proofs.Ytcopakljdenolaa.Pure
open Go.RowKit Go.Proofs.Ytcopakljdenolaa.Fn Go.Proofs.YtcopakljdenolaaW.PrintWords Go.Proofs.YtcopakljdenolaaW.PrintLast Go.Proofs.YtcopakljdenolaaW.PrintMore
set_option linter.unusedSimpArgs false
set_option linter.unusedVariables false

def Fit (l : List S57) : Prop := l.length ≤ 1048576 ∧ ∀ p ∈ l, p.f1.length ≤ 1048576
theorem eqPosts_ev (l : List S57) (hl : Fit l) : Ev (fun k => laws_eqPostS.f k l l) true := by
  have hl1 := hl.1
  have h := all_ev (fun k i => laws_eqPostS.l0 k l l i) l.length true ?_ ?_
  · simp only [laws_eqPostS.f]
    (repeat (first | with_reducible refine Ev.bindS ?_ | (with_reducible refine Ev.ifp ?_ ?_; (· first | omega | assumption | rfl | (simp only [List.length_map, List.length_replicate, List.length_take, List.length_drop, List.length_append, List.length_cons, List.length_nil, List.length_set]; omega) | (simp; done))) | (with_reducible refine Ev.ifn ?_ ?_; (· first | omega | assumption | rfl | (simp only [List.length_map, List.length_replicate, List.length_take, List.length_drop, List.length_append, List.length_cons, List.length_nil, List.length_set]; omega) | (simp; done)))))
    exact h
  · intro k
    simp only [laws_eqPostS.l0]
    rw [if_neg (by omega)]
  · intro i hi
    have hx : l[i]? = some l[i] := List.getElem?_eq_getElem hi
    obtain ⟨K, hK⟩ := eqInts_ev (l[i]).f1 (hl.2 _ (List.getElem_mem hi))
    refine ⟨K, fun k hk => ?_⟩
    have hk := hK k hk
    dsimp only at hk
    simp only [laws_eqPostS.l0]
    rw [if_pos (by omega), if_pos (by omega), if_pos (by omega), rd57_at hx, wrap_succ (by omega)]
    simp only [laws_eqPost.f, hk, Option.bind_some, if_true]
end Go.Proofs.Ytcopakljdenolaa.Pure
namespace Go.Proofs.Ytcopakljdenolaa.Pure
open Go.RowKit Go.Proofs.Ytcopakljdenolaa.Fn Go.Proofs.YtcopakljdenolaaW.PrintWords Go.Proofs.YtcopakljdenolaaW.PrintLast Go.Proofs.YtcopakljdenolaaW.PrintMore
set_option linter.unusedSimpArgs false
set_option linter.unusedVariables false

def rise (l : List Int) : List Int → Nat → Bool
  | [], _ => true
  | x :: t, i => decide (0 ≤ x ∧ x ≤ 19) && ((decide (i = 0) || !decide (rd l ((i - 1 : Nat) : Int) ≥ x)) && rise l t (i + 1))
theorem rise_at {l : List Int} (t : List Int) : ∀ i, l.drop i = t → rise l t i = true → ∀ j x, i ≤ j → l[j]? = some x → (0 ≤ x ∧ x ≤ 19) ∧ (0 < j → rd l ((j - 1 : Nat) : Int) < x) := by
  induction t with
  | nil =>
    intro i h _ j x hj hx
    have := drop_nil h
    have := (List.getElem?_eq_some_iff.1 hx).1
    omega
  | cons y t ih =>
    intro i h hr j x hj hx
    obtain ⟨h1, h2, h3⟩ := drop_cons h
    simp only [rise, Bool.and_eq_true, decide_eq_true_eq, Bool.or_eq_true, Bool.not_eq_true', decide_eq_false_iff_not] at hr
    rcases Nat.lt_or_ge i j with hlt | hge
    · exact ih (i + 1) h3 hr.2.2 j x (by omega) hx
    · have e : j = i := by omega
      subst e
      rw [h2] at hx
      injection hx with hx
      subst hx
      refine ⟨hr.1, fun h0 => ?_⟩
      rcases hr.2.1 with h | h
      · omega
      · omega
theorem rise_len {l : List Int} (h : rise l l 0 = true) : l.length ≤ 20 := by
  have key : ∀ (j : Nat) (x : Int), l[j]? = some x → (j : Int) ≤ x := by
    intro j
    induction j with
    | zero => intro x hx; have := (rise_at l 0 rfl h 0 x (by omega) hx).1.1; omega
    | succ j ih =>
      intro x hx
      have hlt := (List.getElem?_eq_some_iff.1 hx).1
      have hj : l[j]? = some l[j] := List.getElem?_eq_getElem (by omega)
      have h1 := ih _ hj
      have h2 := (rise_at l 0 rfl h (j + 1) x (by omega) hx).2 (by omega)
      rw [show j + 1 - 1 = j by omega, rd_at hj] at h2
      omega
  rcases Nat.eq_zero_or_pos l.length with h0 | h0
  · omega
  · have hj : l[l.length - 1]? = some l[l.length - 1] := List.getElem?_eq_getElem (by omega)
    have h1 := key _ _ hj
    have h2 := (rise_at l 0 rfl h _ _ (by omega) hj).1.2
    omega
/-- A row of posts is good from i on. -/
def postsOk (l : List S57) : List S57 → Nat → Bool
  | [], _ => true
  | p :: t, i => decide (0 ≤ p.f0 ∧ p.f0 ≤ 11) && ((decide (i = 0) || !decide ((rd_T57 l ((i - 1 : Nat) : Int)).f0 ≥ p.f0)) && ((decide (1 ≤ p.f1.length) && rise p.f1 p.f1 0) && postsOk l t (i + 1)))
theorem implRise_ev (l0 : List S57) (m : Int) (i : Nat) (f0 : Int) (l : List Int) (hl : l.length ≤ 1048576) (r : Bool) (hr : Ev (fun k => impl_GoodPosts.l0 k l0 l0 m (wrap64 ((i : Int) + 1))) r) :
    ∀ (t : List Int) (j : Nat), l.drop j = t → j ≤ l.length → Ev (fun k => impl_GoodPosts.l1 k l0 l0 m i l l.length j f0 l) (rise l t j && r) := by
  intro t
  induction t with
  | nil =>
    intro j h _
    have := drop_nil h
    (refine Ev.up ?_; simp only [impl_GoodPosts.l1, decT])
    (repeat (first | with_reducible refine Ev.bindS ?_ | (with_reducible refine Ev.ifp ?_ ?_; (· first | omega | assumption | rfl | (simp only [List.length_map, List.length_replicate, List.length_take, List.length_drop, List.length_append, List.length_cons, List.length_nil, List.length_set]; omega) | (simp; done))) | (with_reducible refine Ev.ifn ?_ ?_; (· first | omega | assumption | rfl | (simp only [List.length_map, List.length_replicate, List.length_take, List.length_drop, List.length_append, List.length_cons, List.length_nil, List.length_set]; omega) | (simp; done)))))
    exact hr
  | cons x t ih =>
    intro j h hi
    obtain ⟨h1, h2, h3⟩ := drop_cons h
    have ih := ih (j + 1) h3 (by omega)
    (refine Ev.up ?_; simp only [impl_GoodPosts.l1, decT])
    rw [rd_at h2, wrap_succ (i := j) (by omega), within_eq]
    simp only [rise]
    (repeat (first | with_reducible refine Ev.bindS ?_ | (with_reducible refine Ev.ifp ?_ ?_; (· first | omega | assumption | rfl | (simp only [List.length_map, List.length_replicate, List.length_take, List.length_drop, List.length_append, List.length_cons, List.length_nil, List.length_set]; omega) | (simp; done))) | (with_reducible refine Ev.ifn ?_ ?_; (· first | omega | assumption | rfl | (simp only [List.length_map, List.length_replicate, List.length_take, List.length_drop, List.length_append, List.length_cons, List.length_nil, List.length_set]; omega) | (simp; done)))))
    by_cases hx : 0 ≤ x ∧ x ≤ 19
    · simp only [decT]
      rw [decide_eq_true hx, Bool.true_and]
      (repeat (first | with_reducible refine Ev.bindS ?_ | (with_reducible refine Ev.ifp ?_ ?_; (· first | omega | assumption | rfl | (simp only [List.length_map, List.length_replicate, List.length_take, List.length_drop, List.length_append, List.length_cons, List.length_nil, List.length_set]; omega) | (simp; done))) | (with_reducible refine Ev.ifn ?_ ?_; (· first | omega | assumption | rfl | (simp only [List.length_map, List.length_replicate, List.length_take, List.length_drop, List.length_append, List.length_cons, List.length_nil, List.length_set]; omega) | (simp; done)))))
      by_cases h0 : j = 0
      · rw [decide_eq_true h0, Bool.true_or, Bool.true_and]
        (repeat (first | with_reducible refine Ev.bindS ?_ | (with_reducible refine Ev.ifp ?_ ?_; (· first | omega | assumption | rfl | (simp only [List.length_map, List.length_replicate, List.length_take, List.length_drop, List.length_append, List.length_cons, List.length_nil, List.length_set]; omega) | (simp; done))) | (with_reducible refine Ev.ifn ?_ ?_; (· first | omega | assumption | rfl | (simp only [List.length_map, List.length_replicate, List.length_take, List.length_drop, List.length_append, List.length_cons, List.length_nil, List.length_set]; omega) | (simp; done)))))
        exact ih
      · have e : wrap64 ((j : Int) - 1) = ((j - 1 : Nat) : Int) := by rw [wrap_ok (by omega) (by omega)]; omega
        rw [decide_eq_false h0, Bool.false_or, e]
        (repeat (first | with_reducible refine Ev.bindS ?_ | (with_reducible refine Ev.ifp ?_ ?_; (· first | omega | assumption | rfl | (simp only [List.length_map, List.length_replicate, List.length_take, List.length_drop, List.length_append, List.length_cons, List.length_nil, List.length_set]; omega) | (simp; done))) | (with_reducible refine Ev.ifn ?_ ?_; (· first | omega | assumption | rfl | (simp only [List.length_map, List.length_replicate, List.length_take, List.length_drop, List.length_append, List.length_cons, List.length_nil, List.length_set]; omega) | (simp; done)))))
        by_cases hp : rd l ((j - 1 : Nat) : Int) ≥ x
        · (repeat (first | with_reducible refine Ev.bindS ?_ | (with_reducible refine Ev.ifp ?_ ?_; (· first | omega | assumption | rfl | (simp only [List.length_map, List.length_replicate, List.length_take, List.length_drop, List.length_append, List.length_cons, List.length_nil, List.length_set]; omega) | (simp; done))) | (with_reducible refine Ev.ifn ?_ ?_; (· first | omega | assumption | rfl | (simp only [List.length_map, List.length_replicate, List.length_take, List.length_drop, List.length_append, List.length_cons, List.length_nil, List.length_set]; omega) | (simp; done)))))
          exact Ev.val (by simp [hp])
        · (repeat (first | with_reducible refine Ev.bindS ?_ | (with_reducible refine Ev.ifp ?_ ?_; (· first | omega | assumption | rfl | (simp only [List.length_map, List.length_replicate, List.length_take, List.length_drop, List.length_append, List.length_cons, List.length_nil, List.length_set]; omega) | (simp; done))) | (with_reducible refine Ev.ifn ?_ ?_; (· first | omega | assumption | rfl | (simp only [List.length_map, List.length_replicate, List.length_take, List.length_drop, List.length_append, List.length_cons, List.length_nil, List.length_set]; omega) | (simp; done)))))
          simpa [hp] using ih
    · simp only [decT]
      rw [decide_eq_false hx]
      (repeat (first | with_reducible refine Ev.bindS ?_ | (with_reducible refine Ev.ifp ?_ ?_; (· first | omega | assumption | rfl | (simp only [List.length_map, List.length_replicate, List.length_take, List.length_drop, List.length_append, List.length_cons, List.length_nil, List.length_set]; omega) | (simp; done))) | (with_reducible refine Ev.ifn ?_ ?_; (· first | omega | assumption | rfl | (simp only [List.length_map, List.length_replicate, List.length_take, List.length_drop, List.length_append, List.length_cons, List.length_nil, List.length_set]; omega) | (simp; done)))))
      exact Ev.val (by simp)
theorem implGood_ev (l : List S57) (hl : Fit l) : Ev (fun k => impl_GoodPosts.f k l) (postsOk l l 0 && decide ((l.length : Int) ≤ 12)) := by
  have hl1 := hl.1
  have key : ∀ (t : List S57) (i : Nat), l.drop i = t → i ≤ l.length → Ev (fun k => impl_GoodPosts.l0 k l l l.length i) (postsOk l t i) := by
    intro t
    induction t with
    | nil =>
      intro i h hi
      have := drop_nil h
      (refine Ev.up ?_; simp only [impl_GoodPosts.l0, decT])
      (repeat (first | with_reducible refine Ev.bindS ?_ | (with_reducible refine Ev.ifp ?_ ?_; (· first | omega | assumption | rfl | (simp only [List.length_map, List.length_replicate, List.length_take, List.length_drop, List.length_append, List.length_cons, List.length_nil, List.length_set]; omega) | (simp; done))) | (with_reducible refine Ev.ifn ?_ ?_; (· first | omega | assumption | rfl | (simp only [List.length_map, List.length_replicate, List.length_take, List.length_drop, List.length_append, List.length_cons, List.length_nil, List.length_set]; omega) | (simp; done)))))
      exact Ev.val rfl
    | cons p t ih =>
      intro i h hi
      obtain ⟨p1, p2, p3⟩ := drop_cons h
      have ih := ih (i + 1) p3 (by omega)
      have hp := hl.2 p (List.mem_of_getElem? p2)
      have hw : wrap64 ((i : Int) + 1) = ((i + 1 : Nat) : Int) := wrap_succ (by omega)
      have hbad : ∀ f0 f1, Ev (fun k => impl_GoodPosts.j1 k l l l.length i true f0 f1) false := by
        intro f0 f1
        (refine Ev.up ?_; simp only [impl_GoodPosts.j1, decT])
        (repeat (first | with_reducible refine Ev.bindS ?_ | (with_reducible refine Ev.ifp ?_ ?_; (· first | omega | assumption | rfl | (simp only [List.length_map, List.length_replicate, List.length_take, List.length_drop, List.length_append, List.length_cons, List.length_nil, List.length_set]; omega) | (simp; done))) | (with_reducible refine Ev.ifn ?_ ?_; (· first | omega | assumption | rfl | (simp only [List.length_map, List.length_replicate, List.length_take, List.length_drop, List.length_append, List.length_cons, List.length_nil, List.length_set]; omega) | (simp; done)))))
        exact Ev.val rfl
      have tail : ∀ (hpre : True), Ev (fun k => (impl_within.f (p.f1.length : Int) 1 20).bind fun t255 => impl_GoodPosts.j1 k l l l.length i (!t255) p.f0 p.f1)
          ((decide (1 ≤ p.f1.length) && rise p.f1 p.f1 0) && postsOk l t (i + 1)) := by
        intro _
        rw [within_eq]
        by_cases h0 : 1 ≤ (p.f1.length : Int) ∧ (p.f1.length : Int) ≤ 20
        · rw [decide_eq_true h0, decide_eq_true (p := 1 ≤ p.f1.length) (by omega), Bool.true_and]
          (repeat (first | with_reducible refine Ev.bindS ?_ | (with_reducible refine Ev.ifp ?_ ?_; (· first | omega | assumption | rfl | (simp only [List.length_map, List.length_replicate, List.length_take, List.length_drop, List.length_append, List.length_cons, List.length_nil, List.length_set]; omega) | (simp; done))) | (with_reducible refine Ev.ifn ?_ ?_; (· first | omega | assumption | rfl | (simp only [List.length_map, List.length_replicate, List.length_take, List.length_drop, List.length_append, List.length_cons, List.length_nil, List.length_set]; omega) | (simp; done)))))
          (refine Ev.up ?_; simp only [impl_GoodPosts.j1, decT])
          (repeat (first | with_reducible refine Ev.bindS ?_ | (with_reducible refine Ev.ifp ?_ ?_; (· first | omega | assumption | rfl | (simp only [List.length_map, List.length_replicate, List.length_take, List.length_drop, List.length_append, List.length_cons, List.length_nil, List.length_set]; omega) | (simp; done))) | (with_reducible refine Ev.ifn ?_ ?_; (· first | omega | assumption | rfl | (simp only [List.length_map, List.length_replicate, List.length_take, List.length_drop, List.length_append, List.length_cons, List.length_nil, List.length_set]; omega) | (simp; done)))))
          exact implRise_ev l l.length i p.f0 p.f1 hp _ (by rw [hw]; exact ih) p.f1 0 rfl (by omega)
        · have e : (decide (1 ≤ p.f1.length) && rise p.f1 p.f1 0) = false := by
            by_cases h1 : 1 ≤ p.f1.length
            · cases h2 : rise p.f1 p.f1 0 with
              | false => simp
              | true => have := rise_len h2; omega
            · simp [h1]
          rw [decide_eq_false h0, e]
          (repeat (first | with_reducible refine Ev.bindS ?_ | (with_reducible refine Ev.ifp ?_ ?_; (· first | omega | assumption | rfl | (simp only [List.length_map, List.length_replicate, List.length_take, List.length_drop, List.length_append, List.length_cons, List.length_nil, List.length_set]; omega) | (simp; done))) | (with_reducible refine Ev.ifn ?_ ?_; (· first | omega | assumption | rfl | (simp only [List.length_map, List.length_replicate, List.length_take, List.length_drop, List.length_append, List.length_cons, List.length_nil, List.length_set]; omega) | (simp; done)))))
          exact hbad _ _
      (refine Ev.up ?_; simp only [impl_GoodPosts.l0, decT])
      rw [rd57_at p2, within_eq]
      simp only [postsOk]
      (repeat (first | with_reducible refine Ev.bindS ?_ | (with_reducible refine Ev.ifp ?_ ?_; (· first | omega | assumption | rfl | (simp only [List.length_map, List.length_replicate, List.length_take, List.length_drop, List.length_append, List.length_cons, List.length_nil, List.length_set]; omega) | (simp; done))) | (with_reducible refine Ev.ifn ?_ ?_; (· first | omega | assumption | rfl | (simp only [List.length_map, List.length_replicate, List.length_take, List.length_drop, List.length_append, List.length_cons, List.length_nil, List.length_set]; omega) | (simp; done)))))
      by_cases hx : 0 ≤ p.f0 ∧ p.f0 ≤ 11
      · simp only [decT]
        rw [decide_eq_true hx, Bool.true_and]
        (repeat (first | with_reducible refine Ev.bindS ?_ | (with_reducible refine Ev.ifp ?_ ?_; (· first | omega | assumption | rfl | (simp only [List.length_map, List.length_replicate, List.length_take, List.length_drop, List.length_append, List.length_cons, List.length_nil, List.length_set]; omega) | (simp; done))) | (with_reducible refine Ev.ifn ?_ ?_; (· first | omega | assumption | rfl | (simp only [List.length_map, List.length_replicate, List.length_take, List.length_drop, List.length_append, List.length_cons, List.length_nil, List.length_set]; omega) | (simp; done)))))
        by_cases h0 : i = 0
        · rw [decide_eq_true h0, Bool.true_or, Bool.true_and]
          refine Ev.ifn (by omega) ?_
          exact tail trivial
        · have e : wrap64 ((i : Int) - 1) = ((i - 1 : Nat) : Int) := by rw [wrap_ok (by omega) (by omega)]; omega
          rw [decide_eq_false h0, Bool.false_or, e]
          refine Ev.ifp (by omega) (Ev.ifp (by omega) (Ev.ifp (by omega) ?_))
          by_cases hq : (rd_T57 l ((i - 1 : Nat) : Int)).f0 ≥ p.f0
          · refine Ev.ifp hq ?_
            rw [decide_eq_true hq]
            exact hbad _ _
          · refine Ev.ifn hq ?_
            rw [decide_eq_false hq, Bool.not_false, Bool.true_and]
            exact tail trivial
      · simp only [decT]
        rw [decide_eq_false hx]
        (repeat (first | with_reducible refine Ev.bindS ?_ | (with_reducible refine Ev.ifp ?_ ?_; (· first | omega | assumption | rfl | (simp only [List.length_map, List.length_replicate, List.length_take, List.length_drop, List.length_append, List.length_cons, List.length_nil, List.length_set]; omega) | (simp; done))) | (with_reducible refine Ev.ifn ?_ ?_; (· first | omega | assumption | rfl | (simp only [List.length_map, List.length_replicate, List.length_take, List.length_drop, List.length_append, List.length_cons, List.length_nil, List.length_set]; omega) | (simp; done)))))
        exact hbad _ _
  simp only [impl_GoodPosts.f]
  by_cases h : (l.length : Int) > 12
  · rw [decide_eq_false (p := (l.length : Int) ≤ 12) (by omega), Bool.and_false]
    (repeat (first | with_reducible refine Ev.bindS ?_ | (with_reducible refine Ev.ifp ?_ ?_; (· first | omega | assumption | rfl | (simp only [List.length_map, List.length_replicate, List.length_take, List.length_drop, List.length_append, List.length_cons, List.length_nil, List.length_set]; omega) | (simp; done))) | (with_reducible refine Ev.ifn ?_ ?_; (· first | omega | assumption | rfl | (simp only [List.length_map, List.length_replicate, List.length_take, List.length_drop, List.length_append, List.length_cons, List.length_nil, List.length_set]; omega) | (simp; done)))))
    exact Ev.val rfl
  · rw [decide_eq_true (p := (l.length : Int) ≤ 12) (by omega), Bool.and_true]
    (repeat (first | with_reducible refine Ev.bindS ?_ | (with_reducible refine Ev.ifp ?_ ?_; (· first | omega | assumption | rfl | (simp only [List.length_map, List.length_replicate, List.length_take, List.length_drop, List.length_append, List.length_cons, List.length_nil, List.length_set]; omega) | (simp; done))) | (with_reducible refine Ev.ifn ?_ ?_; (· first | omega | assumption | rfl | (simp only [List.length_map, List.length_replicate, List.length_take, List.length_drop, List.length_append, List.length_cons, List.length_nil, List.length_set]; omega) | (simp; done)))))
    exact key l 0 rfl (by omega)
def goodB (l : List S57) : Bool := postsOk l l 0 && decide ((l.length : Int) ≤ 12)
end Go.Proofs.Ytcopakljdenolaa.Pure
namespace Go.Proofs.Ytcopakljdenolaa.Pure
open Go.RowKit Go.Proofs.Ytcopakljdenolaa.Fn Go.Proofs.YtcopakljdenolaaW.PrintWords Go.Proofs.YtcopakljdenolaaW.PrintLast Go.Proofs.YtcopakljdenolaaW.PrintMore
set_option linter.unusedSimpArgs false
set_option linter.unusedVariables false

def Row (l : List Int) : Prop := (∀ x ∈ l, 0 ≤ x ∧ x ≤ 19) ∧ l.Pairwise (· < ·)
theorem rise_iff (l : List Int) : ∀ (t : List Int) (i : Nat), l.drop i = t → (rise l t i = true ↔ (∀ x ∈ t, 0 ≤ x ∧ x ≤ 19) ∧ t.Pairwise (· < ·) ∧ (0 < i → ∀ x, l[i - 1]? = some x → ∀ y ∈ t, x < y)) := by
  intro t
  induction t with
  | nil => intro i h; simp [rise]
  | cons y t ih =>
    intro i h
    obtain ⟨p1, p2, p3⟩ := drop_cons h
    have ih := ih (i + 1) p3
    simp only [rise, Bool.and_eq_true, Bool.or_eq_true, Bool.not_eq_true', decide_eq_true_eq, decide_eq_false_iff_not, ih]
    have hy : l[i + 1 - 1]? = some y := by simpa using p2
    constructor
    · rintro ⟨h1, h2, h3, h4, h5⟩
      have h5 := h5 (by omega) y hy
      refine ⟨fun x hx => ?_, List.pairwise_cons.2 ⟨h5, h4⟩, fun hi x hx z hz => ?_⟩
      · rcases List.mem_cons.1 hx with rfl | hx
        · exact h1
        · exact h3 x hx
      · have hlt : x < y := by
          rcases h2 with h2 | h2
          · omega
          · rw [rd_at hx] at h2; omega
        rcases List.mem_cons.1 hz with rfl | hz
        · exact hlt
        · have := h5 z hz; omega
    · rintro ⟨h1, h2, h3⟩
      obtain ⟨h4, h5⟩ := List.pairwise_cons.1 h2
      refine ⟨h1 y List.mem_cons_self, ?_, fun x hx => h1 x (List.mem_cons_of_mem _ hx), h5, fun _ x hx => ?_⟩
      · by_cases h0 : i = 0
        · exact .inl h0
        · right
          have hx : l[i - 1]? = some (l[i - 1]'(by omega)) := List.getElem?_eq_getElem (by omega)
          have := h3 (by omega) _ hx y List.mem_cons_self
          rw [rd_at hx]
          omega
      · rw [hy] at hx
        injection hx with hx
        subst hx
        exact h4
def Good1 (p : S57) : Prop := (0 ≤ p.f0 ∧ p.f0 ≤ 11) ∧ 1 ≤ p.f1.length ∧ Row p.f1
theorem postsOk_iff (l : List S57) : ∀ (t : List S57) (i : Nat), l.drop i = t → (postsOk l t i = true ↔ (∀ p ∈ t, Good1 p) ∧ t.Pairwise (fun x y => x.f0 < y.f0) ∧ (0 < i → ∀ x, l[i - 1]? = some x → ∀ y ∈ t, x.f0 < y.f0)) := by
  intro t
  induction t with
  | nil => intro i h; simp [postsOk]
  | cons y t ih =>
    intro i h
    obtain ⟨p1, p2, p3⟩ := drop_cons h
    have ih := ih (i + 1) p3
    have hr := rise_iff y.f1 y.f1 0 rfl
    have hr2 : rise y.f1 y.f1 0 = true ↔ Row y.f1 := by
      rw [hr]
      exact ⟨fun h => ⟨h.1, h.2.1⟩, fun h => ⟨h.1, h.2, fun h => by omega⟩⟩
    simp only [postsOk, Bool.and_eq_true, Bool.or_eq_true, Bool.not_eq_true', decide_eq_true_eq, decide_eq_false_iff_not, ih, hr2]
    have hy : l[i + 1 - 1]? = some y := by simpa using p2
    constructor
    · rintro ⟨h1, h2, ⟨h3, h4⟩, h5, h6, h7⟩
      have h7 := h7 (by omega) y hy
      refine ⟨fun x hx => ?_, List.pairwise_cons.2 ⟨h7, h6⟩, fun hi x hx z hz => ?_⟩
      · rcases List.mem_cons.1 hx with rfl | hx
        · exact ⟨h1, h3, h4⟩
        · exact h5 x hx
      · have hlt : x.f0 < y.f0 := by
          rcases h2 with h2 | h2
          · omega
          · rw [rd57_at hx] at h2; omega
        rcases List.mem_cons.1 hz with rfl | hz
        · exact hlt
        · have := h7 z hz; omega
    · rintro ⟨h1, h2, h3⟩
      obtain ⟨h4, h5⟩ := List.pairwise_cons.1 h2
      obtain ⟨g1, g2, g3⟩ := h1 y List.mem_cons_self
      refine ⟨g1, ?_, ⟨g2, g3⟩, fun x hx => h1 x (List.mem_cons_of_mem _ hx), h5, fun _ x hx => ?_⟩
      · by_cases h0 : i = 0
        · exact .inl h0
        · right
          have hx : l[i - 1]? = some (l[i - 1]'(by omega)) := List.getElem?_eq_getElem (by omega)
          have := h3 (by omega) _ hx y List.mem_cons_self
          rw [rd57_at hx]
          omega
      · rw [hy] at hx
        injection hx with hx
        subst hx
        exact h4
theorem good_iff (l : List S57) : goodB l = true ↔ (∀ p ∈ l, Good1 p) ∧ l.Pairwise (fun x y => x.f0 < y.f0) ∧ l.length ≤ 12 := by
  unfold goodB
  rw [Bool.and_eq_true, postsOk_iff l l 0 rfl, decide_eq_true_iff]
  exact ⟨fun h => ⟨h.1.1, h.1.2.1, by omega⟩, fun h => ⟨⟨h.1, h.2.1, fun h => by omega⟩, by omega⟩⟩
end Go.Proofs.Ytcopakljdenolaa.Pure
namespace Go.Proofs.Ytcopakljdenolaa.Pure
open Go.RowKit Go.Proofs.Ytcopakljdenolaa.Fn Go.Proofs.YtcopakljdenolaaW.PrintWords Go.Proofs.YtcopakljdenolaaW.PrintLast Go.Proofs.YtcopakljdenolaaW.PrintMore
set_option linter.unusedSimpArgs false
set_option linter.unusedVariables false

theorem sameInts_ev (l : List Int) (hl : l.length ≤ 1048576) : Ev (fun k => laws_sameInts.f k l l) true := by
  have h := all_ev (fun k i => laws_sameInts.l0 k l l l.length i) l.length true ?_ ?_
  · simp only [laws_sameInts.f]
    (repeat (first | with_reducible refine Ev.bindS ?_ | (with_reducible refine Ev.ifp ?_ ?_; (· first | omega | assumption | rfl | (simp only [List.length_map, List.length_replicate, List.length_take, List.length_drop, List.length_append, List.length_cons, List.length_nil, List.length_set]; omega) | (simp; done))) | (with_reducible refine Ev.ifn ?_ ?_; (· first | omega | assumption | rfl | (simp only [List.length_map, List.length_replicate, List.length_take, List.length_drop, List.length_append, List.length_cons, List.length_nil, List.length_set]; omega) | (simp; done)))))
    exact h
  · intro k
    simp only [laws_sameInts.l0]
    rw [if_neg (by omega)]
  · intro i hi
    refine ⟨0, fun k _ => ?_⟩
    simp only [laws_sameInts.l0]
    rw [if_pos (by omega), if_pos (by omega), if_pos (by omega), if_pos (by omega), if_pos trivial, wrap_succ (by omega)]
theorem sameTexts_ev (l : List ByteArray) (hl : l.length ≤ 1048576) : Ev (fun k => laws_sameTexts.f k l l) true := by
  have h := all_ev (fun k i => laws_sameTexts.l0 k l l l.length i) l.length true ?_ ?_
  · simp only [laws_sameTexts.f]
    (repeat (first | with_reducible refine Ev.bindS ?_ | (with_reducible refine Ev.ifp ?_ ?_; (· first | omega | assumption | rfl | (simp only [List.length_map, List.length_replicate, List.length_take, List.length_drop, List.length_append, List.length_cons, List.length_nil, List.length_set]; omega) | (simp; done))) | (with_reducible refine Ev.ifn ?_ ?_; (· first | omega | assumption | rfl | (simp only [List.length_map, List.length_replicate, List.length_take, List.length_drop, List.length_append, List.length_cons, List.length_nil, List.length_set]; omega) | (simp; done)))))
    exact h
  · intro k
    simp only [laws_sameTexts.l0]
    rw [if_neg (by omega)]
  · intro i hi
    refine ⟨0, fun k _ => ?_⟩
    simp only [laws_sameTexts.l0]
    rw [if_pos (by omega), if_pos (by omega), if_pos (by omega), if_pos (by omega), if_pos trivial, wrap_succ (by omega)]
theorem samePosts_ev (l : List S57) (hl : Fit l) : Ev (fun k => laws_samePosts.f k l l) true := by
  have hl1 := hl.1
  have h := all_ev (fun k i => laws_samePosts.l0 k l l l.length i) l.length true ?_ ?_
  · simp only [laws_samePosts.f]
    (repeat (first | with_reducible refine Ev.bindS ?_ | (with_reducible refine Ev.ifp ?_ ?_; (· first | omega | assumption | rfl | (simp only [List.length_map, List.length_replicate, List.length_take, List.length_drop, List.length_append, List.length_cons, List.length_nil, List.length_set]; omega) | (simp; done))) | (with_reducible refine Ev.ifn ?_ ?_; (· first | omega | assumption | rfl | (simp only [List.length_map, List.length_replicate, List.length_take, List.length_drop, List.length_append, List.length_cons, List.length_nil, List.length_set]; omega) | (simp; done)))))
    exact h
  · intro k
    simp only [laws_samePosts.l0]
    rw [if_neg (by omega)]
  · intro i hi
    have hx : l[i]? = some l[i] := List.getElem?_eq_getElem hi
    obtain ⟨K, hK⟩ := sameInts_ev (l[i]).f1 (hl.2 _ (List.getElem_mem hi))
    refine ⟨K, fun k hk => ?_⟩
    have hk := hK k hk
    dsimp only at hk
    simp only [laws_samePosts.l0]
    rw [if_pos (by omega), if_pos (by omega), if_pos (by omega), if_pos (by omega), if_pos trivial, rd57_at hx, hk, Option.bind_some, if_pos rfl, wrap_succ (by omega)]
theorem posts_mem (w : ByteArray) (t : List ByteArray) : ∀ (i : Nat) (acc : List S57) (p : S57), p ∈ postsFrom w t i acc → p ∈ acc ∨ ∃ (j : Nat) (s : ByteArray), t[j]? = some s ∧ p = ⟨((i + j : Nat) : Int), places w s⟩ := by
  induction t with
  | nil => intro i acc p h; exact .inl h
  | cons s t ih =>
    intro i acc p h
    simp only [postsFrom] at h
    split at h
    · rcases ih (i + 1) _ p h with h | ⟨j, s', h1, h2⟩
      · rcases List.mem_append.1 h with h | h
        · exact .inl h
        · exact .inr ⟨0, s, rfl, List.mem_singleton.1 h⟩
      · exact .inr ⟨j + 1, s', by simpa using h1, by rw [h2, show i + 1 + j = i + (j + 1) by omega]⟩
    · rcases ih (i + 1) _ p h with h | ⟨j, s', h1, h2⟩
      · exact .inl h
      · exact .inr ⟨j + 1, s', by simpa using h1, by rw [h2, show i + 1 + j = i + (j + 1) by omega]⟩
end Go.Proofs.Ytcopakljdenolaa.Pure
namespace Go.Proofs.Ytcopakljdenolaa.Pure
open Go.RowKit Go.Proofs.Ytcopakljdenolaa.Fn Go.Proofs.YtcopakljdenolaaW.PrintWords Go.Proofs.YtcopakljdenolaaW.PrintLast Go.Proofs.YtcopakljdenolaaW.PrintMore
set_option linter.unusedSimpArgs false
set_option linter.unusedVariables false

def countFrom : List S57 → Int → Int
  | [], n => n
  | p :: t, n => countFrom t (wrap64 (n + ((p.f1).length : Int)))
theorem specCount_loop (a l : List S57) (hl : l.length ≤ 1048576) : ∀ (t : List S57) (i : Nat) (n : Int), l.drop i = t → i ≤ l.length → Ev (fun k => spec_CountOf.l0 k a n l l.length i) ((a.length : Int), countFrom t n, true) := by
  intro t
  induction t with
  | nil =>
    intro i n h hi
    have := drop_nil h
    (refine Ev.up ?_; simp only [spec_CountOf.l0, decT])
    (repeat (first | with_reducible refine Ev.bindS ?_ | (with_reducible refine Ev.ifp ?_ ?_; (· first | omega | assumption | rfl | (simp only [List.length_map, List.length_replicate, List.length_take, List.length_drop, List.length_append, List.length_cons, List.length_nil, List.length_set]; omega) | (simp; done))) | (with_reducible refine Ev.ifn ?_ ?_; (· first | omega | assumption | rfl | (simp only [List.length_map, List.length_replicate, List.length_take, List.length_drop, List.length_append, List.length_cons, List.length_nil, List.length_set]; omega) | (simp; done)))))
    exact Ev.val rfl
  | cons x t ih =>
    intro i n h hi
    obtain ⟨p1, p2, p3⟩ := drop_cons h
    (refine Ev.up ?_; simp only [spec_CountOf.l0, decT])
    rw [rd57_at p2, wrap_succ (by omega)]
    (repeat (first | with_reducible refine Ev.bindS ?_ | (with_reducible refine Ev.ifp ?_ ?_; (· first | omega | assumption | rfl | (simp only [List.length_map, List.length_replicate, List.length_take, List.length_drop, List.length_append, List.length_cons, List.length_nil, List.length_set]; omega) | (simp; done))) | (with_reducible refine Ev.ifn ?_ ?_; (· first | omega | assumption | rfl | (simp only [List.length_map, List.length_replicate, List.length_take, List.length_drop, List.length_append, List.length_cons, List.length_nil, List.length_set]; omega) | (simp; done)))))
    exact ih (i + 1) _ p3 (by omega)
theorem implCount_loop (a l : List S57) (b : Bool) (hl : l.length ≤ 1048576) : ∀ (t : List S57) (i : Nat) (n : Int), l.drop i = t → i ≤ l.length → Ev (fun k => impl_CountOf.l0 k a b n l l.length i) ((a.length : Int), countFrom t n, b) := by
  intro t
  induction t with
  | nil =>
    intro i n h hi
    have := drop_nil h
    (refine Ev.up ?_; simp only [impl_CountOf.l0, decT])
    (repeat (first | with_reducible refine Ev.bindS ?_ | (with_reducible refine Ev.ifp ?_ ?_; (· first | omega | assumption | rfl | (simp only [List.length_map, List.length_replicate, List.length_take, List.length_drop, List.length_append, List.length_cons, List.length_nil, List.length_set]; omega) | (simp; done))) | (with_reducible refine Ev.ifn ?_ ?_; (· first | omega | assumption | rfl | (simp only [List.length_map, List.length_replicate, List.length_take, List.length_drop, List.length_append, List.length_cons, List.length_nil, List.length_set]; omega) | (simp; done)))))
    exact Ev.val rfl
  | cons x t ih =>
    intro i n h hi
    obtain ⟨p1, p2, p3⟩ := drop_cons h
    (refine Ev.up ?_; simp only [impl_CountOf.l0, decT])
    rw [rd57_at p2, wrap_succ (by omega)]
    (repeat (first | with_reducible refine Ev.bindS ?_ | (with_reducible refine Ev.ifp ?_ ?_; (· first | omega | assumption | rfl | (simp only [List.length_map, List.length_replicate, List.length_take, List.length_drop, List.length_append, List.length_cons, List.length_nil, List.length_set]; omega) | (simp; done))) | (with_reducible refine Ev.ifn ?_ ?_; (· first | omega | assumption | rfl | (simp only [List.length_map, List.length_replicate, List.length_take, List.length_drop, List.length_append, List.length_cons, List.length_nil, List.length_set]; omega) | (simp; done)))))
    exact ih (i + 1) _ p3 (by omega)
theorem postsRes_no {l : List ByteArray} {w : ByteArray} (h : (postsRes l w).2 = false) : (postsRes l w).1 = [] := by
  unfold postsRes at h ⊢
  split at h
  · cases h
  · rename_i hn; rw [if_neg hn]
def countRes (l : List ByteArray) (w : ByteArray) : Int × Int × Bool := (((postsRes l w).1.length : Int), countFrom (postsRes l w).1 0, (postsRes l w).2)
theorem specCountOf_ev (l : List ByteArray) (hl : Small l) (w : ByteArray) (hw : w.size ≤ 1048576) : Ev (fun k => spec_CountOf.f k l w) (countRes l w) := by
  have hlen := postsRes_len l w hl
  simp only [spec_CountOf.f]
  refine Ev.bind (specPostsOf_ev l hl w hw) ?_
  cases h : (postsRes l w).2 with
  | true =>
    refine Ev.ifp rfl ?_
    rw [countRes, h]
    exact specCount_loop _ _ hlen _ 0 0 rfl (by omega)
  | false =>
    refine Ev.ifn (by decide) ?_
    rw [countRes, h, postsRes_no h]
    exact Ev.val rfl
theorem implCountOf_ev (l : List ByteArray) (hl : Small l) (w : ByteArray) (hw : w.size ≤ 1048576) : Ev (fun k => impl_CountOf.f k l w) (countRes l w) := by
  have hlen := postsRes_len l w hl
  simp only [impl_CountOf.f]
  refine Ev.bind (implPostsOf_ev l hl w hw) ?_
  exact implCount_loop _ _ _ hlen _ 0 0 rfl (by omega)
end Go.Proofs.Ytcopakljdenolaa.Pure
namespace Go.Proofs.Ytcopakljdenolaa.Pure
open Go.RowKit Go.Proofs.Ytcopakljdenolaa.Fn Go.Proofs.YtcopakljdenolaaW.PrintWords Go.Proofs.YtcopakljdenolaaW.PrintLast Go.Proofs.YtcopakljdenolaaW.PrintMore
set_option linter.unusedSimpArgs false
set_option linter.unusedVariables false

theorem Ev.uniq {α : Type} {g : Nat → Option α} {a b : α} (h1 : Ev g a) (h2 : Ev g b) : a = b := by
  obtain ⟨K1, e1⟩ := h1
  obtain ⟨K2, e2⟩ := h2
  have e1 := e1 (max K1 K2) (by omega)
  have e2 := e2 (max K1 K2) (by omega)
  rw [e1] at e2
  exact Option.some.inj e2
theorem u64_wrap (n : Int) : IntKind.u64.wrap n = n % 18446744073709551616 := by simp [IntKind.wrap, IntKind.bits, IntKind.signed]
theorem mask255 (y : Int) (h0 : 0 ≤ y) (h1 : y < 18446744073709551616) : 0 ≤ Go.bits .and .u64 y 255 ∧ Go.bits .and .u64 y 255 ≤ 255 := by
  have e : Go.bits .and .u64 y (2 ^ 8 - 1) = y % 2 ^ 8 := bits_mask .u64 64 (by decide) (fun n h0 h1 => by rw [u64_wrap]; omega) 8 (by decide) y h0 h1
  have e2 : ((2 : Int) ^ 8 - 1) = 255 := by decide
  rw [e2] at e
  rw [e]
  omega
/-- The code is made of bytes. -/
def Code (c : List Int) : Prop := ∀ y ∈ c, 0 ≤ y ∧ y ≤ 255
theorem next_some (c : List Int) (hc : Code c) (a s : Int) (h0 : 0 ≤ a) (h1 : a ≤ 2305843009213693952) : ∃ x s' : Int, spec_l1Cur_next.f c a s = some (x, a + 1, s') ∧ 0 ≤ x ∧ x ≤ 255 := by
  have ea : wrap64 (a + 1) = a + 1 := wrap_ok (by omega) (by omega)
  have hm : ∀ z : Int, 0 ≤ wrap64 (Go.bits .and .u64 (IntKind.u64.wrap z / 1099511627776) 255) ∧ wrap64 (Go.bits .and .u64 (IntKind.u64.wrap z / 1099511627776) 255) ≤ 255 := by
    intro z
    have h := mask255 (IntKind.u64.wrap z / 1099511627776) (by rw [u64_wrap]; omega) (by rw [u64_wrap]; omega)
    rw [wrap_ok (by omega) (by omega)]
    exact h
  have hr : a < (c.length : Int) → 0 ≤ wrap64 (rd c a) ∧ wrap64 (rd c a) ≤ 255 := by
    intro h
    have hx : c[a.toNat]? = some c[a.toNat] := List.getElem?_eq_getElem (by omega)
    have e : rd c a = c[a.toNat] := by
      have := rd_at hx
      rw [show ((a.toNat : Nat) : Int) = a by omega] at this
      exact this
    have hy := hc _ (List.mem_of_getElem? hx)
    rw [e, wrap_ok (by omega) (by omega)]
    exact hy
  simp only [spec_l1Cur_next.f, ea]
  by_cases h : a < (c.length : Int)
  · rw [if_pos h, if_pos h0]
    by_cases h2 : a + 1 ≤ (c.length : Int)
    · rw [if_pos h2]
      exact ⟨_, _, rfl, (hr h).1, (hr h).2⟩
    · rw [if_neg h2]
      exact ⟨_, _, rfl, (hm _).1, (hm _).2⟩
  · rw [if_neg h]
    by_cases h2 : a + 1 ≤ (c.length : Int)
    · rw [if_pos h2]
      exact ⟨_, _, rfl, by omega, by omega⟩
    · rw [if_neg h2]
      exact ⟨_, _, rfl, (hm _).1, (hm _).2⟩
theorem tmod_range (x n : Int) (h0 : 0 ≤ x) (h1 : 0 < n) : 0 ≤ Int.tmod x n ∧ Int.tmod x n < n := by
  rw [Int.tmod_eq_emod_of_nonneg h0]
  exact ⟨Int.emod_nonneg _ (by omega), Int.emod_lt_of_pos _ h1⟩
theorem pick_some (c : List Int) (hc : Code c) (a s : Int) (h0 : 0 ≤ a) (h1 : a ≤ 1152921504606846976) (n : Int) :
    ∃ x a' s' : Int, spec_l1Cur_pick.f c a s n = some (x, a', s') ∧ a ≤ a' ∧ a' ≤ a + 2 ∧ 0 ≤ x ∧ (0 < n → x < n) ∧ (n ≤ 0 → x = 0) := by
  simp only [spec_l1Cur_pick.f]
  by_cases hn : n ≤ 1
  · rw [if_pos hn]
    exact ⟨0, a, s, rfl, by omega, by omega, by omega, fun h => h, fun _ => rfl⟩
  · obtain ⟨x, s1, e1, b1, b2⟩ := next_some c hc a s h0 (by omega)
    rw [if_neg hn, e1, Option.bind_some]
    by_cases h2 : n > 200
    · obtain ⟨y, s2, e2, c1, c2⟩ := next_some c hc (a + 1) s1 (by omega) (by omega)
      have ew : wrap64 (wrap64 (x * 256) + y) = x * 256 + y := by rw [wrap_ok (n := x * 256) (by omega) (by omega), wrap_ok (by omega) (by omega)]
      have hr := tmod_range (x * 256 + y) n (by omega) (by omega)
      simp only [if_pos h2, e2, Option.bind_some, if_neg (show ¬ n = 0 by omega), ew]
      exact ⟨_, _, _, rfl, by omega, by omega, hr.1, fun _ => hr.2, fun h => by omega⟩
    · have hr := tmod_range x n (by omega) (by omega)
      simp only [if_neg h2, if_neg (show ¬ n = 0 by omega)]
      exact ⟨_, _, _, rfl, by omega, by omega, hr.1, fun _ => hr.2, fun h => by omega⟩
end Go.Proofs.Ytcopakljdenolaa.Pure
namespace Go.Proofs.Ytcopakljdenolaa.Pure
open Go.RowKit Go.Proofs.Ytcopakljdenolaa.Fn Go.Proofs.YtcopakljdenolaaW.PrintWords Go.Proofs.YtcopakljdenolaaW.PrintLast Go.Proofs.YtcopakljdenolaaW.PrintMore
set_option linter.unusedSimpArgs false
set_option linter.unusedVariables false

theorem rd_mem {α : Type} {z : α} {l : List α} {x : Int} (h0 : 0 ≤ x) (h1 : x < (l.length : Int)) : l.getD x.toNat z ∈ l := by
  rw [List.getD_eq_getElem?_getD, List.getElem?_eq_getElem (by omega)]
  exact List.getElem_mem _
theorem of_some (c : List Int) (hc : Code c) (a s : Int) (h0 : 0 ≤ a) (h1 : a ≤ 1152921504606846976) (l : List ByteArray) (hl : 0 < l.length) :
    ∃ (x : ByteArray) (a' s' : Int), spec_l1Cur_of.f c a s l = some (x, a', s') ∧ x ∈ l ∧ a ≤ a' ∧ a' ≤ a + 2 := by
  obtain ⟨x, a', s', e, b1, b2, b3, b4, b5⟩ := pick_some c hc a s h0 h1 (l.length : Int)
  have hx := b4 (by omega)
  refine ⟨rdOf ByteArray.empty l x, a', s', ?_, rd_mem b3 hx, b1, b2⟩
  simp only [spec_l1Cur_of.f, e, Option.bind_some]
  rw [if_pos b3, if_pos hx]
theorem one_some (c : List Int) (hc : Code c) (a s : Int) (h0 : 0 ≤ a) (h1 : a ≤ 1152921504606846976) (n : Int) :
    ∃ (x : Bool) (a' s' : Int), spec_l1Cur_one.f c a s n = some (x, a', s') ∧ a ≤ a' ∧ a' ≤ a + 2 := by
  obtain ⟨x, a', s', e, b1, b2, _⟩ := pick_some c hc a s h0 h1 n
  refine ⟨(x == 0), a', s', ?_, b1, b2⟩
  simp only [spec_l1Cur_one.f, e, Option.bind_some]
theorem word_some (c : List Int) (hc : Code c) (a s : Int) (h0 : 0 ≤ a) (h1 : a ≤ 1152921504606846976) :
    ∃ (x : ByteArray) (a' s' : Int), spec_l1Cur_word.f c a s = some (x, a', s') ∧ x.size ≤ 4 ∧ a ≤ a' ∧ a' ≤ a + 2 := by
  obtain ⟨x, a', s', e, hx, b1, b2⟩ := of_some c hc a s h0 h1 ([(⟨#[114, 101, 100]⟩ : ByteArray), (⟨#[98, 108, 117, 101]⟩ : ByteArray), (⟨#[115, 101, 97]⟩ : ByteArray), (⟨#[98, 111, 97, 116]⟩ : ByteArray), (⟨#[116, 104, 101]⟩ : ByteArray), (⟨#[120]⟩ : ByteArray), (⟨#[121]⟩ : ByteArray), (⟨#[110, 111, 110, 101]⟩ : ByteArray), (⟨#[]⟩ : ByteArray), (⟨#[82, 101, 100]⟩ : ByteArray)] : List ByteArray) (by simp)
  refine ⟨x, a', s', by simp only [spec_l1Cur_word.f, e, Option.bind_some], ?_, b1, b2⟩
  have hall : ∀ y ∈ ([(⟨#[114, 101, 100]⟩ : ByteArray), (⟨#[98, 108, 117, 101]⟩ : ByteArray), (⟨#[115, 101, 97]⟩ : ByteArray), (⟨#[98, 111, 97, 116]⟩ : ByteArray), (⟨#[116, 104, 101]⟩ : ByteArray), (⟨#[120]⟩ : ByteArray), (⟨#[121]⟩ : ByteArray), (⟨#[110, 111, 110, 101]⟩ : ByteArray), (⟨#[]⟩ : ByteArray), (⟨#[82, 101, 100]⟩ : ByteArray)] : List ByteArray), y.size ≤ 4 := by decide
  exact hall x hx
theorem doc_ev (c : List Int) (hc : Code c) (a s : Int) (h0 : 0 ≤ a) (h1 : a ≤ 1152921504606000000) :
    ∃ (d : ByteArray) (a' s' : Int), Ev (fun k => spec_l1Cur_doc.f k c a s) (d, a', s') ∧ d.size ≤ 1000 ∧ a ≤ a' ∧ a' ≤ a + 1000 := by
  have key : ∀ (m : Nat) (x : ByteArray) (n b t : Int), n ≤ (m : Int) → m ≤ 20 → 0 ≤ b → b + 2 * m ≤ 1152921504606400000 → x.size + 6 * m ≤ 500 →
      ∃ (d : ByteArray) (a' s' : Int), Ev (fun k => spec_l1Cur_doc.l0 k x n c b t) (d, a', s') ∧ d.size ≤ 1000 ∧ b ≤ a' ∧ a' ≤ b + 2 * m + 10 := by
    intro m
    induction m with
    | zero =>
      intro x n b t hn hm hb hb2 hx
      obtain ⟨y, b1, t1, e1, c1, c2⟩ := one_some c hc b t hb (by omega) 40
      cases y with
      | false =>
        refine ⟨x, b1, t1, ?_, by omega, by omega, by omega⟩
        (refine Ev.up ?_; simp only [spec_l1Cur_doc.l0, decT])
        (repeat (first | with_reducible refine Ev.bindS ?_ | (with_reducible refine Ev.ifp ?_ ?_; (· first | omega | assumption | rfl | (simp only [List.length_map, List.length_replicate, List.length_take, List.length_drop, List.length_append, List.length_cons, List.length_nil, List.length_set]; omega) | (simp; done))) | (with_reducible refine Ev.ifn ?_ ?_; (· first | omega | assumption | rfl | (simp only [List.length_map, List.length_replicate, List.length_take, List.length_drop, List.length_append, List.length_cons, List.length_nil, List.length_set]; omega) | (simp; done)))))
        rw [e1]
        (repeat (first | with_reducible refine Ev.bindS ?_ | (with_reducible refine Ev.ifp ?_ ?_; (· first | omega | assumption | rfl | (simp only [List.length_map, List.length_replicate, List.length_take, List.length_drop, List.length_append, List.length_cons, List.length_nil, List.length_set]; omega) | (simp; done))) | (with_reducible refine Ev.ifn ?_ ?_; (· first | omega | assumption | rfl | (simp only [List.length_map, List.length_replicate, List.length_take, List.length_drop, List.length_append, List.length_cons, List.length_nil, List.length_set]; omega) | (simp; done)))))
        exact Ev.val rfl
      | true =>
        obtain ⟨z, b2, t2, e2, hz, c3, c4⟩ := of_some c hc b1 t1 (by omega) (by omega) ([(⟨#[97, 32, 98, 32, 99, 32, 100, 32, 101, 32, 102, 32, 103, 32, 104, 32, 105, 32, 106, 32, 107, 32, 108, 32, 109, 32, 110, 32, 111, 32, 112, 32, 113, 32, 114, 32, 115, 32, 116, 32, 117]⟩ : ByteArray), strOfNums (List.replicate 121 0)] : List ByteArray) (by simp)
        refine ⟨z, b2, t2, ?_, ?_, by omega, by omega⟩
        · (refine Ev.up ?_; simp only [spec_l1Cur_doc.l0, decT])
          (repeat (first | with_reducible refine Ev.bindS ?_ | (with_reducible refine Ev.ifp ?_ ?_; (· first | omega | assumption | rfl | (simp only [List.length_map, List.length_replicate, List.length_take, List.length_drop, List.length_append, List.length_cons, List.length_nil, List.length_set]; omega) | (simp; done))) | (with_reducible refine Ev.ifn ?_ ?_; (· first | omega | assumption | rfl | (simp only [List.length_map, List.length_replicate, List.length_take, List.length_drop, List.length_append, List.length_cons, List.length_nil, List.length_set]; omega) | (simp; done)))))
          rw [e1]
          (repeat (first | with_reducible refine Ev.bindS ?_ | (with_reducible refine Ev.ifp ?_ ?_; (· first | omega | assumption | rfl | (simp only [List.length_map, List.length_replicate, List.length_take, List.length_drop, List.length_append, List.length_cons, List.length_nil, List.length_set]; omega) | (simp; done))) | (with_reducible refine Ev.ifn ?_ ?_; (· first | omega | assumption | rfl | (simp only [List.length_map, List.length_replicate, List.length_take, List.length_drop, List.length_append, List.length_cons, List.length_nil, List.length_set]; omega) | (simp; done)))))
          rw [e2]
          (repeat (first | with_reducible refine Ev.bindS ?_ | (with_reducible refine Ev.ifp ?_ ?_; (· first | omega | assumption | rfl | (simp only [List.length_map, List.length_replicate, List.length_take, List.length_drop, List.length_append, List.length_cons, List.length_nil, List.length_set]; omega) | (simp; done))) | (with_reducible refine Ev.ifn ?_ ?_; (· first | omega | assumption | rfl | (simp only [List.length_map, List.length_replicate, List.length_take, List.length_drop, List.length_append, List.length_cons, List.length_nil, List.length_set]; omega) | (simp; done)))))
          exact Ev.val rfl
        · rcases List.mem_cons.1 hz with rfl | hz
          · decide
          · rw [List.mem_singleton.1 hz]
            have : (strOfNums (List.replicate 121 0)).size = 121 := by rw [← nm_length, nm_nums _ (by intro x hx; rw [(List.mem_replicate.1 hx).2]; omega)]; simp
            omega
    | succ m ih =>
      intro x n b t hn hm hb hb2 hx
      by_cases hp : n > 0
      · obtain ⟨y, b1, t1, e1, hy, c1, c2⟩ := of_some c hc b t hb (by omega) ([(⟨#[114, 101, 100, 32]⟩ : ByteArray), (⟨#[98, 108, 117, 101, 32]⟩ : ByteArray), (⟨#[82, 101, 100, 32]⟩ : ByteArray), (⟨#[115, 101, 97, 32]⟩ : ByteArray), (⟨#[98, 111, 97, 116, 44, 32]⟩ : ByteArray), (⟨#[116, 104, 101, 32]⟩ : ByteArray), (⟨#[120, 49, 121, 32]⟩ : ByteArray)] : List ByteArray) (by simp)
        have hall : ∀ y ∈ ([(⟨#[114, 101, 100, 32]⟩ : ByteArray), (⟨#[98, 108, 117, 101, 32]⟩ : ByteArray), (⟨#[82, 101, 100, 32]⟩ : ByteArray), (⟨#[115, 101, 97, 32]⟩ : ByteArray), (⟨#[98, 111, 97, 116, 44, 32]⟩ : ByteArray), (⟨#[116, 104, 101, 32]⟩ : ByteArray), (⟨#[120, 49, 121, 32]⟩ : ByteArray)] : List ByteArray), y.size ≤ 6 := by decide
        have hy6 := hall y hy
        have e : wrap64 (n - 1) = n - 1 := wrap_ok (by omega) (by omega)
        obtain ⟨d, a', s', q1, q2, q3, q4⟩ := ih (x ++ y) (n - 1) b1 t1 (by omega) (by omega) (by omega) (by omega) (by rw [str_append_size]; omega)
        refine ⟨d, a', s', ?_, q2, by omega, by omega⟩
        (refine Ev.up ?_; simp only [spec_l1Cur_doc.l0, decT])
        rw [e]
        (repeat (first | with_reducible refine Ev.bindS ?_ | (with_reducible refine Ev.ifp ?_ ?_; (· first | omega | assumption | rfl | (simp only [List.length_map, List.length_replicate, List.length_take, List.length_drop, List.length_append, List.length_cons, List.length_nil, List.length_set]; omega) | (simp; done))) | (with_reducible refine Ev.ifn ?_ ?_; (· first | omega | assumption | rfl | (simp only [List.length_map, List.length_replicate, List.length_take, List.length_drop, List.length_append, List.length_cons, List.length_nil, List.length_set]; omega) | (simp; done)))))
        rw [e1]
        (repeat (first | with_reducible refine Ev.bindS ?_ | (with_reducible refine Ev.ifp ?_ ?_; (· first | omega | assumption | rfl | (simp only [List.length_map, List.length_replicate, List.length_take, List.length_drop, List.length_append, List.length_cons, List.length_nil, List.length_set]; omega) | (simp; done))) | (with_reducible refine Ev.ifn ?_ ?_; (· first | omega | assumption | rfl | (simp only [List.length_map, List.length_replicate, List.length_take, List.length_drop, List.length_append, List.length_cons, List.length_nil, List.length_set]; omega) | (simp; done)))))
        exact q1
      · obtain ⟨d, a', s', q1, q2, q3, q4⟩ := ih x n b t (by omega) (by omega) hb (by omega) (by omega)
        exact ⟨d, a', s', q1, q2, q3, by omega⟩
  obtain ⟨n, b, t, e, b1, b2, b3, b4, _⟩ := pick_some c hc a s h0 (by omega) 8
  have hn := b4 (by omega)
  obtain ⟨d, a', s', q1, q2, q3, q4⟩ := key 8 eS n b t (by omega) (by omega) (by omega) (by omega) (by show 0 + _ ≤ _; omega)
  refine ⟨d, a', s', ?_, q2, by omega, by omega⟩
  simp only [spec_l1Cur_doc.f]
  rw [e]
  (repeat (first | with_reducible refine Ev.bindS ?_ | (with_reducible refine Ev.ifp ?_ ?_; (· first | omega | assumption | rfl | (simp only [List.length_map, List.length_replicate, List.length_take, List.length_drop, List.length_append, List.length_cons, List.length_nil, List.length_set]; omega) | (simp; done))) | (with_reducible refine Ev.ifn ?_ ?_; (· first | omega | assumption | rfl | (simp only [List.length_map, List.length_replicate, List.length_take, List.length_drop, List.length_append, List.length_cons, List.length_nil, List.length_set]; omega) | (simp; done)))))
  exact q1
theorem docs_ev (c : List Int) (hc : Code c) (a s : Int) (h0 : 0 ≤ a) (h1 : a ≤ 1152921504600000000) :
    ∃ (l : List ByteArray) (a' s' : Int), Ev (fun k => spec_l1Cur_docs.f k c a s) (l, a', s') ∧ l.length ≤ 13 ∧ (∀ d ∈ l, d.size ≤ 1000) ∧ a ≤ a' ∧ a' ≤ a + 20000 := by
  have key : ∀ (m : Nat) (x : List ByteArray) (n b t : Int), n ≤ (m : Int) → m ≤ 13 → 0 ≤ b → b + 1000 * m ≤ 1152921504601000000 → x.length + m ≤ 13 → (∀ d ∈ x, d.size ≤ 1000) →
      ∃ (l : List ByteArray) (a' s' : Int), Ev (fun k => spec_l1Cur_docs.l0 k x n c b t) (l, a', s') ∧ l.length ≤ 13 ∧ (∀ d ∈ l, d.size ≤ 1000) ∧ b ≤ a' ∧ a' ≤ b + 1000 * m := by
    intro m
    induction m with
    | zero =>
      intro x n b t hn hm hb hb2 hx hs
      refine ⟨x, b, t, ?_, by omega, hs, by omega, by omega⟩
      (refine Ev.up ?_; simp only [spec_l1Cur_docs.l0, decT])
      (repeat (first | with_reducible refine Ev.bindS ?_ | (with_reducible refine Ev.ifp ?_ ?_; (· first | omega | assumption | rfl | (simp only [List.length_map, List.length_replicate, List.length_take, List.length_drop, List.length_append, List.length_cons, List.length_nil, List.length_set]; omega) | (simp; done))) | (with_reducible refine Ev.ifn ?_ ?_; (· first | omega | assumption | rfl | (simp only [List.length_map, List.length_replicate, List.length_take, List.length_drop, List.length_append, List.length_cons, List.length_nil, List.length_set]; omega) | (simp; done)))))
      exact Ev.val rfl
    | succ m ih =>
      intro x n b t hn hm hb hb2 hx hs
      by_cases hp : n > 0
      · obtain ⟨d, b1, t1, q1, q2, q3, q4⟩ := doc_ev c hc b t hb (by omega)
        have e : wrap64 (n - 1) = n - 1 := wrap_ok (by omega) (by omega)
        obtain ⟨l, a', s', r1, r2, r3, r4, r5⟩ := ih (x ++ [d]) (n - 1) b1 t1 (by omega) (by omega) (by omega) (by omega) (by simp; omega) (by
          intro y hy
          rcases List.mem_append.1 hy with hy | hy
          · exact hs y hy
          · rw [List.mem_singleton.1 hy]; exact q2)
        refine ⟨l, a', s', ?_, r2, r3, by omega, by omega⟩
        (refine Ev.up ?_; simp only [spec_l1Cur_docs.l0, decT])
        rw [e]
        (repeat (first | with_reducible refine Ev.bindS ?_ | (with_reducible refine Ev.ifp ?_ ?_; (· first | omega | assumption | rfl | (simp only [List.length_map, List.length_replicate, List.length_take, List.length_drop, List.length_append, List.length_cons, List.length_nil, List.length_set]; omega) | (simp; done))) | (with_reducible refine Ev.ifn ?_ ?_; (· first | omega | assumption | rfl | (simp only [List.length_map, List.length_replicate, List.length_take, List.length_drop, List.length_append, List.length_cons, List.length_nil, List.length_set]; omega) | (simp; done)))))
        refine Ev.bind q1 ?_
        (repeat (first | with_reducible refine Ev.bindS ?_ | (with_reducible refine Ev.ifp ?_ ?_; (· first | omega | assumption | rfl | (simp only [List.length_map, List.length_replicate, List.length_take, List.length_drop, List.length_append, List.length_cons, List.length_nil, List.length_set]; omega) | (simp; done))) | (with_reducible refine Ev.ifn ?_ ?_; (· first | omega | assumption | rfl | (simp only [List.length_map, List.length_replicate, List.length_take, List.length_drop, List.length_append, List.length_cons, List.length_nil, List.length_set]; omega) | (simp; done)))))
        exact r1
      · obtain ⟨l, a', s', r1, r2, r3, r4, r5⟩ := ih x n b t (by omega) (by omega) hb (by omega) (by omega) hs
        exact ⟨l, a', s', r1, r2, r3, by omega, by omega⟩
  obtain ⟨n, b, t, e, b1, b2, b3, b4, _⟩ := pick_some c hc a s h0 (by omega) 7
  have hn := b4 (by omega)
  obtain ⟨o, b', t', e', b5, b6⟩ := one_some c hc b t (by omega) (by omega) 20
  cases o with
  | true =>
    obtain ⟨n2, b3', t3, e3, c1, c2, c3, c4, _⟩ := pick_some c hc b' t' (by omega) (by omega) 2
    have hn2 := c4 (by omega)
    have ew : wrap64 (12 + n2) = 12 + n2 := wrap_ok (by omega) (by omega)
    obtain ⟨l, a', s', r1, r2, r3, r4, r5⟩ := key 13 [] (12 + n2) b3' t3 (by omega) (by omega) (by omega) (by omega) (by simp) (by simp)
    refine ⟨l, a', s', ?_, r2, r3, by omega, by omega⟩
    simp only [spec_l1Cur_docs.f]
    rw [e]
    (repeat (first | with_reducible refine Ev.bindS ?_ | (with_reducible refine Ev.ifp ?_ ?_; (· first | omega | assumption | rfl | (simp only [List.length_map, List.length_replicate, List.length_take, List.length_drop, List.length_append, List.length_cons, List.length_nil, List.length_set]; omega) | (simp; done))) | (with_reducible refine Ev.ifn ?_ ?_; (· first | omega | assumption | rfl | (simp only [List.length_map, List.length_replicate, List.length_take, List.length_drop, List.length_append, List.length_cons, List.length_nil, List.length_set]; omega) | (simp; done)))))
    rw [e']
    (repeat (first | with_reducible refine Ev.bindS ?_ | (with_reducible refine Ev.ifp ?_ ?_; (· first | omega | assumption | rfl | (simp only [List.length_map, List.length_replicate, List.length_take, List.length_drop, List.length_append, List.length_cons, List.length_nil, List.length_set]; omega) | (simp; done))) | (with_reducible refine Ev.ifn ?_ ?_; (· first | omega | assumption | rfl | (simp only [List.length_map, List.length_replicate, List.length_take, List.length_drop, List.length_append, List.length_cons, List.length_nil, List.length_set]; omega) | (simp; done)))))
    rw [e3]
    (repeat (first | with_reducible refine Ev.bindS ?_ | (with_reducible refine Ev.ifp ?_ ?_; (· first | omega | assumption | rfl | (simp only [List.length_map, List.length_replicate, List.length_take, List.length_drop, List.length_append, List.length_cons, List.length_nil, List.length_set]; omega) | (simp; done))) | (with_reducible refine Ev.ifn ?_ ?_; (· first | omega | assumption | rfl | (simp only [List.length_map, List.length_replicate, List.length_take, List.length_drop, List.length_append, List.length_cons, List.length_nil, List.length_set]; omega) | (simp; done)))))
    rw [ew]
    (refine Ev.up ?_; simp only [spec_l1Cur_docs.j0, decT])
    exact r1
  | false =>
    obtain ⟨l, a', s', r1, r2, r3, r4, r5⟩ := key 7 [] n b' t' (by omega) (by omega) (by omega) (by omega) (by simp) (by simp)
    refine ⟨l, a', s', ?_, r2, r3, by omega, by omega⟩
    simp only [spec_l1Cur_docs.f]
    rw [e]
    (repeat (first | with_reducible refine Ev.bindS ?_ | (with_reducible refine Ev.ifp ?_ ?_; (· first | omega | assumption | rfl | (simp only [List.length_map, List.length_replicate, List.length_take, List.length_drop, List.length_append, List.length_cons, List.length_nil, List.length_set]; omega) | (simp; done))) | (with_reducible refine Ev.ifn ?_ ?_; (· first | omega | assumption | rfl | (simp only [List.length_map, List.length_replicate, List.length_take, List.length_drop, List.length_append, List.length_cons, List.length_nil, List.length_set]; omega) | (simp; done)))))
    rw [e']
    (repeat (first | with_reducible refine Ev.bindS ?_ | (with_reducible refine Ev.ifp ?_ ?_; (· first | omega | assumption | rfl | (simp only [List.length_map, List.length_replicate, List.length_take, List.length_drop, List.length_append, List.length_cons, List.length_nil, List.length_set]; omega) | (simp; done))) | (with_reducible refine Ev.ifn ?_ ?_; (· first | omega | assumption | rfl | (simp only [List.length_map, List.length_replicate, List.length_take, List.length_drop, List.length_append, List.length_cons, List.length_nil, List.length_set]; omega) | (simp; done)))))
    (refine Ev.up ?_; simp only [spec_l1Cur_docs.j0, decT])
    exact r1
theorem small_of {l : List ByteArray} (h1 : l.length ≤ 13) (h2 : ∀ d ∈ l, d.size ≤ 1000) : Small l := ⟨by omega, fun y hy => by have := h2 y hy; omega⟩
theorem drawPosts_ev (c : List Int) (hc : Code c) : ∃ (d : List ByteArray) (w : ByteArray), Ev (fun k => spec_DrawPostsOf.f k c) (d, w) ∧ Small d ∧ w.size ≤ 1048576 := by
  obtain ⟨d, a, s, e, h1, h2, h3, h4⟩ := docs_ev c hc 0 0 (by omega) (by omega)
  obtain ⟨x, a1, s1, e1, b1, b2, b3⟩ := word_some c hc a s (by omega) (by omega)
  refine ⟨d, x, ?_, small_of h1 h2, by omega⟩
  simp only [spec_DrawPostsOf.f]
  refine Ev.bind e ?_
  rw [e1]
  (repeat (first | with_reducible refine Ev.bindS ?_ | (with_reducible refine Ev.ifp ?_ ?_; (· first | omega | assumption | rfl | (simp only [List.length_map, List.length_replicate, List.length_take, List.length_drop, List.length_append, List.length_cons, List.length_nil, List.length_set]; omega) | (simp; done))) | (with_reducible refine Ev.ifn ?_ ?_; (· first | omega | assumption | rfl | (simp only [List.length_map, List.length_replicate, List.length_take, List.length_drop, List.length_append, List.length_cons, List.length_nil, List.length_set]; omega) | (simp; done)))))
  exact Ev.val rfl
theorem drawWords_ev (c : List Int) (hc : Code c) : ∃ s : ByteArray, Ev (fun k => spec_DrawWordsOf.f k c) s ∧ s.size ≤ 1048576 := by
  obtain ⟨d, a, s, e, h1, h2, h3⟩ := doc_ev c hc 0 0 (by omega) (by omega)
  refine ⟨d, ?_, by omega⟩
  simp only [spec_DrawWordsOf.f]
  refine Ev.bind e ?_
  exact Ev.val rfl
end Go.Proofs.Ytcopakljdenolaa.Pure
namespace Go.Proofs.Ytcopakljdenolaa.Pure
open Go.RowKit Go.Proofs.Ytcopakljdenolaa.Fn Go.Proofs.YtcopakljdenolaaW.PrintWords Go.Proofs.YtcopakljdenolaaW.PrintLast Go.Proofs.YtcopakljdenolaaW.PrintMore
set_option linter.unusedSimpArgs false
set_option linter.unusedVariables false

theorem hasInt_ev (ys : List Int) (n : Int) (hl : ys.length ≤ 9223372036854775806) : Ev (fun k => laws_has.f k ys n) (decide (n ∈ ys)) := by
  have key : ∀ (t : List Int) (i : Nat), ys.drop i = t → i ≤ ys.length → Ev (fun k => laws_has.l0 k n ys ys.length i) (decide (n ∈ t)) := by
    intro t
    induction t with
    | nil =>
      intro i h hi
      have := drop_nil h
      (refine Ev.up ?_; simp only [laws_has.l0, decT])
      (repeat (first | with_reducible refine Ev.bindS ?_ | (with_reducible refine Ev.ifp ?_ ?_; (· first | omega | assumption | rfl | (simp only [List.length_map, List.length_replicate, List.length_take, List.length_drop, List.length_append, List.length_cons, List.length_nil, List.length_set]; omega) | (simp; done))) | (with_reducible refine Ev.ifn ?_ ?_; (· first | omega | assumption | rfl | (simp only [List.length_map, List.length_replicate, List.length_take, List.length_drop, List.length_append, List.length_cons, List.length_nil, List.length_set]; omega) | (simp; done)))))
      exact Ev.val (by simp)
    | cons x t ih =>
      intro i h hi
      obtain ⟨p1, p2, p3⟩ := drop_cons h
      have ih := ih (i + 1) p3 (by omega)
      (refine Ev.up ?_; simp only [laws_has.l0, decT])
      rw [rd_at p2, wrap_succ (by omega)]
      by_cases hx : x = n
      · (repeat (first | with_reducible refine Ev.bindS ?_ | (with_reducible refine Ev.ifp ?_ ?_; (· first | omega | assumption | rfl | (simp only [List.length_map, List.length_replicate, List.length_take, List.length_drop, List.length_append, List.length_cons, List.length_nil, List.length_set]; omega) | (simp; done))) | (with_reducible refine Ev.ifn ?_ ?_; (· first | omega | assumption | rfl | (simp only [List.length_map, List.length_replicate, List.length_take, List.length_drop, List.length_append, List.length_cons, List.length_nil, List.length_set]; omega) | (simp; done)))))
        exact Ev.val (by rw [hx]; simp)
      · (repeat (first | with_reducible refine Ev.bindS ?_ | (with_reducible refine Ev.ifp ?_ ?_; (· first | omega | assumption | rfl | (simp only [List.length_map, List.length_replicate, List.length_take, List.length_drop, List.length_append, List.length_cons, List.length_nil, List.length_set]; omega) | (simp; done))) | (with_reducible refine Ev.ifn ?_ ?_; (· first | omega | assumption | rfl | (simp only [List.length_map, List.length_replicate, List.length_take, List.length_drop, List.length_append, List.length_cons, List.length_nil, List.length_set]; omega) | (simp; done)))))
        have e : decide (n ∈ x :: t) = decide (n ∈ t) := by rw [decide_eq_decide]; simp [Ne.symm hx]
        rw [e]
        exact ih
  exact key ys 0 rfl (by omega)
theorem hasText_ev (ys : List ByteArray) (w : ByteArray) (hl : ys.length ≤ 1048576) : ∃ b : Bool, Ev (fun k => laws_hasText.f k ys w) b ∧ (b = true ↔ w ∈ ys) := by
  have key : ∀ (t : List ByteArray) (i : Nat), ys.drop i = t → i ≤ ys.length → ∃ b : Bool, Ev (fun k => laws_hasText.l0 k w ys ys.length i) b ∧ (b = true ↔ w ∈ t) := by
    intro t
    induction t with
    | nil =>
      intro i h hi
      have := drop_nil h
      refine ⟨false, ?_, by simp⟩
      (refine Ev.up ?_; simp only [laws_hasText.l0, decT])
      (repeat (first | with_reducible refine Ev.bindS ?_ | (with_reducible refine Ev.ifp ?_ ?_; (· first | omega | assumption | rfl | (simp only [List.length_map, List.length_replicate, List.length_take, List.length_drop, List.length_append, List.length_cons, List.length_nil, List.length_set]; omega) | (simp; done))) | (with_reducible refine Ev.ifn ?_ ?_; (· first | omega | assumption | rfl | (simp only [List.length_map, List.length_replicate, List.length_take, List.length_drop, List.length_append, List.length_cons, List.length_nil, List.length_set]; omega) | (simp; done)))))
      exact Ev.val rfl
    | cons x t ih =>
      intro i h hi
      obtain ⟨p1, p2, p3⟩ := drop_cons h
      obtain ⟨b, ih1, ih2⟩ := ih (i + 1) p3 (by omega)
      by_cases hx : x.toList = w.toList
      · refine ⟨true, ?_, by rw [toList_inj hx]; simp⟩
        (refine Ev.up ?_; simp only [laws_hasText.l0, decT])
        rw [rdOf_at p2, wrap_succ (by omega)]
        (repeat (first | with_reducible refine Ev.bindS ?_ | (with_reducible refine Ev.ifp ?_ ?_; (· first | omega | assumption | rfl | (simp only [List.length_map, List.length_replicate, List.length_take, List.length_drop, List.length_append, List.length_cons, List.length_nil, List.length_set]; omega) | (simp; done))) | (with_reducible refine Ev.ifn ?_ ?_; (· first | omega | assumption | rfl | (simp only [List.length_map, List.length_replicate, List.length_take, List.length_drop, List.length_append, List.length_cons, List.length_nil, List.length_set]; omega) | (simp; done)))))
        exact Ev.val rfl
      · refine ⟨b, ?_, by
          rw [ih2, List.mem_cons]
          exact ⟨.inr, fun h => h.resolve_left (fun e => hx (by rw [e]))⟩⟩
        (refine Ev.up ?_; simp only [laws_hasText.l0, decT])
        rw [rdOf_at p2, wrap_succ (by omega)]
        (repeat (first | with_reducible refine Ev.bindS ?_ | (with_reducible refine Ev.ifp ?_ ?_; (· first | omega | assumption | rfl | (simp only [List.length_map, List.length_replicate, List.length_take, List.length_drop, List.length_append, List.length_cons, List.length_nil, List.length_set]; omega) | (simp; done))) | (with_reducible refine Ev.ifn ?_ ?_; (· first | omega | assumption | rfl | (simp only [List.length_map, List.length_replicate, List.length_take, List.length_drop, List.length_append, List.length_cons, List.length_nil, List.length_set]; omega) | (simp; done)))))
        exact ih1
  exact key ys 0 rfl (by omega)
theorem places_rise (w : ByteArray) (t : List ByteArray) : ∀ (i : Nat) (acc : List Int), acc.Pairwise (· < ·) → (∀ x ∈ acc, 0 ≤ x ∧ x < (i : Int)) → (placesFrom w t i acc).Pairwise (· < ·) ∧ ∀ x ∈ placesFrom w t i acc, 0 ≤ x ∧ x < ((i + t.length : Nat) : Int) := by
  induction t with
  | nil => intro i acc h1 h2; exact ⟨h1, h2⟩
  | cons y t ih =>
    intro i acc h1 h2
    have e : ((i + (y :: t).length : Nat) : Int) = ((i + 1 + t.length : Nat) : Int) := by simp; omega
    rw [e]
    simp only [placesFrom]
    split
    · refine ih (i + 1) _ (List.pairwise_append.2 ⟨h1, List.pairwise_singleton _ _, fun x hx z hz => ?_⟩) (fun x hx => ?_)
      · rw [List.mem_singleton.1 hz]
        exact (h2 x hx).2
      · rcases List.mem_append.1 hx with hx | hx
        · have := h2 x hx; omega
        · rw [List.mem_singleton.1 hx]; omega
    · exact ih (i + 1) acc h1 (fun x hx => by have := h2 x hx; omega)
theorem posts_good (w : ByteArray) (t : List ByteArray) (ht : ∀ s ∈ t, (wordsOf s).length ≤ 20) : ∀ (i : Nat) (acc : List S57), i + t.length ≤ 12 → (∀ p ∈ acc, Good1 p ∧ p.f0 < (i : Int)) → acc.Pairwise (fun x y => x.f0 < y.f0) → acc.length ≤ i →
    (∀ p ∈ postsFrom w t i acc, Good1 p) ∧ (postsFrom w t i acc).Pairwise (fun x y => x.f0 < y.f0) ∧ (postsFrom w t i acc).length ≤ 12 := by
  induction t with
  | nil => intro i acc h0 h1 h2 h3; exact ⟨fun p hp => (h1 p hp).1, h2, by simp at h0; show acc.length ≤ 12; omega⟩
  | cons s t ih =>
    intro i acc h0 h1 h2 h3
    have hs := ht s List.mem_cons_self
    simp only [List.length_cons] at h0
    simp only [postsFrom]
    split
    · rename_i hne
      obtain ⟨r1, r2⟩ := places_rise w (wordsOf s) 0 [] List.Pairwise.nil (fun x hx => by cases hx)
      refine ih (fun x hx => ht x (List.mem_cons_of_mem _ hx)) (i + 1) _ (by omega) (fun p hp => ?_) (List.pairwise_append.2 ⟨h2, List.pairwise_singleton _ _, fun x hx y hy => ?_⟩) (by simp; omega)
      · rcases List.mem_append.1 hp with hp | hp
        · have := h1 p hp; exact ⟨this.1, by omega⟩
        · rw [List.mem_singleton.1 hp]
          refine ⟨⟨?_, by show 1 ≤ (places w s).length; omega, fun x hx => ?_, r1⟩, ?_⟩
          · show 0 ≤ (i : Int) ∧ (i : Int) ≤ 11
            omega
          · have := r2 x hx
            omega
          · show (i : Int) < _
            omega
      · rw [List.mem_singleton.1 hy]
        exact (h1 x hx).2
    · exact ih (fun x hx => ht x (List.mem_cons_of_mem _ hx)) (i + 1) acc (by omega) (fun p hp => by have := h1 p hp; exact ⟨this.1, by omega⟩) h2 (by omega)
theorem posts_some (w : ByteArray) (t : List ByteArray) : ∀ (i : Nat) (acc : List S57), 0 < (postsFrom w t i acc).length ↔ 0 < acc.length ∨ w ∈ allWords t := by
  induction t with
  | nil => intro i acc; simp [postsFrom, allWords]
  | cons s t ih =>
    intro i acc
    have hpl : 0 < (places w s).length ↔ w ∈ wordsOf s := by
      constructor
      · intro h
        obtain ⟨x, hx⟩ := List.exists_mem_of_length_pos h
        rcases (places_mem w (wordsOf s) 0 [] x).1 hx with h | ⟨j, y, e1, e2, _⟩
        · cases h
        · rw [← toList_inj e2]
          exact List.mem_of_getElem? e1
      · intro h
        obtain ⟨j, hj, e⟩ := List.mem_iff_getElem.1 h
        exact List.length_pos_of_mem ((places_mem w (wordsOf s) 0 [] (j : Int)).2 (.inr ⟨j, w, by rw [List.getElem?_eq_getElem hj, e], rfl, by omega⟩))
    have ea : w ∈ allWords (s :: t) ↔ w ∈ wordsOf s ∨ w ∈ allWords t := by simp [allWords]
    rw [ea]
    simp only [postsFrom]
    split
    · rename_i h
      rw [ih]
      have : w ∈ wordsOf s := hpl.1 (by omega)
      simp [this]
    · rename_i h
      rw [ih]
      have : ¬ w ∈ wordsOf s := fun h' => h (by have := hpl.2 h'; omega)
      simp [this]
theorem wrd_j4 (c : List Int) (hc : Code c) : Ev (fun k => laws_FnWords.j4 k c) true := by
  obtain ⟨s, e, hs⟩ := drawWords_ev c hc
  have hl := wordsRes_len s
  (refine Ev.up ?_; simp only [laws_FnWords.j4, decT])
  refine Ev.bind e (Ev.bind (implWordsOf_ev s hs) (Ev.bind (specWordsOf_ev s hs) ?_))
  refine Ev.ifp (by simp) ?_
  refine Ev.bind (sameTexts_ev _ (by omega)) ?_
  exact Ev.val rfl
theorem wrd_l1 (c : List Int) (docs : List ByteArray) (w : ByteArray) (n m : Int) (L : List S57) (i : Nat) (s : ByteArray) (hs : (wordsOf s).length ≤ 20) (f0 : Int) (hi : i ≤ 9223372036854775806)
    (hr : Ev (fun k => laws_FnWords.l0 k c docs w n (wrap64 (m + ((places w s).length : Int))) L L.length ((i + 1 : Nat) : Int)) true) :
    ∀ (t : List ByteArray) (j : Nat), (wordsOf s).drop j = t → j ≤ (wordsOf s).length → Ev (fun k => laws_FnWords.l1 k c docs w n m L L.length i (wordsOf s) (wordsOf s).length j f0 (places w s)) true := by
  have hpl : (places w s).length ≤ 20 := by
    have := placesFrom_len w (wordsOf s) 0 []
    simp only [List.length_nil] at this
    show (placesFrom w (wordsOf s) 0 []).length ≤ 20
    omega
  intro t
  induction t with
  | nil =>
    intro j h hj
    have := drop_nil h
    (refine Ev.up ?_; simp only [laws_FnWords.l1, decT])
    rw [wrap_succ (i := i) hi]
    (repeat (first | with_reducible refine Ev.bindS ?_ | (with_reducible refine Ev.ifp ?_ ?_; (· first | omega | assumption | rfl | (simp only [List.length_map, List.length_replicate, List.length_take, List.length_drop, List.length_append, List.length_cons, List.length_nil, List.length_set]; omega) | (simp; done))) | (with_reducible refine Ev.ifn ?_ ?_; (· first | omega | assumption | rfl | (simp only [List.length_map, List.length_replicate, List.length_take, List.length_drop, List.length_append, List.length_cons, List.length_nil, List.length_set]; omega) | (simp; done)))))
    exact hr
  | cons x t ih =>
    intro j h hj
    obtain ⟨p1, p2, p3⟩ := drop_cons h
    have e : (x.toList == w.toList) = decide ((j : Int) ∈ places w s) := by
      rw [Bool.eq_iff_iff, beq_iff_eq, decide_eq_true_iff]
      constructor
      · intro hx
        exact (places_mem w (wordsOf s) 0 [] (j : Int)).2 (.inr ⟨j, x, p2, hx, by omega⟩)
      · intro hx
        rcases (places_mem w (wordsOf s) 0 [] (j : Int)).1 hx with hx | ⟨j', y, e1, e2, e3⟩
        · cases hx
        · have : j' = j := by omega
          subst this
          rw [p2] at e1
          injection e1 with e1
          rw [e1]
          exact e2
    (refine Ev.up ?_; simp only [laws_FnWords.l1, decT])
    rw [rdOf_at p2, wrap_succ (i := j) (by omega)]
    (repeat (first | with_reducible refine Ev.bindS ?_ | (with_reducible refine Ev.ifp ?_ ?_; (· first | omega | assumption | rfl | (simp only [List.length_map, List.length_replicate, List.length_take, List.length_drop, List.length_append, List.length_cons, List.length_nil, List.length_set]; omega) | (simp; done))) | (with_reducible refine Ev.ifn ?_ ?_; (· first | omega | assumption | rfl | (simp only [List.length_map, List.length_replicate, List.length_take, List.length_drop, List.length_append, List.length_cons, List.length_nil, List.length_set]; omega) | (simp; done)))))
    refine Ev.bind (hasInt_ev (places w s) (j : Int) (by omega)) ?_
    rw [e, bne_self_eq_false]
    (repeat (first | with_reducible refine Ev.bindS ?_ | (with_reducible refine Ev.ifp ?_ ?_; (· first | omega | assumption | rfl | (simp only [List.length_map, List.length_replicate, List.length_take, List.length_drop, List.length_append, List.length_cons, List.length_nil, List.length_set]; omega) | (simp; done))) | (with_reducible refine Ev.ifn ?_ ?_; (· first | omega | assumption | rfl | (simp only [List.length_map, List.length_replicate, List.length_take, List.length_drop, List.length_append, List.length_cons, List.length_nil, List.length_set]; omega) | (simp; done)))))
    exact ih (j + 1) p3 (by omega)
theorem FnWords : ∀ (l0 : List Int) (l1 : List Int), (l0.length ≤ maxLen ∧ ∀ y1 ∈ l0, (Lit.int .u8 y1).wf = true) → (l1.length ≤ maxLen ∧ ∀ y2 ∈ l1, (Lit.int .u8 y2).wf = true) → ∃ k, laws_FnWords.f k l0 l1 = some true := by
  intro c c2 ⟨h1, h2⟩ ⟨g1, g2⟩
  have hcode : ∀ l : List Int, (∀ y ∈ l, (Lit.int .u8 y).wf = true) → Code l := fun l h y hy => bounds_u8 (h y hy)
  have hc := hcode c h2
  have hc2 := hcode c2 g2
  refine Ev.some (g := fun k => laws_FnWords.f k c c2) ?_
  simp only [laws_FnWords.f]
  by_cases hz : wrap64 ((c.length : Int) + (c2.length : Int)) > 1048576
  · (repeat (first | with_reducible refine Ev.bindS ?_ | (with_reducible refine Ev.ifp ?_ ?_; (· first | omega | assumption | rfl | (simp only [List.length_map, List.length_replicate, List.length_take, List.length_drop, List.length_append, List.length_cons, List.length_nil, List.length_set]; omega) | (simp; done))) | (with_reducible refine Ev.ifn ?_ ?_; (· first | omega | assumption | rfl | (simp only [List.length_map, List.length_replicate, List.length_take, List.length_drop, List.length_append, List.length_cons, List.length_nil, List.length_set]; omega) | (simp; done))))); exact Ev.val rfl
  obtain ⟨d, w, e, hd, hw⟩ := drawPosts_ev c hc
  have hpl := postsRes_len d w hd
  have hvl := vocabRes_len d
  (repeat (first | with_reducible refine Ev.bindS ?_ | (with_reducible refine Ev.ifp ?_ ?_; (· first | omega | assumption | rfl | (simp only [List.length_map, List.length_replicate, List.length_take, List.length_drop, List.length_append, List.length_cons, List.length_nil, List.length_set]; omega) | (simp; done))) | (with_reducible refine Ev.ifn ?_ ?_; (· first | omega | assumption | rfl | (simp only [List.length_map, List.length_replicate, List.length_take, List.length_drop, List.length_append, List.length_cons, List.length_nil, List.length_set]; omega) | (simp; done)))))
  refine Ev.bind e (Ev.bind (implPostsOf_ev d hd w hw) (Ev.bind (specPostsOf_ev d hd w hw) (Ev.bind (implCountOf_ev d hd w hw) (Ev.bind (specCountOf_ev d hd w hw) (Ev.bind (implVocab_ev d hd) (Ev.bind (specVocab_ev d hd) ?_))))))
  simp only [bne_self_eq_false]
  have hfit : Fit (postsRes d w).1 := by
    refine ⟨hpl, fun p hp => ?_⟩
    unfold postsRes at hp
    split at hp
    · rename_i h
      rcases posts_mem w d 0 [] p hp with h' | ⟨j, s, e1, e2⟩
      · cases h'
      · have hs := hd.2 s (List.mem_of_getElem? e1)
        have hw1 := (docs_few h.1).2 s (List.mem_of_getElem? e1)
        have := placesFrom_len w (wordsOf s) 0 []
        simp only [List.length_nil] at this
        rw [e2]
        show (placesFrom w (wordsOf s) 0 []).length ≤ _
        omega
    · cases hp
  (repeat (first | with_reducible refine Ev.bindS ?_ | (with_reducible refine Ev.ifp ?_ ?_; (· first | omega | assumption | rfl | (simp only [List.length_map, List.length_replicate, List.length_take, List.length_drop, List.length_append, List.length_cons, List.length_nil, List.length_set]; omega) | (simp; done))) | (with_reducible refine Ev.ifn ?_ ?_; (· first | omega | assumption | rfl | (simp only [List.length_map, List.length_replicate, List.length_take, List.length_drop, List.length_append, List.length_cons, List.length_nil, List.length_set]; omega) | (simp; done)))))
  refine Ev.bind (samePosts_ev _ hfit) ?_
  (repeat (first | with_reducible refine Ev.bindS ?_ | (with_reducible refine Ev.ifp ?_ ?_; (· first | omega | assumption | rfl | (simp only [List.length_map, List.length_replicate, List.length_take, List.length_drop, List.length_append, List.length_cons, List.length_nil, List.length_set]; omega) | (simp; done))) | (with_reducible refine Ev.ifn ?_ ?_; (· first | omega | assumption | rfl | (simp only [List.length_map, List.length_replicate, List.length_take, List.length_drop, List.length_append, List.length_cons, List.length_nil, List.length_set]; omega) | (simp; done)))))
  refine Ev.bind (sameTexts_ev _ (by omega)) ?_
  (refine Ev.up ?_; simp only [laws_FnWords.j0, decT])
  rw [Bool.not_true]
  (repeat (first | with_reducible refine Ev.bindS ?_ | (with_reducible refine Ev.ifp ?_ ?_; (· first | omega | assumption | rfl | (simp only [List.length_map, List.length_replicate, List.length_take, List.length_drop, List.length_append, List.length_cons, List.length_nil, List.length_set]; omega) | (simp; done))) | (with_reducible refine Ev.ifn ?_ ?_; (· first | omega | assumption | rfl | (simp only [List.length_map, List.length_replicate, List.length_take, List.length_drop, List.length_append, List.length_cons, List.length_nil, List.length_set]; omega) | (simp; done)))))
  cases h : (postsRes d w).2 with
  | false =>
    (repeat (first | with_reducible refine Ev.bindS ?_ | (with_reducible refine Ev.ifp ?_ ?_; (· first | omega | assumption | rfl | (simp only [List.length_map, List.length_replicate, List.length_take, List.length_drop, List.length_append, List.length_cons, List.length_nil, List.length_set]; omega) | (simp; done))) | (with_reducible refine Ev.ifn ?_ ?_; (· first | omega | assumption | rfl | (simp only [List.length_map, List.length_replicate, List.length_take, List.length_drop, List.length_append, List.length_cons, List.length_nil, List.length_set]; omega) | (simp; done)))))
    exact wrd_j4 c2 hc2
  | true =>
    have hok : docsOk d = true ∧ wordOk w = true := by
      unfold postsRes at h
      split at h
      · assumption
      · cases h
    have epr : postsRes d w = (postsFrom w d 0 [], true) := by rw [postsRes, if_pos hok]
    have ev : vocabRes d = (putAll (allWords d) [], true) := by rw [vocabRes, if_pos hok.1]
    obtain ⟨k1, k2⟩ := docs_few hok.1
    obtain ⟨a1, a2, a3⟩ := posts_good w d (fun s hs => (k2 s hs).2) 0 [] (by omega) (fun p hp => by cases hp) List.Pairwise.nil (by simp)
    have hgood : goodB (postsFrom w d 0 []) = true := (good_iff _).2 ⟨a1, a2, a3⟩
    rw [epr] at hfit hpl
    rw [epr, ev]
    have ec : countRes d w = (((postsFrom w d 0 []).length : Int), countFrom (postsFrom w d 0 []) 0, true) := by rw [countRes, epr]
    rw [ec]
    have him := implGood_ev _ hfit
    rw [show (postsOk (postsFrom w d 0 []) (postsFrom w d 0 []) 0 && decide (((postsFrom w d 0 []).length : Int) ≤ 12)) = true from hgood] at him
    have hsome := posts_some w d 0 []
    have hmem := (putAll_good (allWords d) [] List.Pairwise.nil).2 w
    obtain ⟨b, hb1, hb2⟩ := hasText_ev (putAll (allWords d) []) w (by rw [ev] at hvl; show (putAll (allWords d) []).length ≤ _; have : (putAll (allWords d) []).length ≤ 240 := hvl; omega)
    have hbe : b = decide (((postsFrom w d 0 []).length : Int) > 0) := by
      rw [Bool.eq_iff_iff, hb2, hmem, decide_eq_true_iff]
      simp only [List.length_nil, Nat.lt_irrefl, false_or] at hsome
      constructor
      · rintro (h | h)
        · cases h
        · have := hsome.2 h; omega
      · intro h
        exact .inr (hsome.1 (by omega))
    have hmm : ∀ p ∈ postsFrom w d 0 [], ∃ (j : Nat) (s : ByteArray), d[j]? = some s ∧ p = ⟨(j : Int), places w s⟩ := by
      intro p hp
      rcases posts_mem w d 0 [] p hp with h' | ⟨j, s, e1, e2⟩
      · cases h'
      · exact ⟨j, s, e1, by rw [e2]; simp⟩
    generalize postsFrom w d 0 [] = L at *
    have hl1 := hfit.1
    refine Ev.ifp rfl (Ev.bind him (Ev.ifp rfl (Ev.ifp rfl (Ev.ifp rfl (Ev.ifp rfl (Ev.bind hb1 ?_))))))
    rw [hbe]
    simp only [bne_self_eq_false]
    (refine Ev.up ?_; simp only [laws_FnWords.j1, decT])
    (repeat (first | with_reducible refine Ev.bindS ?_ | (with_reducible refine Ev.ifp ?_ ?_; (· first | omega | assumption | rfl | (simp only [List.length_map, List.length_replicate, List.length_take, List.length_drop, List.length_append, List.length_cons, List.length_nil, List.length_set]; omega) | (simp; done))) | (with_reducible refine Ev.ifn ?_ ?_; (· first | omega | assumption | rfl | (simp only [List.length_map, List.length_replicate, List.length_take, List.length_drop, List.length_append, List.length_cons, List.length_nil, List.length_set]; omega) | (simp; done)))))
    have key : ∀ (tl : List S57) (i : Nat) (m : Int), L.drop i = tl → i ≤ L.length → countFrom tl m = countFrom L 0 → Ev (fun k => laws_FnWords.l0 k c2 d w (countFrom L 0) m L L.length i) true := by
      intro tl
      induction tl with
      | nil =>
        intro i m hi hle hm
        have := drop_nil hi
        have hm : m = countFrom L 0 := hm
        (refine Ev.up ?_; simp only [laws_FnWords.l0, decT])
        (repeat (first | with_reducible refine Ev.bindS ?_ | (with_reducible refine Ev.ifp ?_ ?_; (· first | omega | assumption | rfl | (simp only [List.length_map, List.length_replicate, List.length_take, List.length_drop, List.length_append, List.length_cons, List.length_nil, List.length_set]; omega) | (simp; done))) | (with_reducible refine Ev.ifn ?_ ?_; (· first | omega | assumption | rfl | (simp only [List.length_map, List.length_replicate, List.length_take, List.length_drop, List.length_append, List.length_cons, List.length_nil, List.length_set]; omega) | (simp; done)))))
        exact wrd_j4 c2 hc2
      | cons p tl ih =>
        intro i m hi hle hm
        obtain ⟨p1, p2, p3⟩ := drop_cons hi
        obtain ⟨j, s, e1, e2⟩ := hmm p (List.mem_of_getElem? p2)
        have hs := hd.2 s (List.mem_of_getElem? e1)
        have hjl := (List.getElem?_eq_some_iff.1 e1).1
        have hs2 := k2 s (List.mem_of_getElem? e1)
        have hwr : wordsRes s = (wordsOf s, true) := by rw [wordsRes, if_neg (by omega), if_neg (by omega)]
        have hwo := implWordsOf_ev s hs
        rw [hwr] at hwo
        simp only [countFrom] at hm
        rw [e2] at hm
        (refine Ev.up ?_; simp only [laws_FnWords.l0, decT])
        rw [rd57_at p2, e2, rdOf_at e1]
        (repeat (first | with_reducible refine Ev.bindS ?_ | (with_reducible refine Ev.ifp ?_ ?_; (· first | omega | assumption | rfl | (simp only [List.length_map, List.length_replicate, List.length_take, List.length_drop, List.length_append, List.length_cons, List.length_nil, List.length_set]; omega) | (simp; done))) | (with_reducible refine Ev.ifn ?_ ?_; (· first | omega | assumption | rfl | (simp only [List.length_map, List.length_replicate, List.length_take, List.length_drop, List.length_append, List.length_cons, List.length_nil, List.length_set]; omega) | (simp; done)))))
        refine Ev.bind hwo ?_
        (repeat (first | with_reducible refine Ev.bindS ?_ | (with_reducible refine Ev.ifp ?_ ?_; (· first | omega | assumption | rfl | (simp only [List.length_map, List.length_replicate, List.length_take, List.length_drop, List.length_append, List.length_cons, List.length_nil, List.length_set]; omega) | (simp; done))) | (with_reducible refine Ev.ifn ?_ ?_; (· first | omega | assumption | rfl | (simp only [List.length_map, List.length_replicate, List.length_take, List.length_drop, List.length_append, List.length_cons, List.length_nil, List.length_set]; omega) | (simp; done)))))
        exact wrd_l1 c2 d w (countFrom L 0) m L i s hs2.2 (j : Int) (by omega) (ih (i + 1) _ p3 (by omega) hm) (wordsOf s) 0 rfl (by omega)
    exact key L 0 0 rfl (by omega) rfl
end Go.Proofs.Ytcopakljdenolaa.Pure
