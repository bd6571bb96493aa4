/- The law FnNext holds of the given program: at every input it answers true and leaves its arguments as they were; no condition. This text: part 4 of what its proof reaches. -/
import Derived.Test.YtcjebflldmiajaaQWWords
import Derived.Test.YtcjebflldmiajaaQWMore
import Derived.OpenShut
import Derived.WideShapes
import Derived.Lib.Strings
import Derived.Lib.SliceRun
import Derived.Laws.BitsLemmas
import Derived.Laws.BytesArg
import Derived.Test.YtcjebflldmiajaaCFNextA
import Derived.Test.YtcjebflldmiajaaCFNextB
import Derived.Test.YtcjebflldmiajaaCFNextC
namespace Go.Proofs.Ytcjebflldmiajaa.Pure
open Go.RowKit Go.Proofs.YtcjebflldmiajaaW.PrintWords Go.Proofs.YtcjebflldmiajaaW.PrintLast Go.Proofs.YtcjebflldmiajaaW.PrintMore

theorem wrap_ok {n : Int} (h0 : -9223372036854775808 ≤ n) (h1 : n ≤ 9223372036854775807) : wrap64 n = n := IntWalk.wrap64_in n ⟨h0, h1⟩
theorem wrap_succ {i : Nat} (h : i ≤ 9223372036854775806) : wrap64 ((i : Int) + 1) = ((i + 1 : Nat) : Int) := by
  rw [wrap_ok (by omega) (by omega)]; omega
theorem nat_nonneg (i : Nat) : (0 : Int) ≤ (i : Int) := by omega
section
variable {α : Type} {l t : List α} {i : Nat} {x z : α}
theorem drop_nil (h : l.drop i = []) : ¬ ((i : Int) < (l.length : Int)) := by
  have := List.drop_eq_nil_iff.1 h
  omega
theorem drop_cons (h : l.drop i = x :: t) : ((i : Int) < (l.length : Int)) ∧ l[i]? = some x ∧ l.drop (i + 1) = t := by
  have hlt : i < l.length := by
    rcases Nat.lt_or_ge i l.length with h1 | h1
    · exact h1
    · rw [List.drop_eq_nil_of_le h1] at h; cases h
  rw [List.drop_eq_getElem_cons hlt] at h
  injection h with h1 h2
  exact ⟨by omega, by rw [List.getElem?_eq_getElem hlt, h1], h2⟩
theorem drop_len (h : l.drop i = t) (hi : i ≤ l.length) : i + t.length = l.length := by
  rw [← h, List.length_drop]; omega
theorem getD_at (h : l[i]? = some x) : l.getD ((i : Nat) : Int).toNat z = x := by
  rw [Int.toNat_natCast, List.getD_eq_getElem?_getD, h]; rfl
theorem take_drop_set {n : Nat} {y : α} (h : l.drop i = x :: t) : (l.take i ++ List.replicate (n + 1) z).set i y = l.take i ++ [y] ++ List.replicate n z := by
  have hlt : i < l.length := by have := (drop_cons h).1; omega
  have h0 : i = (l.take i).length := by rw [List.length_take]; omega
  rw [List.set_append_right _ _ (by omega)]
  have h1 : i - (l.take i).length = 0 := by omega
  rw [h1, List.replicate_succ]
  simp
theorem take_next (h : l.drop i = x :: t) : l.take (i + 1) = l.take i ++ [x] := by
  have hlt : i < l.length := by have := (drop_cons h).1; omega
  rw [List.take_succ_eq_append_getElem hlt]
  have := (drop_cons h).2.1
  rw [List.getElem?_eq_getElem hlt] at this
  injection this with this
  rw [this]
theorem take_all (h : l.drop i = []) : l.take i = l := List.take_of_length_le (List.drop_eq_nil_iff.1 h)
end
theorem rd_at {l : List Int} {i : Nat} {x : Int} (h : l[i]? = some x) : rd l (i : Int) = x := getD_at h
theorem rdOf_at {α : Type} {l : List α} {i : Nat} {x z : α} (h : l[i]? = some x) : rdOf z l (i : Int) = x := getD_at h
theorem toList_inj {a b : ByteArray} (h : a.toList = b.toList) : a = b := by
  have h1 : a.data.toList = b.data.toList := by rw [← Lib.toList_data, ← Lib.toList_data, h]
  exact WideShapes.bytes_inj h1
/-- The numbers from c on, as many as n. -/
def from_ (c : Int) : Nat → List Int
  | 0 => []
  | n + 1 => c :: from_ (c + 1) n
theorem from_length (c : Int) (n : Nat) : (from_ c n).length = n := by induction n generalizing c with
  | zero => rfl
  | succ n ih => simp [from_, ih]
end Go.Proofs.Ytcjebflldmiajaa.Pure
namespace Go.Proofs.Ytcjebflldmiajaa.Pure
open Go.RowKit Go.Proofs.YtcjebflldmiajaaW.PrintWords Go.Proofs.YtcjebflldmiajaaW.PrintLast Go.Proofs.YtcjebflldmiajaaW.PrintMore
/-- From the end down to the begin. -/
theorem ev_down (n : Nat) (P : Nat → Prop) (hn : P n) (hs : ∀ i, i < n → P (i + 1) → P i) : P 0 := by
  have : ∀ d, d ≤ n → P (n - d) := by
    intro d
    induction d with
    | zero => intro _; simpa using hn
    | succ d ih =>
      intro hd
      refine hs _ (by omega) ?_
      have e : n - (d + 1) + 1 = n - d := by omega
      rw [e]
      exact ih (by omega)
  have := this n (Nat.le_refl _)
  simpa using this
theorem Ev.at_ {α : Type} {g : Nat → Option α} {r : α} {K : Nat} (h : ∀ k, K ≤ k → g k = some r) : Ev g r := ⟨K, h⟩
theorem Ev.all {α : Type} {g : Nat → Option α} {r : α} (h : ∀ k, g k = some r) : Ev g r := ⟨0, fun k _ => h k⟩
theorem Ev.next {α : Type} {g f : Nat → Option α} {r : α} {K : Nat} (h : ∀ k, K ≤ k → g (k + 1) = f k) (hf : Ev f r) : Ev g r := by
  obtain ⟨K', hf⟩ := hf
  refine ⟨max K K' + 1, fun k hk => ?_⟩
  obtain ⟨m, rfl⟩ : ∃ m, k = m + 1 := ⟨k - 1, by omega⟩
  rw [h m (by omega)]
  exact hf m (by omega)
theorem Ev.same {α : Type} {g f : Nat → Option α} {r : α} {K : Nat} (h : ∀ k, K ≤ k → g k = f k) (hf : Ev f r) : Ev g r := by
  obtain ⟨K', hf⟩ := hf
  exact ⟨max K K', fun k hk => (h k (by omega)).trans (hf k (by omega))⟩
/-- A copy, element by element, into a row that was made. -/
theorem copy_ev {α β : Type} (L : Nat → List β → Int → Option (List β)) (f : α → β) (z : β) (l : List α)
    (hend : ∀ k x3, L (k + 1) x3 (l.length : Int) = some x3)
    (hstep : ∀ (i : Nat) (x : α), l[i]? = some x → ∃ K, ∀ k (x3 : List β), K ≤ k → x3.length = l.length → L (k + 1) x3 (i : Int) = L k (x3.set i (f x)) ((i + 1 : Nat) : Int)) :
    Ev (fun k => L k (List.replicate l.length z) 0) (l.map f) := by
  have := ev_down l.length (fun i => Ev (fun k => L k ((l.take i).map f ++ List.replicate (l.length - i) z) (i : Int)) (l.map f)) ?_ ?_
  · simpa using this
  · refine ⟨1, fun k hk => ?_⟩
    obtain ⟨m, rfl⟩ : ∃ m, k = m + 1 := ⟨k - 1, by omega⟩
    dsimp only
    rw [hend]
    simp
  · intro i hi ih
    have hx : l[i]? = some l[i] := List.getElem?_eq_getElem hi
    obtain ⟨K, hK⟩ := hstep i _ hx
    refine Ev.next (K := K) (fun k hk => ?_) ih
    rw [hK k _ hk (by simp; omega)]
    congr 1
    have h0 : i = ((l.take i).map f).length := by simp; omega
    rw [List.set_append_right _ _ (by omega)]
    have h1 : i - ((l.take i).map f).length = 0 := by omega
    have h2 : l.length - i = (l.length - (i + 1)) + 1 := by omega
    rw [h1, h2, List.replicate_succ, List.set_cons_zero, List.take_succ_eq_append_getElem hi, List.map_append]
    simp
/-- All elements pass. -/
theorem all_ev {ρ : Type} (L : Nat → Int → Option ρ) (n : Nat) (r : ρ) (hend : ∀ k, L (k + 1) (n : Int) = some r)
    (hstep : ∀ (i : Nat), i < n → ∃ K, ∀ k, K ≤ k → L (k + 1) (i : Int) = L k ((i + 1 : Nat) : Int)) : Ev (fun k => L k 0) r := by
  have := ev_down n (fun i => Ev (fun k => L k (i : Int)) r) ⟨1, fun k hk => by obtain ⟨m, rfl⟩ : ∃ m, k = m + 1 := ⟨k - 1, by omega⟩; exact hend m⟩ (fun i hi ih => by
    obtain ⟨K, hK⟩ := hstep i hi
    exact Ev.next hK ih)
  simpa using this
end Go.Proofs.Ytcjebflldmiajaa.Pure
namespace Go.Proofs.Ytcjebflldmiajaa.Pure
open Go.RowKit Go.Proofs.YtcjebflldmiajaaW.PrintWords Go.Proofs.YtcjebflldmiajaaW.PrintLast Go.Proofs.YtcjebflldmiajaaW.PrintMore
section
variable {α β γ δ : Type}
theorem Ev.up {g : Nat → Option α} {r : α} (h : Ev (fun k => g (k + 1)) r) : Ev g r := Ev.next (K := 0) (fun _ _ => rfl) h
theorem Ev.ifp {c : Prop} {dc : Decidable c} {A B : Nat → Option α} {r : α} (hc : c) (h : Ev A r) : Ev (fun k => if c then A k else B k) r :=
  Ev.same (K := 0) (fun k _ => by rw [if_pos hc]) h
theorem Ev.ifn {c : Prop} {dc : Decidable c} {A B : Nat → Option α} {r : α} (hc : ¬ c) (h : Ev B r) : Ev (fun k => if c then A k else B k) r :=
  Ev.same (K := 0) (fun k _ => by rw [if_neg hc]) h
theorem Ev.val {a r : α} (h : a = r) : Ev (fun _ => some a) r := Ev.all fun _ => by rw [h]
theorem Ev.bindS {a : α} {f : Nat → α → Option β} {r : β} (h : Ev (fun k => f k a) r) : Ev (fun k => (some a).bind (f k)) r := Ev.bind (Ev.val rfl) h
theorem Ev.some {g : Nat → Option α} {r : α} (h : Ev g r) : ∃ k, g k = some r := h.elim fun K h => ⟨K, h K (Nat.le_refl _)⟩
/-- Both come to an end, and R holds between what they answer. -/
def Twin (R : α → β → Prop) (A : Nat → Option α) (B : Nat → Option β) : Prop := ∃ a b, R a b ∧ Ev A a ∧ Ev B b
variable {R : α → β → Prop} {A A1 A2 : Nat → Option α} {B B1 B2 : Nat → Option β}
theorem Twin.of {a : α} {b : β} (h : R a b) (ha : Ev A a) (hb : Ev B b) : Twin R A B := ⟨a, b, h, ha, hb⟩
theorem Twin.val {a : α} {b : β} (h : R a b) : Twin R (fun _ => Option.some a) (fun _ => Option.some b) := ⟨a, b, h, Ev.val rfl, Ev.val rfl⟩
theorem Twin.up (h : Twin R (fun k => A (k + 1)) (fun k => B (k + 1))) : Twin R A B := by
  obtain ⟨a, b, h, ha, hb⟩ := h
  exact ⟨a, b, h, Ev.up ha, Ev.up hb⟩
theorem Twin.upL (h : Twin R (fun k => A (k + 1)) B) : Twin R A B := by
  obtain ⟨a, b, h, ha, hb⟩ := h
  exact ⟨a, b, h, Ev.up ha, hb⟩
theorem Twin.upR (h : Twin R A (fun k => B (k + 1))) : Twin R A B := by
  obtain ⟨a, b, h, ha, hb⟩ := h
  exact ⟨a, b, h, ha, Ev.up hb⟩
theorem Twin.ifpL {c : Prop} {dc : Decidable c} (hc : c) (h : Twin R A1 B) : Twin R (fun k => if c then A1 k else A2 k) B := by
  obtain ⟨a, b, h, ha, hb⟩ := h
  exact ⟨a, b, h, Ev.ifp hc ha, hb⟩
theorem Twin.ifnL {c : Prop} {dc : Decidable c} (hc : ¬ c) (h : Twin R A2 B) : Twin R (fun k => if c then A1 k else A2 k) B := by
  obtain ⟨a, b, h, ha, hb⟩ := h
  exact ⟨a, b, h, Ev.ifn hc ha, hb⟩
theorem Twin.ifpR {c : Prop} {dc : Decidable c} (hc : c) (h : Twin R A B1) : Twin R A (fun k => if c then B1 k else B2 k) := by
  obtain ⟨a, b, h, ha, hb⟩ := h
  exact ⟨a, b, h, ha, Ev.ifp hc hb⟩
theorem Twin.ifnR {c : Prop} {dc : Decidable c} (hc : ¬ c) (h : Twin R A B2) : Twin R A (fun k => if c then B1 k else B2 k) := by
  obtain ⟨a, b, h, ha, hb⟩ := h
  exact ⟨a, b, h, ha, Ev.ifn hc hb⟩
theorem Twin.bindL {g : Nat → Option γ} {a : γ} {f : Nat → γ → Option α} (hg : Ev g a) (h : Twin R (fun k => f k a) B) : Twin R (fun k => (g k).bind (f k)) B := by
  obtain ⟨x, b, h, ha, hb⟩ := h
  exact ⟨x, b, h, Ev.bind hg ha, hb⟩
theorem Twin.bindR {g : Nat → Option γ} {a : γ} {f : Nat → γ → Option β} (hg : Ev g a) (h : Twin R A (fun k => f k a)) : Twin R A (fun k => (g k).bind (f k)) := by
  obtain ⟨x, b, h, ha, hb⟩ := h
  exact ⟨x, b, h, ha, Ev.bind hg hb⟩
theorem Twin.bindSL {a : γ} {f : Nat → γ → Option α} (h : Twin R (fun k => f k a) B) : Twin R (fun k => (Option.some a).bind (f k)) B := Twin.bindL (Ev.val rfl) h
theorem Twin.bindSR {a : γ} {f : Nat → γ → Option β} (h : Twin R A (fun k => f k a)) : Twin R A (fun k => (Option.some a).bind (f k)) := Twin.bindR (Ev.val rfl) h
theorem Twin.bind {S : γ → δ → Prop} {g1 : Nat → Option γ} {g2 : Nat → Option δ} {f1 : Nat → γ → Option α} {f2 : Nat → δ → Option β} (hg : Twin S g1 g2)
    (h : ∀ a b, S a b → Twin R (fun k => f1 k a) (fun k => f2 k b)) : Twin R (fun k => (g1 k).bind (f1 k)) (fun k => (g2 k).bind (f2 k)) := by
  obtain ⟨x, y, hs, h1, h2⟩ := hg
  exact Twin.bindL h1 (Twin.bindR h2 (h x y hs))
theorem Twin.if2 {c c' : Prop} {dc : Decidable c} {dc' : Decidable c'} (e : c ↔ c') (hp : c → Twin R A1 B1) (hn : ¬ c → Twin R A2 B2) :
    Twin R (fun k => if c then A1 k else A2 k) (fun k => if c' then B1 k else B2 k) := by
  by_cases hc : c
  · exact Twin.ifpL hc (Twin.ifpR (e.1 hc) (hp hc))
  · exact Twin.ifnL hc (Twin.ifnR (fun h => hc (e.2 h)) (hn hc))
theorem Twin.same {A : Nat → Option α} {a : α} (h : Ev A a) : Twin Eq A A := ⟨a, a, rfl, h, h⟩
theorem Twin.swap (h : Twin (fun b a => R a b) B A) : Twin R A B := by
  obtain ⟨a, b, h, ha, hb⟩ := h
  exact ⟨b, a, h, hb, ha⟩
theorem Twin.mono {S : α → β → Prop} (h : Twin S A B) (i : ∀ a b, S a b → R a b) : Twin R A B := by
  obtain ⟨a, b, h, ha, hb⟩ := h
  exact ⟨a, b, i a b h, ha, hb⟩
end
theorem decT {p : Prop} [Decidable p] : (decide p = true) = p := decide_eq_true_eq
/-- A loop over an index: what holds at the end, and from each round to the one ahead of it. -/
theorem loop_down (n : Nat) {P : Nat → Prop} (hn : P n) (hs : ∀ i, i < n → P (i + 1) → P i) : ∀ i, i ≤ n → P i := by
  have : ∀ d i, i + d = n → P i := by
    intro d
    induction d with
    | zero => intro i h; have e : i = n := by omega
              rw [e]; exact hn
    | succ d ih => intro i h; exact hs i (by omega) (ih (i + 1) (by omega))
  exact fun i hi => this (n - i) i (by omega)
end Go.Proofs.Ytcjebflldmiajaa.Pure
namespace Go.Proofs.Ytcjebflldmiajaa.Fn
open Go.RowKit Go.Proofs.YtcjebflldmiajaaW.PrintWords Go.Proofs.YtcjebflldmiajaaW.PrintLast Go.Proofs.YtcjebflldmiajaaW.PrintMore
attribute [local go_sem] max2_int min2_int max_two min_two max_three min_three max_four min_four   -- for this text's walks alone
set_option linter.unusedVariables false
set_option linter.unusedSimpArgs false

/-! ### slices_Index_int_int: function 80 -/
def slices_Index_int_int.l0 : Nat → List Int → Int → Int → Int → Option (Int)
  | 0, _, _, _, _ => none
  | k + 1, x0, x1, x7, x8 => if x8 < x7 then (if 0 ≤ x8 then (if x8 < (x0.length : Int) then (if x1 = (rd x0 x8) then (some x8) else (slices_Index_int_int.l0 k x0 x1 x7 (wrap64 (x8 + 1)))) else (none)) else (none)) else (some (-1))
def slices_Index_int_int.f (k : Nat) (l0 : List Int) (a1 : Int) : Option (Int) := slices_Index_int_int.l0 k l0 a1 (l0.length : Int) 0
theorem slices_Index_int_int.mono_l : ∀ k, (∀ y0 y1 y2 y3, LeO (slices_Index_int_int.l0 k y0 y1 y2 y3) (slices_Index_int_int.l0 (k + 1) y0 y1 y2 y3))
  | 0 => fun _ _ _ _ r h => by simp [slices_Index_int_int.l0] at h
  | k + 1 => by
    have ih0 := slices_Index_int_int.mono_l k
    · intro y0 y1 y2 y3
      unfold slices_Index_int_int.l0
      repeat' first
      | (with_reducible exact ih0 _ _ _ _)
      | (with_reducible exact LeO.refl _)
      | (with_reducible exact LeO.none _)
      | (with_reducible refine LeO.ite ?_ ?_)
      | (with_reducible refine LeO.bind ?_ (fun _ => ?_))
      | exact ih0 _ _ _ _
      | exact LeO.none _
      | refine LeO.ite ?_ ?_
      | refine LeO.bind ?_ (fun _ => ?_)
theorem slices_Index_int_int.mono : ∀ a0 a1 k, LeO (slices_Index_int_int.f k a0 a1) (slices_Index_int_int.f (k + 1) a0 a1) := by
  intro a0 a1 k
  have ih0 := slices_Index_int_int.mono_l k
  unfold slices_Index_int_int.f
  repeat' first
      | (with_reducible exact ih0 _ _ _ _)
      | (with_reducible exact LeO.refl _)
      | (with_reducible exact LeO.none _)
      | (with_reducible refine LeO.ite ?_ ?_)
      | (with_reducible refine LeO.bind ?_ (fun _ => ?_))
      | exact ih0 _ _ _ _
      | exact LeO.none _
      | refine LeO.ite ?_ ?_
      | refine LeO.bind ?_ (fun _ => ?_)
set_option maxHeartbeats 8000000 in
set_option maxRecDepth 100000 in
theorem slices_Index_int_int.calls (k : Nat) (A0 : Option Addr) (c0 : Nat) (l0 : List Int) (a1 : Int) (r : Int) (w : World) (hr0 : Kd.C (Kd.int .i64) w A0 l0.length l0) (hc0 : l0.length ≤ c0) (h : slices_Index_int_int.f k l0 a1 = some r) :
    Calls Try.prog 80 #[.slice A0 l0.length c0, .int .i64 a1] w fun e w' => e = .returned (.int .i64 r) ∧ Drawn0 w w' := by
  have HR0 := Aside0.mk hr0
  have HC0 := Aside0.mk hc0
  clear hr0 hc0
  have H : (slices_Index_int_int.l0 k l0 a1 (l0.length : Int) 0) = some r := h
  clear h
  have H' := Aside0.mk H
  clear H
  go_enter Try.func80, Try.ntmps80
  go_wp2
  go_loopg [8] k (fun kq v8 w' => ∃ (x8_1 : Int), v8 = .int .i64 x8_1 ∧ Aside0 (slices_Index_int_int.l0 kq l0 a1 (l0.length : Int) x8_1 = some r) ∧ Aside0 (kq ≤ k) ∧ Drawn0 w w')
  case atStart => exact ⟨(0), (by first | rfl | (simp; done) | (simp [*]; done)), H', ⟨Nat.le_refl _⟩, by repeat (first | exact Drawn0.refl _ | apply Drawn0.step)⟩
  case round =>
    clear H'
    try clear p2
    obtain ⟨x8_1, rfl, HA, HK1, ⟨m1, rfl⟩⟩ := hrel
    cases gk with
    | zero => exact absurd HA.out (by simp [slices_Index_int_int.l0])
    | succ k1 =>
      have H := HA.out
      clear HA
      simp only [slices_Index_int_int.l0] at H
      by_cases c3 : x8_1 < (l0.length : Int)
      · rw [if_pos c3] at H
        have c3b0 : decide (x8_1 < (l0.length : Int)) = true := decide_eq_true c3
        clear c3
        by_cases c4 : 0 ≤ x8_1
        · rw [if_pos c4] at H
          have c4b0 : decide (0 ≤ x8_1) = true := decide_eq_true c4
          clear c4
          by_cases c5 : x8_1 < (l0.length : Int)
          · rw [if_pos c5] at H
            have c5b0 : decide (x8_1 < (l0.length : Int)) = true := decide_eq_true c5
            clear c5
            by_cases c6 : a1 = (rd l0 x8_1)
            · rw [if_pos c6] at H
              have c6b0 : (a1 == (rd l0 x8_1)) = true := beq_iff_eq.mpr c6
              have c6b1 : (a1 != (rd l0 x8_1)) = false := bne_eq_false_iff_eq.mpr c6
              clear c6
              obtain rfl := Option.some.inj H
              have p313 : 0 ≤ (x8_1 : Int) := of_decide_eq_true (by first | (with_reducible assumption) | assumption)
              have q313 : x8_1 < (l0.length : Int) := of_decide_eq_true (by first | (with_reducible assumption) | assumption)
              obtain ⟨ad313, e313, hx313_0⟩ := Kd.at_int HR0.out x8_1 p313 q313
              cases e313
              replace p313 := eq_true p313
              replace q313 := eq_true q313
              go_wp2
              go_ret
              exact ⟨by first | rfl | (simp; done) | (simp [*]; done), by repeat (first | exact Drawn0.refl _ | apply Drawn0.step)⟩
            · rw [if_neg c6] at H
              have c6b0 : (a1 == (rd l0 x8_1)) = false := beq_eq_false_iff_ne.mpr c6
              have c6b1 : (a1 != (rd l0 x8_1)) = true := bne_iff_ne.mpr c6
              have H' := Aside0.mk H
              clear H
              have p313 : 0 ≤ (x8_1 : Int) := of_decide_eq_true (by first | (with_reducible assumption) | assumption)
              have q313 : x8_1 < (l0.length : Int) := of_decide_eq_true (by first | (with_reducible assumption) | assumption)
              obtain ⟨ad313, e313, hx313_0⟩ := Kd.at_int HR0.out x8_1 p313 q313
              cases e313
              replace p313 := eq_true p313
              replace q313 := eq_true q313
              go_wp2
              go_roundg k1
              case measure => have := HK1.out; omega
              case rel => exact ⟨(wrap64 (x8_1 + 1)), (by first | rfl | (simp; done) | (simp [*]; done)), H', ⟨by have := HK1.out; omega⟩, by repeat (first | exact Drawn0.refl _ | apply Drawn0.step)⟩
          · rw [if_neg c5] at H
            exact absurd H (by simp)
        · rw [if_neg c4] at H
          exact absurd H (by simp)
      · rw [if_neg c3] at H
        have c3b0 : decide (x8_1 < (l0.length : Int)) = false := decide_eq_false c3
        clear c3
        obtain rfl := Option.some.inj H
        go_wp2
        go_ret
        exact ⟨by first | rfl | (simp; done) | (simp [*]; done), by repeat (first | exact Drawn0.refl _ | apply Drawn0.step)⟩

end Go.Proofs.Ytcjebflldmiajaa.Fn
namespace Go.Proofs.Ytcjebflldmiajaa.Fn
open Go.RowKit Go.Proofs.YtcjebflldmiajaaW.PrintWords Go.Proofs.YtcjebflldmiajaaW.PrintLast Go.Proofs.YtcjebflldmiajaaW.PrintMore
attribute [local go_sem] max2_int min2_int max_two min_two max_three min_three max_four min_four   -- for this text's walks alone
set_option linter.unusedVariables false
set_option linter.unusedSimpArgs false

/-! ### slices_Contains_int_int: function 64 -/
def slices_Contains_int_int.f (k : Nat) (l0 : List Int) (a1 : Int) : Option (Bool) := (slices_Index_int_int.f k l0 a1).bind fun t314 => (some (decide (t314 ≥ 0)))
theorem slices_Contains_int_int.mono : ∀ a0 a1 k, LeO (slices_Contains_int_int.f k a0 a1) (slices_Contains_int_int.f (k + 1) a0 a1) := by
  intro a0 a1 k
  unfold slices_Contains_int_int.f
  repeat' first
      | (with_reducible exact slices_Index_int_int.mono _ _ _)
      | (with_reducible exact LeO.refl _)
      | (with_reducible exact LeO.none _)
      | (with_reducible refine LeO.ite ?_ ?_)
      | (with_reducible refine LeO.bind ?_ (fun _ => ?_))
      | exact slices_Index_int_int.mono _ _ _
      | exact LeO.none _
      | refine LeO.ite ?_ ?_
      | refine LeO.bind ?_ (fun _ => ?_)
set_option maxHeartbeats 8000000 in
set_option maxRecDepth 100000 in
theorem slices_Contains_int_int.calls (k : Nat) (A0 : Option Addr) (c0 : Nat) (l0 : List Int) (a1 : Int) (r : Bool) (w : World) (hr0 : Kd.C (Kd.int .i64) w A0 l0.length l0) (hc0 : l0.length ≤ c0) (h : slices_Contains_int_int.f k l0 a1 = some r) :
    Calls Try.prog 64 #[.slice A0 l0.length c0, .int .i64 a1] w fun e w' => e = .returned (.bool r) ∧ Drawn0 w w' := by
  have HR0 := Aside0.mk hr0
  have HC0 := Aside0.mk hc0
  clear hr0 hc0
  have H : ((slices_Index_int_int.f k l0 a1).bind fun t314 => (some (decide (t314 ≥ 0)))) = some r := h
  clear h
  replace H := Option.bind_eq_some_iff.mp H
  obtain ⟨t314, A30, H⟩ := H
  replace H : (some (decide (t314 ≥ 0))) = some r := H
  have A3 := Aside0.mk A30
  clear A30
  obtain rfl := Option.some.inj H
  go_enter Try.func64, Try.ntmps64
  go_wp2_with (first | ((with_reducible refine gate_callee (f := 80) rfl ?_); refine goesL_ (some 7) rfl rfl Try.func80 (by kernel_rfl) rfl #[.slice A0 l0.length c0, .int .i64 a1] rfl (by (try simp only [List.map_toArray, List.map_cons, List.map_nil]); first | done | rfl | (simp only [List.length_drop, List.length_take]; rfl)) ?_; (with_reducible refine (slices_Index_int_int.calls k _ _ l0 a1 t314 _ ?side1 ?side2 A3.out).mono ?_); (case side1 => repeat (first | exact HR0.out | (with_reducible refine Kd.C_alloc ?_ _) | (with_reducible refine Kd.C_drewN ?_ _) | (with_reducible refine Kd.C_drew ?_))); (case side2 => exact HC0.out); rintro e w' ⟨rfl, ⟨nd, rfl⟩⟩; refine ⟨_, rfl, ?_⟩))
  go_ret
  exact ⟨by first | rfl | (simp; done) | (simp [*]; done), by repeat (first | exact Drawn0.refl _ | apply Drawn0.step)⟩

end Go.Proofs.Ytcjebflldmiajaa.Fn
namespace Go.Proofs.Ytcjebflldmiajaa.Pure
open Go.RowKit Go.Proofs.Ytcjebflldmiajaa.Fn Go.Proofs.YtcjebflldmiajaaW.PrintWords Go.Proofs.YtcjebflldmiajaaW.PrintLast Go.Proofs.YtcjebflldmiajaaW.PrintMore
set_option linter.unusedSimpArgs false
set_option linter.unusedVariables false

theorem has_ev (ys : List Int) (n : Int) (hl : ys.length ≤ 9223372036854775807) : Ev (fun k => slices_Contains_int_int.f k ys n) (decide (n ∈ ys)) := by
  have key : ∀ (t : List Int) (i : Nat), ys.drop i = t → i ≤ ys.length → ∃ r : Int, Ev (fun k => slices_Index_int_int.l0 k ys n ys.length i) r ∧ decide (r ≥ 0) = decide (n ∈ t) := by
    intro t
    induction t with
    | nil =>
      intro i h hi
      have := drop_nil h
      refine ⟨-1, ?_, by simp⟩
      (refine Ev.up ?_; simp only [slices_Index_int_int.l0, decT])
      (repeat (first | with_reducible refine Ev.bindS ?_ | (with_reducible refine Ev.ifp ?_ ?_; (· first | omega | assumption | rfl | (simp only [List.length_map, List.length_replicate, List.length_take, List.length_drop, List.length_append, List.length_cons, List.length_nil, List.length_set]; omega) | (simp; done))) | (with_reducible refine Ev.ifn ?_ ?_; (· first | omega | assumption | rfl | (simp only [List.length_map, List.length_replicate, List.length_take, List.length_drop, List.length_append, List.length_cons, List.length_nil, List.length_set]; omega) | (simp; done)))))
      exact Ev.val rfl
    | cons x t ih =>
      intro i h hi
      obtain ⟨p1, p2, p3⟩ := drop_cons h
      by_cases hx : n = x
      · refine ⟨i, ?_, by rw [hx]; simp⟩
        (refine Ev.up ?_; simp only [slices_Index_int_int.l0, decT])
        rw [rd_at p2]
        (repeat (first | with_reducible refine Ev.bindS ?_ | (with_reducible refine Ev.ifp ?_ ?_; (· first | omega | assumption | rfl | (simp only [List.length_map, List.length_replicate, List.length_take, List.length_drop, List.length_append, List.length_cons, List.length_nil, List.length_set]; omega) | (simp; done))) | (with_reducible refine Ev.ifn ?_ ?_; (· first | omega | assumption | rfl | (simp only [List.length_map, List.length_replicate, List.length_take, List.length_drop, List.length_append, List.length_cons, List.length_nil, List.length_set]; omega) | (simp; done)))))
        exact Ev.val rfl
      · obtain ⟨r, h1, h2⟩ := ih (i + 1) p3 (by omega)
        refine ⟨r, ?_, by rw [h2, decide_eq_decide]; simp [hx]⟩
        (refine Ev.up ?_; simp only [slices_Index_int_int.l0, decT])
        rw [rd_at p2, wrap_succ (by omega)]
        (repeat (first | with_reducible refine Ev.bindS ?_ | (with_reducible refine Ev.ifp ?_ ?_; (· first | omega | assumption | rfl | (simp only [List.length_map, List.length_replicate, List.length_take, List.length_drop, List.length_append, List.length_cons, List.length_nil, List.length_set]; omega) | (simp; done))) | (with_reducible refine Ev.ifn ?_ ?_; (· first | omega | assumption | rfl | (simp only [List.length_map, List.length_replicate, List.length_take, List.length_drop, List.length_append, List.length_cons, List.length_nil, List.length_set]; omega) | (simp; done)))))
        exact h1
  obtain ⟨r, h1, h2⟩ := key ys 0 rfl (by omega)
  simp only [slices_Contains_int_int.f]
  refine Ev.bind (g := fun k => slices_Index_int_int.f k ys n) h1 ?_
  exact Ev.val h2
end Go.Proofs.Ytcjebflldmiajaa.Pure
namespace Go.Proofs.Ytcjebflldmiajaa.Fn
open Go.RowKit Go.Proofs.YtcjebflldmiajaaW.PrintWords Go.Proofs.YtcjebflldmiajaaW.PrintLast Go.Proofs.YtcjebflldmiajaaW.PrintMore
set_option linter.unusedSimpArgs false
set_option linter.unusedVariables false

/-- What the closure says of a number. -/
theorem meet1_calls (W : World) (p : Addr) (A : Option Addr) (c : Nat) (ys : List Int) (n : Int) (hp : W.cell? p = some (.slice A ys.length c)) (hC : Kd.C (Kd.int .i64) W A ys.length ys) (hc : ys.length ≤ c) :
    Calls Try.prog 63 #[.int .i64 n, .pointer (some p)] W fun e w' => e = .returned (.bool (!decide (n ∈ ys))) ∧ Drawn0 W w' := by
  obtain ⟨k, hk⟩ := Pure.Ev.some (Pure.has_ev ys n hC.2.1)
  have HC := Aside0.mk hC
  have HH := Aside0.mk hk
  clear hC hk
  go_enter Try.func63, Try.ntmps63
  go_wp2_with (go_at_call 64; (with_reducible refine (slices_Contains_int_int.calls k _ _ ys n _ _ ?side1 ?side2 HH.out).mono ?_); (case side1 => exact HC.out); (case side2 => exact hc); rintro e w' ⟨rfl, ⟨nd, rfl⟩⟩)
  go_ret
  exact ⟨by first | rfl | (simp; done), by repeat (first | exact Drawn0.refl _ | apply Drawn0.step)⟩
def idxOut (ys : List Int) : List Int → Nat → Int
  | [], _ => -1
  | x :: t, i => if x ∈ ys then idxOut ys t (i + 1) else (i : Int)
set_option maxHeartbeats 8000000 in
set_option maxRecDepth 100000 in
theorem idx_calls (A0 : Option Addr) (c0 : Nat) (xs : List Int) (w : World) (hr0 : Kd.C (Kd.int .i64) w A0 xs.length xs) (hc0 : xs.length ≤ c0) (p : Addr) (A : Option Addr) (c : Nat) (ys : List Int)
    (hp : w.cell? p = some (.slice A ys.length c)) (hC : Kd.C (Kd.int .i64) w A ys.length ys) (hc : ys.length ≤ c) :
    Calls Try.prog 79 #[.slice A0 xs.length c0, .func (.func 63) #[] #[.pointer (some p)]] w fun e w' => e = .returned (.int .i64 (idxOut ys xs 0)) ∧ Drawn0 w w' := by
  have HR0 := Aside0.mk hr0
  have HP := Aside0.mk hp
  have HC := Aside0.mk hC
  have hmax := hr0.2.1
  clear hr0 hp hC
  go_enter Try.func79, Try.ntmps79
  go_wp2
  go_loopg [8] (xs.length + 1) (fun kq v8 w' => ∃ i : Nat, v8 = .int .i64 (i : Int) ∧ Aside0 (idxOut ys (xs.drop i) i = idxOut ys xs 0) ∧ Aside0 (i ≤ xs.length ∧ xs.length + 1 ≤ kq + i) ∧ Aside0 (Drawn0 w w'))
  case atStart => exact ⟨0, rfl, ⟨rfl⟩, ⟨by omega, by omega⟩, ⟨Drawn0.refl w⟩⟩
  case round =>
    obtain ⟨i, rfl, HI, HK, HD⟩ := hrel
    obtain ⟨nd, rfl⟩ := HD.out
    by_cases hlt : i < xs.length
    · have c1b : decide ((i : Int) < (xs.length : Int)) = true := decide_eq_true (by omega)
      have c2b : decide (0 ≤ (i : Int)) = true := decide_eq_true (by omega)
      obtain ⟨ad, e0, hx⟩ := Kd.at_int (Kd.C_drewN HR0.out nd) (i : Int) (by omega) (by omega)
      have hxi : xs[i]? = some xs[i] := List.getElem?_eq_getElem hlt
      have erd : rd xs (i : Int) = xs[i] := Pure.rd_at hxi
      rw [erd, Int.toNat_natCast] at hx
      cases e0
      have hcall := meet1_calls (w.drewN nd) p A c ys xs[i] HP.out (Kd.C_drewN HC.out nd) hc
      have hd : xs.drop i = xs[i] :: xs.drop (i + 1) := List.drop_eq_getElem_cons hlt
      have HI2 := HI.out
      rw [hd] at HI2
      generalize xs[i] = x at hx hcall HI2
      clear hxi erd hd
      by_cases hm : x ∈ ys
      · rw [decide_eq_true hm, Bool.not_true] at hcall
        simp only [idxOut] at HI2
        rw [if_pos hm] at HI2
        replace HI2 := Aside0.mk HI2
        go_wp2_with (go_at_call 63; (with_reducible refine hcall.mono ?_); rintro e w' ⟨rfl, ⟨nd2, rfl⟩⟩)
        go_roundg (xs.length + 1 - (i + 1))
        case measure => have := HK.out; omega
        case rel => exact ⟨i + 1, by first | rfl | (simp; done) | (simp [Pure.wrap_succ (i := i) (by omega)]; done), HI2, ⟨by omega, by omega⟩, ⟨by repeat (first | exact Drawn0.refl _ | apply Drawn0.step)⟩⟩
      · rw [decide_eq_false hm, Bool.not_false] at hcall
        simp only [idxOut] at HI2
        rw [if_neg hm] at HI2
        replace HI2 := Aside0.mk HI2
        go_wp2_with (go_at_call 63; (with_reducible refine hcall.mono ?_); rintro e w' ⟨rfl, ⟨nd2, rfl⟩⟩)
        go_ret
        exact ⟨by rw [← HI2.out]; first | rfl | (simp; done), by repeat (first | exact Drawn0.refl _ | apply Drawn0.step)⟩
    · have c1b : decide ((i : Int) < (xs.length : Int)) = false := decide_eq_false (by omega)
      have c1n : decide (i < xs.length) = false := decide_eq_false hlt
      have c1m : ¬ ((i : Int) < (xs.length : Int)) := by omega
      have HI2 := HI.out
      rw [List.drop_eq_nil_of_le (by omega)] at HI2
      replace HI2 := Aside0.mk HI2
      go_wp2
      go_ret
      exact ⟨by rw [← HI2.out]; first | rfl | (simp; done), by repeat (first | exact Drawn0.refl _ | apply Drawn0.step)⟩
def keepIn (ys xs : List Int) : List Int := xs.filter fun x => decide (x ∈ ys)
theorem idxOut_spec (ys : List Int) (xs : List Int) : ∀ i0 : Nat, (idxOut ys xs i0 = -1 ∧ keepIn ys xs = xs) ∨ ∃ i, i < xs.length ∧ idxOut ys xs i0 = ((i0 + i : Nat) : Int) ∧ keepIn ys (xs.take (i + 1)) = xs.take i := by
  induction xs with
  | nil => intro i0; exact .inl ⟨rfl, rfl⟩
  | cons x xs ih =>
    intro i0
    by_cases hm : x ∈ ys
    · rcases ih (i0 + 1) with ⟨h1, h2⟩ | ⟨i, h1, h2, h3⟩
      · refine .inl ⟨by simp only [idxOut]; rw [if_pos hm]; exact h1, ?_⟩
        simp only [keepIn, List.filter_cons, decide_eq_true hm, if_true]
        exact congrArg (x :: ·) h2
      · refine .inr ⟨i + 1, by simp; omega, by simp only [idxOut]; rw [if_pos hm, h2]; congr 1; omega, ?_⟩
        simp only [keepIn, List.take_succ_cons, List.filter_cons, decide_eq_true hm, if_true]
        exact congrArg (x :: ·) h3
    · refine .inr ⟨0, by simp, by simp only [idxOut]; rw [if_neg hm]; congr 1, ?_⟩
      simp only [keepIn, Nat.zero_add, List.take_succ_cons, List.take_zero, List.filter_cons, decide_eq_false hm]
      simp
/-- The end of a row of one's own is made nought. -/
theorem clear_own {w0 : World} {base g n c : Nat} {ok : Nat → Prop} (hg : base ≤ g) (m : Nat) : ∀ (W : World) (o : Nat) (zs : List Int), Kd.R (Kd.int .i64) 3 W base ok (.slice (some ⟨g, 0, none⟩) n c) zs → Below base w0 W → o + m ≤ zs.length →
    ∃ zs' : List Int, zs'.length = zs.length ∧ zs'.take o = zs.take o ∧ Kd.R (Kd.int .i64) 3 (W.setCells g o (List.replicate m (.int .i64 0))) base ok (.slice (some ⟨g, 0, none⟩) n c) zs' ∧ Below base w0 (W.setCells g o (List.replicate m (.int .i64 0))) := by
  induction m with
  | zero => intro W o zs h hb _; exact ⟨zs, rfl, rfl, h, hb⟩
  | succ m ih =>
    intro W o zs h hb hle
    have h1 := Kd.R_putn h (o : Int) (0 : Int)
    rw [Int.toNat_natCast] at h1
    obtain ⟨zs', q1, q2, q3, q4⟩ := ih (W.setCell ⟨g, o, none⟩ (.int .i64 0)) (o + 1) (zs.set o 0) h1 (hb.setCell hg _) (by rw [List.length_set]; omega)
    refine ⟨zs', by rw [q1, List.length_set], ?_, q3, q4⟩
    have e := congrArg (List.take o) q2
    rw [List.take_take, List.take_take, Nat.min_eq_left (by omega)] at e
    rw [e, List.take_set_of_le (by omega)]
set_option maxHeartbeats 8000000 in
set_option maxRecDepth 100000 in
theorem del_calls (v : Value) (xs : List Int) (w : World) (base : Nat) (ok : Nat → Prop) (hx : Kd.R (Kd.int .i64) 3 w base ok v xs) (hbase : base ≤ w.heap.size) (p : Addr) (A : Option Addr) (c : Nat) (ys : List Int) (b2 : Nat)
    (hp : w.cell? p = some (.slice A ys.length c)) (hpb : some p.block ≠ v.ownBlock) (hy : Kd.R (Kd.int .i64) 3 w b2 (fun k => some k ≠ v.ownBlock) (.slice A ys.length c) ys) :
    Calls Try.prog 62 #[v, .func (.func 63) #[] #[.pointer (some p)]] w fun e w' => ∃ v' : Value, e = .returned v' ∧ Kd.R (Kd.int .i64) 3 w' base ok v' (keepIn ys xs) ∧ Below base w w' := by
  obtain ⟨A0, c0, rfl, hlc, hC0⟩ := Kd.R_reads hx
  obtain ⟨_, hcy, hCy⟩ := Kd.R_reads' hy
  have hidx := idx_calls A0 c0 xs w hC0 hlc p A c ys hp hCy hcy
  rcases idxOut_spec ys xs 0 with ⟨e1, e2⟩ | ⟨i, hi, e1, e2⟩
  · rw [e1] at hidx
    have HX := Aside0.mk hx
    have E2 := Aside0.mk e2
    clear hx e1 e2 hp hy hpb hCy hC0
    go_enter Try.func62, Try.ntmps62
    go_wp2_with (go_at_call 79; (with_reducible refine hidx.mono ?_); rintro e w' ⟨rfl, ⟨nd, rfl⟩⟩)
    go_ret
    exact ⟨_, rfl, by rw [E2.out]; exact Kd.R_drewN HX.out _, pw_below_drewN (Below.refl _ _) _⟩
  · obtain ⟨g, cap, eg, hg, hgl, _⟩ := Kd.R_form hx (by omega)
    injection eg with ea _ ec
    subst ea
    subst ec
    rw [Nat.zero_add] at e1
    rw [e1] at hidx
    have HX := Aside0.mk hx
    have E2 := Aside0.mk e2
    have HP := Aside0.mk hp
    have hpg : p.block ≠ g := fun e => hpb (by rw [e]; rfl)
    have HY := Aside0.mk (show Kd.R (Kd.int .i64) 3 w b2 (fun k => k ≠ g) (.slice A ys.length c) ys from Kd.R_mono hy (fun k hk e => hk (by rw [e]; rfl)))
    have hmax := hC0.2.1
    clear hx e1 e2 hp hy hpb hCy hC0
    have ci : ((i : Int) == -1) = false := by rw [beq_eq_false_iff_ne]; omega
    go_enter Try.func62, Try.ntmps62
    go_wp2_with (go_at_call 79; (with_reducible refine hidx.mono ?_); rintro e w' ⟨rfl, ⟨nd, rfl⟩⟩)
    clear hidx
    go_loopg [5, 6] (xs.length + 1) (fun kq v5 v6 wr => ∃ (a j : Nat) (zs : List Int), v5 = .int .i64 (a : Int) ∧ v6 = .int .i64 (j : Int) ∧ Aside0 (a < j ∧ j ≤ xs.length ∧ xs.length + 1 ≤ kq + j ∧ zs.length = xs.length) ∧ Aside0 (zs.take a = keepIn ys (xs.take j) ∧ zs.drop j = xs.drop j) ∧
      Aside0 (Kd.R (Kd.int .i64) 3 wr base ok (.slice (some ⟨g, 0, none⟩) xs.length c0) zs) ∧ Aside0 (wr.cell? p = some (.slice A ys.length c)) ∧ Aside0 (Kd.R (Kd.int .i64) 3 wr b2 (fun k => k ≠ g) (.slice A ys.length c) ys) ∧ Aside0 (Below base w wr))
    case atStart =>
      refine ⟨i, i + 1, xs, by first | rfl | (simp; done), by first | rfl | (simp [Pure.wrap_succ (i := i) (by omega)]; done), ⟨by omega, by omega, by omega, rfl⟩, ⟨E2.out.symm, rfl⟩, ⟨Kd.R_drewN HX.out _⟩, ⟨HP.out⟩, ⟨Kd.R_drewN HY.out _⟩, ⟨pw_below_drewN (Below.refl _ _) _⟩⟩
    case round =>
      clear HX E2 HP HY
      obtain ⟨a, j, zs, rfl, rfl, HN, HZ, HR, HP, HY, HB⟩ := hrel
      by_cases hlt : j < xs.length
      · have c1b : decide ((j : Int) < (xs.length : Int)) = true := decide_eq_true (by omega)
        have hxj : xs[j]? = some xs[j] := List.getElem?_eq_getElem hlt
        have hdx : xs.drop j = xs[j] :: xs.drop (j + 1) := List.drop_eq_getElem_cons hlt
        have hzj : zs.drop j = xs[j] :: xs.drop (j + 1) := HZ.out.2.trans hdx
        obtain ⟨_, hz2, hz3⟩ := Pure.drop_cons hzj
        have htk : xs.take (j + 1) = xs.take j ++ [xs[j]] := Pure.take_next hdx
        generalize xs[j] = x at hxj hdx hzj hz2 htk
        obtain ⟨hx0, hf0⟩ := Kd.R_celln 0 HR.out (j : Int) (by omega) (by omega)
        rw [show rdOf (0 : Int) zs (j : Int) = x from Pure.rdOf_at hz2, Int.toNat_natCast] at hx0
        rw [Int.toNat_natCast] at hf0
        obtain ⟨_, hcy2, hCy2⟩ := Kd.R_reads' HY.out
        have hcall := meet1_calls wr p A c ys x HP.out hCy2 hcy2
        have HN2 := HN.out
        have haj : (a : Int) < (xs.length : Int) := by omega
        have HT := Aside0.mk htk
        have HD := Aside0.mk hz3
        clear hxj hdx hzj hz2 htk hz3 hCy2
        by_cases hm : x ∈ ys
        · rw [decide_eq_true hm, Bool.not_true] at hcall
          obtain ⟨hxa, hfa⟩ := Kd.R_celln 0 HR.out (a : Int) (by omega) haj
          rw [Int.toNat_natCast] at hxa hfa
          go_wp2_with (go_at_call 63; (with_reducible refine hcall.mono ?_); rintro e w' ⟨rfl, ⟨nd2, rfl⟩⟩)
          go_roundg (xs.length + 1 - (j + 1))
          case measure => omega
          case rel =>
            have h1 := Kd.R_putn (Kd.R_drewN HR.out nd2) (a : Int) x
            rw [Int.toNat_natCast] at h1
            refine ⟨a + 1, j + 1, zs.set a x, by first | rfl | (simp [Pure.wrap_succ (i := a) (by omega)]; done), by first | rfl | (simp [Pure.wrap_succ (i := j) (by omega)]; done), ⟨by omega, by omega, by omega, by rw [List.length_set]; omega⟩, ⟨?_, ?_⟩, ⟨?_⟩, ⟨?_⟩, ⟨?_⟩, ⟨?_⟩⟩
            · rw [List.take_succ_eq_append_getElem (by rw [List.length_set]; omega), List.take_set_of_le (Nat.le_refl a), List.getElem_set_self, HZ.out.1, HT.out, keepIn, keepIn, List.filter_append]
              simp [hm]
            · rw [List.drop_set_of_lt (by omega)]; exact HD.out
            · exact h1
            · exact (cell_far (a := p) hpg _).trans HP.out
            · exact Kd.R_far (Kd.R_drewN HY.out nd2) (p := ⟨g, a, none⟩) (fun k hk => hk) _
            · exact (pw_below_drewN HB.out nd2).setCell hg _
        · rw [decide_eq_false hm, Bool.not_false] at hcall
          go_wp2_with (go_at_call 63; (with_reducible refine hcall.mono ?_); rintro e w' ⟨rfl, ⟨nd2, rfl⟩⟩)
          go_roundg (xs.length + 1 - (j + 1))
          case measure => omega
          case rel =>
            refine ⟨a, j + 1, zs, rfl, by first | rfl | (simp [Pure.wrap_succ (i := j) (by omega)]; done), ⟨by omega, by omega, by omega, by omega⟩, ⟨?_, HD.out⟩, ⟨Kd.R_drewN HR.out _⟩, ⟨HP.out⟩, ⟨Kd.R_drewN HY.out _⟩, ⟨pw_below_drewN HB.out _⟩⟩
            rw [HZ.out.1, HT.out, keepIn, keepIn, List.filter_append]
            simp [hm]
      · have c1b : decide ((j : Int) < (xs.length : Int)) = false := decide_eq_false (by omega)
        have HN2 := HN.out
        have ej : j = xs.length := by omega
        obtain ⟨i0, hi0, hz0, hsz, _⟩ := info_parts info3
        have hcut := cut_from (P := Try.prog) 22 3 .i64 Try.underlying22 hi0 1 hsz (some ⟨g, 0, none⟩) xs.length c0 (a : Int) (by omega) (by omega)
        rw [Int.toNat_natCast, if_neg (by omega), show (some (⟨g, 0, none⟩ : Addr)).map (·.add (a * 1)) = some ⟨g, a, none⟩ from by simp [Addr.add]; omega] at hcut
        have hcut2 := cut_to (P := Try.prog) 22 3 .i64 Try.underlying22 hi0 (some ⟨g, 0, none⟩) xs.length c0 (a : Int) (by omega) (by omega) hlc
        rw [Int.toNat_natCast] at hcut2
        have hclr := Go.Lib.run_clear_slice (P := Try.prog) wr 22 3 0 (.int .i64 0) Try.underlying22 (by intro w; simp [zeroValue, typeInfo, hi0, hz0]) rfl rfl g a (xs.length - a) (c0 - a) (by omega) (fun q hq => by
          have := (Kd.R_celln 0 HR.out ((a + q : Nat) : Int) (by omega) (by omega)).1
          rw [Int.toNat_natCast] at this
          rw [this]; rfl) (fun q hq => by
          have := (Kd.R_celln 0 HR.out ((a + q : Nat) : Int) (by omega) (by omega)).2
          rw [Int.toNat_natCast] at this
          exact this)
        obtain ⟨zs', q1, q2, q3, q4⟩ := clear_own hg (xs.length - a) wr a zs HR.out HB.out (by omega)
        have QL := Aside0.mk (show a ≤ zs'.length by omega)
        have Q3 := Aside0.mk q3
        have Q4 := Aside0.mk q4
        have Q2 := Aside0.mk (show zs'.take a = keepIn ys xs from by rw [q2, HZ.out.1, ej, List.take_length])
        clear q1 q2 q3 q4
        go_wp2

        go_ret
        exact ⟨_, rfl, by rw [← Q2.out]; exact Kd.R_take Q3.out (by have := QL.out; omega), Q4.out⟩
def impl_MeetPacked.f (k : Nat) (a0_0 : Int) (a0_1 : Int) (l0_2 : List Int) (l0_3 : List Bool) (a1_0 : Int) (a1_1 : Int) (l1_2 : List Int) (l1_3 : List Bool) : Option (List Int × Bool) :=
  (impl_Packed_unpack.f k a0_0 a0_1 l0_2 l0_3).bind fun x => (impl_Packed_unpack.f k a1_0 a1_1 l1_2 l1_3).bind fun y => some (if x.2 = true ∧ y.2 = true then (keepIn y.1 x.1, true) else ([], false))
theorem impl_MeetPacked.mono : ∀ a0 a1 a2 a3 a4 a5 a6 a7 k, LeO (impl_MeetPacked.f k a0 a1 a2 a3 a4 a5 a6 a7) (impl_MeetPacked.f (k + 1) a0 a1 a2 a3 a4 a5 a6 a7) := by
  intro a0 a1 a2 a3 a4 a5 a6 a7 k
  unfold impl_MeetPacked.f
  refine LeO.bind (impl_Packed_unpack.mono _ _ _ _ _) (fun _ => LeO.bind (impl_Packed_unpack.mono _ _ _ _ _) (fun _ => LeO.refl _))
set_option maxHeartbeats 8000000 in
set_option maxRecDepth 100000 in
theorem impl_MeetPacked.calls (k : Nat) (a0_0 : Int) (a0_1 : Int) (A0_2 : Option Addr) (c0_2 : Nat) (l0_2 : List Int) (A0_3 : Option Addr) (c0_3 : Nat) (l0_3 : List Bool) (a1_0 : Int) (a1_1 : Int) (A1_2 : Option Addr) (c1_2 : Nat) (l1_2 : List Int) (A1_3 : Option Addr) (c1_3 : Nat) (l1_3 : List Bool)
    (r1 : List Int) (r2 : Bool) (w : World) (hr0_2 : Kd.C (Kd.int .i64) w A0_2 l0_2.length l0_2) (hc0_2 : l0_2.length ≤ c0_2) (hr0_3 : Kd.C Kd.bool w A0_3 l0_3.length l0_3) (hc0_3 : l0_3.length ≤ c0_3)
    (hr1_2 : Kd.C (Kd.int .i64) w A1_2 l1_2.length l1_2) (hc1_2 : l1_2.length ≤ c1_2) (hr1_3 : Kd.C Kd.bool w A1_3 l1_3.length l1_3) (hc1_3 : l1_3.length ≤ c1_3) (h : impl_MeetPacked.f k a0_0 a0_1 l0_2 l0_3 a1_0 a1_1 l1_2 l1_3 = some (r1, r2)) :
    Calls Try.prog 34 #[.agg #[.int .i64 a0_0, .int .i64 a0_1, .slice A0_2 l0_2.length c0_2, .slice A0_3 l0_3.length c0_3], .agg #[.int .i64 a1_0, .int .i64 a1_1, .slice A1_2 l1_2.length c1_2, .slice A1_3 l1_3.length c1_3]] w fun e w' => ∃ v0_ : Value, e = .returned (.tuple #[v0_, .bool r2]) ∧ Kd.R (Kd.int .i64) 3 w' w.heap.size (fun _ => True) v0_ r1 ∧ Below w.heap.size w w' := by
  have hu25 := Try.underlying25
  have HR0_2 := Aside0.mk hr0_2
  have HC0_2 := Aside0.mk hc0_2
  have HR0_3 := Aside0.mk hr0_3
  have HC0_3 := Aside0.mk hc0_3
  have HR1_2 := Aside0.mk hr1_2
  have HC1_2 := Aside0.mk hc1_2
  have HR1_3 := Aside0.mk hr1_3
  have HC1_3 := Aside0.mk hc1_3
  clear hr0_2 hc0_2 hr0_3 hc0_3 hr1_2 hc1_2 hr1_3 hc1_3
  simp only [impl_MeetPacked.f] at h
  obtain ⟨⟨xs, x2⟩, ex, h⟩ := Option.bind_eq_some_iff.mp h
  obtain ⟨⟨ys, y2⟩, ey, h⟩ := Option.bind_eq_some_iff.mp h
  have EX := Aside0.mk ex
  have EY := Aside0.mk ey
  have EH := Aside0.mk (Option.some.inj h)
  clear ex ey h
  go_enter Try.func34, Try.ntmps34
  go_upto_region 3 with (first | ((with_reducible refine gate_dst (N := 2) rfl ?_); refine box_event ?hg (N := 2) ?hd (cs := #[.int .i64 a0_0, .int .i64 a0_1, .slice A0_2 l0_2.length c0_2, .slice A0_3 l0_3.length c0_3]) (t := 25) ?hr ?_; (case hd => rfl); (case hg => rfl); (case hr => first | (go_simp; done) | (go_simp; rfl)); intro ga hga w1 hbox hb; have BA := Aside0.mk hbox; have HB1 := Aside0.mk hb; clear hbox hb hga; have zga_0 : w1.cell? ⟨ga, 0, none⟩ = some (.int .i64 a0_0) := (blk_cell BA.out 0).trans rfl; have zga_1 : w1.cell? ⟨ga, 1, none⟩ = some (.int .i64 a0_1) := (blk_cell BA.out 1).trans rfl; have zga_2 : w1.cell? ⟨ga, 2, none⟩ = some (.slice A0_2 l0_2.length c0_2) := (blk_cell BA.out 2).trans rfl; have zga_3 : w1.cell? ⟨ga, 3, none⟩ = some (.slice A0_3 l0_3.length c0_3) := (blk_cell BA.out 3).trans rfl) | ((with_reducible refine gate_dst (N := 3) rfl ?_); refine box_event ?hg (N := 3) ?hd (cs := #[.int .i64 a1_0, .int .i64 a1_1, .slice A1_2 l1_2.length c1_2, .slice A1_3 l1_3.length c1_3]) (t := 25) ?hr ?_; (case hd => rfl); (case hg => rfl); (case hr => first | (go_simp; done) | (go_simp; rfl)); intro gb hgb w2 hbox hb; have BB := Aside0.mk hbox; have BA2 := Aside0.mk (blk_below BA.out hb); have HB2 := Aside0.mk (below_step HB1.out hb); clear hbox hb hgb BA; (try clear zga_0 zga_1 zga_2 zga_3); have zga_0 : w2.cell? ⟨ga, 0, none⟩ = some (.int .i64 a0_0) := (blk_cell BA2.out 0).trans rfl; have zga_1 : w2.cell? ⟨ga, 1, none⟩ = some (.int .i64 a0_1) := (blk_cell BA2.out 1).trans rfl; have zga_2 : w2.cell? ⟨ga, 2, none⟩ = some (.slice A0_2 l0_2.length c0_2) := (blk_cell BA2.out 2).trans rfl; have zga_3 : w2.cell? ⟨ga, 3, none⟩ = some (.slice A0_3 l0_3.length c0_3) := (blk_cell BA2.out 3).trans rfl; have zgb_0 : w2.cell? ⟨gb, 0, none⟩ = some (.int .i64 a1_0) := (blk_cell BB.out 0).trans rfl; have zgb_1 : w2.cell? ⟨gb, 1, none⟩ = some (.int .i64 a1_1) := (blk_cell BB.out 1).trans rfl; have zgb_2 : w2.cell? ⟨gb, 2, none⟩ = some (.slice A1_2 l1_2.length c1_2) := (blk_cell BB.out 2).trans rfl; have zgb_3 : w2.cell? ⟨gb, 3, none⟩ = some (.slice A1_3 l1_3.length c1_3) := (blk_cell BB.out 3).trans rfl) | (go_at_call 57; (with_reducible refine (impl_Packed_unpack.calls k a0_0 a0_1 _ _ l0_2 _ _ l0_3 xs x2 _ ?side1 ?side2 ?side3 ?side4 EX.out).mono ?_); (case side1 => exact Kd.C_below HR0_2.out HB2.out); (case side2 => exact HC0_2.out); (case side3 => exact Kd.C_below HR0_3.out HB2.out); (case side4 => exact HC0_3.out); rintro e w3 ⟨vx, rfl, ho, hb⟩; have HX := Aside0.mk (Kd.R_lower ho HB2.out.size); have BB3 := Aside0.mk (blk_below BB.out hb); have HB3 := Aside0.mk (below_step HB2.out hb); obtain ⟨Ax, cx, ex⟩ := Kd.R_slice ho; subst ex; clear ho hb BA2 BB; (try clear zga_0 zga_1 zga_2 zga_3 zgb_0 zgb_1 zgb_2 zgb_3); have zgb_0 : w3.cell? ⟨gb, 0, none⟩ = some (.int .i64 a1_0) := (blk_cell BB3.out 0).trans rfl; have zgb_1 : w3.cell? ⟨gb, 1, none⟩ = some (.int .i64 a1_1) := (blk_cell BB3.out 1).trans rfl; have zgb_2 : w3.cell? ⟨gb, 2, none⟩ = some (.slice A1_2 l1_2.length c1_2) := (blk_cell BB3.out 2).trans rfl; have zgb_3 : w3.cell? ⟨gb, 3, none⟩ = some (.slice A1_3 l1_3.length c1_3) := (blk_cell BB3.out 3).trans rfl) | (go_at_call 57; (with_reducible refine (impl_Packed_unpack.calls k a1_0 a1_1 _ _ l1_2 _ _ l1_3 ys y2 _ ?side1 ?side2 ?side3 ?side4 EY.out).mono ?_); (case side1 => exact Kd.C_below HR1_2.out HB3.out); (case side2 => exact HC1_2.out); (case side3 => exact Kd.C_below HR1_3.out HB3.out); (case side4 => exact HC1_3.out); rintro e w4 ⟨vy, rfl, ho, hb⟩; have HY := Aside0.mk ho; have HX4 := Aside0.mk (Kd.R_below HX.out hb); have HL := Aside0.mk (Kd.R_lt HX.out); have HB4 := Aside0.mk (below_step HB3.out hb); have HS := Aside0.mk hb.size; obtain ⟨Ay, cy, ey⟩ := Kd.R_slice ho; subst ey; clear ho hb BB3; (try clear zgb_0 zgb_1 zgb_2 zgb_3)) | ((with_reducible refine gate_dst (N := 8) rfl ?_); refine box_event ?hg (N := 8) ?hd (cs := #[.slice none 0 0]) (t := 22) ?hr ?_; (case hd => rfl); (case hg => rfl); (case hr => first | (go_simp; done) | (go_simp; rfl)); intro gy hgy w5 hbox hb; have BY := Aside0.mk hbox; have HX5 := Aside0.mk (Kd.R_below HX4.out hb); have HY5 := Aside0.mk (Kd.R_below HY.out hb); have HB5 := Aside0.mk (below_step HB4.out hb); have HG := Aside0.mk hgy; have zgy : w5.cell? ⟨gy, 0, none⟩ = some (.slice none 0 0) := (blk_cell BY.out 0).trans rfl; have fgy := blk_frozen BY.out 0; clear hbox hb hgy))
  have hxg : some gy ≠ (Value.slice Ax xs.length cx).ownBlock := fun e => by
    have h1 := HL.out gy e.symm
    have h2 := HS.out
    have h3 := HG.out
    omega
  have hyl := Kd.R_lt HY.out
  have hyb := Kd.R_base HY.out
  have HX6 := Aside0.mk (show Kd.R (Kd.int .i64) 3 (w5.setCell ⟨gy, 0, none⟩ (.slice Ay ys.length cy)) w.heap.size (fun _ => True) (.slice Ax xs.length cx) xs from Kd.R_mono (Kd.R_far (Kd.R_far1 HX5.out rfl hxg) (p := ⟨gy, 0, none⟩) (fun k hk => hk.2) _) (fun _ _ => trivial))
  have HY6 := Aside0.mk (show Kd.R (Kd.int .i64) 3 (w5.setCell ⟨gy, 0, none⟩ (.slice Ay ys.length cy)) w3.heap.size (fun k => some k ≠ (Value.slice Ax xs.length cx).ownBlock) (.slice Ay ys.length cy) ys from
    Kd.R_mono (Kd.R_far (Kd.R_tight rfl HY5.out) (p := ⟨gy, 0, none⟩) (fun k hk e => by have h1 := hyl k hk.symm; have h3 := HG.out; have e : k = gy := e; omega) _) (fun k hk e => by have h1 := hyb k hk.symm; have h2 := HL.out k e.symm; omega))
  have hp6 : (w5.setCell ⟨gy, 0, none⟩ (.slice Ay ys.length cy)).cell? ⟨gy, 0, none⟩ = some (.slice Ay ys.length cy) := by first | exact World.cell?_setCell_same zgy | exact World.cell?_setCell_same _ _ _ zgy | (apply World.cell?_setCell_same; exact zgy)
  have HB6 := Aside0.mk (show Below w.heap.size w (w5.setCell ⟨gy, 0, none⟩ (.slice Ay ys.length cy)) from HB5.out.setCell (by have h1 := HB4.out.size; have h3 := HG.out; show w.heap.size ≤ gy; omega) _)
  have hdel := del_calls (.slice Ax xs.length cx) xs _ w.heap.size (fun _ => True) HX6.out HB6.out.size ⟨gy, 0, none⟩ Ay cy ys w3.heap.size hp6 hxg HY6.out
  have HD := Aside0.mk hdel
  clear hdel hp6 HX6 HY6 hyl hyb zgy fgy
  generalize w5.setCell ⟨gy, 0, none⟩ (.slice Ay ys.length cy) = w6 at HD HB6 ⊢
  cases x2 with
  | false =>
    have e := EH.out
    rw [if_neg (by simp)] at e
    simp only [Prod.mk.injEq] at e
    obtain ⟨rfl, rfl⟩ := e
    go_wp2
    go_ret2
    exact ⟨_, rfl, Kd.R_nil _ _ _ _ _, HB6.out⟩
  | true =>
    cases y2 with
    | false =>
      have e := EH.out
      rw [if_neg (by simp)] at e
      simp only [Prod.mk.injEq] at e
      obtain ⟨rfl, rfl⟩ := e
      go_wp2
      go_ret2
      exact ⟨_, rfl, Kd.R_nil _ _ _ _ _, HB6.out⟩
    | true =>
      have e := EH.out
      rw [if_pos ⟨rfl, rfl⟩] at e
      simp only [Prod.mk.injEq] at e
      obtain ⟨rfl, rfl⟩ := e
      go_wp2_with (go_at_call 62; (with_reducible refine HD.out.mono ?_); rintro e w7 ⟨v7, rfl, ho7, hb7⟩)
      go_ret2
      exact ⟨_, rfl, ho7, HB6.out.trans hb7⟩
end Go.Proofs.Ytcjebflldmiajaa.Fn
namespace Go.Proofs.Ytcjebflldmiajaa.Fn
open Go.RowKit Go.Proofs.YtcjebflldmiajaaW.PrintWords Go.Proofs.YtcjebflldmiajaaW.PrintLast Go.Proofs.YtcjebflldmiajaaW.PrintMore
open Go.Proofs.Ytcjebflldmiajaa.Gen   -- compacted
attribute [local go_sem] max2_int min2_int max_two min_two max_three min_three max_four min_four   -- for this text's walks alone
set_option linter.unusedVariables false
set_option linter.unusedSimpArgs false

/-! ### laws_FnNext: function 11 -/
mutual
def laws_FnNext.j0 : Nat → List Int → Int → Int → Int → Bool → Bool → Int → Int → List Int → List Bool → Option (Bool)
 | 0, _, _, _, _, _, _, _, _, _, _ => none
 | k + 1, x1, x6, x7, x8, x9, x74, x805000, x805001, x805002, x805003 => if x74 = true then (some false) else (if x9 = true then ((impl_NumberAt.f k x805000 x805001 x805002 x805003 x7).bind fun bt811 => (if bt811.2 = true then (if bt811.1 = x8 then (laws_FnNext.j1 k x1 x6 x7 (decide (x8 < x6)) x805000 x805001 x805002 x805003) else (laws_FnNext.j1 k x1 x6 x7 true x805000 x805001 x805002 x805003)) else (laws_FnNext.j1 k x1 x6 x7 true x805000 x805001 x805002 x805003))) else (laws_FnNext.j2 k x1))
def laws_FnNext.j2 : Nat → List Int → Option (Bool)
 | 0, _ => none
 | k + 1, x1 => (spec_DrawMeetPacked.f k x1).bind fun bt815 => ((impl_MeetPacked.f k bt815.1 bt815.2.1 bt815.2.2.1 bt815.2.2.2.1 bt815.2.2.2.2.1 bt815.2.2.2.2.2.1 bt815.2.2.2.2.2.2.1 bt815.2.2.2.2.2.2.2).bind fun bt833 => ((spec_MeetPacked.f k bt815.1 bt815.2.1 bt815.2.2.1 bt815.2.2.2.1 bt815.2.2.2.2.1 bt815.2.2.2.2.2.1 bt815.2.2.2.2.2.2.1 bt815.2.2.2.2.2.2.2).bind fun bt837 => (if (bt833.2 != bt837.2) = true then (laws_FnNext.j3 k x1 bt833.1 bt833.2 true bt815.1 bt815.2.1 bt815.2.2.1 bt815.2.2.2.1 bt815.2.2.2.2.1 bt815.2.2.2.2.2.1 bt815.2.2.2.2.2.2.1 bt815.2.2.2.2.2.2.2) else ((laws_sameInts.f k bt833.1 bt837.1).bind fun t841 => (laws_FnNext.j3 k x1 bt833.1 bt833.2 (!t841) bt815.1 bt815.2.1 bt815.2.2.1 bt815.2.2.2.1 bt815.2.2.2.2.1 bt815.2.2.2.2.2.1 bt815.2.2.2.2.2.2.1 bt815.2.2.2.2.2.2.2)))))
def laws_FnNext.j3 : Nat → List Int → List Int → Bool → Bool → Int → Int → List Int → List Bool → Int → Int → List Int → List Bool → Option (Bool)
 | 0, _, _, _, _, _, _, _, _, _, _, _, _ => none
 | k + 1, x1, x19, x20, x135, x832000, x832001, x832002, x832003, x833000, x833001, x833002, x833003 => if x135 = true then (some false) else (if x20 = true then ((impl_MeetPacked.f k x833000 x833001 x833002 x833003 x832000 x832001 x832002 x832003).bind fun bt842 => ((impl_UnpackList.f k x832000 x832001 x832002 x832003).bind fun bt846 => ((impl_UnpackList.f k x833000 x833001 x833002 x833003).bind fun bt850 => (if bt842.2 = true then ((laws_sameInts.f k bt842.1 x19).bind fun t854 => (if t854 = true then (if bt846.2 = true then (laws_FnNext.j4 k x1 x19 bt846.1 bt850.1 (!bt850.2)) else (laws_FnNext.j4 k x1 x19 bt846.1 bt850.1 true)) else (laws_FnNext.j4 k x1 x19 bt846.1 bt850.1 true))) else (laws_FnNext.j4 k x1 x19 bt846.1 bt850.1 true))))) else ((spec_DrawNumberAt.f k x1).bind fun bt872 => ((impl_NumberAt.f k bt872.1 bt872.2.1 bt872.2.2.1 bt872.2.2.2.1 bt872.2.2.2.2).bind fun bt882 => ((spec_NumberAt.f k bt872.1 bt872.2.1 bt872.2.2.1 bt872.2.2.2.1 bt872.2.2.2.2).bind fun bt884 => (if (bt882.2 == bt884.2) = true then (some (bt882.1 == bt884.1)) else (some false))))))
def laws_FnNext.j4 : Nat → List Int → List Int → List Int → List Int → Bool → Option (Bool)
 | 0, _, _, _, _, _ => none
 | k + 1, x1, x19, x25, x27, x168 => if x168 = true then (some false) else (laws_FnNext.l0 k x1 x19 x27 x25 (x25.length : Int) 0)
def laws_FnNext.l0 : Nat → List Int → List Int → List Int → List Int → Int → Int → Option (Bool)
 | 0, _, _, _, _, _, _ => none
 | k + 1, x1, x19, x27, x169, x170, x171 => if x171 < x170 then (if 0 ≤ x171 then (if x171 < (x169.length : Int) then ((laws_has.f k x19 (rd x169 x171)).bind fun t870 => ((laws_has.f k x27 (rd x169 x171)).bind fun t871 => (if (t870 != t871) = true then (some false) else (laws_FnNext.l0 k x1 x19 x27 x169 x170 (wrap64 (x171 + 1)))))) else (none)) else (none)) else ((spec_DrawNumberAt.f k x1).bind fun bt855 => ((impl_NumberAt.f k bt855.1 bt855.2.1 bt855.2.2.1 bt855.2.2.2.1 bt855.2.2.2.2).bind fun bt865 => ((spec_NumberAt.f k bt855.1 bt855.2.1 bt855.2.2.1 bt855.2.2.2.1 bt855.2.2.2.2).bind fun bt867 => (if (bt865.2 == bt867.2) = true then (some (bt865.1 == bt867.1)) else (some false)))))
def laws_FnNext.j1 : Nat → List Int → Int → Int → Bool → Int → Int → List Int → List Bool → Option (Bool)
 | 0, _, _, _, _, _, _, _, _ => none
 | k + 1, x1, x6, x7, x93, x805000, x805001, x805002, x805003 => if x93 = true then (some false) else (if x7 > 0 then ((impl_NumberAt.f k x805000 x805001 x805002 x805003 (wrap64 (x7 - 1))).bind fun bt813 => (if bt813.2 = true then (if bt813.1 ≥ x6 then (some false) else (laws_FnNext.j2 k x1)) else (some false))) else (laws_FnNext.j2 k x1))
end
def laws_FnNext.f (k : Nat) (l0 : List Int) (l1 : List Int) : Option (Bool) := if (wrap64 ((l0.length : Int) + (l1.length : Int))) > 1048576 then (some true) else ((spec_DrawNextFrom.f k l0).bind fun bt795 => ((impl_NextFrom.f k bt795.1 bt795.2.1 bt795.2.2.1 bt795.2.2.2.1 bt795.2.2.2.2).bind fun bt805 => ((spec_NextFrom.f k bt795.1 bt795.2.1 bt795.2.2.1 bt795.2.2.2.1 bt795.2.2.2.2).bind fun bt808 => (if (bt805.2.2 != bt808.2.2) = true then (laws_FnNext.j0 k l1 bt795.2.2.2.2 bt805.1 bt805.2.1 bt805.2.2 true bt795.1 bt795.2.1 bt795.2.2.1 bt795.2.2.2.1) else (if bt805.1 = bt808.1 then (laws_FnNext.j0 k l1 bt795.2.2.2.2 bt805.1 bt805.2.1 bt805.2.2 (bt805.2.1 != bt808.2.1) bt795.1 bt795.2.1 bt795.2.2.1 bt795.2.2.2.1) else (laws_FnNext.j0 k l1 bt795.2.2.2.2 bt805.1 bt805.2.1 bt805.2.2 true bt795.1 bt795.2.1 bt795.2.2.1 bt795.2.2.2.1))))))
theorem laws_FnNext.mono_l : ∀ k, (∀ y0 y1 y2 y3 y4 y5 y6 y7 y8 y9, LeO (laws_FnNext.j0 k y0 y1 y2 y3 y4 y5 y6 y7 y8 y9) (laws_FnNext.j0 (k + 1) y0 y1 y2 y3 y4 y5 y6 y7 y8 y9)) ∧ (∀ y0, LeO (laws_FnNext.j2 k y0) (laws_FnNext.j2 (k + 1) y0)) ∧ (∀ y0 y1 y2 y3 y4 y5 y6 y7 y8 y9 y10 y11, LeO (laws_FnNext.j3 k y0 y1 y2 y3 y4 y5 y6 y7 y8 y9 y10 y11) (laws_FnNext.j3 (k + 1) y0 y1 y2 y3 y4 y5 y6 y7 y8 y9 y10 y11)) ∧ (∀ y0 y1 y2 y3 y4, LeO (laws_FnNext.j4 k y0 y1 y2 y3 y4) (laws_FnNext.j4 (k + 1) y0 y1 y2 y3 y4)) ∧ (∀ y0 y1 y2 y3 y4 y5, LeO (laws_FnNext.l0 k y0 y1 y2 y3 y4 y5) (laws_FnNext.l0 (k + 1) y0 y1 y2 y3 y4 y5)) ∧ (∀ y0 y1 y2 y3 y4 y5 y6 y7, LeO (laws_FnNext.j1 k y0 y1 y2 y3 y4 y5 y6 y7) (laws_FnNext.j1 (k + 1) y0 y1 y2 y3 y4 y5 y6 y7))
 | 0 => ⟨fun _ _ _ _ _ _ _ _ _ _ r h => by simp [laws_FnNext.j0] at h, fun _ r h => by simp [laws_FnNext.j2] at h, fun _ _ _ _ _ _ _ _ _ _ _ _ r h => by simp [laws_FnNext.j3] at h, fun _ _ _ _ _ r h => by simp [laws_FnNext.j4] at h, fun _ _ _ _ _ _ r h => by simp [laws_FnNext.l0] at h, fun _ _ _ _ _ _ _ _ r h => by simp [laws_FnNext.j1] at h⟩
 | k + 1 => by
  obtain ⟨ih0, ih1, ih2, ih3, ih4, ih5⟩ := laws_FnNext.mono_l k
  refine ⟨?_, ?_, ?_, ?_, ?_, ?_⟩
  ·intro y0 y1 y2 y3 y4 y5 y6 y7 y8 y9
   unfold laws_FnNext.j0
   repeat' first
   | (with_reducible exact ih0 _ _ _ _ _ _ _ _ _ _)
   | (with_reducible exact ih1 _)
   | (with_reducible exact ih2 _ _ _ _ _ _ _ _ _ _ _ _)
   | (with_reducible exact ih3 _ _ _ _ _)
   | (with_reducible exact ih4 _ _ _ _ _ _)
   | (with_reducible exact ih5 _ _ _ _ _ _ _ _)
   | (with_reducible exact impl_MeetPacked.mono _ _ _ _ _ _ _ _ _)
   | (with_reducible exact impl_NextFrom.mono _ _ _ _ _ _)
   | (with_reducible exact impl_NumberAt.mono _ _ _ _ _ _)
   | (with_reducible exact impl_UnpackList.mono _ _ _ _ _)
   | (with_reducible exact laws_has.mono _ _ _)
   | (with_reducible exact laws_sameInts.mono _ _ _)
   | (with_reducible exact spec_DrawMeetPacked.mono _ _)
   | (with_reducible exact spec_DrawNextFrom.mono _ _)
   | (with_reducible exact spec_DrawNumberAt.mono _ _)
   | (with_reducible exact spec_MeetPacked.mono _ _ _ _ _ _ _ _ _)
   | (with_reducible exact spec_NextFrom.mono _ _ _ _ _ _)
   | (with_reducible exact spec_NumberAt.mono _ _ _ _ _ _)
   | (with_reducible exact LeO.refl _)
   | (with_reducible exact LeO.none _)
   | (with_reducible refine LeO.ite ?_ ?_)
   | (with_reducible refine LeO.bind ?_ (fun _ => ?_))
   | exact ih0 _ _ _ _ _ _ _ _ _ _
   | exact ih1 _
   | exact ih2 _ _ _ _ _ _ _ _ _ _ _ _
   | exact ih3 _ _ _ _ _
   | exact ih4 _ _ _ _ _ _
   | exact ih5 _ _ _ _ _ _ _ _
   | exact impl_MeetPacked.mono _ _ _ _ _ _ _ _ _
   | exact impl_NextFrom.mono _ _ _ _ _ _
   | exact impl_NumberAt.mono _ _ _ _ _ _
   | exact impl_UnpackList.mono _ _ _ _ _
   | exact laws_has.mono _ _ _
   | exact laws_sameInts.mono _ _ _
   | exact spec_DrawMeetPacked.mono _ _
   | exact spec_DrawNextFrom.mono _ _
   | exact spec_DrawNumberAt.mono _ _
   | exact spec_MeetPacked.mono _ _ _ _ _ _ _ _ _
   | exact spec_NextFrom.mono _ _ _ _ _ _
   | exact spec_NumberAt.mono _ _ _ _ _ _
   | exact LeO.none _
   | refine LeO.ite ?_ ?_
   | refine LeO.bind ?_ (fun _ => ?_)
  ·intro y0
   unfold laws_FnNext.j2
   repeat' first
   | (with_reducible exact ih0 _ _ _ _ _ _ _ _ _ _)
   | (with_reducible exact ih1 _)
   | (with_reducible exact ih2 _ _ _ _ _ _ _ _ _ _ _ _)
   | (with_reducible exact ih3 _ _ _ _ _)
   | (with_reducible exact ih4 _ _ _ _ _ _)
   | (with_reducible exact ih5 _ _ _ _ _ _ _ _)
   | (with_reducible exact impl_MeetPacked.mono _ _ _ _ _ _ _ _ _)
   | (with_reducible exact impl_NextFrom.mono _ _ _ _ _ _)
   | (with_reducible exact impl_NumberAt.mono _ _ _ _ _ _)
   | (with_reducible exact impl_UnpackList.mono _ _ _ _ _)
   | (with_reducible exact laws_has.mono _ _ _)
   | (with_reducible exact laws_sameInts.mono _ _ _)
   | (with_reducible exact spec_DrawMeetPacked.mono _ _)
   | (with_reducible exact spec_DrawNextFrom.mono _ _)
   | (with_reducible exact spec_DrawNumberAt.mono _ _)
   | (with_reducible exact spec_MeetPacked.mono _ _ _ _ _ _ _ _ _)
   | (with_reducible exact spec_NextFrom.mono _ _ _ _ _ _)
   | (with_reducible exact spec_NumberAt.mono _ _ _ _ _ _)
   | (with_reducible exact LeO.refl _)
   | (with_reducible exact LeO.none _)
   | (with_reducible refine LeO.ite ?_ ?_)
   | (with_reducible refine LeO.bind ?_ (fun _ => ?_))
   | exact ih0 _ _ _ _ _ _ _ _ _ _
   | exact ih1 _
   | exact ih2 _ _ _ _ _ _ _ _ _ _ _ _
   | exact ih3 _ _ _ _ _
   | exact ih4 _ _ _ _ _ _
   | exact ih5 _ _ _ _ _ _ _ _
   | exact impl_MeetPacked.mono _ _ _ _ _ _ _ _ _
   | exact impl_NextFrom.mono _ _ _ _ _ _
   | exact impl_NumberAt.mono _ _ _ _ _ _
   | exact impl_UnpackList.mono _ _ _ _ _
   | exact laws_has.mono _ _ _
   | exact laws_sameInts.mono _ _ _
   | exact spec_DrawMeetPacked.mono _ _
   | exact spec_DrawNextFrom.mono _ _
   | exact spec_DrawNumberAt.mono _ _
   | exact spec_MeetPacked.mono _ _ _ _ _ _ _ _ _
   | exact spec_NextFrom.mono _ _ _ _ _ _
   | exact spec_NumberAt.mono _ _ _ _ _ _
   | exact LeO.none _
   | refine LeO.ite ?_ ?_
   | refine LeO.bind ?_ (fun _ => ?_)
  ·intro y0 y1 y2 y3 y4 y5 y6 y7 y8 y9 y10 y11
   unfold laws_FnNext.j3
   repeat' first
   | (with_reducible exact ih0 _ _ _ _ _ _ _ _ _ _)
   | (with_reducible exact ih1 _)
   | (with_reducible exact ih2 _ _ _ _ _ _ _ _ _ _ _ _)
   | (with_reducible exact ih3 _ _ _ _ _)
   | (with_reducible exact ih4 _ _ _ _ _ _)
   | (with_reducible exact ih5 _ _ _ _ _ _ _ _)
   | (with_reducible exact impl_MeetPacked.mono _ _ _ _ _ _ _ _ _)
   | (with_reducible exact impl_NextFrom.mono _ _ _ _ _ _)
   | (with_reducible exact impl_NumberAt.mono _ _ _ _ _ _)
   | (with_reducible exact impl_UnpackList.mono _ _ _ _ _)
   | (with_reducible exact laws_has.mono _ _ _)
   | (with_reducible exact laws_sameInts.mono _ _ _)
   | (with_reducible exact spec_DrawMeetPacked.mono _ _)
   | (with_reducible exact spec_DrawNextFrom.mono _ _)
   | (with_reducible exact spec_DrawNumberAt.mono _ _)
   | (with_reducible exact spec_MeetPacked.mono _ _ _ _ _ _ _ _ _)
   | (with_reducible exact spec_NextFrom.mono _ _ _ _ _ _)
   | (with_reducible exact spec_NumberAt.mono _ _ _ _ _ _)
   | (with_reducible exact LeO.refl _)
   | (with_reducible exact LeO.none _)
   | (with_reducible refine LeO.ite ?_ ?_)
   | (with_reducible refine LeO.bind ?_ (fun _ => ?_))
   | exact ih0 _ _ _ _ _ _ _ _ _ _
   | exact ih1 _
   | exact ih2 _ _ _ _ _ _ _ _ _ _ _ _
   | exact ih3 _ _ _ _ _
   | exact ih4 _ _ _ _ _ _
   | exact ih5 _ _ _ _ _ _ _ _
   | exact impl_MeetPacked.mono _ _ _ _ _ _ _ _ _
   | exact impl_NextFrom.mono _ _ _ _ _ _
   | exact impl_NumberAt.mono _ _ _ _ _ _
   | exact impl_UnpackList.mono _ _ _ _ _
   | exact laws_has.mono _ _ _
   | exact laws_sameInts.mono _ _ _
   | exact spec_DrawMeetPacked.mono _ _
   | exact spec_DrawNextFrom.mono _ _
   | exact spec_DrawNumberAt.mono _ _
   | exact spec_MeetPacked.mono _ _ _ _ _ _ _ _ _
   | exact spec_NextFrom.mono _ _ _ _ _ _
   | exact spec_NumberAt.mono _ _ _ _ _ _
   | exact LeO.none _
   | refine LeO.ite ?_ ?_
   | refine LeO.bind ?_ (fun _ => ?_)
  ·intro y0 y1 y2 y3 y4
   unfold laws_FnNext.j4
   repeat' first
   | (with_reducible exact ih0 _ _ _ _ _ _ _ _ _ _)
   | (with_reducible exact ih1 _)
   | (with_reducible exact ih2 _ _ _ _ _ _ _ _ _ _ _ _)
   | (with_reducible exact ih3 _ _ _ _ _)
   | (with_reducible exact ih4 _ _ _ _ _ _)
   | (with_reducible exact ih5 _ _ _ _ _ _ _ _)
   | (with_reducible exact impl_MeetPacked.mono _ _ _ _ _ _ _ _ _)
   | (with_reducible exact impl_NextFrom.mono _ _ _ _ _ _)
   | (with_reducible exact impl_NumberAt.mono _ _ _ _ _ _)
   | (with_reducible exact impl_UnpackList.mono _ _ _ _ _)
   | (with_reducible exact laws_has.mono _ _ _)
   | (with_reducible exact laws_sameInts.mono _ _ _)
   | (with_reducible exact spec_DrawMeetPacked.mono _ _)
   | (with_reducible exact spec_DrawNextFrom.mono _ _)
   | (with_reducible exact spec_DrawNumberAt.mono _ _)
   | (with_reducible exact spec_MeetPacked.mono _ _ _ _ _ _ _ _ _)
   | (with_reducible exact spec_NextFrom.mono _ _ _ _ _ _)
   | (with_reducible exact spec_NumberAt.mono _ _ _ _ _ _)
   | (with_reducible exact LeO.refl _)
   | (with_reducible exact LeO.none _)
   | (with_reducible refine LeO.ite ?_ ?_)
   | (with_reducible refine LeO.bind ?_ (fun _ => ?_))
   | exact ih0 _ _ _ _ _ _ _ _ _ _
   | exact ih1 _
   | exact ih2 _ _ _ _ _ _ _ _ _ _ _ _
   | exact ih3 _ _ _ _ _
   | exact ih4 _ _ _ _ _ _
   | exact ih5 _ _ _ _ _ _ _ _
   | exact impl_MeetPacked.mono _ _ _ _ _ _ _ _ _
   | exact impl_NextFrom.mono _ _ _ _ _ _
   | exact impl_NumberAt.mono _ _ _ _ _ _
   | exact impl_UnpackList.mono _ _ _ _ _
   | exact laws_has.mono _ _ _
   | exact laws_sameInts.mono _ _ _
   | exact spec_DrawMeetPacked.mono _ _
   | exact spec_DrawNextFrom.mono _ _
   | exact spec_DrawNumberAt.mono _ _
   | exact spec_MeetPacked.mono _ _ _ _ _ _ _ _ _
   | exact spec_NextFrom.mono _ _ _ _ _ _
   | exact spec_NumberAt.mono _ _ _ _ _ _
   | exact LeO.none _
   | refine LeO.ite ?_ ?_
   | refine LeO.bind ?_ (fun _ => ?_)
  ·intro y0 y1 y2 y3 y4 y5
   unfold laws_FnNext.l0
   repeat' first
   | (with_reducible exact ih0 _ _ _ _ _ _ _ _ _ _)
   | (with_reducible exact ih1 _)
   | (with_reducible exact ih2 _ _ _ _ _ _ _ _ _ _ _ _)
   | (with_reducible exact ih3 _ _ _ _ _)
   | (with_reducible exact ih4 _ _ _ _ _ _)
   | (with_reducible exact ih5 _ _ _ _ _ _ _ _)
   | (with_reducible exact impl_MeetPacked.mono _ _ _ _ _ _ _ _ _)
   | (with_reducible exact impl_NextFrom.mono _ _ _ _ _ _)
   | (with_reducible exact impl_NumberAt.mono _ _ _ _ _ _)
   | (with_reducible exact impl_UnpackList.mono _ _ _ _ _)
   | (with_reducible exact laws_has.mono _ _ _)
   | (with_reducible exact laws_sameInts.mono _ _ _)
   | (with_reducible exact spec_DrawMeetPacked.mono _ _)
   | (with_reducible exact spec_DrawNextFrom.mono _ _)
   | (with_reducible exact spec_DrawNumberAt.mono _ _)
   | (with_reducible exact spec_MeetPacked.mono _ _ _ _ _ _ _ _ _)
   | (with_reducible exact spec_NextFrom.mono _ _ _ _ _ _)
   | (with_reducible exact spec_NumberAt.mono _ _ _ _ _ _)
   | (with_reducible exact LeO.refl _)
   | (with_reducible exact LeO.none _)
   | (with_reducible refine LeO.ite ?_ ?_)
   | (with_reducible refine LeO.bind ?_ (fun _ => ?_))
   | exact ih0 _ _ _ _ _ _ _ _ _ _
   | exact ih1 _
   | exact ih2 _ _ _ _ _ _ _ _ _ _ _ _
   | exact ih3 _ _ _ _ _
   | exact ih4 _ _ _ _ _ _
   | exact ih5 _ _ _ _ _ _ _ _
   | exact impl_MeetPacked.mono _ _ _ _ _ _ _ _ _
   | exact impl_NextFrom.mono _ _ _ _ _ _
   | exact impl_NumberAt.mono _ _ _ _ _ _
   | exact impl_UnpackList.mono _ _ _ _ _
   | exact laws_has.mono _ _ _
   | exact laws_sameInts.mono _ _ _
   | exact spec_DrawMeetPacked.mono _ _
   | exact spec_DrawNextFrom.mono _ _
   | exact spec_DrawNumberAt.mono _ _
   | exact spec_MeetPacked.mono _ _ _ _ _ _ _ _ _
   | exact spec_NextFrom.mono _ _ _ _ _ _
   | exact spec_NumberAt.mono _ _ _ _ _ _
   | exact LeO.none _
   | refine LeO.ite ?_ ?_
   | refine LeO.bind ?_ (fun _ => ?_)
  ·intro y0 y1 y2 y3 y4 y5 y6 y7
   unfold laws_FnNext.j1
   repeat' first
   | (with_reducible exact ih0 _ _ _ _ _ _ _ _ _ _)
   | (with_reducible exact ih1 _)
   | (with_reducible exact ih2 _ _ _ _ _ _ _ _ _ _ _ _)
   | (with_reducible exact ih3 _ _ _ _ _)
   | (with_reducible exact ih4 _ _ _ _ _ _)
   | (with_reducible exact ih5 _ _ _ _ _ _ _ _)
   | (with_reducible exact impl_MeetPacked.mono _ _ _ _ _ _ _ _ _)
   | (with_reducible exact impl_NextFrom.mono _ _ _ _ _ _)
   | (with_reducible exact impl_NumberAt.mono _ _ _ _ _ _)
   | (with_reducible exact impl_UnpackList.mono _ _ _ _ _)
   | (with_reducible exact laws_has.mono _ _ _)
   | (with_reducible exact laws_sameInts.mono _ _ _)
   | (with_reducible exact spec_DrawMeetPacked.mono _ _)
   | (with_reducible exact spec_DrawNextFrom.mono _ _)
   | (with_reducible exact spec_DrawNumberAt.mono _ _)
   | (with_reducible exact spec_MeetPacked.mono _ _ _ _ _ _ _ _ _)
   | (with_reducible exact spec_NextFrom.mono _ _ _ _ _ _)
   | (with_reducible exact spec_NumberAt.mono _ _ _ _ _ _)
   | (with_reducible exact LeO.refl _)
   | (with_reducible exact LeO.none _)
   | (with_reducible refine LeO.ite ?_ ?_)
   | (with_reducible refine LeO.bind ?_ (fun _ => ?_))
   | exact ih0 _ _ _ _ _ _ _ _ _ _
   | exact ih1 _
   | exact ih2 _ _ _ _ _ _ _ _ _ _ _ _
   | exact ih3 _ _ _ _ _
   | exact ih4 _ _ _ _ _ _
   | exact ih5 _ _ _ _ _ _ _ _
   | exact impl_MeetPacked.mono _ _ _ _ _ _ _ _ _
   | exact impl_NextFrom.mono _ _ _ _ _ _
   | exact impl_NumberAt.mono _ _ _ _ _ _
   | exact impl_UnpackList.mono _ _ _ _ _
   | exact laws_has.mono _ _ _
   | exact laws_sameInts.mono _ _ _
   | exact spec_DrawMeetPacked.mono _ _
   | exact spec_DrawNextFrom.mono _ _
   | exact spec_DrawNumberAt.mono _ _
   | exact spec_MeetPacked.mono _ _ _ _ _ _ _ _ _
   | exact spec_NextFrom.mono _ _ _ _ _ _
   | exact spec_NumberAt.mono _ _ _ _ _ _
   | exact LeO.none _
   | refine LeO.ite ?_ ?_
   | refine LeO.bind ?_ (fun _ => ?_)
theorem laws_FnNext.mono : ∀ a0 a1 k, LeO (laws_FnNext.f k a0 a1) (laws_FnNext.f (k + 1) a0 a1) := by
 intro a0 a1 k
 obtain ⟨ih0, ih1, ih2, ih3, ih4, ih5⟩ := laws_FnNext.mono_l k
 unfold laws_FnNext.f
 repeat' first
   | (with_reducible exact ih0 _ _ _ _ _ _ _ _ _ _)
   | (with_reducible exact ih1 _)
   | (with_reducible exact ih2 _ _ _ _ _ _ _ _ _ _ _ _)
   | (with_reducible exact ih3 _ _ _ _ _)
   | (with_reducible exact ih4 _ _ _ _ _ _)
   | (with_reducible exact ih5 _ _ _ _ _ _ _ _)
   | (with_reducible exact impl_MeetPacked.mono _ _ _ _ _ _ _ _ _)
   | (with_reducible exact impl_NextFrom.mono _ _ _ _ _ _)
   | (with_reducible exact impl_NumberAt.mono _ _ _ _ _ _)
   | (with_reducible exact impl_UnpackList.mono _ _ _ _ _)
   | (with_reducible exact laws_has.mono _ _ _)
   | (with_reducible exact laws_sameInts.mono _ _ _)
   | (with_reducible exact spec_DrawMeetPacked.mono _ _)
   | (with_reducible exact spec_DrawNextFrom.mono _ _)
   | (with_reducible exact spec_DrawNumberAt.mono _ _)
   | (with_reducible exact spec_MeetPacked.mono _ _ _ _ _ _ _ _ _)
   | (with_reducible exact spec_NextFrom.mono _ _ _ _ _ _)
   | (with_reducible exact spec_NumberAt.mono _ _ _ _ _ _)
   | (with_reducible exact LeO.refl _)
   | (with_reducible exact LeO.none _)
   | (with_reducible refine LeO.ite ?_ ?_)
   | (with_reducible refine LeO.bind ?_ (fun _ => ?_))
   | exact ih0 _ _ _ _ _ _ _ _ _ _
   | exact ih1 _
   | exact ih2 _ _ _ _ _ _ _ _ _ _ _ _
   | exact ih3 _ _ _ _ _
   | exact ih4 _ _ _ _ _ _
   | exact ih5 _ _ _ _ _ _ _ _
   | exact impl_MeetPacked.mono _ _ _ _ _ _ _ _ _
   | exact impl_NextFrom.mono _ _ _ _ _ _
   | exact impl_NumberAt.mono _ _ _ _ _ _
   | exact impl_UnpackList.mono _ _ _ _ _
   | exact laws_has.mono _ _ _
   | exact laws_sameInts.mono _ _ _
   | exact spec_DrawMeetPacked.mono _ _
   | exact spec_DrawNextFrom.mono _ _
   | exact spec_DrawNumberAt.mono _ _
   | exact spec_MeetPacked.mono _ _ _ _ _ _ _ _ _
   | exact spec_NextFrom.mono _ _ _ _ _ _
   | exact spec_NumberAt.mono _ _ _ _ _ _
   | exact LeO.none _
   | refine LeO.ite ?_ ?_
   | refine LeO.bind ?_ (fun _ => ?_)
set_option maxHeartbeats 8000000 in
set_option maxRecDepth 100000 in
theorem laws_FnNext.calls (k : Nat) (A0 : Option Addr) (c0 : Nat) (l0 : List Int) (A1 : Option Addr) (c1 : Nat) (l1 : List Int) (r : Bool) (w : World) (hr0 : Kd.C (Kd.int .u8) w A0 l0.length l0) (hc0 : l0.length ≤ c0) (hr1 : Kd.C (Kd.int .u8) w A1 l1.length l1) (hc1 : l1.length ≤ c1) (h : laws_FnNext.f k l0 l1 = some r) (ht : r = true) :
  Calls Try.prog 11 #[.slice A0 l0.length c0, .slice A1 l1.length c1] w fun e w' => e = .returned (.bool r) ∧ Below w.heap.size w w' := by
 have HT := Aside0.mk ht
 clear ht
 have hu25 := Try.underlying25
 have HR0 := Aside0.mk hr0
 have HC0 := Aside0.mk hc0
 clear hr0 hc0
 have HR1 := Aside0.mk hr1
 have HC1 := Aside0.mk hc1
 clear hr1 hc1
 have HB := Aside0.mk (Below.refl w.heap.size w)
 have H : (if (wrap64 ((l0.length : Int) + (l1.length : Int))) > 1048576 then (some true) else ((spec_DrawNextFrom.f k l0).bind fun bt795 => ((impl_NextFrom.f k bt795.1 bt795.2.1 bt795.2.2.1 bt795.2.2.2.1 bt795.2.2.2.2).bind fun bt805 => ((spec_NextFrom.f k bt795.1 bt795.2.1 bt795.2.2.1 bt795.2.2.2.1 bt795.2.2.2.2).bind fun bt808 => (if (bt805.2.2 != bt808.2.2) = true then (laws_FnNext.j0 k l1 bt795.2.2.2.2 bt805.1 bt805.2.1 bt805.2.2 true bt795.1 bt795.2.1 bt795.2.2.1 bt795.2.2.2.1) else (if bt805.1 = bt808.1 then (laws_FnNext.j0 k l1 bt795.2.2.2.2 bt805.1 bt805.2.1 bt805.2.2 (bt805.2.1 != bt808.2.1) bt795.1 bt795.2.1 bt795.2.2.1 bt795.2.2.2.1) else (laws_FnNext.j0 k l1 bt795.2.2.2.2 bt805.1 bt805.2.1 bt805.2.2 true bt795.1 bt795.2.1 bt795.2.2.1 bt795.2.2.2.1))))))) = some r := h
 clear h
 by_cases c3 : (wrap64 ((l0.length : Int) + (l1.length : Int))) > 1048576
 ·rw [if_pos c3] at H
  have c3b0 : decide (1048576 < (wrap64 ((l0.length : Int) + (l1.length : Int)))) = true := decide_eq_true c3
  clear c3
  obtain rfl := Option.some.inj H
  go_enter Try.func11, Try.ntmps11
  go_wp2
  go_ret
  exact ⟨by first | rfl | (simp [errW_none, errW_some] <;> rfl) | (simp [*, errW_none, errW_some] <;> rfl), by repeat (first | (with_reducible first | exact HB.out | apply below_alloc | apply pw_below_drewN | apply below_drew1) | exact HB.out)⟩
 ·rw [if_neg c3] at H
  have c3b0 : decide (1048576 < (wrap64 ((l0.length : Int) + (l1.length : Int)))) = false := decide_eq_false c3
  clear c3
  replace H := Option.bind_eq_some_iff.mp H
  obtain ⟨⟨t795, t796, t797, t800, t803⟩, A40, H⟩ := H
  replace H : ((impl_NextFrom.f k t795 t796 t797 t800 t803).bind fun bt805 => ((spec_NextFrom.f k t795 t796 t797 t800 t803).bind fun bt808 => (if (bt805.2.2 != bt808.2.2) = true then (laws_FnNext.j0 k l1 t803 bt805.1 bt805.2.1 bt805.2.2 true t795 t796 t797 t800) else (if bt805.1 = bt808.1 then (laws_FnNext.j0 k l1 t803 bt805.1 bt805.2.1 bt805.2.2 (bt805.2.1 != bt808.2.1) t795 t796 t797 t800) else (laws_FnNext.j0 k l1 t803 bt805.1 bt805.2.1 bt805.2.2 true t795 t796 t797 t800))))) = some r := H
  have A4 := Aside0.mk A40
  clear A40
  replace H := Option.bind_eq_some_iff.mp H
  obtain ⟨⟨t805, t806, t807⟩, A50, H⟩ := H
  replace H : ((spec_NextFrom.f k t795 t796 t797 t800 t803).bind fun bt808 => (if (t807 != bt808.2.2) = true then (laws_FnNext.j0 k l1 t803 t805 t806 t807 true t795 t796 t797 t800) else (if t805 = bt808.1 then (laws_FnNext.j0 k l1 t803 t805 t806 t807 (t806 != bt808.2.1) t795 t796 t797 t800) else (laws_FnNext.j0 k l1 t803 t805 t806 t807 true t795 t796 t797 t800)))) = some r := H
  have A5 := Aside0.mk A50
  clear A50
  replace H := Option.bind_eq_some_iff.mp H
  obtain ⟨⟨t808, t809, t810⟩, A60, H⟩ := H
  replace H : (if (t807 != t810) = true then (laws_FnNext.j0 k l1 t803 t805 t806 t807 true t795 t796 t797 t800) else (if t805 = t808 then (laws_FnNext.j0 k l1 t803 t805 t806 t807 (t806 != t809) t795 t796 t797 t800) else (laws_FnNext.j0 k l1 t803 t805 t806 t807 true t795 t796 t797 t800))) = some r := H
  have A6 := Aside0.mk A60
  clear A60
  have HC7 := Aside0.mk H
  clear H
  go_enter Try.func11, Try.ntmps11
  go_upto_region 6 with (first | ((with_reducible refine gate_callee (f := 42) rfl ?_); refine goesL_ (some 45) rfl rfl Try.func42 (by kernel_rfl) rfl #[.slice A0 l0.length c0] rfl (ag_) ?_; (with_reducible refine (spec_DrawNextFrom.calls k _ _ l0 t795 t796 t797 t800 t803 _ ?side1 ?side2 A4.out).mono ?_); (case side1 => refine cd_ ?_; exact HR0.out); (case side2 => exact HC0.out); rintro e w8 ⟨v798, v801, rfl, ho0, ho1, hb⟩; refine ⟨_, rfl, ?_⟩; have n0_ := Aside0.mk (Kd.R_lower ho0 (bw_ HB.out)); have n1_ := Aside0.mk (Kd.R_lower ho1 (bw_ HB.out)); have n2_ := Aside0.mk (bs_ HB.out hb); clear HB; have HO799 := n0_; have HO802 := n1_; have HB := n2_; clear n0_ n1_ n2_; (try clear hb); (try clear hb2); (try clear hk); (try clear hi); (try clear ho0); (try clear ho1)) | ((with_reducible refine gate_dst (N := 5) rfl ?_); refine box_event ?hg (N := 5) ?hd (cs := #[.int .i64 0, .int .i64 0, .slice none 0 0, .slice none 0 0]) (t := 25) ?hr ?_; (case hd => rfl); (case hg => rfl); (case hr => first | (go_simp; done) | (go_simp; rfl)); intro gb804 hg w9 hbox hb; have n0_ := Aside0.mk (Kd.R_below (rk_ HO799.out) hb); have n1_ := Aside0.mk (Kd.R_below (rk_ HO802.out) hb); have n2_ := Aside0.mk (bs_ HB.out hb); have n3_ := Aside0.mk (hbox); have n4_ := Aside0.mk ((by rw [hg]; exact (bw_ HB.out) : w.heap.size ≤ gb804)); have n5_ := Aside0.mk ((by rw [hg]; exact (bw_ HB.out) : w.heap.size ≤ gb804)); clear HO799; clear HO802; clear HB; have HO799 := n0_; have HO802 := n1_; have HB := n2_; have BK804 := n3_; have GW804 := n4_; have GE804 := n5_; clear n0_ n1_ n2_ n3_ n4_ n5_; clear hb hbox hg; have hcz10_0 : w9.cell? ⟨gb804, 0, none⟩ = some (.int .i64 0) := (blk_cell BK804.out 0).trans rfl; have hcz10_1 : w9.cell? ⟨gb804, 1, none⟩ = some (.int .i64 0) := (blk_cell BK804.out 1).trans rfl; have hcz10_2 : w9.cell? ⟨gb804, 2, none⟩ = some (.slice none 0 0) := (blk_cell BK804.out 2).trans rfl; have hcz10_3 : w9.cell? ⟨gb804, 3, none⟩ = some (.slice none 0 0) := (blk_cell BK804.out 3).trans rfl; have hfz10_0 := blk_frozen BK804.out 0; have hfz10_1 := blk_frozen BK804.out 1; have hfz10_2 := blk_frozen BK804.out 2; have hfz10_3 := blk_frozen BK804.out 3; obtain ⟨Ao11, co11, eo11⟩ := Kd.R_slice HO799.out; subst eo11; obtain ⟨Ao12, co12, eo12⟩ := Kd.R_slice HO802.out; subst eo12) | ((with_reducible refine gate_callee (f := 30) rfl ?_); refine goesL_ (some 51) rfl rfl Try.func30 (by kernel_rfl) rfl #[.agg #[.int .i64 t795, .int .i64 t796, .slice Ao11 t797.length co11, .slice Ao12 t800.length co12], .int .i64 t803] rfl (ag_) ?_; (with_reducible refine (impl_NextFrom.calls k t795 t796 _ _ t797 _ _ t800 t803 t805 t806 t807 _ ?side1 ?side2 ?side3 ?side4 A5.out).mono ?_); (case side1 => refine (Kd.R_reads' (e := 3) (base := w.heap.size) (ok := fun k_ => True) (n := t797.length) (c := co11) ?_).2.2; exact (by (with_reducible repeat (first | apply Kd.R_alloc | apply Kd.R_drewN | apply Kd.R_drew)); exact (Kd.R_mono (Kd.R_far (p := ⟨gb804, 3, none⟩) (Kd.R_far (p := ⟨gb804, 2, none⟩) (Kd.R_far (p := ⟨gb804, 1, none⟩) (Kd.R_far (p := ⟨gb804, 0, none⟩) (Kd.R_types HO799.out BK804.out (by decide)) (fun _ hk => hk.2) (.int .i64 t795)) (fun _ hk => hk.2) (.int .i64 t796)) (fun _ hk => hk.2) (.slice Ao11 t797.length co11)) (fun _ hk => hk.2) (.slice Ao12 t800.length co12)) (fun _ h_ => h_.1)))); (case side2 => exact (Kd.R_reads' HO799.out).2.1); (case side3 => refine (Kd.R_reads' (e := 4) (base := w.heap.size) (ok := fun k_ => True) (n := t800.length) (c := co12) ?_).2.2; exact (by (with_reducible repeat (first | apply Kd.R_alloc | apply Kd.R_drewN | apply Kd.R_drew)); exact (Kd.R_mono (Kd.R_far (p := ⟨gb804, 3, none⟩) (Kd.R_far (p := ⟨gb804, 2, none⟩) (Kd.R_far (p := ⟨gb804, 1, none⟩) (Kd.R_far (p := ⟨gb804, 0, none⟩) (Kd.R_types HO802.out BK804.out (by decide)) (fun _ hk => hk.2) (.int .i64 t795)) (fun _ hk => hk.2) (.int .i64 t796)) (fun _ hk => hk.2) (.slice Ao11 t797.length co11)) (fun _ hk => hk.2) (.slice Ao12 t800.length co12)) (fun _ h_ => h_.1)))); (case side4 => exact (Kd.R_reads' HO802.out).2.1); rintro e w13 ⟨rfl, hb⟩; refine ⟨_, rfl, ?_⟩; have n0_ := Aside0.mk (Kd.R_below (by refine rk_ ?_; exact (Kd.R_mono (Kd.R_far (p := ⟨gb804, 3, none⟩) (Kd.R_far (p := ⟨gb804, 2, none⟩) (Kd.R_far (p := ⟨gb804, 1, none⟩) (Kd.R_far (p := ⟨gb804, 0, none⟩) (Kd.R_types HO799.out BK804.out (by decide)) (fun _ hk => hk.2) (.int .i64 t795)) (fun _ hk => hk.2) (.int .i64 t796)) (fun _ hk => hk.2) (.slice Ao11 t797.length co11)) (fun _ hk => hk.2) (.slice Ao12 t800.length co12)) (fun _ h_ => h_.1))) hb); have n1_ := Aside0.mk (Kd.R_below (by refine rk_ ?_; exact (Kd.R_mono (Kd.R_far (p := ⟨gb804, 3, none⟩) (Kd.R_far (p := ⟨gb804, 2, none⟩) (Kd.R_far (p := ⟨gb804, 1, none⟩) (Kd.R_far (p := ⟨gb804, 0, none⟩) (Kd.R_types HO802.out BK804.out (by decide)) (fun _ hk => hk.2) (.int .i64 t795)) (fun _ hk => hk.2) (.int .i64 t796)) (fun _ hk => hk.2) (.slice Ao11 t797.length co11)) (fun _ hk => hk.2) (.slice Ao12 t800.length co12)) (fun _ h_ => h_.1))) hb); have n2_ := Aside0.mk (blk_below (g := gb804) (o := .cells #[.int .i64 t795, .int .i64 t796, .slice Ao11 t797.length co11, .slice Ao12 t800.length co12] 25 (0, 0)) (by refine pk_ ?_; refine blk_put (cs := #[.int .i64 t795, .int .i64 t796, .slice Ao11 t797.length co11, .slice none 0 0]) ?_ 3 _ rfl; (with_reducible repeat (first | refine blk_drewN ?_ _ | refine blk_drew ?_ | refine blk_alloc ?_ _)); refine blk_put (cs := #[.int .i64 t795, .int .i64 t796, .slice none 0 0, .slice none 0 0]) ?_ 2 _ rfl; (with_reducible repeat (first | refine blk_drewN ?_ _ | refine blk_drew ?_ | refine blk_alloc ?_ _)); refine blk_put (cs := #[.int .i64 t795, .int .i64 0, .slice none 0 0, .slice none 0 0]) ?_ 1 _ rfl; (with_reducible repeat (first | refine blk_drewN ?_ _ | refine blk_drew ?_ | refine blk_alloc ?_ _)); refine blk_put (cs := #[.int .i64 0, .int .i64 0, .slice none 0 0, .slice none 0 0]) ?_ 0 _ rfl; (with_reducible repeat (first | refine blk_drewN ?_ _ | refine blk_drew ?_ | refine blk_alloc ?_ _)); exact BK804.out) hb); have n3_ := Aside0.mk (bs_ HB.out hb); clear HO799; clear HO802; clear BK804; clear HB; have HO799 := n0_; have HO802 := n1_; have BK804 := n2_; have HB := n3_; clear n0_ n1_ n2_ n3_; (try clear hb); (try clear hb2); (try clear hk); (try clear hi); have hcz14_0 : w13.cell? ⟨gb804, 0, none⟩ = some (.int .i64 t795) := (blk_cell BK804.out 0).trans rfl; have hcz14_1 : w13.cell? ⟨gb804, 1, none⟩ = some (.int .i64 t796) := (blk_cell BK804.out 1).trans rfl; have hcz14_2 : w13.cell? ⟨gb804, 2, none⟩ = some (.slice Ao11 t797.length co11) := (blk_cell BK804.out 2).trans rfl; have hcz14_3 : w13.cell? ⟨gb804, 3, none⟩ = some (.slice Ao12 t800.length co12) := (blk_cell BK804.out 3).trans rfl; have hfz14_0 := blk_frozen BK804.out 0; have hfz14_1 := blk_frozen BK804.out 1; have hfz14_2 := blk_frozen BK804.out 2; have hfz14_3 := blk_frozen BK804.out 3) | ((with_reducible refine gate_callee (f := 29) rfl ?_); refine goesL_ (some 58) rfl rfl Try.func29 (by kernel_rfl) rfl #[.agg #[.int .i64 t795, .int .i64 t796, .slice Ao11 t797.length co11, .slice Ao12 t800.length co12], .int .i64 t803] rfl (ag_) ?_; (with_reducible refine (spec_NextFrom.calls k t795 t796 _ _ t797 _ _ t800 t803 t808 t809 t810 _ ?side1 ?side2 ?side3 ?side4 A6.out).mono ?_); (case side1 => refine cd_ ?_; exact (Kd.R_reads' HO799.out).2.2); (case side2 => exact (Kd.R_reads' HO799.out).2.1); (case side3 => refine cd_ ?_; exact (Kd.R_reads' HO802.out).2.2); (case side4 => exact (Kd.R_reads' HO802.out).2.1); rintro e w15 ⟨rfl, hb⟩; refine ⟨_, rfl, ?_⟩; have n0_ := Aside0.mk (Kd.R_below (rk_ HO799.out) hb); have n1_ := Aside0.mk (Kd.R_below (rk_ HO802.out) hb); have n2_ := Aside0.mk (blk_below (g := gb804) (o := .cells #[.int .i64 t795, .int .i64 t796, .slice Ao11 t797.length co11, .slice Ao12 t800.length co12] 25 (0, 0)) (pk_ BK804.out) hb); have n3_ := Aside0.mk (bs_ HB.out hb); clear HO799; clear HO802; clear BK804; clear HB; have HO799 := n0_; have HO802 := n1_; have BK804 := n2_; have HB := n3_; clear n0_ n1_ n2_ n3_; (try clear hb); (try clear hb2); (try clear hk); (try clear hi)))
  (try simp only [Act.put, List.setIfInBounds_toArray, List.set_cons_zero, List.set_cons_succ])
  go_cut [74] (fun v74 wc => ∃ (kq : Nat) (x74_6 : Bool), v74 = .bool x74_6 ∧ Aside0 (laws_FnNext.j0 kq l1 t803 t805 t806 t807 x74_6 t795 t796 t797 t800 = some r) ∧ Aside0 (kq ≤ k) ∧ Aside0 (Kd.R (Kd.int .i64) 3 wc w.heap.size (fun _ => True) (.slice Ao11 t797.length co11) t797) ∧ Aside0 (Kd.R Kd.bool 4 wc w.heap.size (fun _ => True) (.slice Ao12 t800.length co12) t800) ∧ Aside0 (wc.heap[gb804]? = some (.cells #[.int .i64 t795, .int .i64 t796, (.slice Ao11 t797.length co11), (.slice Ao12 t800.length co12)] 25 (0, 0))) ∧ Aside0 (Below w.heap.size w wc))
  case first =>
   have H := HC7.out
   clear HC7
   by_cases c16 : (t807 != t810) = true
   ·rw [if_pos c16] at H
    have c16b0 : (t807 != t810) = true := c16
    (try (have c16b1 : decide (t807 = t810) = false := by simpa using c16))
    (try (have c16b2 : (t807 == t810) = false := by simpa using c16))
    (try (have c16b3 : ¬ (t807 = t810) := by simpa using c16))
    clear c16
    (first | rw [c16b0] | (simp only [i64_w, i32_w]; rw [c16b0]) | rw [c16b1] | skip)
    exact (Go.Proofs.Ytcjebflldmiajaa.Gen.no_true H (by cases k <;> simp [laws_FnNext.j0]) HT.out).elim
   ·rw [if_neg c16] at H
    have c16b0 : (t807 != t810) = false := by simpa using c16
    (try (have c16b1 : decide (t807 = t810) = true := by simpa using c16))
    (try (have c16b2 : (t807 == t810) = true := by simpa using c16))
    clear c16
    (first | rw [c16b0] | (simp only [i64_w, i32_w]; rw [c16b0]) | rw [c16b1] | skip)
    by_cases c17 : t805 = t808
    ·rw [if_pos c17] at H
     have c17b0 : (t805 == t808) = true := beq_iff_eq.mpr c17
     have c17b1 : (t805 != t808) = false := bne_eq_false_iff_eq.mpr c17
     clear c17
     have H' := Aside0.mk H
     clear H
     go_wp2
     go_meet
     case rel => exact ⟨_, ((t806 != t809)), (by first | rfl | (simp; done) | (simp [*]; done)), H', ⟨by first | omega | exact Nat.le_refl _⟩, ⟨by (with_reducible repeat (first | apply Kd.R_alloc | apply Kd.R_drewN | apply Kd.R_drew)); exact HO799.out⟩, ⟨by (with_reducible repeat (first | apply Kd.R_alloc | apply Kd.R_drewN | apply Kd.R_drew)); exact HO802.out⟩, ⟨by (with_reducible repeat (first | refine blk_drewN ?_ _ | refine blk_drew ?_ | refine blk_alloc ?_ _)); exact BK804.out⟩, ⟨by repeat (first | (with_reducible first | exact HB.out | apply below_alloc | apply pw_below_drewN | apply below_drew1 | refine below_set ?_ GE804.out) | exact HB.out)⟩⟩
    ·rw [if_neg c17] at H
     have c17b0 : (t805 == t808) = false := beq_eq_false_iff_ne.mpr c17
     have c17b1 : (t805 != t808) = true := bne_iff_ne.mpr c17
     exact (Go.Proofs.Ytcjebflldmiajaa.Gen.no_true H (by cases k <;> simp [laws_FnNext.j0]) HT.out).elim
  case rest =>
   clear HC7
   (try clear c1); (try clear c2); (try clear p2); (try clear c3); (try clear c3b0); (try clear c4); (try clear p6); (try clear c11); (try clear c16); (try clear c16b0); (try clear c16b1); (try clear c16b2); (try clear c17); (try clear c17b0); (try clear c17b1); (try clear hcz10_0); (try clear hcz10_1); (try clear hcz10_2); (try clear hcz10_3); (try clear hcz14_0); (try clear hcz14_1); (try clear hcz14_2); (try clear hcz14_3); (try clear hfz10_0); (try clear hfz10_1); (try clear hfz10_2); (try clear hfz10_3); (try clear hfz14_0); (try clear hfz14_1); (try clear hfz14_2); (try clear hfz14_3)
   obtain ⟨kq, x74_6, rfl, HA, HJ6, HO_805002, HO_805003, BK804, HB⟩ := hcut
   cases kq with
   | zero => exact absurd HA.out (by simp [laws_FnNext.j0])
   | succ kj6 =>
    have H := HA.out
    clear HA
    simp only [laws_FnNext.j0] at H
    by_cases c18 : x74_6 = true
    ·subst c18
     have H1 : (some false) = some r := by rw [if_pos rfl] at H; exact H
     clear H
     have H := H1
     clear H1
     exact absurd HT.out (by have H9 := Option.some.inj H; rw [← H9]; decide)
    ·replace c18 := Bool.eq_false_iff.mpr c18
     subst c18
     have H1 : (if t807 = true then ((impl_NumberAt.f kj6 t795 t796 t797 t800 t805).bind fun bt811 => (if bt811.2 = true then (if bt811.1 = t806 then (laws_FnNext.j1 kj6 l1 t803 t805 (decide (t806 < t803)) t795 t796 t797 t800) else (laws_FnNext.j1 kj6 l1 t803 t805 true t795 t796 t797 t800)) else (laws_FnNext.j1 kj6 l1 t803 t805 true t795 t796 t797 t800))) else (laws_FnNext.j2 kj6 l1)) = some r := by rw [if_neg (show ¬ (false = true) by decide)] at H; exact H
     clear H
     have H := H1
     clear H1
     have HC19 := Aside0.mk H
     clear H
     go_upto_if 75 with (fail)
     go_cut [] (fun wc => ∃ (kq : Nat), Aside0 (laws_FnNext.j2 kq l1 = some r) ∧ Aside0 (kq ≤ kj6) ∧ Aside0 (Kd.R (Kd.int .i64) 3 wc w.heap.size (fun _ => True) (.slice Ao11 t797.length co11) t797) ∧ Aside0 (Kd.R Kd.bool 4 wc w.heap.size (fun _ => True) (.slice Ao12 t800.length co12) t800) ∧ Aside0 (wc.heap[gb804]? = some (.cells #[.int .i64 t795, .int .i64 t796, (.slice Ao11 t797.length co11), (.slice Ao12 t800.length co12)] 25 (0, 0))) ∧ Aside0 (Below w.heap.size w wc))
     case first =>
      have H := HC19.out
      clear HC19
      by_cases c20 : t807 = true
      ·subst c20
       have H1 : ((impl_NumberAt.f kj6 t795 t796 t797 t800 t805).bind fun bt811 => (if bt811.2 = true then (if bt811.1 = t806 then (laws_FnNext.j1 kj6 l1 t803 t805 (decide (t806 < t803)) t795 t796 t797 t800) else (laws_FnNext.j1 kj6 l1 t803 t805 true t795 t796 t797 t800)) else (laws_FnNext.j1 kj6 l1 t803 t805 true t795 t796 t797 t800))) = some r := by rw [if_pos rfl] at H; exact H
       clear H
       have H := H1
       clear H1
       replace H := Option.bind_eq_some_iff.mp H
       obtain ⟨⟨t811, t812⟩, A210, H⟩ := H
       replace H : (if t812 = true then (if t811 = t806 then (laws_FnNext.j1 kj6 l1 t803 t805 (decide (t806 < t803)) t795 t796 t797 t800) else (laws_FnNext.j1 kj6 l1 t803 t805 true t795 t796 t797 t800)) else (laws_FnNext.j1 kj6 l1 t803 t805 true t795 t796 t797 t800)) = some r := H
       have A21 := Aside0.mk A210
       clear A210
       have HC22 := Aside0.mk H
       clear H
       have hcz23_0 : wc.cell? ⟨gb804, 0, none⟩ = some (.int .i64 t795) := (blk_cell BK804.out 0).trans rfl
       have hcz23_1 : wc.cell? ⟨gb804, 1, none⟩ = some (.int .i64 t796) := (blk_cell BK804.out 1).trans rfl
       have hcz23_2 : wc.cell? ⟨gb804, 2, none⟩ = some (.slice Ao11 t797.length co11) := (blk_cell BK804.out 2).trans rfl
       have hcz23_3 : wc.cell? ⟨gb804, 3, none⟩ = some (.slice Ao12 t800.length co12) := (blk_cell BK804.out 3).trans rfl
       have hfz23_0 := blk_frozen BK804.out 0
       have hfz23_1 := blk_frozen BK804.out 1
       have hfz23_2 := blk_frozen BK804.out 2
       have hfz23_3 := blk_frozen BK804.out 3
       go_upto_region 10 with (first | ((with_reducible refine gate_callee (f := 28) rfl ?_); refine goesL_ (some 79) rfl rfl Try.func28 (by kernel_rfl) rfl #[.agg #[.int .i64 t795, .int .i64 t796, .slice Ao11 t797.length co11, .slice Ao12 t800.length co12], .int .i64 t805] rfl (ag_) ?_; (with_reducible refine (impl_NumberAt.calls kj6 t795 t796 _ _ t797 _ _ t800 t805 t811 t812 _ ?side1 ?side2 ?side3 ?side4 A21.out).mono ?_); (case side1 => refine cd_ ?_; exact (Kd.R_reads' HO_805002.out).2.2); (case side2 => exact (Kd.R_reads' HO_805002.out).2.1); (case side3 => refine cd_ ?_; exact (Kd.R_reads' HO_805003.out).2.2); (case side4 => exact (Kd.R_reads' HO_805003.out).2.1); rintro e w24 ⟨rfl, hb⟩; refine ⟨_, rfl, ?_⟩; have n0_ := Aside0.mk (Kd.R_below (rk_ HO_805002.out) hb); have n1_ := Aside0.mk (Kd.R_below (rk_ HO_805003.out) hb); have n2_ := Aside0.mk (blk_below (g := gb804) (o := .cells #[.int .i64 t795, .int .i64 t796, .slice Ao11 t797.length co11, .slice Ao12 t800.length co12] 25 (0, 0)) (pk_ BK804.out) hb); have n3_ := Aside0.mk (bs_ HB.out hb); clear HO_805002; clear HO_805003; clear BK804; clear HB; have HO_805002 := n0_; have HO_805003 := n1_; have BK804 := n2_; have HB := n3_; clear n0_ n1_ n2_ n3_; (try clear hb); (try clear hb2); (try clear hk); (try clear hi)))
       (try simp only [Act.put, List.setIfInBounds_toArray, List.set_cons_zero, List.set_cons_succ])
       go_cut [93] (fun v93 wc => ∃ (kq : Nat) (x93_21 : Bool), v93 = .bool x93_21 ∧ Aside0 (laws_FnNext.j1 kq l1 t803 t805 x93_21 t795 t796 t797 t800 = some r) ∧ Aside0 (kq ≤ kj6) ∧ Aside0 (Kd.R (Kd.int .i64) 3 wc w.heap.size (fun _ => True) (.slice Ao11 t797.length co11) t797) ∧ Aside0 (Kd.R Kd.bool 4 wc w.heap.size (fun _ => True) (.slice Ao12 t800.length co12) t800) ∧ Aside0 (wc.heap[gb804]? = some (.cells #[.int .i64 t795, .int .i64 t796, (.slice Ao11 t797.length co11), (.slice Ao12 t800.length co12)] 25 (0, 0))) ∧ Aside0 (Below w.heap.size w wc))
       case first =>
        have H := HC22.out
        clear HC22
        by_cases c25 : t812 = true
        ·subst c25
         have H1 : (if t811 = t806 then (laws_FnNext.j1 kj6 l1 t803 t805 (decide (t806 < t803)) t795 t796 t797 t800) else (laws_FnNext.j1 kj6 l1 t803 t805 true t795 t796 t797 t800)) = some r := by rw [if_pos rfl] at H; exact H
         clear H
         have H := H1
         clear H1
         by_cases c26 : t811 = t806
         ·rw [if_pos c26] at H
          have c26b0 : (t811 == t806) = true := beq_iff_eq.mpr c26
          have c26b1 : (t811 != t806) = false := bne_eq_false_iff_eq.mpr c26
          clear c26
          (first | rw [c26b0] | (simp only [i64_w, i32_w]; rw [c26b0]) | rw [c26b1] | skip)
          have H' := Aside0.mk H
          clear H
          go_wp2
          go_meet
          case rel => exact ⟨_, (decide (t806 < t803)), (by first | rfl | (simp; done) | (simp [*]; done)), H', ⟨by have := HJ6.out; first | omega | exact Nat.le_refl _⟩, ⟨by (with_reducible repeat (first | apply Kd.R_alloc | apply Kd.R_drewN | apply Kd.R_drew)); exact HO_805002.out⟩, ⟨by (with_reducible repeat (first | apply Kd.R_alloc | apply Kd.R_drewN | apply Kd.R_drew)); exact HO_805003.out⟩, ⟨by (with_reducible repeat (first | refine blk_drewN ?_ _ | refine blk_drew ?_ | refine blk_alloc ?_ _)); exact BK804.out⟩, ⟨by repeat (first | (with_reducible first | exact HB.out | apply below_alloc | apply pw_below_drewN | apply below_drew1 | refine below_set ?_ GE804.out) | exact HB.out)⟩⟩
         ·rw [if_neg c26] at H
          have c26b0 : (t811 == t806) = false := beq_eq_false_iff_ne.mpr c26
          have c26b1 : (t811 != t806) = true := bne_iff_ne.mpr c26
          (first | rw [c26b0] | (simp only [i64_w, i32_w]; rw [c26b0]) | rw [c26b1] | skip)
          exact (Go.Proofs.Ytcjebflldmiajaa.Gen.no_true H (by cases kj6 <;> simp [laws_FnNext.j1]) HT.out).elim
        ·replace c25 := Bool.eq_false_iff.mpr c25
         subst c25
         have H1 : (laws_FnNext.j1 kj6 l1 t803 t805 true t795 t796 t797 t800) = some r := by rw [if_neg (show ¬ (false = true) by decide)] at H; exact H
         clear H
         have H := H1
         clear H1
         exact (Go.Proofs.Ytcjebflldmiajaa.Gen.no_true H (by cases kj6 <;> simp [laws_FnNext.j1]) HT.out).elim
       case rest =>
        clear HC22
        (try clear c1); (try clear c2); (try clear p2); (try clear c3); (try clear c3b0); (try clear c4); (try clear p6); (try clear c11); (try clear c16); (try clear c16b0); (try clear c16b1); (try clear c16b2); (try clear c17); (try clear c17b0); (try clear c17b1); (try clear c18); (try clear c20); (try clear c25); (try clear c26); (try clear c26b0); (try clear c26b1); (try clear hcz10_0); (try clear hcz10_1); (try clear hcz10_2); (try clear hcz10_3); (try clear hcz14_0); (try clear hcz14_1); (try clear hcz14_2); (try clear hcz14_3); (try clear hcz23_0); (try clear hcz23_1); (try clear hcz23_2); (try clear hcz23_3); (try clear hfz10_0); (try clear hfz10_1); (try clear hfz10_2); (try clear hfz10_3); (try clear hfz14_0); (try clear hfz14_1); (try clear hfz14_2); (try clear hfz14_3); (try clear hfz23_0); (try clear hfz23_1); (try clear hfz23_2); (try clear hfz23_3); (try clear p2); (try clear p6)
        obtain ⟨kq, x93_21, rfl, HA, HJ21, HO_805002, HO_805003, BK804, HB⟩ := hcut
        cases kq with
        | zero => exact absurd HA.out (by simp [laws_FnNext.j1])
        | succ kj21 =>
         have H := HA.out
         clear HA
         simp only [laws_FnNext.j1] at H
         by_cases c27 : x93_21 = true
         ·subst c27
          have H1 : (some false) = some r := by rw [if_pos rfl] at H; exact H
          clear H
          have H := H1
          clear H1
          exact absurd HT.out (by have H9 := Option.some.inj H; rw [← H9]; decide)
         ·replace c27 := Bool.eq_false_iff.mpr c27
          subst c27
          have H1 : (if t805 > 0 then ((impl_NumberAt.f kj21 t795 t796 t797 t800 (wrap64 (t805 - 1))).bind fun bt813 => (if bt813.2 = true then (if bt813.1 ≥ t803 then (some false) else (laws_FnNext.j2 kj21 l1)) else (some false))) else (laws_FnNext.j2 kj21 l1)) = some r := by rw [if_neg (show ¬ (false = true) by decide)] at H; exact H
          clear H
          have H := H1
          clear H1
          by_cases c28 : t805 > 0
          ·rw [if_pos c28] at H
           have c28b0 : decide (0 < t805) = true := decide_eq_true c28
           clear c28
           replace H := Option.bind_eq_some_iff.mp H
           obtain ⟨⟨t813, t814⟩, A290, H⟩ := H
           replace H : (if t814 = true then (if t813 ≥ t803 then (some false) else (laws_FnNext.j2 kj21 l1)) else (some false)) = some r := H
           have A29 := Aside0.mk A290
           clear A290
           by_cases c30 : t814 = true
           ·subst c30
            have H1 : (if t813 ≥ t803 then (some false) else (laws_FnNext.j2 kj21 l1)) = some r := by rw [if_pos rfl] at H; exact H
            clear H
            have H := H1
            clear H1
            by_cases c31 : t813 ≥ t803
            ·rw [if_pos c31] at H
             have c31b0 : decide (t803 ≤ t813) = true := decide_eq_true c31
             clear c31
             exact absurd HT.out (by have H9 := Option.some.inj H; rw [← H9]; decide)
            ·rw [if_neg c31] at H
             have c31b0 : decide (t803 ≤ t813) = false := decide_eq_false c31
             clear c31
             have H' := Aside0.mk H
             clear H
             have hcz32_0 : wc.cell? ⟨gb804, 0, none⟩ = some (.int .i64 t795) := (blk_cell BK804.out 0).trans rfl
             have hcz32_1 : wc.cell? ⟨gb804, 1, none⟩ = some (.int .i64 t796) := (blk_cell BK804.out 1).trans rfl
             have hcz32_2 : wc.cell? ⟨gb804, 2, none⟩ = some (.slice Ao11 t797.length co11) := (blk_cell BK804.out 2).trans rfl
             have hcz32_3 : wc.cell? ⟨gb804, 3, none⟩ = some (.slice Ao12 t800.length co12) := (blk_cell BK804.out 3).trans rfl
             have hfz32_0 := blk_frozen BK804.out 0
             have hfz32_1 := blk_frozen BK804.out 1
             have hfz32_2 := blk_frozen BK804.out 2
             have hfz32_3 := blk_frozen BK804.out 3
             go_wp2_with (first | ((with_reducible refine gate_callee (f := 28) rfl ?_); refine goesL_ (some 100) rfl rfl Try.func28 (by kernel_rfl) rfl #[.agg #[.int .i64 t795, .int .i64 t796, .slice Ao11 t797.length co11, .slice Ao12 t800.length co12], .int .i64 (wrap64 (t805 - 1))] rfl (ag_) ?_; (with_reducible refine (impl_NumberAt.calls kj21 t795 t796 _ _ t797 _ _ t800 (wrap64 (t805 - 1)) t813 true _ ?side1 ?side2 ?side3 ?side4 A29.out).mono ?_); (case side1 => refine cd_ ?_; exact (Kd.R_reads' HO_805002.out).2.2); (case side2 => exact (Kd.R_reads' HO_805002.out).2.1); (case side3 => refine cd_ ?_; exact (Kd.R_reads' HO_805003.out).2.2); (case side4 => exact (Kd.R_reads' HO_805003.out).2.1); rintro e w33 ⟨rfl, hb⟩; refine ⟨_, rfl, ?_⟩; have n0_ := Aside0.mk (Kd.R_below (rk_ HO_805002.out) hb); have n1_ := Aside0.mk (Kd.R_below (rk_ HO_805003.out) hb); have n2_ := Aside0.mk (blk_below (g := gb804) (o := .cells #[.int .i64 t795, .int .i64 t796, .slice Ao11 t797.length co11, .slice Ao12 t800.length co12] 25 (0, 0)) (pk_ BK804.out) hb); have n3_ := Aside0.mk (bs_ HB.out hb); clear HO_805002; clear HO_805003; clear BK804; clear HB; have HO_805002 := n0_; have HO_805003 := n1_; have BK804 := n2_; have HB := n3_; clear n0_ n1_ n2_ n3_; (try clear hb); (try clear hb2); (try clear hk); (try clear hi)))
             go_meet
             case rel => exact ⟨_, H', ⟨by have := HJ6.out; have := HJ21.out; first | omega | exact Nat.le_refl _⟩, ⟨by (with_reducible repeat (first | apply Kd.R_alloc | apply Kd.R_drewN | apply Kd.R_drew)); exact HO_805002.out⟩, ⟨by (with_reducible repeat (first | apply Kd.R_alloc | apply Kd.R_drewN | apply Kd.R_drew)); exact HO_805003.out⟩, ⟨by (with_reducible repeat (first | refine blk_drewN ?_ _ | refine blk_drew ?_ | refine blk_alloc ?_ _)); exact BK804.out⟩, ⟨by repeat (first | (with_reducible first | exact HB.out | apply below_alloc | apply pw_below_drewN | apply below_drew1 | refine below_set ?_ GE804.out) | exact HB.out)⟩⟩
           ·replace c30 := Bool.eq_false_iff.mpr c30
            subst c30
            have H1 : (some false) = some r := by rw [if_neg (show ¬ (false = true) by decide)] at H; exact H
            clear H
            have H := H1
            clear H1
            exact absurd HT.out (by have H9 := Option.some.inj H; rw [← H9]; decide)
          ·rw [if_neg c28] at H
           have c28b0 : decide (0 < t805) = false := decide_eq_false c28
           clear c28
           have H' := Aside0.mk H
           clear H
           go_wp2
           go_meet
           case rel => exact ⟨_, H', ⟨by have := HJ6.out; have := HJ21.out; first | omega | exact Nat.le_refl _⟩, ⟨by (with_reducible repeat (first | apply Kd.R_alloc | apply Kd.R_drewN | apply Kd.R_drew)); exact HO_805002.out⟩, ⟨by (with_reducible repeat (first | apply Kd.R_alloc | apply Kd.R_drewN | apply Kd.R_drew)); exact HO_805003.out⟩, ⟨by (with_reducible repeat (first | refine blk_drewN ?_ _ | refine blk_drew ?_ | refine blk_alloc ?_ _)); exact BK804.out⟩, ⟨by repeat (first | (with_reducible first | exact HB.out | apply below_alloc | apply pw_below_drewN | apply below_drew1 | refine below_set ?_ GE804.out) | exact HB.out)⟩⟩
      ·replace c20 := Bool.eq_false_iff.mpr c20
       subst c20
       have H1 : (laws_FnNext.j2 kj6 l1) = some r := by rw [if_neg (show ¬ (false = true) by decide)] at H; exact H
       clear H
       have H := H1
       clear H1
       have H' := Aside0.mk H
       clear H
       go_wp2
       go_meet
       case rel => exact ⟨_, H', ⟨by have := HJ6.out; first | omega | exact Nat.le_refl _⟩, ⟨by (with_reducible repeat (first | apply Kd.R_alloc | apply Kd.R_drewN | apply Kd.R_drew)); exact HO_805002.out⟩, ⟨by (with_reducible repeat (first | apply Kd.R_alloc | apply Kd.R_drewN | apply Kd.R_drew)); exact HO_805003.out⟩, ⟨by (with_reducible repeat (first | refine blk_drewN ?_ _ | refine blk_drew ?_ | refine blk_alloc ?_ _)); exact BK804.out⟩, ⟨by repeat (first | (with_reducible first | exact HB.out | apply below_alloc | apply pw_below_drewN | apply below_drew1 | refine below_set ?_ GE804.out) | exact HB.out)⟩⟩
     case rest =>
      clear HC19
      (try clear c1); (try clear c2); (try clear p2); (try clear c3); (try clear c3b0); (try clear c4); (try clear p6); (try clear c11); (try clear c16); (try clear c16b0); (try clear c16b1); (try clear c16b2); (try clear c17); (try clear c17b0); (try clear c17b1); (try clear c18); (try clear c20); (try clear c25); (try clear c26); (try clear c26b0); (try clear c26b1); (try clear c27); (try clear c28); (try clear c28b0); (try clear c29); (try clear c30); (try clear c31); (try clear c31b0); (try clear hcz10_0); (try clear hcz10_1); (try clear hcz10_2); (try clear hcz10_3); (try clear hcz14_0); (try clear hcz14_1); (try clear hcz14_2); (try clear hcz14_3); (try clear hcz23_0); (try clear hcz23_1); (try clear hcz23_2); (try clear hcz23_3); (try clear hcz32_0); (try clear hcz32_1); (try clear hcz32_2); (try clear hcz32_3); (try clear hfz10_0); (try clear hfz10_1); (try clear hfz10_2); (try clear hfz10_3); (try clear hfz14_0); (try clear hfz14_1); (try clear hfz14_2); (try clear hfz14_3); (try clear hfz23_0); (try clear hfz23_1); (try clear hfz23_2); (try clear hfz23_3); (try clear hfz32_0); (try clear hfz32_1); (try clear hfz32_2); (try clear hfz32_3); (try clear p2); (try clear p6)
      obtain ⟨kq, HA, HJ18, HO_805002, HO_805003, BK804, HB⟩ := hcut
      cases kq with
      | zero => exact absurd HA.out (by simp [laws_FnNext.j2])
      | succ kj18 =>
       have H := HA.out
       clear HA
       simp only [laws_FnNext.j2] at H
       replace H := Option.bind_eq_some_iff.mp H
       obtain ⟨⟨t815, t816, t817, t820, t823, t824, t825, t828⟩, A340, H⟩ := H
       replace H : ((impl_MeetPacked.f kj18 t815 t816 t817 t820 t823 t824 t825 t828).bind fun bt833 => ((spec_MeetPacked.f kj18 t815 t816 t817 t820 t823 t824 t825 t828).bind fun bt837 => (if (bt833.2 != bt837.2) = true then (laws_FnNext.j3 kj18 l1 bt833.1 bt833.2 true t815 t816 t817 t820 t823 t824 t825 t828) else ((laws_sameInts.f kj18 bt833.1 bt837.1).bind fun t841 => (laws_FnNext.j3 kj18 l1 bt833.1 bt833.2 (!t841) t815 t816 t817 t820 t823 t824 t825 t828))))) = some r := H
       have A34 := Aside0.mk A340
       clear A340
       replace H := Option.bind_eq_some_iff.mp H
       obtain ⟨⟨t833, t836⟩, A350, H⟩ := H
       replace H : ((spec_MeetPacked.f kj18 t815 t816 t817 t820 t823 t824 t825 t828).bind fun bt837 => (if (t836 != bt837.2) = true then (laws_FnNext.j3 kj18 l1 t833 t836 true t815 t816 t817 t820 t823 t824 t825 t828) else ((laws_sameInts.f kj18 t833 bt837.1).bind fun t841 => (laws_FnNext.j3 kj18 l1 t833 t836 (!t841) t815 t816 t817 t820 t823 t824 t825 t828)))) = some r := H
       have A35 := Aside0.mk A350
       clear A350
       replace H := Option.bind_eq_some_iff.mp H
       obtain ⟨⟨t837, t840⟩, A360, H⟩ := H
       replace H : (if (t836 != t840) = true then (laws_FnNext.j3 kj18 l1 t833 t836 true t815 t816 t817 t820 t823 t824 t825 t828) else ((laws_sameInts.f kj18 t833 t837).bind fun t841 => (laws_FnNext.j3 kj18 l1 t833 t836 (!t841) t815 t816 t817 t820 t823 t824 t825 t828))) = some r := H
       have A36 := Aside0.mk A360
       clear A360
       have HC37 := Aside0.mk H
       clear H
       go_upto_region 19 with (first | ((with_reducible refine gate_callee (f := 43) rfl ?_); refine goesL_ (some 112) rfl rfl Try.func43 (by kernel_rfl) rfl #[.slice A1 l1.length c1] rfl (ag_) ?_; (with_reducible refine (spec_DrawMeetPacked.calls kj18 _ _ l1 t815 t816 t817 t820 t823 t824 t825 t828 _ ?side1 ?side2 A34.out).mono ?_); (case side1 => refine cd_ ?_; exact (Kd.C_below HR1.out HB.out)); (case side2 => exact HC1.out); rintro e w38 ⟨v818, v821, v826, v829, rfl, ho0, ho1, ho2, ho3, hb⟩; refine ⟨_, rfl, ?_⟩; have n0_ := Aside0.mk (Kd.R_mono (Kd.R_told (Kd.R_told (Kd.R_old (rk_ HO_805002.out) hb) (Kd.R_base ho0)) (Kd.R_base ho2)) (fun _ h_ => h_.1)); have n1_ := Aside0.mk (Kd.R_mono (Kd.R_told (Kd.R_told (Kd.R_old (rk_ HO_805003.out) hb) (Kd.R_base ho1)) (Kd.R_base ho3)) (fun _ h_ => h_.1)); have n2_ := Aside0.mk (Kd.R_lower (Kd.R_new' ho0 (Kd.R_lt (rk_ HO_805002.out))) (bw_ HB.out)); have n3_ := Aside0.mk (Kd.R_lower (Kd.R_new' ho1 (Kd.R_lt (rk_ HO_805003.out))) (bw_ HB.out)); have n4_ := Aside0.mk (Kd.R_lower (Kd.R_new' ho2 (Kd.R_lt (rk_ HO_805002.out))) (bw_ HB.out)); have n5_ := Aside0.mk (Kd.R_lower (Kd.R_new' ho3 (Kd.R_lt (rk_ HO_805003.out))) (bw_ HB.out)); have n6_ := Aside0.mk (blk_below (g := gb804) (o := .cells #[.int .i64 t795, .int .i64 t796, .slice Ao11 t797.length co11, .slice Ao12 t800.length co12] 25 (0, 0)) (pk_ BK804.out) hb); have n7_ := Aside0.mk (bs_ HB.out hb); clear HO_805002; clear HO_805003; clear BK804; clear HB; have HO_805002 := n0_; have HO_805003 := n1_; have HO819 := n2_; have HO822 := n3_; have HO827 := n4_; have HO830 := n5_; have BK804 := n6_; have HB := n7_; clear n0_ n1_ n2_ n3_ n4_ n5_ n6_ n7_; (try clear hb); (try clear hb2); (try clear hk); (try clear hi); (try clear ho0); (try clear ho1); (try clear ho2); (try clear ho3)) | ((with_reducible refine gate_dst (N := 17) rfl ?_); refine box_event ?hg (N := 17) ?hd (cs := #[.int .i64 0, .int .i64 0, .slice none 0 0, .slice none 0 0]) (t := 25) ?hr ?_; (case hd => rfl); (case hg => rfl); (case hr => first | (go_simp; done) | (go_simp; rfl)); intro gb831 hg w39 hbox hb; have n0_ := Aside0.mk (Kd.R_below (rk_ HO_805002.out) hb); have n1_ := Aside0.mk (Kd.R_below (rk_ HO_805003.out) hb); have n2_ := Aside0.mk (Kd.R_below (rk_ HO819.out) hb); have n3_ := Aside0.mk (Kd.R_below (rk_ HO822.out) hb); have n4_ := Aside0.mk (Kd.R_below (rk_ HO827.out) hb); have n5_ := Aside0.mk (Kd.R_below (rk_ HO830.out) hb); have n6_ := Aside0.mk (blk_below (g := gb804) (o := .cells #[.int .i64 t795, .int .i64 t796, .slice Ao11 t797.length co11, .slice Ao12 t800.length co12] 25 (0, 0)) (pk_ BK804.out) hb); have n7_ := Aside0.mk (bs_ HB.out hb); have n8_ := Aside0.mk (hbox); have n9_ := Aside0.mk ((by rw [hg]; exact (bw_ HB.out) : w.heap.size ≤ gb831)); have n10_ := Aside0.mk ((by rw [hg]; exact (bw_ HB.out) : w.heap.size ≤ gb831)); have n11_ := Aside0.mk ((by rw [hg]; exact Nat.ne_of_lt (blk_lt (g := gb804) (o := .cells #[.int .i64 t795, .int .i64 t796, .slice Ao11 t797.length co11, .slice Ao12 t800.length co12] 25 (0, 0)) (pk_ BK804.out)) : gb804 ≠ gb831)); have n12_ := Aside0.mk ((by rw [hg]; exact Nat.ne_of_gt (blk_lt (g := gb804) (o := .cells #[.int .i64 t795, .int .i64 t796, .slice Ao11 t797.length co11, .slice Ao12 t800.length co12] 25 (0, 0)) (pk_ BK804.out)) : gb831 ≠ gb804)); clear HO_805002; clear HO_805003; clear HO819; clear HO822; clear HO827; clear HO830; clear BK804; clear HB; have HO_805002 := n0_; have HO_805003 := n1_; have HO819 := n2_; have HO822 := n3_; have HO827 := n4_; have HO830 := n5_; have BK804 := n6_; have HB := n7_; have BK831 := n8_; have GW831 := n9_; have GE831 := n10_; have NB804_831 := n11_; have NB831_804 := n12_; clear n0_ n1_ n2_ n3_ n4_ n5_ n6_ n7_ n8_ n9_ n10_ n11_ n12_; clear hb hbox hg) | ((with_reducible refine gate_dst (N := 18) rfl ?_); refine box_event ?hg (N := 18) ?hd (cs := #[.int .i64 0, .int .i64 0, .slice none 0 0, .slice none 0 0]) (t := 25) ?hr ?_; (case hd => rfl); (case hg => rfl); (case hr => first | (go_simp; done) | (go_simp; rfl)); intro gb832 hg w40 hbox hb; have n0_ := Aside0.mk (Kd.R_below (rk_ HO_805002.out) hb); have n1_ := Aside0.mk (Kd.R_below (rk_ HO_805003.out) hb); have n2_ := Aside0.mk (Kd.R_below (rk_ HO819.out) hb); have n3_ := Aside0.mk (Kd.R_below (rk_ HO822.out) hb); have n4_ := Aside0.mk (Kd.R_below (rk_ HO827.out) hb); have n5_ := Aside0.mk (Kd.R_below (rk_ HO830.out) hb); have n6_ := Aside0.mk (blk_below (g := gb804) (o := .cells #[.int .i64 t795, .int .i64 t796, .slice Ao11 t797.length co11, .slice Ao12 t800.length co12] 25 (0, 0)) (pk_ BK804.out) hb); have n7_ := Aside0.mk (blk_below (g := gb831) (o := .cells #[.int .i64 0, .int .i64 0, .slice none 0 0, .slice none 0 0] 25 (0, 0)) (pk_ BK831.out) hb); have n8_ := Aside0.mk (bs_ HB.out hb); have n9_ := Aside0.mk (hbox); have n10_ := Aside0.mk ((by rw [hg]; exact (bw_ HB.out) : w.heap.size ≤ gb832)); have n11_ := Aside0.mk ((by rw [hg]; exact (bw_ HB.out) : w.heap.size ≤ gb832)); have n12_ := Aside0.mk ((by rw [hg]; exact Nat.ne_of_lt (blk_lt (g := gb804) (o := .cells #[.int .i64 t795, .int .i64 t796, .slice Ao11 t797.length co11, .slice Ao12 t800.length co12] 25 (0, 0)) (pk_ BK804.out)) : gb804 ≠ gb832)); have n13_ := Aside0.mk ((by rw [hg]; exact Nat.ne_of_gt (blk_lt (g := gb804) (o := .cells #[.int .i64 t795, .int .i64 t796, .slice Ao11 t797.length co11, .slice Ao12 t800.length co12] 25 (0, 0)) (pk_ BK804.out)) : gb832 ≠ gb804)); have n14_ := Aside0.mk ((by rw [hg]; exact Nat.ne_of_lt (blk_lt (g := gb831) (o := .cells #[.int .i64 0, .int .i64 0, .slice none 0 0, .slice none 0 0] 25 (0, 0)) (pk_ BK831.out)) : gb831 ≠ gb832)); have n15_ := Aside0.mk ((by rw [hg]; exact Nat.ne_of_gt (blk_lt (g := gb831) (o := .cells #[.int .i64 0, .int .i64 0, .slice none 0 0, .slice none 0 0] 25 (0, 0)) (pk_ BK831.out)) : gb832 ≠ gb831)); clear HO_805002; clear HO_805003; clear HO819; clear HO822; clear HO827; clear HO830; clear BK804; clear BK831; clear HB; have HO_805002 := n0_; have HO_805003 := n1_; have HO819 := n2_; have HO822 := n3_; have HO827 := n4_; have HO830 := n5_; have BK804 := n6_; have BK831 := n7_; have HB := n8_; have BK832 := n9_; have GW832 := n10_; have GE832 := n11_; have NB804_832 := n12_; have NB832_804 := n13_; have NB831_832 := n14_; have NB832_831 := n15_; clear n0_ n1_ n2_ n3_ n4_ n5_ n6_ n7_ n8_ n9_ n10_ n11_ n12_ n13_ n14_ n15_; clear hb hbox hg; have hnb41 := NB831_804.out; have hnc41 := NB804_831.out; have hnb42 := NB831_832.out; have hnc42 := NB832_831.out; have hcz43_0 : w40.cell? ⟨gb831, 0, none⟩ = some (.int .i64 0) := (blk_cell BK831.out 0).trans rfl; have hcz43_1 : w40.cell? ⟨gb831, 1, none⟩ = some (.int .i64 0) := (blk_cell BK831.out 1).trans rfl; have hcz43_2 : w40.cell? ⟨gb831, 2, none⟩ = some (.slice none 0 0) := (blk_cell BK831.out 2).trans rfl; have hcz43_3 : w40.cell? ⟨gb831, 3, none⟩ = some (.slice none 0 0) := (blk_cell BK831.out 3).trans rfl; have hfz43_0 := blk_frozen BK831.out 0; have hfz43_1 := blk_frozen BK831.out 1; have hfz43_2 := blk_frozen BK831.out 2; have hfz43_3 := blk_frozen BK831.out 3; obtain ⟨Ao44, co44, eo44⟩ := Kd.R_slice HO819.out; subst eo44; obtain ⟨Ao45, co45, eo45⟩ := Kd.R_slice HO822.out; subst eo45; have hnb46 := NB832_804.out; have hnc46 := NB804_832.out; have hcz47_0 : w40.cell? ⟨gb832, 0, none⟩ = some (.int .i64 0) := (blk_cell BK832.out 0).trans rfl; have hcz47_1 : w40.cell? ⟨gb832, 1, none⟩ = some (.int .i64 0) := (blk_cell BK832.out 1).trans rfl; have hcz47_2 : w40.cell? ⟨gb832, 2, none⟩ = some (.slice none 0 0) := (blk_cell BK832.out 2).trans rfl; have hcz47_3 : w40.cell? ⟨gb832, 3, none⟩ = some (.slice none 0 0) := (blk_cell BK832.out 3).trans rfl; have hfz47_0 := blk_frozen BK832.out 0; have hfz47_1 := blk_frozen BK832.out 1; have hfz47_2 := blk_frozen BK832.out 2; have hfz47_3 := blk_frozen BK832.out 3; obtain ⟨Ao48, co48, eo48⟩ := Kd.R_slice HO827.out; subst eo48; obtain ⟨Ao49, co49, eo49⟩ := Kd.R_slice HO830.out; subst eo49) | ((with_reducible refine gate_callee (f := 34) rfl ?_); refine goesL_ (some 118) rfl rfl Try.func34 (by kernel_rfl) rfl #[.agg #[.int .i64 t815, .int .i64 t816, .slice Ao44 t817.length co44, .slice Ao45 t820.length co45], .agg #[.int .i64 t823, .int .i64 t824, .slice Ao48 t825.length co48, .slice Ao49 t828.length co49]] rfl (ag_) ?_; (with_reducible refine (impl_MeetPacked.calls kj18 t815 t816 _ _ t817 _ _ t820 t823 t824 _ _ t825 _ _ t828 t833 t836 _ ?side1 ?side2 ?side3 ?side4 ?side5 ?side6 ?side7 ?side8 A35.out).mono ?_); (case side1 => refine (Kd.R_reads' (e := 3) (base := w.heap.size) (ok := fun k_ => (some k_ ≠ (.slice Ao48 t825.length co48 : Value).ownBlock ∧ some k_ ≠ (.slice Ao11 t797.length co11 : Value).ownBlock)) (n := t817.length) (c := co44) ?_).2.2; exact (by (with_reducible repeat (first | apply Kd.R_alloc | apply Kd.R_drewN | apply Kd.R_drew)); exact (Kd.R_mono (Kd.R_mono (Kd.R_far (p := ⟨gb832, 3, none⟩) (Kd.R_far (p := ⟨gb832, 2, none⟩) (Kd.R_far (p := ⟨gb832, 1, none⟩) (Kd.R_far (p := ⟨gb832, 0, none⟩) (Kd.R_far (p := ⟨gb831, 3, none⟩) (Kd.R_far (p := ⟨gb831, 2, none⟩) (Kd.R_far (p := ⟨gb831, 1, none⟩) (Kd.R_far (p := ⟨gb831, 0, none⟩) (Kd.R_types (Kd.R_types HO819.out BK831.out (by decide)) BK832.out (by decide)) (fun _ hk => hk.1.2) (.int .i64 t815)) (fun _ hk => hk.1.2) (.int .i64 t816)) (fun _ hk => hk.1.2) (.slice Ao44 t817.length co44)) (fun _ hk => hk.1.2) (.slice Ao45 t820.length co45)) (fun _ hk => hk.2) (.int .i64 t823)) (fun _ hk => hk.2) (.int .i64 t824)) (fun _ hk => hk.2) (.slice Ao48 t825.length co48)) (fun _ hk => hk.2) (.slice Ao49 t828.length co49)) (fun _ h_ => h_.1)) (fun _ h_ => h_.1)))); (case side2 => exact (Kd.R_reads' HO819.out).2.1); (case side3 => refine (Kd.R_reads' (e := 4) (base := w.heap.size) (ok := fun k_ => (some k_ ≠ (.slice Ao49 t828.length co49 : Value).ownBlock ∧ some k_ ≠ (.slice Ao12 t800.length co12 : Value).ownBlock)) (n := t820.length) (c := co45) ?_).2.2; exact (by (with_reducible repeat (first | apply Kd.R_alloc | apply Kd.R_drewN | apply Kd.R_drew)); exact (Kd.R_mono (Kd.R_mono (Kd.R_far (p := ⟨gb832, 3, none⟩) (Kd.R_far (p := ⟨gb832, 2, none⟩) (Kd.R_far (p := ⟨gb832, 1, none⟩) (Kd.R_far (p := ⟨gb832, 0, none⟩) (Kd.R_far (p := ⟨gb831, 3, none⟩) (Kd.R_far (p := ⟨gb831, 2, none⟩) (Kd.R_far (p := ⟨gb831, 1, none⟩) (Kd.R_far (p := ⟨gb831, 0, none⟩) (Kd.R_types (Kd.R_types HO822.out BK831.out (by decide)) BK832.out (by decide)) (fun _ hk => hk.1.2) (.int .i64 t815)) (fun _ hk => hk.1.2) (.int .i64 t816)) (fun _ hk => hk.1.2) (.slice Ao44 t817.length co44)) (fun _ hk => hk.1.2) (.slice Ao45 t820.length co45)) (fun _ hk => hk.2) (.int .i64 t823)) (fun _ hk => hk.2) (.int .i64 t824)) (fun _ hk => hk.2) (.slice Ao48 t825.length co48)) (fun _ hk => hk.2) (.slice Ao49 t828.length co49)) (fun _ h_ => h_.1)) (fun _ h_ => h_.1)))); (case side4 => exact (Kd.R_reads' HO822.out).2.1); (case side5 => refine (Kd.R_reads' (e := 3) (base := w.heap.size) (ok := fun k_ => (some k_ ≠ (.slice Ao44 t817.length co44 : Value).ownBlock ∧ some k_ ≠ (.slice Ao11 t797.length co11 : Value).ownBlock)) (n := t825.length) (c := co48) ?_).2.2; exact (by (with_reducible repeat (first | apply Kd.R_alloc | apply Kd.R_drewN | apply Kd.R_drew)); exact (Kd.R_mono (Kd.R_mono (Kd.R_far (p := ⟨gb832, 3, none⟩) (Kd.R_far (p := ⟨gb832, 2, none⟩) (Kd.R_far (p := ⟨gb832, 1, none⟩) (Kd.R_far (p := ⟨gb832, 0, none⟩) (Kd.R_far (p := ⟨gb831, 3, none⟩) (Kd.R_far (p := ⟨gb831, 2, none⟩) (Kd.R_far (p := ⟨gb831, 1, none⟩) (Kd.R_far (p := ⟨gb831, 0, none⟩) (Kd.R_types (Kd.R_types HO827.out BK831.out (by decide)) BK832.out (by decide)) (fun _ hk => hk.1.2) (.int .i64 t815)) (fun _ hk => hk.1.2) (.int .i64 t816)) (fun _ hk => hk.1.2) (.slice Ao44 t817.length co44)) (fun _ hk => hk.1.2) (.slice Ao45 t820.length co45)) (fun _ hk => hk.2) (.int .i64 t823)) (fun _ hk => hk.2) (.int .i64 t824)) (fun _ hk => hk.2) (.slice Ao48 t825.length co48)) (fun _ hk => hk.2) (.slice Ao49 t828.length co49)) (fun _ h_ => h_.1)) (fun _ h_ => h_.1)))); (case side6 => exact (Kd.R_reads' HO827.out).2.1); (case side7 => refine (Kd.R_reads' (e := 4) (base := w.heap.size) (ok := fun k_ => (some k_ ≠ (.slice Ao45 t820.length co45 : Value).ownBlock ∧ some k_ ≠ (.slice Ao12 t800.length co12 : Value).ownBlock)) (n := t828.length) (c := co49) ?_).2.2; exact (by (with_reducible repeat (first | apply Kd.R_alloc | apply Kd.R_drewN | apply Kd.R_drew)); exact (Kd.R_mono (Kd.R_mono (Kd.R_far (p := ⟨gb832, 3, none⟩) (Kd.R_far (p := ⟨gb832, 2, none⟩) (Kd.R_far (p := ⟨gb832, 1, none⟩) (Kd.R_far (p := ⟨gb832, 0, none⟩) (Kd.R_far (p := ⟨gb831, 3, none⟩) (Kd.R_far (p := ⟨gb831, 2, none⟩) (Kd.R_far (p := ⟨gb831, 1, none⟩) (Kd.R_far (p := ⟨gb831, 0, none⟩) (Kd.R_types (Kd.R_types HO830.out BK831.out (by decide)) BK832.out (by decide)) (fun _ hk => hk.1.2) (.int .i64 t815)) (fun _ hk => hk.1.2) (.int .i64 t816)) (fun _ hk => hk.1.2) (.slice Ao44 t817.length co44)) (fun _ hk => hk.1.2) (.slice Ao45 t820.length co45)) (fun _ hk => hk.2) (.int .i64 t823)) (fun _ hk => hk.2) (.int .i64 t824)) (fun _ hk => hk.2) (.slice Ao48 t825.length co48)) (fun _ hk => hk.2) (.slice Ao49 t828.length co49)) (fun _ h_ => h_.1)) (fun _ h_ => h_.1)))); (case side8 => exact (Kd.R_reads' HO830.out).2.1); rintro e w50 ⟨v834, rfl, ho0, hb⟩; refine ⟨_, rfl, ?_⟩; have n0_ := Aside0.mk (Kd.R_elder' (by (with_reducible repeat (first | apply Kd.R_alloc | apply Kd.R_drewN | apply Kd.R_drew)); exact (Kd.R_mono (Kd.R_mono (Kd.R_far (p := ⟨gb832, 3, none⟩) (Kd.R_far (p := ⟨gb832, 2, none⟩) (Kd.R_far (p := ⟨gb832, 1, none⟩) (Kd.R_far (p := ⟨gb832, 0, none⟩) (Kd.R_far (p := ⟨gb831, 3, none⟩) (Kd.R_far (p := ⟨gb831, 2, none⟩) (Kd.R_far (p := ⟨gb831, 1, none⟩) (Kd.R_far (p := ⟨gb831, 0, none⟩) (Kd.R_types (Kd.R_types HO_805002.out BK831.out (by decide)) BK832.out (by decide)) (fun _ hk => hk.1.2) (.int .i64 t815)) (fun _ hk => hk.1.2) (.int .i64 t816)) (fun _ hk => hk.1.2) (.slice Ao44 t817.length co44)) (fun _ hk => hk.1.2) (.slice Ao45 t820.length co45)) (fun _ hk => hk.2) (.int .i64 t823)) (fun _ hk => hk.2) (.int .i64 t824)) (fun _ hk => hk.2) (.slice Ao48 t825.length co48)) (fun _ hk => hk.2) (.slice Ao49 t828.length co49)) (fun _ h_ => h_.1)) (fun _ h_ => h_.1))) (Kd.R_base ho0) hb); have n1_ := Aside0.mk (Kd.R_below (by refine rk_ ?_; exact (Kd.R_mono (Kd.R_mono (Kd.R_far (p := ⟨gb832, 3, none⟩) (Kd.R_far (p := ⟨gb832, 2, none⟩) (Kd.R_far (p := ⟨gb832, 1, none⟩) (Kd.R_far (p := ⟨gb832, 0, none⟩) (Kd.R_far (p := ⟨gb831, 3, none⟩) (Kd.R_far (p := ⟨gb831, 2, none⟩) (Kd.R_far (p := ⟨gb831, 1, none⟩) (Kd.R_far (p := ⟨gb831, 0, none⟩) (Kd.R_types (Kd.R_types HO_805003.out BK831.out (by decide)) BK832.out (by decide)) (fun _ hk => hk.1.2) (.int .i64 t815)) (fun _ hk => hk.1.2) (.int .i64 t816)) (fun _ hk => hk.1.2) (.slice Ao44 t817.length co44)) (fun _ hk => hk.1.2) (.slice Ao45 t820.length co45)) (fun _ hk => hk.2) (.int .i64 t823)) (fun _ hk => hk.2) (.int .i64 t824)) (fun _ hk => hk.2) (.slice Ao48 t825.length co48)) (fun _ hk => hk.2) (.slice Ao49 t828.length co49)) (fun _ h_ => h_.1)) (fun _ h_ => h_.1))) hb); have n2_ := Aside0.mk (Kd.R_elder' (by (with_reducible repeat (first | apply Kd.R_alloc | apply Kd.R_drewN | apply Kd.R_drew)); exact (Kd.R_mono (Kd.R_mono (Kd.R_far (p := ⟨gb832, 3, none⟩) (Kd.R_far (p := ⟨gb832, 2, none⟩) (Kd.R_far (p := ⟨gb832, 1, none⟩) (Kd.R_far (p := ⟨gb832, 0, none⟩) (Kd.R_far (p := ⟨gb831, 3, none⟩) (Kd.R_far (p := ⟨gb831, 2, none⟩) (Kd.R_far (p := ⟨gb831, 1, none⟩) (Kd.R_far (p := ⟨gb831, 0, none⟩) (Kd.R_types (Kd.R_types HO819.out BK831.out (by decide)) BK832.out (by decide)) (fun _ hk => hk.1.2) (.int .i64 t815)) (fun _ hk => hk.1.2) (.int .i64 t816)) (fun _ hk => hk.1.2) (.slice Ao44 t817.length co44)) (fun _ hk => hk.1.2) (.slice Ao45 t820.length co45)) (fun _ hk => hk.2) (.int .i64 t823)) (fun _ hk => hk.2) (.int .i64 t824)) (fun _ hk => hk.2) (.slice Ao48 t825.length co48)) (fun _ hk => hk.2) (.slice Ao49 t828.length co49)) (fun _ h_ => h_.1)) (fun _ h_ => h_.1))) (Kd.R_base ho0) hb); have n3_ := Aside0.mk (Kd.R_below (by refine rk_ ?_; exact (Kd.R_mono (Kd.R_mono (Kd.R_far (p := ⟨gb832, 3, none⟩) (Kd.R_far (p := ⟨gb832, 2, none⟩) (Kd.R_far (p := ⟨gb832, 1, none⟩) (Kd.R_far (p := ⟨gb832, 0, none⟩) (Kd.R_far (p := ⟨gb831, 3, none⟩) (Kd.R_far (p := ⟨gb831, 2, none⟩) (Kd.R_far (p := ⟨gb831, 1, none⟩) (Kd.R_far (p := ⟨gb831, 0, none⟩) (Kd.R_types (Kd.R_types HO822.out BK831.out (by decide)) BK832.out (by decide)) (fun _ hk => hk.1.2) (.int .i64 t815)) (fun _ hk => hk.1.2) (.int .i64 t816)) (fun _ hk => hk.1.2) (.slice Ao44 t817.length co44)) (fun _ hk => hk.1.2) (.slice Ao45 t820.length co45)) (fun _ hk => hk.2) (.int .i64 t823)) (fun _ hk => hk.2) (.int .i64 t824)) (fun _ hk => hk.2) (.slice Ao48 t825.length co48)) (fun _ hk => hk.2) (.slice Ao49 t828.length co49)) (fun _ h_ => h_.1)) (fun _ h_ => h_.1))) hb); have n4_ := Aside0.mk (Kd.R_elder' (by (with_reducible repeat (first | apply Kd.R_alloc | apply Kd.R_drewN | apply Kd.R_drew)); exact (Kd.R_mono (Kd.R_mono (Kd.R_far (p := ⟨gb832, 3, none⟩) (Kd.R_far (p := ⟨gb832, 2, none⟩) (Kd.R_far (p := ⟨gb832, 1, none⟩) (Kd.R_far (p := ⟨gb832, 0, none⟩) (Kd.R_far (p := ⟨gb831, 3, none⟩) (Kd.R_far (p := ⟨gb831, 2, none⟩) (Kd.R_far (p := ⟨gb831, 1, none⟩) (Kd.R_far (p := ⟨gb831, 0, none⟩) (Kd.R_types (Kd.R_types HO827.out BK831.out (by decide)) BK832.out (by decide)) (fun _ hk => hk.1.2) (.int .i64 t815)) (fun _ hk => hk.1.2) (.int .i64 t816)) (fun _ hk => hk.1.2) (.slice Ao44 t817.length co44)) (fun _ hk => hk.1.2) (.slice Ao45 t820.length co45)) (fun _ hk => hk.2) (.int .i64 t823)) (fun _ hk => hk.2) (.int .i64 t824)) (fun _ hk => hk.2) (.slice Ao48 t825.length co48)) (fun _ hk => hk.2) (.slice Ao49 t828.length co49)) (fun _ h_ => h_.1)) (fun _ h_ => h_.1))) (Kd.R_base ho0) hb); have n5_ := Aside0.mk (Kd.R_below (by refine rk_ ?_; exact (Kd.R_mono (Kd.R_mono (Kd.R_far (p := ⟨gb832, 3, none⟩) (Kd.R_far (p := ⟨gb832, 2, none⟩) (Kd.R_far (p := ⟨gb832, 1, none⟩) (Kd.R_far (p := ⟨gb832, 0, none⟩) (Kd.R_far (p := ⟨gb831, 3, none⟩) (Kd.R_far (p := ⟨gb831, 2, none⟩) (Kd.R_far (p := ⟨gb831, 1, none⟩) (Kd.R_far (p := ⟨gb831, 0, none⟩) (Kd.R_types (Kd.R_types HO830.out BK831.out (by decide)) BK832.out (by decide)) (fun _ hk => hk.1.2) (.int .i64 t815)) (fun _ hk => hk.1.2) (.int .i64 t816)) (fun _ hk => hk.1.2) (.slice Ao44 t817.length co44)) (fun _ hk => hk.1.2) (.slice Ao45 t820.length co45)) (fun _ hk => hk.2) (.int .i64 t823)) (fun _ hk => hk.2) (.int .i64 t824)) (fun _ hk => hk.2) (.slice Ao48 t825.length co48)) (fun _ hk => hk.2) (.slice Ao49 t828.length co49)) (fun _ h_ => h_.1)) (fun _ h_ => h_.1))) hb); have n6_ := Aside0.mk (Kd.R_lower (Kd.R_new' (Kd.R_new' (Kd.R_new' ho0 (Kd.R_lt (by (with_reducible repeat (first | apply Kd.R_alloc | apply Kd.R_drewN | apply Kd.R_drew)); exact (Kd.R_mono (Kd.R_mono (Kd.R_far (p := ⟨gb832, 3, none⟩) (Kd.R_far (p := ⟨gb832, 2, none⟩) (Kd.R_far (p := ⟨gb832, 1, none⟩) (Kd.R_far (p := ⟨gb832, 0, none⟩) (Kd.R_far (p := ⟨gb831, 3, none⟩) (Kd.R_far (p := ⟨gb831, 2, none⟩) (Kd.R_far (p := ⟨gb831, 1, none⟩) (Kd.R_far (p := ⟨gb831, 0, none⟩) (Kd.R_types (Kd.R_types HO_805002.out BK831.out (by decide)) BK832.out (by decide)) (fun _ hk => hk.1.2) (.int .i64 t815)) (fun _ hk => hk.1.2) (.int .i64 t816)) (fun _ hk => hk.1.2) (.slice Ao44 t817.length co44)) (fun _ hk => hk.1.2) (.slice Ao45 t820.length co45)) (fun _ hk => hk.2) (.int .i64 t823)) (fun _ hk => hk.2) (.int .i64 t824)) (fun _ hk => hk.2) (.slice Ao48 t825.length co48)) (fun _ hk => hk.2) (.slice Ao49 t828.length co49)) (fun _ h_ => h_.1)) (fun _ h_ => h_.1))))) (Kd.R_lt (by (with_reducible repeat (first | apply Kd.R_alloc | apply Kd.R_drewN | apply Kd.R_drew)); exact (Kd.R_mono (Kd.R_mono (Kd.R_far (p := ⟨gb832, 3, none⟩) (Kd.R_far (p := ⟨gb832, 2, none⟩) (Kd.R_far (p := ⟨gb832, 1, none⟩) (Kd.R_far (p := ⟨gb832, 0, none⟩) (Kd.R_far (p := ⟨gb831, 3, none⟩) (Kd.R_far (p := ⟨gb831, 2, none⟩) (Kd.R_far (p := ⟨gb831, 1, none⟩) (Kd.R_far (p := ⟨gb831, 0, none⟩) (Kd.R_types (Kd.R_types HO819.out BK831.out (by decide)) BK832.out (by decide)) (fun _ hk => hk.1.2) (.int .i64 t815)) (fun _ hk => hk.1.2) (.int .i64 t816)) (fun _ hk => hk.1.2) (.slice Ao44 t817.length co44)) (fun _ hk => hk.1.2) (.slice Ao45 t820.length co45)) (fun _ hk => hk.2) (.int .i64 t823)) (fun _ hk => hk.2) (.int .i64 t824)) (fun _ hk => hk.2) (.slice Ao48 t825.length co48)) (fun _ hk => hk.2) (.slice Ao49 t828.length co49)) (fun _ h_ => h_.1)) (fun _ h_ => h_.1))))) (Kd.R_lt (by (with_reducible repeat (first | apply Kd.R_alloc | apply Kd.R_drewN | apply Kd.R_drew)); exact (Kd.R_mono (Kd.R_mono (Kd.R_far (p := ⟨gb832, 3, none⟩) (Kd.R_far (p := ⟨gb832, 2, none⟩) (Kd.R_far (p := ⟨gb832, 1, none⟩) (Kd.R_far (p := ⟨gb832, 0, none⟩) (Kd.R_far (p := ⟨gb831, 3, none⟩) (Kd.R_far (p := ⟨gb831, 2, none⟩) (Kd.R_far (p := ⟨gb831, 1, none⟩) (Kd.R_far (p := ⟨gb831, 0, none⟩) (Kd.R_types (Kd.R_types HO827.out BK831.out (by decide)) BK832.out (by decide)) (fun _ hk => hk.1.2) (.int .i64 t815)) (fun _ hk => hk.1.2) (.int .i64 t816)) (fun _ hk => hk.1.2) (.slice Ao44 t817.length co44)) (fun _ hk => hk.1.2) (.slice Ao45 t820.length co45)) (fun _ hk => hk.2) (.int .i64 t823)) (fun _ hk => hk.2) (.int .i64 t824)) (fun _ hk => hk.2) (.slice Ao48 t825.length co48)) (fun _ hk => hk.2) (.slice Ao49 t828.length co49)) (fun _ h_ => h_.1)) (fun _ h_ => h_.1))))) (bw_ HB.out)); have n7_ := Aside0.mk (blk_below (g := gb804) (o := .cells #[.int .i64 t795, .int .i64 t796, .slice Ao11 t797.length co11, .slice Ao12 t800.length co12] 25 (0, 0)) (by refine pk_ ?_; refine blk_far ?_ NB804_832.out _; (with_reducible repeat (first | refine blk_drewN ?_ _ | refine blk_drew ?_ | refine blk_alloc ?_ _)); refine blk_far ?_ NB804_832.out _; (with_reducible repeat (first | refine blk_drewN ?_ _ | refine blk_drew ?_ | refine blk_alloc ?_ _)); refine blk_far ?_ NB804_832.out _; (with_reducible repeat (first | refine blk_drewN ?_ _ | refine blk_drew ?_ | refine blk_alloc ?_ _)); refine blk_far ?_ NB804_832.out _; (with_reducible repeat (first | refine blk_drewN ?_ _ | refine blk_drew ?_ | refine blk_alloc ?_ _)); refine blk_far ?_ NB804_831.out _; (with_reducible repeat (first | refine blk_drewN ?_ _ | refine blk_drew ?_ | refine blk_alloc ?_ _)); refine blk_far ?_ NB804_831.out _; (with_reducible repeat (first | refine blk_drewN ?_ _ | refine blk_drew ?_ | refine blk_alloc ?_ _)); refine blk_far ?_ NB804_831.out _; (with_reducible repeat (first | refine blk_drewN ?_ _ | refine blk_drew ?_ | refine blk_alloc ?_ _)); refine blk_far ?_ NB804_831.out _; (with_reducible repeat (first | refine blk_drewN ?_ _ | refine blk_drew ?_ | refine blk_alloc ?_ _)); exact BK804.out) hb); have n8_ := Aside0.mk (blk_below (g := gb831) (o := .cells #[.int .i64 t815, .int .i64 t816, .slice Ao44 t817.length co44, .slice Ao45 t820.length co45] 25 (0, 0)) (by refine pk_ ?_; refine blk_far ?_ NB831_832.out _; (with_reducible repeat (first | refine blk_drewN ?_ _ | refine blk_drew ?_ | refine blk_alloc ?_ _)); refine blk_far ?_ NB831_832.out _; (with_reducible repeat (first | refine blk_drewN ?_ _ | refine blk_drew ?_ | refine blk_alloc ?_ _)); refine blk_far ?_ NB831_832.out _; (with_reducible repeat (first | refine blk_drewN ?_ _ | refine blk_drew ?_ | refine blk_alloc ?_ _)); refine blk_far ?_ NB831_832.out _; (with_reducible repeat (first | refine blk_drewN ?_ _ | refine blk_drew ?_ | refine blk_alloc ?_ _)); refine blk_put (cs := #[.int .i64 t815, .int .i64 t816, .slice Ao44 t817.length co44, .slice none 0 0]) ?_ 3 _ rfl; (with_reducible repeat (first | refine blk_drewN ?_ _ | refine blk_drew ?_ | refine blk_alloc ?_ _)); refine blk_put (cs := #[.int .i64 t815, .int .i64 t816, .slice none 0 0, .slice none 0 0]) ?_ 2 _ rfl; (with_reducible repeat (first | refine blk_drewN ?_ _ | refine blk_drew ?_ | refine blk_alloc ?_ _)); refine blk_put (cs := #[.int .i64 t815, .int .i64 0, .slice none 0 0, .slice none 0 0]) ?_ 1 _ rfl; (with_reducible repeat (first | refine blk_drewN ?_ _ | refine blk_drew ?_ | refine blk_alloc ?_ _)); refine blk_put (cs := #[.int .i64 0, .int .i64 0, .slice none 0 0, .slice none 0 0]) ?_ 0 _ rfl; (with_reducible repeat (first | refine blk_drewN ?_ _ | refine blk_drew ?_ | refine blk_alloc ?_ _)); exact BK831.out) hb); have n9_ := Aside0.mk (blk_below (g := gb832) (o := .cells #[.int .i64 t823, .int .i64 t824, .slice Ao48 t825.length co48, .slice Ao49 t828.length co49] 25 (0, 0)) (by refine pk_ ?_; refine blk_put (cs := #[.int .i64 t823, .int .i64 t824, .slice Ao48 t825.length co48, .slice none 0 0]) ?_ 3 _ rfl; (with_reducible repeat (first | refine blk_drewN ?_ _ | refine blk_drew ?_ | refine blk_alloc ?_ _)); refine blk_put (cs := #[.int .i64 t823, .int .i64 t824, .slice none 0 0, .slice none 0 0]) ?_ 2 _ rfl; (with_reducible repeat (first | refine blk_drewN ?_ _ | refine blk_drew ?_ | refine blk_alloc ?_ _)); refine blk_put (cs := #[.int .i64 t823, .int .i64 0, .slice none 0 0, .slice none 0 0]) ?_ 1 _ rfl; (with_reducible repeat (first | refine blk_drewN ?_ _ | refine blk_drew ?_ | refine blk_alloc ?_ _)); refine blk_put (cs := #[.int .i64 0, .int .i64 0, .slice none 0 0, .slice none 0 0]) ?_ 0 _ rfl; (with_reducible repeat (first | refine blk_drewN ?_ _ | refine blk_drew ?_ | refine blk_alloc ?_ _)); refine blk_far ?_ NB832_831.out _; (with_reducible repeat (first | refine blk_drewN ?_ _ | refine blk_drew ?_ | refine blk_alloc ?_ _)); refine blk_far ?_ NB832_831.out _; (with_reducible repeat (first | refine blk_drewN ?_ _ | refine blk_drew ?_ | refine blk_alloc ?_ _)); refine blk_far ?_ NB832_831.out _; (with_reducible repeat (first | refine blk_drewN ?_ _ | refine blk_drew ?_ | refine blk_alloc ?_ _)); refine blk_far ?_ NB832_831.out _; (with_reducible repeat (first | refine blk_drewN ?_ _ | refine blk_drew ?_ | refine blk_alloc ?_ _)); exact BK832.out) hb); have n10_ := Aside0.mk (bs_ HB.out hb); clear HO_805002; clear HO_805003; clear HO819; clear HO822; clear HO827; clear HO830; clear BK804; clear BK831; clear BK832; clear HB; have HO_805002 := n0_; have HO_805003 := n1_; have HO819 := n2_; have HO822 := n3_; have HO827 := n4_; have HO830 := n5_; have HO835 := n6_; have BK804 := n7_; have BK831 := n8_; have BK832 := n9_; have HB := n10_; clear n0_ n1_ n2_ n3_ n4_ n5_ n6_ n7_ n8_ n9_ n10_; (try clear hb); (try clear hb2); (try clear hk); (try clear hi); (try clear ho0); have hcz51_0 : w50.cell? ⟨gb831, 0, none⟩ = some (.int .i64 t815) := (blk_cell BK831.out 0).trans rfl; have hcz51_1 : w50.cell? ⟨gb831, 1, none⟩ = some (.int .i64 t816) := (blk_cell BK831.out 1).trans rfl; have hcz51_2 : w50.cell? ⟨gb831, 2, none⟩ = some (.slice Ao44 t817.length co44) := (blk_cell BK831.out 2).trans rfl; have hcz51_3 : w50.cell? ⟨gb831, 3, none⟩ = some (.slice Ao45 t820.length co45) := (blk_cell BK831.out 3).trans rfl; have hfz51_0 := blk_frozen BK831.out 0; have hfz51_1 := blk_frozen BK831.out 1; have hfz51_2 := blk_frozen BK831.out 2; have hfz51_3 := blk_frozen BK831.out 3; have hcz52_0 : w50.cell? ⟨gb832, 0, none⟩ = some (.int .i64 t823) := (blk_cell BK832.out 0).trans rfl; have hcz52_1 : w50.cell? ⟨gb832, 1, none⟩ = some (.int .i64 t824) := (blk_cell BK832.out 1).trans rfl; have hcz52_2 : w50.cell? ⟨gb832, 2, none⟩ = some (.slice Ao48 t825.length co48) := (blk_cell BK832.out 2).trans rfl; have hcz52_3 : w50.cell? ⟨gb832, 3, none⟩ = some (.slice Ao49 t828.length co49) := (blk_cell BK832.out 3).trans rfl; have hfz52_0 := blk_frozen BK832.out 0; have hfz52_1 := blk_frozen BK832.out 1; have hfz52_2 := blk_frozen BK832.out 2; have hfz52_3 := blk_frozen BK832.out 3) | ((with_reducible refine gate_callee (f := 33) rfl ?_); refine goesL_ (some 124) rfl rfl Try.func33 (by kernel_rfl) rfl #[.agg #[.int .i64 t815, .int .i64 t816, .slice Ao44 t817.length co44, .slice Ao45 t820.length co45], .agg #[.int .i64 t823, .int .i64 t824, .slice Ao48 t825.length co48, .slice Ao49 t828.length co49]] rfl (ag_) ?_; (with_reducible refine (spec_MeetPacked.calls kj18 t815 t816 _ _ t817 _ _ t820 t823 t824 _ _ t825 _ _ t828 t837 t840 _ ?side1 ?side2 ?side3 ?side4 ?side5 ?side6 ?side7 ?side8 A36.out).mono ?_); (case side1 => refine cd_ ?_; exact (Kd.R_reads' HO819.out).2.2); (case side2 => exact (Kd.R_reads' HO819.out).2.1); (case side3 => refine cd_ ?_; exact (Kd.R_reads' HO822.out).2.2); (case side4 => exact (Kd.R_reads' HO822.out).2.1); (case side5 => refine cd_ ?_; exact (Kd.R_reads' HO827.out).2.2); (case side6 => exact (Kd.R_reads' HO827.out).2.1); (case side7 => refine cd_ ?_; exact (Kd.R_reads' HO830.out).2.2); (case side8 => exact (Kd.R_reads' HO830.out).2.1); rintro e w53 ⟨v838, rfl, ho0, hb⟩; refine ⟨_, rfl, ?_⟩; have n0_ := Aside0.mk (Kd.R_elder' (rk_ HO_805002.out) (Kd.R_base ho0) hb); have n1_ := Aside0.mk (Kd.R_below (rk_ HO_805003.out) hb); have n2_ := Aside0.mk (Kd.R_elder' (rk_ HO819.out) (Kd.R_base ho0) hb); have n3_ := Aside0.mk (Kd.R_below (rk_ HO822.out) hb); have n4_ := Aside0.mk (Kd.R_elder' (rk_ HO827.out) (Kd.R_base ho0) hb); have n5_ := Aside0.mk (Kd.R_below (rk_ HO830.out) hb); have n6_ := Aside0.mk (Kd.R_elder' (rk_ HO835.out) (Kd.R_base ho0) hb); have n7_ := Aside0.mk (Kd.R_lower (Kd.R_new' (Kd.R_new' (Kd.R_new' (Kd.R_new' ho0 (Kd.R_lt (rk_ HO_805002.out))) (Kd.R_lt (rk_ HO819.out))) (Kd.R_lt (rk_ HO827.out))) (Kd.R_lt (rk_ HO835.out))) (bw_ HB.out)); have n8_ := Aside0.mk (blk_below (g := gb804) (o := .cells #[.int .i64 t795, .int .i64 t796, .slice Ao11 t797.length co11, .slice Ao12 t800.length co12] 25 (0, 0)) (pk_ BK804.out) hb); have n9_ := Aside0.mk (blk_below (g := gb831) (o := .cells #[.int .i64 t815, .int .i64 t816, .slice Ao44 t817.length co44, .slice Ao45 t820.length co45] 25 (0, 0)) (pk_ BK831.out) hb); have n10_ := Aside0.mk (blk_below (g := gb832) (o := .cells #[.int .i64 t823, .int .i64 t824, .slice Ao48 t825.length co48, .slice Ao49 t828.length co49] 25 (0, 0)) (pk_ BK832.out) hb); have n11_ := Aside0.mk (bs_ HB.out hb); clear HO_805002; clear HO_805003; clear HO819; clear HO822; clear HO827; clear HO830; clear HO835; clear BK804; clear BK831; clear BK832; clear HB; have HO_805002 := n0_; have HO_805003 := n1_; have HO819 := n2_; have HO822 := n3_; have HO827 := n4_; have HO830 := n5_; have HO835 := n6_; have HO839 := n7_; have BK804 := n8_; have BK831 := n9_; have BK832 := n10_; have HB := n11_; clear n0_ n1_ n2_ n3_ n4_ n5_ n6_ n7_ n8_ n9_ n10_ n11_; (try clear hb); (try clear hb2); (try clear hk); (try clear hi); (try clear ho0)))
       (try simp only [Act.put, List.setIfInBounds_toArray, List.set_cons_zero, List.set_cons_succ])
       go_cut [135] (fun v135 wc => ∃ (kq : Nat) (x135_36 : Bool), v135 = .bool x135_36 ∧ Aside0 (laws_FnNext.j3 kq l1 t833 t836 x135_36 t815 t816 t817 t820 t823 t824 t825 t828 = some r) ∧ Aside0 (kq ≤ kj18) ∧ Aside0 (Kd.R (Kd.int .i64) 3 wc w.heap.size (fun k_ => some k_ ≠ ((.slice Ao11 t797.length co11) : Value).ownBlock ∧ some k_ ≠ ((.slice Ao44 t817.length co44) : Value).ownBlock ∧ some k_ ≠ ((.slice Ao48 t825.length co48) : Value).ownBlock) v834 t833) ∧ Aside0 (Kd.R (Kd.int .i64) 3 wc w.heap.size (fun k_ => some k_ ≠ (v834 : Value).ownBlock ∧ some k_ ≠ ((.slice Ao44 t817.length co44) : Value).ownBlock ∧ some k_ ≠ ((.slice Ao48 t825.length co48) : Value).ownBlock) (.slice Ao11 t797.length co11) t797) ∧ Aside0 (Kd.R Kd.bool 4 wc w.heap.size (fun k_ => some k_ ≠ ((.slice Ao45 t820.length co45) : Value).ownBlock ∧ some k_ ≠ ((.slice Ao49 t828.length co49) : Value).ownBlock) (.slice Ao12 t800.length co12) t800) ∧ Aside0 (Kd.R (Kd.int .i64) 3 wc w.heap.size (fun k_ => some k_ ≠ (v834 : Value).ownBlock ∧ some k_ ≠ ((.slice Ao11 t797.length co11) : Value).ownBlock ∧ some k_ ≠ ((.slice Ao48 t825.length co48) : Value).ownBlock) (.slice Ao44 t817.length co44) t817) ∧ Aside0 (Kd.R Kd.bool 4 wc w.heap.size (fun k_ => some k_ ≠ ((.slice Ao12 t800.length co12) : Value).ownBlock ∧ some k_ ≠ ((.slice Ao49 t828.length co49) : Value).ownBlock) (.slice Ao45 t820.length co45) t820) ∧ Aside0 (Kd.R (Kd.int .i64) 3 wc w.heap.size (fun k_ => some k_ ≠ (v834 : Value).ownBlock ∧ some k_ ≠ ((.slice Ao11 t797.length co11) : Value).ownBlock ∧ some k_ ≠ ((.slice Ao44 t817.length co44) : Value).ownBlock) (.slice Ao48 t825.length co48) t825) ∧ Aside0 (Kd.R Kd.bool 4 wc w.heap.size (fun k_ => some k_ ≠ ((.slice Ao12 t800.length co12) : Value).ownBlock ∧ some k_ ≠ ((.slice Ao45 t820.length co45) : Value).ownBlock) (.slice Ao49 t828.length co49) t828) ∧ Aside0 (wc.heap[gb804]? = some (.cells #[.int .i64 t795, .int .i64 t796, (.slice Ao11 t797.length co11), (.slice Ao12 t800.length co12)] 25 (0, 0))) ∧ Aside0 (wc.heap[gb831]? = some (.cells #[.int .i64 t815, .int .i64 t816, (.slice Ao44 t817.length co44), (.slice Ao45 t820.length co45)] 25 (0, 0))) ∧ Aside0 (wc.heap[gb832]? = some (.cells #[.int .i64 t823, .int .i64 t824, (.slice Ao48 t825.length co48), (.slice Ao49 t828.length co49)] 25 (0, 0))) ∧ Aside0 (Below w.heap.size w wc))
       case first =>
        have H := HC37.out
        clear HC37
        by_cases c54 : (t836 != t840) = true
        ·rw [if_pos c54] at H
         have c54b0 : (t836 != t840) = true := c54
         (try (have c54b1 : decide (t836 = t840) = false := by simpa using c54))
         (try (have c54b2 : (t836 == t840) = false := by simpa using c54))
         (try (have c54b3 : ¬ (t836 = t840) := by simpa using c54))
         clear c54
         (first | rw [c54b0] | (simp only [i64_w, i32_w]; rw [c54b0]) | rw [c54b1] | skip)
         exact (Go.Proofs.Ytcjebflldmiajaa.Gen.no_true H (by cases kj18 <;> simp [laws_FnNext.j3]) HT.out).elim
        ·rw [if_neg c54] at H
         have c54b0 : (t836 != t840) = false := by simpa using c54
         (try (have c54b1 : decide (t836 = t840) = true := by simpa using c54))
         (try (have c54b2 : (t836 == t840) = true := by simpa using c54))
         clear c54
         (first | rw [c54b0] | (simp only [i64_w, i32_w]; rw [c54b0]) | rw [c54b1] | skip)
         replace H := Option.bind_eq_some_iff.mp H
         obtain ⟨t841, A550, H⟩ := H
         replace H : (laws_FnNext.j3 kj18 l1 t833 t836 (!t841) t815 t816 t817 t820 t823 t824 t825 t828) = some r := H
         have A55 := Aside0.mk A550
         clear A550
         have H' := Aside0.mk H
         clear H
         obtain ⟨Ao56, co56, eo56⟩ := Kd.R_slice HO835.out
         subst eo56
         obtain ⟨Ao57, co57, eo57⟩ := Kd.R_slice HO839.out
         subst eo57
         go_wp2_with (first | (go_at_call 37; (with_reducible refine (laws_sameInts.calls kj18 _ _ t833 _ _ t837 t841 _ ?side1 ?side2 ?side3 ?side4 A55.out).mono ?_); (case side1 => refine cd_ ?_; exact (Kd.R_reads' HO835.out).2.2); (case side2 => exact (Kd.R_reads' HO835.out).2.1); (case side3 => refine cd_ ?_; exact (Kd.R_reads' HO839.out).2.2); (case side4 => exact (Kd.R_reads' HO839.out).2.1); rintro e w' ⟨rfl, ⟨nd, rfl⟩⟩))
         go_meet
         case rel => exact ⟨_, (!t841), (by first | rfl | (simp; done) | (simp [*]; done)), H', ⟨by have := HJ6.out; have := HJ18.out; first | omega | exact Nat.le_refl _⟩, ⟨by (with_reducible repeat (first | apply Kd.R_alloc | apply Kd.R_drewN | apply Kd.R_drew)); exact Kd.R_mono HO835.out (fun _ hk => ⟨hk.1.1.1.2, ⟨hk.1.1.2, hk.1.2⟩⟩)⟩, ⟨by (with_reducible repeat (first | apply Kd.R_alloc | apply Kd.R_drewN | apply Kd.R_drew)); exact Kd.R_mono HO_805002.out (fun _ hk => ⟨hk.1.2, ⟨hk.1.1.1.2, hk.1.1.2⟩⟩)⟩, ⟨by (with_reducible repeat (first | apply Kd.R_alloc | apply Kd.R_drewN | apply Kd.R_drew)); exact Kd.R_mono HO_805003.out (fun _ hk => ⟨hk.1.2, hk.2⟩)⟩, ⟨by (with_reducible repeat (first | apply Kd.R_alloc | apply Kd.R_drewN | apply Kd.R_drew)); exact Kd.R_mono HO819.out (fun _ hk => ⟨hk.1.2, ⟨hk.1.1.2, hk.1.1.1⟩⟩)⟩, ⟨by (with_reducible repeat (first | apply Kd.R_alloc | apply Kd.R_drewN | apply Kd.R_drew)); exact Kd.R_mono HO822.out (fun _ hk => ⟨hk.2, hk.1⟩)⟩, ⟨by (with_reducible repeat (first | apply Kd.R_alloc | apply Kd.R_drewN | apply Kd.R_drew)); exact Kd.R_mono HO827.out (fun _ hk => ⟨hk.1.2, ⟨hk.1.1.2, hk.1.1.1⟩⟩)⟩, ⟨by (with_reducible repeat (first | apply Kd.R_alloc | apply Kd.R_drewN | apply Kd.R_drew)); exact Kd.R_mono HO830.out (fun _ hk => ⟨hk.2, hk.1⟩)⟩, ⟨by (with_reducible repeat (first | refine blk_drewN ?_ _ | refine blk_drew ?_ | refine blk_alloc ?_ _)); exact BK804.out⟩, ⟨by (with_reducible repeat (first | refine blk_drewN ?_ _ | refine blk_drew ?_ | refine blk_alloc ?_ _)); exact BK831.out⟩, ⟨by (with_reducible repeat (first | refine blk_drewN ?_ _ | refine blk_drew ?_ | refine blk_alloc ?_ _)); exact BK832.out⟩, ⟨by repeat (first | (with_reducible first | exact HB.out | apply below_alloc | apply pw_below_drewN | apply below_drew1 | refine below_set ?_ GE804.out | refine below_set ?_ GE831.out | refine below_set ?_ GE832.out) | exact HB.out)⟩⟩
       case rest =>
        clear HC37
        (try clear c1); (try clear c2); (try clear p2); (try clear c3); (try clear c3b0); (try clear c4); (try clear c5); (try clear p6); (try clear c11); (try clear c16); (try clear c16b0); (try clear c16b1); (try clear c16b2); (try clear c17); (try clear c17b0); (try clear c17b1); (try clear c18); (try clear c20); (try clear c25); (try clear c26); (try clear c26b0); (try clear c26b1); (try clear c27); (try clear c28); (try clear c28b0); (try clear c29); (try clear c30); (try clear c31); (try clear c31b0); (try clear c33); (try clear c34); (try clear c41); (try clear c42); (try clear c43); (try clear c46); (try clear c54); (try clear c54b0); (try clear c54b1); (try clear c54b2); (try clear hcz10_0); (try clear hcz10_1); (try clear hcz10_2); (try clear hcz10_3); (try clear hcz14_0); (try clear hcz14_1); (try clear hcz14_2); (try clear hcz14_3); (try clear hcz23_0); (try clear hcz23_1); (try clear hcz23_2); (try clear hcz23_3); (try clear hcz32_0); (try clear hcz32_1); (try clear hcz32_2); (try clear hcz32_3); (try clear hcz43_0); (try clear hcz43_1); (try clear hcz43_2); (try clear hcz43_3); (try clear hcz47_0); (try clear hcz47_1); (try clear hcz47_2); (try clear hcz47_3); (try clear hcz51_0); (try clear hcz51_1); (try clear hcz51_2); (try clear hcz51_3); (try clear hcz52_0); (try clear hcz52_1); (try clear hcz52_2); (try clear hcz52_3); (try clear hfz10_0); (try clear hfz10_1); (try clear hfz10_2); (try clear hfz10_3); (try clear hfz14_0); (try clear hfz14_1); (try clear hfz14_2); (try clear hfz14_3); (try clear hfz23_0); (try clear hfz23_1); (try clear hfz23_2); (try clear hfz23_3); (try clear hfz32_0); (try clear hfz32_1); (try clear hfz32_2); (try clear hfz32_3); (try clear hfz43_0); (try clear hfz43_1); (try clear hfz43_2); (try clear hfz43_3); (try clear hfz47_0); (try clear hfz47_1); (try clear hfz47_2); (try clear hfz47_3); (try clear hfz51_0); (try clear hfz51_1); (try clear hfz51_2); (try clear hfz51_3); (try clear hfz52_0); (try clear hfz52_1); (try clear hfz52_2); (try clear hfz52_3); (try clear p2); (try clear p6)
        obtain ⟨kq, x135_36, rfl, HA, HJ36, HO_19, HO_805002, HO_805003, HO_832002, HO_832003, HO_833002, HO_833003, BK804, BK831, BK832, HB⟩ := hcut
        cases kq with
        | zero => exact absurd HA.out (by simp [laws_FnNext.j3])
        | succ kj36 =>
         have H := HA.out
         clear HA
         simp only [laws_FnNext.j3] at H
         by_cases c58 : x135_36 = true
         ·subst c58
          have H1 : (some false) = some r := by rw [if_pos rfl] at H; exact H
          clear H
          have H := H1
          clear H1
          exact absurd HT.out (by have H9 := Option.some.inj H; rw [← H9]; decide)
         ·replace c58 := Bool.eq_false_iff.mpr c58
          subst c58
          have H1 : (if t836 = true then ((impl_MeetPacked.f kj36 t823 t824 t825 t828 t815 t816 t817 t820).bind fun bt842 => ((impl_UnpackList.f kj36 t815 t816 t817 t820).bind fun bt846 => ((impl_UnpackList.f kj36 t823 t824 t825 t828).bind fun bt850 => (if bt842.2 = true then ((laws_sameInts.f kj36 bt842.1 t833).bind fun t854 => (if t854 = true then (if bt846.2 = true then (laws_FnNext.j4 kj36 l1 t833 bt846.1 bt850.1 (!bt850.2)) else (laws_FnNext.j4 kj36 l1 t833 bt846.1 bt850.1 true)) else (laws_FnNext.j4 kj36 l1 t833 bt846.1 bt850.1 true))) else (laws_FnNext.j4 kj36 l1 t833 bt846.1 bt850.1 true))))) else ((spec_DrawNumberAt.f kj36 l1).bind fun bt872 => ((impl_NumberAt.f kj36 bt872.1 bt872.2.1 bt872.2.2.1 bt872.2.2.2.1 bt872.2.2.2.2).bind fun bt882 => ((spec_NumberAt.f kj36 bt872.1 bt872.2.1 bt872.2.2.1 bt872.2.2.2.1 bt872.2.2.2.2).bind fun bt884 => (if (bt882.2 == bt884.2) = true then (some (bt882.1 == bt884.1)) else (some false)))))) = some r := by rw [if_neg (show ¬ (false = true) by decide)] at H; exact H
          clear H
          have H := H1
          clear H1
          by_cases c59 : t836 = true
          ·subst c59
           have H1 : ((impl_MeetPacked.f kj36 t823 t824 t825 t828 t815 t816 t817 t820).bind fun bt842 => ((impl_UnpackList.f kj36 t815 t816 t817 t820).bind fun bt846 => ((impl_UnpackList.f kj36 t823 t824 t825 t828).bind fun bt850 => (if bt842.2 = true then ((laws_sameInts.f kj36 bt842.1 t833).bind fun t854 => (if t854 = true then (if bt846.2 = true then (laws_FnNext.j4 kj36 l1 t833 bt846.1 bt850.1 (!bt850.2)) else (laws_FnNext.j4 kj36 l1 t833 bt846.1 bt850.1 true)) else (laws_FnNext.j4 kj36 l1 t833 bt846.1 bt850.1 true))) else (laws_FnNext.j4 kj36 l1 t833 bt846.1 bt850.1 true))))) = some r := by rw [if_pos rfl] at H; exact H
           clear H
           have H := H1
           clear H1
           replace H := Option.bind_eq_some_iff.mp H
           obtain ⟨⟨t842, t845⟩, A600, H⟩ := H
           replace H : ((impl_UnpackList.f kj36 t815 t816 t817 t820).bind fun bt846 => ((impl_UnpackList.f kj36 t823 t824 t825 t828).bind fun bt850 => (if t845 = true then ((laws_sameInts.f kj36 t842 t833).bind fun t854 => (if t854 = true then (if bt846.2 = true then (laws_FnNext.j4 kj36 l1 t833 bt846.1 bt850.1 (!bt850.2)) else (laws_FnNext.j4 kj36 l1 t833 bt846.1 bt850.1 true)) else (laws_FnNext.j4 kj36 l1 t833 bt846.1 bt850.1 true))) else (laws_FnNext.j4 kj36 l1 t833 bt846.1 bt850.1 true)))) = some r := H
           have A60 := Aside0.mk A600
           clear A600
           replace H := Option.bind_eq_some_iff.mp H
           obtain ⟨⟨t846, t849⟩, A610, H⟩ := H
           replace H : ((impl_UnpackList.f kj36 t823 t824 t825 t828).bind fun bt850 => (if t845 = true then ((laws_sameInts.f kj36 t842 t833).bind fun t854 => (if t854 = true then (if t849 = true then (laws_FnNext.j4 kj36 l1 t833 t846 bt850.1 (!bt850.2)) else (laws_FnNext.j4 kj36 l1 t833 t846 bt850.1 true)) else (laws_FnNext.j4 kj36 l1 t833 t846 bt850.1 true))) else (laws_FnNext.j4 kj36 l1 t833 t846 bt850.1 true))) = some r := H
           have A61 := Aside0.mk A610
           clear A610
           replace H := Option.bind_eq_some_iff.mp H
           obtain ⟨⟨t850, t853⟩, A620, H⟩ := H
           replace H : (if t845 = true then ((laws_sameInts.f kj36 t842 t833).bind fun t854 => (if t854 = true then (if t849 = true then (laws_FnNext.j4 kj36 l1 t833 t846 t850 (!t853)) else (laws_FnNext.j4 kj36 l1 t833 t846 t850 true)) else (laws_FnNext.j4 kj36 l1 t833 t846 t850 true))) else (laws_FnNext.j4 kj36 l1 t833 t846 t850 true)) = some r := H
           have A62 := Aside0.mk A620
           clear A620
           have HC63 := Aside0.mk H
           clear H
           have hnb64 := NB832_804.out
           have hnc64 := NB804_832.out
           have hnb65 := NB832_831.out
           have hnc65 := NB831_832.out
           have hcz66_0 : wc.cell? ⟨gb832, 0, none⟩ = some (.int .i64 t823) := (blk_cell BK832.out 0).trans rfl
           have hcz66_1 : wc.cell? ⟨gb832, 1, none⟩ = some (.int .i64 t824) := (blk_cell BK832.out 1).trans rfl
           have hcz66_2 : wc.cell? ⟨gb832, 2, none⟩ = some (.slice Ao48 t825.length co48) := (blk_cell BK832.out 2).trans rfl
           have hcz66_3 : wc.cell? ⟨gb832, 3, none⟩ = some (.slice Ao49 t828.length co49) := (blk_cell BK832.out 3).trans rfl
           have hfz66_0 := blk_frozen BK832.out 0
           have hfz66_1 := blk_frozen BK832.out 1
           have hfz66_2 := blk_frozen BK832.out 2
           have hfz66_3 := blk_frozen BK832.out 3
           have hnb67 := NB831_804.out
           have hnc67 := NB804_831.out
           have hcz68_0 : wc.cell? ⟨gb831, 0, none⟩ = some (.int .i64 t815) := (blk_cell BK831.out 0).trans rfl
           have hcz68_1 : wc.cell? ⟨gb831, 1, none⟩ = some (.int .i64 t816) := (blk_cell BK831.out 1).trans rfl
           have hcz68_2 : wc.cell? ⟨gb831, 2, none⟩ = some (.slice Ao44 t817.length co44) := (blk_cell BK831.out 2).trans rfl
           have hcz68_3 : wc.cell? ⟨gb831, 3, none⟩ = some (.slice Ao45 t820.length co45) := (blk_cell BK831.out 3).trans rfl
           have hfz68_0 := blk_frozen BK831.out 0
           have hfz68_1 := blk_frozen BK831.out 1
           have hfz68_2 := blk_frozen BK831.out 2
           have hfz68_3 := blk_frozen BK831.out 3
           go_upto_region 25 with (first | ((with_reducible refine gate_callee (f := 34) rfl ?_); refine goesL_ (some 140) rfl rfl Try.func34 (by kernel_rfl) rfl #[.agg #[.int .i64 t823, .int .i64 t824, .slice Ao48 t825.length co48, .slice Ao49 t828.length co49], .agg #[.int .i64 t815, .int .i64 t816, .slice Ao44 t817.length co44, .slice Ao45 t820.length co45]] rfl (ag_) ?_; (with_reducible refine (impl_MeetPacked.calls kj36 t823 t824 _ _ t825 _ _ t828 t815 t816 _ _ t817 _ _ t820 t842 t845 _ ?side1 ?side2 ?side3 ?side4 ?side5 ?side6 ?side7 ?side8 A60.out).mono ?_); (case side1 => refine cd_ ?_; exact (Kd.R_reads' HO_833002.out).2.2); (case side2 => exact (Kd.R_reads' HO_833002.out).2.1); (case side3 => refine cd_ ?_; exact (Kd.R_reads' HO_833003.out).2.2); (case side4 => exact (Kd.R_reads' HO_833003.out).2.1); (case side5 => refine cd_ ?_; exact (Kd.R_reads' HO_832002.out).2.2); (case side6 => exact (Kd.R_reads' HO_832002.out).2.1); (case side7 => refine cd_ ?_; exact (Kd.R_reads' HO_832003.out).2.2); (case side8 => exact (Kd.R_reads' HO_832003.out).2.1); rintro e w69 ⟨v843, rfl, ho0, hb⟩; refine ⟨_, rfl, ?_⟩; have n0_ := Aside0.mk (Kd.R_elder' (rk_ HO_19.out) (Kd.R_base ho0) hb); have n1_ := Aside0.mk (Kd.R_elder' (rk_ HO_805002.out) (Kd.R_base ho0) hb); have n2_ := Aside0.mk (Kd.R_below (rk_ HO_805003.out) hb); have n3_ := Aside0.mk (Kd.R_elder' (rk_ HO_832002.out) (Kd.R_base ho0) hb); have n4_ := Aside0.mk (Kd.R_below (rk_ HO_832003.out) hb); have n5_ := Aside0.mk (Kd.R_elder' (rk_ HO_833002.out) (Kd.R_base ho0) hb); have n6_ := Aside0.mk (Kd.R_below (rk_ HO_833003.out) hb); have n7_ := Aside0.mk (Kd.R_lower (Kd.R_new' (Kd.R_new' (Kd.R_new' (Kd.R_new' ho0 (Kd.R_lt (rk_ HO_19.out))) (Kd.R_lt (rk_ HO_805002.out))) (Kd.R_lt (rk_ HO_832002.out))) (Kd.R_lt (rk_ HO_833002.out))) (bw_ HB.out)); have n8_ := Aside0.mk (blk_below (g := gb804) (o := .cells #[.int .i64 t795, .int .i64 t796, .slice Ao11 t797.length co11, .slice Ao12 t800.length co12] 25 (0, 0)) (pk_ BK804.out) hb); have n9_ := Aside0.mk (blk_below (g := gb831) (o := .cells #[.int .i64 t815, .int .i64 t816, .slice Ao44 t817.length co44, .slice Ao45 t820.length co45] 25 (0, 0)) (pk_ BK831.out) hb); have n10_ := Aside0.mk (blk_below (g := gb832) (o := .cells #[.int .i64 t823, .int .i64 t824, .slice Ao48 t825.length co48, .slice Ao49 t828.length co49] 25 (0, 0)) (pk_ BK832.out) hb); have n11_ := Aside0.mk (bs_ HB.out hb); clear HO_19; clear HO_805002; clear HO_805003; clear HO_832002; clear HO_832003; clear HO_833002; clear HO_833003; clear BK804; clear BK831; clear BK832; clear HB; have HO_19 := n0_; have HO_805002 := n1_; have HO_805003 := n2_; have HO_832002 := n3_; have HO_832003 := n4_; have HO_833002 := n5_; have HO_833003 := n6_; have HO844 := n7_; have BK804 := n8_; have BK831 := n9_; have BK832 := n10_; have HB := n11_; clear n0_ n1_ n2_ n3_ n4_ n5_ n6_ n7_ n8_ n9_ n10_ n11_; (try clear hb); (try clear hb2); (try clear hk); (try clear hi); (try clear ho0); have hcz70_0 : w69.cell? ⟨gb831, 0, none⟩ = some (.int .i64 t815) := (blk_cell BK831.out 0).trans rfl; have hcz70_1 : w69.cell? ⟨gb831, 1, none⟩ = some (.int .i64 t816) := (blk_cell BK831.out 1).trans rfl; have hcz70_2 : w69.cell? ⟨gb831, 2, none⟩ = some (.slice Ao44 t817.length co44) := (blk_cell BK831.out 2).trans rfl; have hcz70_3 : w69.cell? ⟨gb831, 3, none⟩ = some (.slice Ao45 t820.length co45) := (blk_cell BK831.out 3).trans rfl; have hfz70_0 := blk_frozen BK831.out 0; have hfz70_1 := blk_frozen BK831.out 1; have hfz70_2 := blk_frozen BK831.out 2; have hfz70_3 := blk_frozen BK831.out 3) | ((with_reducible refine gate_callee (f := 25) rfl ?_); refine goesL_ (some 145) rfl rfl Try.func25 (by kernel_rfl) rfl #[.agg #[.int .i64 t815, .int .i64 t816, .slice Ao44 t817.length co44, .slice Ao45 t820.length co45]] rfl (ag_) ?_; (with_reducible refine (impl_UnpackList.calls kj36 t815 t816 _ _ t817 _ _ t820 t846 t849 _ ?side1 ?side2 ?side3 ?side4 A61.out).mono ?_); (case side1 => refine cd_ ?_; exact (Kd.R_reads' HO_832002.out).2.2); (case side2 => exact (Kd.R_reads' HO_832002.out).2.1); (case side3 => refine cd_ ?_; exact (Kd.R_reads' HO_832003.out).2.2); (case side4 => exact (Kd.R_reads' HO_832003.out).2.1); rintro e w71 ⟨v847, rfl, ho0, hb⟩; refine ⟨_, rfl, ?_⟩; have n0_ := Aside0.mk (Kd.R_elder' (rk_ HO_19.out) (Kd.R_base ho0) hb); have n1_ := Aside0.mk (Kd.R_elder' (rk_ HO_805002.out) (Kd.R_base ho0) hb); have n2_ := Aside0.mk (Kd.R_below (rk_ HO_805003.out) hb); have n3_ := Aside0.mk (Kd.R_elder' (rk_ HO_832002.out) (Kd.R_base ho0) hb); have n4_ := Aside0.mk (Kd.R_below (rk_ HO_832003.out) hb); have n5_ := Aside0.mk (Kd.R_elder' (rk_ HO_833002.out) (Kd.R_base ho0) hb); have n6_ := Aside0.mk (Kd.R_below (rk_ HO_833003.out) hb); have n7_ := Aside0.mk (Kd.R_elder' (rk_ HO844.out) (Kd.R_base ho0) hb); have n8_ := Aside0.mk (Kd.R_lower (Kd.R_new' (Kd.R_new' (Kd.R_new' (Kd.R_new' (Kd.R_new' ho0 (Kd.R_lt (rk_ HO_19.out))) (Kd.R_lt (rk_ HO_805002.out))) (Kd.R_lt (rk_ HO_832002.out))) (Kd.R_lt (rk_ HO_833002.out))) (Kd.R_lt (rk_ HO844.out))) (bw_ HB.out)); have n9_ := Aside0.mk (blk_below (g := gb804) (o := .cells #[.int .i64 t795, .int .i64 t796, .slice Ao11 t797.length co11, .slice Ao12 t800.length co12] 25 (0, 0)) (pk_ BK804.out) hb); have n10_ := Aside0.mk (blk_below (g := gb831) (o := .cells #[.int .i64 t815, .int .i64 t816, .slice Ao44 t817.length co44, .slice Ao45 t820.length co45] 25 (0, 0)) (pk_ BK831.out) hb); have n11_ := Aside0.mk (blk_below (g := gb832) (o := .cells #[.int .i64 t823, .int .i64 t824, .slice Ao48 t825.length co48, .slice Ao49 t828.length co49] 25 (0, 0)) (pk_ BK832.out) hb); have n12_ := Aside0.mk (bs_ HB.out hb); clear HO_19; clear HO_805002; clear HO_805003; clear HO_832002; clear HO_832003; clear HO_833002; clear HO_833003; clear HO844; clear BK804; clear BK831; clear BK832; clear HB; have HO_19 := n0_; have HO_805002 := n1_; have HO_805003 := n2_; have HO_832002 := n3_; have HO_832003 := n4_; have HO_833002 := n5_; have HO_833003 := n6_; have HO844 := n7_; have HO848 := n8_; have BK804 := n9_; have BK831 := n10_; have BK832 := n11_; have HB := n12_; clear n0_ n1_ n2_ n3_ n4_ n5_ n6_ n7_ n8_ n9_ n10_ n11_ n12_; (try clear hb); (try clear hb2); (try clear hk); (try clear hi); (try clear ho0); have hcz72_0 : w71.cell? ⟨gb832, 0, none⟩ = some (.int .i64 t823) := (blk_cell BK832.out 0).trans rfl; have hcz72_1 : w71.cell? ⟨gb832, 1, none⟩ = some (.int .i64 t824) := (blk_cell BK832.out 1).trans rfl; have hcz72_2 : w71.cell? ⟨gb832, 2, none⟩ = some (.slice Ao48 t825.length co48) := (blk_cell BK832.out 2).trans rfl; have hcz72_3 : w71.cell? ⟨gb832, 3, none⟩ = some (.slice Ao49 t828.length co49) := (blk_cell BK832.out 3).trans rfl; have hfz72_0 := blk_frozen BK832.out 0; have hfz72_1 := blk_frozen BK832.out 1; have hfz72_2 := blk_frozen BK832.out 2; have hfz72_3 := blk_frozen BK832.out 3) | ((with_reducible refine gate_callee (f := 25) rfl ?_); refine goesL_ (some 150) rfl rfl Try.func25 (by kernel_rfl) rfl #[.agg #[.int .i64 t823, .int .i64 t824, .slice Ao48 t825.length co48, .slice Ao49 t828.length co49]] rfl (ag_) ?_; (with_reducible refine (impl_UnpackList.calls kj36 t823 t824 _ _ t825 _ _ t828 t850 t853 _ ?side1 ?side2 ?side3 ?side4 A62.out).mono ?_); (case side1 => refine cd_ ?_; exact (Kd.R_reads' HO_833002.out).2.2); (case side2 => exact (Kd.R_reads' HO_833002.out).2.1); (case side3 => refine cd_ ?_; exact (Kd.R_reads' HO_833003.out).2.2); (case side4 => exact (Kd.R_reads' HO_833003.out).2.1); rintro e w73 ⟨v851, rfl, ho0, hb⟩; refine ⟨_, rfl, ?_⟩; have n0_ := Aside0.mk (Kd.R_elder' (rk_ HO_19.out) (Kd.R_base ho0) hb); have n1_ := Aside0.mk (Kd.R_elder' (rk_ HO_805002.out) (Kd.R_base ho0) hb); have n2_ := Aside0.mk (Kd.R_below (rk_ HO_805003.out) hb); have n3_ := Aside0.mk (Kd.R_elder' (rk_ HO_832002.out) (Kd.R_base ho0) hb); have n4_ := Aside0.mk (Kd.R_below (rk_ HO_832003.out) hb); have n5_ := Aside0.mk (Kd.R_elder' (rk_ HO_833002.out) (Kd.R_base ho0) hb); have n6_ := Aside0.mk (Kd.R_below (rk_ HO_833003.out) hb); have n7_ := Aside0.mk (Kd.R_elder' (rk_ HO844.out) (Kd.R_base ho0) hb); have n8_ := Aside0.mk (Kd.R_elder' (rk_ HO848.out) (Kd.R_base ho0) hb); have n9_ := Aside0.mk (Kd.R_lower (Kd.R_new' (Kd.R_new' (Kd.R_new' (Kd.R_new' (Kd.R_new' (Kd.R_new' ho0 (Kd.R_lt (rk_ HO_19.out))) (Kd.R_lt (rk_ HO_805002.out))) (Kd.R_lt (rk_ HO_832002.out))) (Kd.R_lt (rk_ HO_833002.out))) (Kd.R_lt (rk_ HO844.out))) (Kd.R_lt (rk_ HO848.out))) (bw_ HB.out)); have n10_ := Aside0.mk (blk_below (g := gb804) (o := .cells #[.int .i64 t795, .int .i64 t796, .slice Ao11 t797.length co11, .slice Ao12 t800.length co12] 25 (0, 0)) (pk_ BK804.out) hb); have n11_ := Aside0.mk (blk_below (g := gb831) (o := .cells #[.int .i64 t815, .int .i64 t816, .slice Ao44 t817.length co44, .slice Ao45 t820.length co45] 25 (0, 0)) (pk_ BK831.out) hb); have n12_ := Aside0.mk (blk_below (g := gb832) (o := .cells #[.int .i64 t823, .int .i64 t824, .slice Ao48 t825.length co48, .slice Ao49 t828.length co49] 25 (0, 0)) (pk_ BK832.out) hb); have n13_ := Aside0.mk (bs_ HB.out hb); clear HO_19; clear HO_805002; clear HO_805003; clear HO_832002; clear HO_832003; clear HO_833002; clear HO_833003; clear HO844; clear HO848; clear BK804; clear BK831; clear BK832; clear HB; have HO_19 := n0_; have HO_805002 := n1_; have HO_805003 := n2_; have HO_832002 := n3_; have HO_832003 := n4_; have HO_833002 := n5_; have HO_833003 := n6_; have HO844 := n7_; have HO848 := n8_; have HO852 := n9_; have BK804 := n10_; have BK831 := n11_; have BK832 := n12_; have HB := n13_; clear n0_ n1_ n2_ n3_ n4_ n5_ n6_ n7_ n8_ n9_ n10_ n11_ n12_ n13_; (try clear hb); (try clear hb2); (try clear hk); (try clear hi); (try clear ho0)))
           (try simp only [Act.put, List.setIfInBounds_toArray, List.set_cons_zero, List.set_cons_succ])
           go_cut [168] (fun v168 wc => ∃ (kq : Nat) (x168_62 : Bool), v168 = .bool x168_62 ∧ Aside0 (laws_FnNext.j4 kq l1 t833 t846 t850 x168_62 = some r) ∧ Aside0 (kq ≤ kj36) ∧ Aside0 (Kd.R (Kd.int .i64) 3 wc w.heap.size (fun k_ => some k_ ≠ (v847 : Value).ownBlock ∧ some k_ ≠ (v851 : Value).ownBlock ∧ some k_ ≠ ((.slice Ao11 t797.length co11) : Value).ownBlock ∧ some k_ ≠ ((.slice Ao44 t817.length co44) : Value).ownBlock ∧ some k_ ≠ ((.slice Ao48 t825.length co48) : Value).ownBlock) v834 t833) ∧ Aside0 (Kd.R (Kd.int .i64) 3 wc w.heap.size (fun k_ => some k_ ≠ (v834 : Value).ownBlock ∧ some k_ ≠ (v851 : Value).ownBlock ∧ some k_ ≠ ((.slice Ao11 t797.length co11) : Value).ownBlock ∧ some k_ ≠ ((.slice Ao44 t817.length co44) : Value).ownBlock ∧ some k_ ≠ ((.slice Ao48 t825.length co48) : Value).ownBlock) v847 t846) ∧ Aside0 (Kd.R (Kd.int .i64) 3 wc w.heap.size (fun k_ => some k_ ≠ (v834 : Value).ownBlock ∧ some k_ ≠ (v847 : Value).ownBlock ∧ some k_ ≠ ((.slice Ao11 t797.length co11) : Value).ownBlock ∧ some k_ ≠ ((.slice Ao44 t817.length co44) : Value).ownBlock ∧ some k_ ≠ ((.slice Ao48 t825.length co48) : Value).ownBlock) v851 t850) ∧ Aside0 (Kd.R (Kd.int .i64) 3 wc w.heap.size (fun k_ => some k_ ≠ (v834 : Value).ownBlock ∧ some k_ ≠ (v847 : Value).ownBlock ∧ some k_ ≠ (v851 : Value).ownBlock ∧ some k_ ≠ ((.slice Ao44 t817.length co44) : Value).ownBlock ∧ some k_ ≠ ((.slice Ao48 t825.length co48) : Value).ownBlock) (.slice Ao11 t797.length co11) t797) ∧ Aside0 (Kd.R Kd.bool 4 wc w.heap.size (fun k_ => some k_ ≠ ((.slice Ao45 t820.length co45) : Value).ownBlock ∧ some k_ ≠ ((.slice Ao49 t828.length co49) : Value).ownBlock) (.slice Ao12 t800.length co12) t800) ∧ Aside0 (Kd.R (Kd.int .i64) 3 wc w.heap.size (fun k_ => some k_ ≠ (v834 : Value).ownBlock ∧ some k_ ≠ (v847 : Value).ownBlock ∧ some k_ ≠ (v851 : Value).ownBlock ∧ some k_ ≠ ((.slice Ao11 t797.length co11) : Value).ownBlock ∧ some k_ ≠ ((.slice Ao48 t825.length co48) : Value).ownBlock) (.slice Ao44 t817.length co44) t817) ∧ Aside0 (Kd.R Kd.bool 4 wc w.heap.size (fun k_ => some k_ ≠ ((.slice Ao12 t800.length co12) : Value).ownBlock ∧ some k_ ≠ ((.slice Ao49 t828.length co49) : Value).ownBlock) (.slice Ao45 t820.length co45) t820) ∧ Aside0 (Kd.R (Kd.int .i64) 3 wc w.heap.size (fun k_ => some k_ ≠ (v834 : Value).ownBlock ∧ some k_ ≠ (v847 : Value).ownBlock ∧ some k_ ≠ (v851 : Value).ownBlock ∧ some k_ ≠ ((.slice Ao11 t797.length co11) : Value).ownBlock ∧ some k_ ≠ ((.slice Ao44 t817.length co44) : Value).ownBlock) (.slice Ao48 t825.length co48) t825) ∧ Aside0 (Kd.R Kd.bool 4 wc w.heap.size (fun k_ => some k_ ≠ ((.slice Ao12 t800.length co12) : Value).ownBlock ∧ some k_ ≠ ((.slice Ao45 t820.length co45) : Value).ownBlock) (.slice Ao49 t828.length co49) t828) ∧ Aside0 (wc.heap[gb804]? = some (.cells #[.int .i64 t795, .int .i64 t796, (.slice Ao11 t797.length co11), (.slice Ao12 t800.length co12)] 25 (0, 0))) ∧ Aside0 (wc.heap[gb831]? = some (.cells #[.int .i64 t815, .int .i64 t816, (.slice Ao44 t817.length co44), (.slice Ao45 t820.length co45)] 25 (0, 0))) ∧ Aside0 (wc.heap[gb832]? = some (.cells #[.int .i64 t823, .int .i64 t824, (.slice Ao48 t825.length co48), (.slice Ao49 t828.length co49)] 25 (0, 0))) ∧ Aside0 (Below w.heap.size w wc))
           case first =>
            have H := HC63.out
            clear HC63
            by_cases c74 : t845 = true
            ·subst c74
             have H1 : ((laws_sameInts.f kj36 t842 t833).bind fun t854 => (if t854 = true then (if t849 = true then (laws_FnNext.j4 kj36 l1 t833 t846 t850 (!t853)) else (laws_FnNext.j4 kj36 l1 t833 t846 t850 true)) else (laws_FnNext.j4 kj36 l1 t833 t846 t850 true))) = some r := by rw [if_pos rfl] at H; exact H
             clear H
             have H := H1
             clear H1
             replace H := Option.bind_eq_some_iff.mp H
             obtain ⟨t854, A750, H⟩ := H
             replace H : (if t854 = true then (if t849 = true then (laws_FnNext.j4 kj36 l1 t833 t846 t850 (!t853)) else (laws_FnNext.j4 kj36 l1 t833 t846 t850 true)) else (laws_FnNext.j4 kj36 l1 t833 t846 t850 true)) = some r := H
             have A75 := Aside0.mk A750
             clear A750
             by_cases c76 : t854 = true
             ·subst c76
              have H1 : (if t849 = true then (laws_FnNext.j4 kj36 l1 t833 t846 t850 (!t853)) else (laws_FnNext.j4 kj36 l1 t833 t846 t850 true)) = some r := by rw [if_pos rfl] at H; exact H
              clear H
              have H := H1
              clear H1
              by_cases c77 : t849 = true
              ·subst c77
               have H1 : (laws_FnNext.j4 kj36 l1 t833 t846 t850 (!t853)) = some r := by rw [if_pos rfl] at H; exact H
               clear H
               have H := H1
               clear H1
               have H' := Aside0.mk H
               clear H
               obtain ⟨Ao78, co78, eo78⟩ := Kd.R_slice HO844.out
               subst eo78
               obtain ⟨Ao79, co79, eo79⟩ := Kd.R_slice HO_19.out
               subst eo79
               go_wp2_with (first | (go_at_call 37; (with_reducible refine (laws_sameInts.calls kj36 _ _ t842 _ _ t833 true _ ?side1 ?side2 ?side3 ?side4 A75.out).mono ?_); (case side1 => refine cd_ ?_; exact (Kd.R_reads' HO844.out).2.2); (case side2 => exact (Kd.R_reads' HO844.out).2.1); (case side3 => refine cd_ ?_; exact (Kd.R_reads' HO_19.out).2.2); (case side4 => exact (Kd.R_reads' HO_19.out).2.1); rintro e w' ⟨rfl, ⟨nd, rfl⟩⟩))
               go_meet
               case rel => exact ⟨_, (!t853), (by first | rfl | (simp; done) | (simp [*]; done)), H', ⟨by have := HJ6.out; have := HJ18.out; have := HJ36.out; first | omega | exact Nat.le_refl _⟩, ⟨by (with_reducible repeat (first | apply Kd.R_alloc | apply Kd.R_drewN | apply Kd.R_drew)); exact Kd.R_mono HO_19.out (fun _ hk => ⟨hk.1.2, ⟨hk.2, ⟨hk.1.1.1.1, ⟨hk.1.1.1.2.1, hk.1.1.1.2.2⟩⟩⟩⟩)⟩, ⟨by (with_reducible repeat (first | apply Kd.R_alloc | apply Kd.R_drewN | apply Kd.R_drew)); exact Kd.R_mono HO848.out (fun _ hk => ⟨hk.1.1.1.1.1.2, ⟨hk.2, ⟨hk.1.1.1.1.2, ⟨hk.1.1.1.2, hk.1.1.2⟩⟩⟩⟩)⟩, ⟨by (with_reducible repeat (first | apply Kd.R_alloc | apply Kd.R_drewN | apply Kd.R_drew)); exact Kd.R_mono HO852.out (fun _ hk => ⟨hk.1.1.1.1.1.2, ⟨hk.2, ⟨hk.1.1.1.1.2, ⟨hk.1.1.1.2, hk.1.1.2⟩⟩⟩⟩)⟩, ⟨by (with_reducible repeat (first | apply Kd.R_alloc | apply Kd.R_drewN | apply Kd.R_drew)); exact Kd.R_mono HO_805002.out (fun _ hk => ⟨hk.1.1.1.1, ⟨hk.1.2, ⟨hk.2, ⟨hk.1.1.1.2.1, hk.1.1.1.2.2⟩⟩⟩⟩)⟩, ⟨by (with_reducible repeat (first | apply Kd.R_alloc | apply Kd.R_drewN | apply Kd.R_drew)); exact HO_805003.out⟩, ⟨by (with_reducible repeat (first | apply Kd.R_alloc | apply Kd.R_drewN | apply Kd.R_drew)); exact Kd.R_mono HO_832002.out (fun _ hk => ⟨hk.1.1.1.1, ⟨hk.1.2, ⟨hk.2, ⟨hk.1.1.1.2.1, hk.1.1.1.2.2⟩⟩⟩⟩)⟩, ⟨by (with_reducible repeat (first | apply Kd.R_alloc | apply Kd.R_drewN | apply Kd.R_drew)); exact HO_832003.out⟩, ⟨by (with_reducible repeat (first | apply Kd.R_alloc | apply Kd.R_drewN | apply Kd.R_drew)); exact Kd.R_mono HO_833002.out (fun _ hk => ⟨hk.1.1.1.1, ⟨hk.1.2, ⟨hk.2, ⟨hk.1.1.1.2.1, hk.1.1.1.2.2⟩⟩⟩⟩)⟩, ⟨by (with_reducible repeat (first | apply Kd.R_alloc | apply Kd.R_drewN | apply Kd.R_drew)); exact HO_833003.out⟩, ⟨by (with_reducible repeat (first | refine blk_drewN ?_ _ | refine blk_drew ?_ | refine blk_alloc ?_ _)); exact BK804.out⟩, ⟨by (with_reducible repeat (first | refine blk_drewN ?_ _ | refine blk_drew ?_ | refine blk_alloc ?_ _)); exact BK831.out⟩, ⟨by (with_reducible repeat (first | refine blk_drewN ?_ _ | refine blk_drew ?_ | refine blk_alloc ?_ _)); exact BK832.out⟩, ⟨by repeat (first | (with_reducible first | exact HB.out | apply below_alloc | apply pw_below_drewN | apply below_drew1 | refine below_set ?_ GE804.out | refine below_set ?_ GE831.out | refine below_set ?_ GE832.out) | exact HB.out)⟩⟩
              ·replace c77 := Bool.eq_false_iff.mpr c77
               subst c77
               have H1 : (laws_FnNext.j4 kj36 l1 t833 t846 t850 true) = some r := by rw [if_neg (show ¬ (false = true) by decide)] at H; exact H
               clear H
               have H := H1
               clear H1
               exact (Go.Proofs.Ytcjebflldmiajaa.Gen.no_true H (by cases kj36 <;> simp [laws_FnNext.j4]) HT.out).elim
             ·replace c76 := Bool.eq_false_iff.mpr c76
              subst c76
              have H1 : (laws_FnNext.j4 kj36 l1 t833 t846 t850 true) = some r := by rw [if_neg (show ¬ (false = true) by decide)] at H; exact H
              clear H
              have H := H1
              clear H1
              exact (Go.Proofs.Ytcjebflldmiajaa.Gen.no_true H (by cases kj36 <;> simp [laws_FnNext.j4]) HT.out).elim
            ·replace c74 := Bool.eq_false_iff.mpr c74
             subst c74
             have H1 : (laws_FnNext.j4 kj36 l1 t833 t846 t850 true) = some r := by rw [if_neg (show ¬ (false = true) by decide)] at H; exact H
             clear H
             have H := H1
             clear H1
             exact (Go.Proofs.Ytcjebflldmiajaa.Gen.no_true H (by cases kj36 <;> simp [laws_FnNext.j4]) HT.out).elim
           case rest =>
            clear HC63
            (try clear c1); (try clear c2); (try clear p2); (try clear c3); (try clear c3b0); (try clear c4); (try clear c5); (try clear c6); (try clear p6); (try clear c7); (try clear c11); (try clear c16); (try clear c16b0); (try clear c16b1); (try clear c16b2); (try clear c17); (try clear c17b0); (try clear c17b1); (try clear c18); (try clear c20); (try clear c25); (try clear c26); (try clear c26b0); (try clear c26b1); (try clear c27); (try clear c28); (try clear c28b0); (try clear c29); (try clear c30); (try clear c31); (try clear c31b0); (try clear c33); (try clear c34); (try clear c41); (try clear c42); (try clear c43); (try clear c46); (try clear c54); (try clear c54b0); (try clear c54b1); (try clear c54b2); (try clear c58); (try clear c59); (try clear c64); (try clear p64); (try clear c65); (try clear c67); (try clear c74); (try clear c76); (try clear c77); (try clear hcz10_0); (try clear hcz10_1); (try clear hcz10_2); (try clear hcz10_3); (try clear hcz14_0); (try clear hcz14_1); (try clear hcz14_2); (try clear hcz14_3); (try clear hcz23_0); (try clear hcz23_1); (try clear hcz23_2); (try clear hcz23_3); (try clear hcz32_0); (try clear hcz32_1); (try clear hcz32_2); (try clear hcz32_3); (try clear hcz43_0); (try clear hcz43_1); (try clear hcz43_2); (try clear hcz43_3); (try clear hcz47_0); (try clear hcz47_1); (try clear hcz47_2); (try clear hcz47_3); (try clear hcz51_0); (try clear hcz51_1); (try clear hcz51_2); (try clear hcz51_3); (try clear hcz52_0); (try clear hcz52_1); (try clear hcz52_2); (try clear hcz52_3); (try clear hcz66_0); (try clear hcz66_1); (try clear hcz66_2); (try clear hcz66_3); (try clear hcz68_0); (try clear hcz68_1); (try clear hcz68_2); (try clear hcz68_3); (try clear hcz70_0); (try clear hcz70_1); (try clear hcz70_2); (try clear hcz70_3); (try clear hcz72_0); (try clear hcz72_1); (try clear hcz72_2); (try clear hcz72_3); (try clear hfz10_0); (try clear hfz10_1); (try clear hfz10_2); (try clear hfz10_3); (try clear hfz14_0); (try clear hfz14_1); (try clear hfz14_2); (try clear hfz14_3); (try clear hfz23_0); (try clear hfz23_1); (try clear hfz23_2); (try clear hfz23_3); (try clear hfz32_0); (try clear hfz32_1); (try clear hfz32_2); (try clear hfz32_3); (try clear hfz43_0); (try clear hfz43_1); (try clear hfz43_2); (try clear hfz43_3); (try clear hfz47_0); (try clear hfz47_1); (try clear hfz47_2); (try clear hfz47_3); (try clear hfz51_0); (try clear hfz51_1); (try clear hfz51_2); (try clear hfz51_3); (try clear hfz52_0); (try clear hfz52_1); (try clear hfz52_2); (try clear hfz52_3); (try clear hfz66_0); (try clear hfz66_1); (try clear hfz66_2); (try clear hfz66_3); (try clear hfz68_0); (try clear hfz68_1); (try clear hfz68_2); (try clear hfz68_3); (try clear hfz70_0); (try clear hfz70_1); (try clear hfz70_2); (try clear hfz70_3); (try clear hfz72_0); (try clear hfz72_1); (try clear hfz72_2); (try clear hfz72_3); (try clear p2); (try clear p6)
            obtain ⟨kq, x168_62, rfl, HA, HJ62, HO_19, HO_25, HO_27, HO_805002, HO_805003, HO_832002, HO_832003, HO_833002, HO_833003, BK804, BK831, BK832, HB⟩ := hcut
            cases kq with
            | zero => exact absurd HA.out (by simp [laws_FnNext.j4])
            | succ kj62 =>
             have H := HA.out
             clear HA
             simp only [laws_FnNext.j4] at H
             by_cases c80 : x168_62 = true
             ·subst c80
              have H1 : (some false) = some r := by rw [if_pos rfl] at H; exact H
              clear H
              have H := H1
              clear H1
              exact absurd HT.out (by have H9 := Option.some.inj H; rw [← H9]; decide)
             ·replace c80 := Bool.eq_false_iff.mpr c80
              subst c80
              have H1 : (laws_FnNext.l0 kj62 l1 t833 t850 t846 (t846.length : Int) 0) = some r := by rw [if_neg (show ¬ (false = true) by decide)] at H; exact H
              clear H
              have H := H1
              clear H1
              have H' := Aside0.mk H
              clear H
              obtain ⟨Ao81, co81, eo81⟩ := Kd.R_slice HO_25.out
              subst eo81
              go_wp2
              go_loopg [171] kj62 (fun kq v171 w' => ∃ (x171_5 : Int), v171 = .int .i64 x171_5 ∧ Aside0 (laws_FnNext.l0 kq l1 t833 t850 t846 (t846.length : Int) x171_5 = some r) ∧ Aside0 (kq ≤ kj62) ∧ Aside0 (Kd.R (Kd.int .i64) 3 w' w.heap.size (fun k_ => some k_ ≠ (v851 : Value).ownBlock ∧ some k_ ≠ ((.slice Ao81 t846.length co81) : Value).ownBlock ∧ some k_ ≠ ((.slice Ao11 t797.length co11) : Value).ownBlock ∧ some k_ ≠ ((.slice Ao44 t817.length co44) : Value).ownBlock ∧ some k_ ≠ ((.slice Ao48 t825.length co48) : Value).ownBlock) v834 t833) ∧ Aside0 (Kd.R (Kd.int .i64) 3 w' w.heap.size (fun k_ => some k_ ≠ (v834 : Value).ownBlock ∧ some k_ ≠ ((.slice Ao81 t846.length co81) : Value).ownBlock ∧ some k_ ≠ ((.slice Ao11 t797.length co11) : Value).ownBlock ∧ some k_ ≠ ((.slice Ao44 t817.length co44) : Value).ownBlock ∧ some k_ ≠ ((.slice Ao48 t825.length co48) : Value).ownBlock) v851 t850) ∧ Aside0 (Kd.R (Kd.int .i64) 3 w' w.heap.size (fun k_ => some k_ ≠ (v834 : Value).ownBlock ∧ some k_ ≠ (v851 : Value).ownBlock ∧ some k_ ≠ ((.slice Ao11 t797.length co11) : Value).ownBlock ∧ some k_ ≠ ((.slice Ao44 t817.length co44) : Value).ownBlock ∧ some k_ ≠ ((.slice Ao48 t825.length co48) : Value).ownBlock) (.slice Ao81 t846.length co81) t846) ∧ Aside0 (Kd.R (Kd.int .i64) 3 w' w.heap.size (fun k_ => some k_ ≠ (v834 : Value).ownBlock ∧ some k_ ≠ (v851 : Value).ownBlock ∧ some k_ ≠ ((.slice Ao81 t846.length co81) : Value).ownBlock ∧ some k_ ≠ ((.slice Ao44 t817.length co44) : Value).ownBlock ∧ some k_ ≠ ((.slice Ao48 t825.length co48) : Value).ownBlock) (.slice Ao11 t797.length co11) t797) ∧ Aside0 (Kd.R Kd.bool 4 w' w.heap.size (fun k_ => some k_ ≠ ((.slice Ao45 t820.length co45) : Value).ownBlock ∧ some k_ ≠ ((.slice Ao49 t828.length co49) : Value).ownBlock) (.slice Ao12 t800.length co12) t800) ∧ Aside0 (Kd.R (Kd.int .i64) 3 w' w.heap.size (fun k_ => some k_ ≠ (v834 : Value).ownBlock ∧ some k_ ≠ (v851 : Value).ownBlock ∧ some k_ ≠ ((.slice Ao81 t846.length co81) : Value).ownBlock ∧ some k_ ≠ ((.slice Ao11 t797.length co11) : Value).ownBlock ∧ some k_ ≠ ((.slice Ao48 t825.length co48) : Value).ownBlock) (.slice Ao44 t817.length co44) t817) ∧ Aside0 (Kd.R Kd.bool 4 w' w.heap.size (fun k_ => some k_ ≠ ((.slice Ao12 t800.length co12) : Value).ownBlock ∧ some k_ ≠ ((.slice Ao49 t828.length co49) : Value).ownBlock) (.slice Ao45 t820.length co45) t820) ∧ Aside0 (Kd.R (Kd.int .i64) 3 w' w.heap.size (fun k_ => some k_ ≠ (v834 : Value).ownBlock ∧ some k_ ≠ (v851 : Value).ownBlock ∧ some k_ ≠ ((.slice Ao81 t846.length co81) : Value).ownBlock ∧ some k_ ≠ ((.slice Ao11 t797.length co11) : Value).ownBlock ∧ some k_ ≠ ((.slice Ao44 t817.length co44) : Value).ownBlock) (.slice Ao48 t825.length co48) t825) ∧ Aside0 (Kd.R Kd.bool 4 w' w.heap.size (fun k_ => some k_ ≠ ((.slice Ao12 t800.length co12) : Value).ownBlock ∧ some k_ ≠ ((.slice Ao45 t820.length co45) : Value).ownBlock) (.slice Ao49 t828.length co49) t828) ∧ Aside0 (w'.heap[gb804]? = some (.cells #[.int .i64 t795, .int .i64 t796, (.slice Ao11 t797.length co11), (.slice Ao12 t800.length co12)] 25 (0, 0))) ∧ Aside0 (w'.heap[gb831]? = some (.cells #[.int .i64 t815, .int .i64 t816, (.slice Ao44 t817.length co44), (.slice Ao45 t820.length co45)] 25 (0, 0))) ∧ Aside0 (w'.heap[gb832]? = some (.cells #[.int .i64 t823, .int .i64 t824, (.slice Ao48 t825.length co48), (.slice Ao49 t828.length co49)] 25 (0, 0))) ∧ Aside0 (Below w.heap.size w w'))
              case atStart => exact ⟨(0), (by first | rfl | (simp; done) | (simp [*]; done)), H', ⟨Nat.le_refl _⟩, ⟨by (with_reducible repeat (first | apply Kd.R_alloc | apply Kd.R_drewN | apply Kd.R_drew)); exact Kd.R_mono HO_19.out (fun _ hk => ⟨hk.2.1, ⟨hk.1, ⟨hk.2.2.1, ⟨hk.2.2.2.1, hk.2.2.2.2⟩⟩⟩⟩)⟩, ⟨by (with_reducible repeat (first | apply Kd.R_alloc | apply Kd.R_drewN | apply Kd.R_drew)); exact HO_27.out⟩, ⟨by (with_reducible repeat (first | apply Kd.R_alloc | apply Kd.R_drewN | apply Kd.R_drew)); exact HO_25.out⟩, ⟨by (with_reducible repeat (first | apply Kd.R_alloc | apply Kd.R_drewN | apply Kd.R_drew)); exact Kd.R_mono HO_805002.out (fun _ hk => ⟨hk.1, ⟨hk.2.2.1, ⟨hk.2.1, ⟨hk.2.2.2.1, hk.2.2.2.2⟩⟩⟩⟩)⟩, ⟨by (with_reducible repeat (first | apply Kd.R_alloc | apply Kd.R_drewN | apply Kd.R_drew)); exact HO_805003.out⟩, ⟨by (with_reducible repeat (first | apply Kd.R_alloc | apply Kd.R_drewN | apply Kd.R_drew)); exact Kd.R_mono HO_832002.out (fun _ hk => ⟨hk.1, ⟨hk.2.2.1, ⟨hk.2.1, ⟨hk.2.2.2.1, hk.2.2.2.2⟩⟩⟩⟩)⟩, ⟨by (with_reducible repeat (first | apply Kd.R_alloc | apply Kd.R_drewN | apply Kd.R_drew)); exact HO_832003.out⟩, ⟨by (with_reducible repeat (first | apply Kd.R_alloc | apply Kd.R_drewN | apply Kd.R_drew)); exact Kd.R_mono HO_833002.out (fun _ hk => ⟨hk.1, ⟨hk.2.2.1, ⟨hk.2.1, ⟨hk.2.2.2.1, hk.2.2.2.2⟩⟩⟩⟩)⟩, ⟨by (with_reducible repeat (first | apply Kd.R_alloc | apply Kd.R_drewN | apply Kd.R_drew)); exact HO_833003.out⟩, ⟨by (with_reducible repeat (first | refine blk_drewN ?_ _ | refine blk_drew ?_ | refine blk_alloc ?_ _)); exact BK804.out⟩, ⟨by (with_reducible repeat (first | refine blk_drewN ?_ _ | refine blk_drew ?_ | refine blk_alloc ?_ _)); exact BK831.out⟩, ⟨by (with_reducible repeat (first | refine blk_drewN ?_ _ | refine blk_drew ?_ | refine blk_alloc ?_ _)); exact BK832.out⟩, ⟨by repeat (first | (with_reducible first | exact HB.out | apply below_alloc | apply pw_below_drewN | apply below_drew1 | refine below_set ?_ GE804.out | refine below_set ?_ GE831.out | refine below_set ?_ GE832.out) | exact HB.out)⟩⟩
              case round =>
               clear H'
               (try clear c1); (try clear c2); (try clear p2); (try clear c3); (try clear c3b0); (try clear c4); (try clear c5); (try clear c6); (try clear p6); (try clear c7); (try clear c8); (try clear c11); (try clear c16); (try clear c16b0); (try clear c16b1); (try clear c16b2); (try clear c17); (try clear c17b0); (try clear c17b1); (try clear c18); (try clear c20); (try clear c25); (try clear c26); (try clear c26b0); (try clear c26b1); (try clear c27); (try clear c28); (try clear c28b0); (try clear c29); (try clear c30); (try clear c31); (try clear c31b0); (try clear c33); (try clear c34); (try clear c41); (try clear c42); (try clear c43); (try clear c46); (try clear c54); (try clear c54b0); (try clear c54b1); (try clear c54b2); (try clear c58); (try clear c59); (try clear c64); (try clear p64); (try clear c65); (try clear c67); (try clear c74); (try clear c76); (try clear c77); (try clear c80); (try clear hcz10_0); (try clear hcz10_1); (try clear hcz10_2); (try clear hcz10_3); (try clear hcz14_0); (try clear hcz14_1); (try clear hcz14_2); (try clear hcz14_3); (try clear hcz23_0); (try clear hcz23_1); (try clear hcz23_2); (try clear hcz23_3); (try clear hcz32_0); (try clear hcz32_1); (try clear hcz32_2); (try clear hcz32_3); (try clear hcz43_0); (try clear hcz43_1); (try clear hcz43_2); (try clear hcz43_3); (try clear hcz47_0); (try clear hcz47_1); (try clear hcz47_2); (try clear hcz47_3); (try clear hcz51_0); (try clear hcz51_1); (try clear hcz51_2); (try clear hcz51_3); (try clear hcz52_0); (try clear hcz52_1); (try clear hcz52_2); (try clear hcz52_3); (try clear hcz66_0); (try clear hcz66_1); (try clear hcz66_2); (try clear hcz66_3); (try clear hcz68_0); (try clear hcz68_1); (try clear hcz68_2); (try clear hcz68_3); (try clear hcz70_0); (try clear hcz70_1); (try clear hcz70_2); (try clear hcz70_3); (try clear hcz72_0); (try clear hcz72_1); (try clear hcz72_2); (try clear hcz72_3); (try clear hfz10_0); (try clear hfz10_1); (try clear hfz10_2); (try clear hfz10_3); (try clear hfz14_0); (try clear hfz14_1); (try clear hfz14_2); (try clear hfz14_3); (try clear hfz23_0); (try clear hfz23_1); (try clear hfz23_2); (try clear hfz23_3); (try clear hfz32_0); (try clear hfz32_1); (try clear hfz32_2); (try clear hfz32_3); (try clear hfz43_0); (try clear hfz43_1); (try clear hfz43_2); (try clear hfz43_3); (try clear hfz47_0); (try clear hfz47_1); (try clear hfz47_2); (try clear hfz47_3); (try clear hfz51_0); (try clear hfz51_1); (try clear hfz51_2); (try clear hfz51_3); (try clear hfz52_0); (try clear hfz52_1); (try clear hfz52_2); (try clear hfz52_3); (try clear hfz66_0); (try clear hfz66_1); (try clear hfz66_2); (try clear hfz66_3); (try clear hfz68_0); (try clear hfz68_1); (try clear hfz68_2); (try clear hfz68_3); (try clear hfz70_0); (try clear hfz70_1); (try clear hfz70_2); (try clear hfz70_3); (try clear hfz72_0); (try clear hfz72_1); (try clear hfz72_2); (try clear hfz72_3); (try clear p2); (try clear p6); (try clear p64)
               obtain ⟨x171_5, rfl, HA, HK5, HO_19, HO_27, HO_169, HO_805002, HO_805003, HO_832002, HO_832003, HO_833002, HO_833003, BK804, BK831, BK832, HB⟩ := hrel
               cases gk with
               | zero => exact absurd HA.out (by simp [laws_FnNext.l0])
               | succ k5 =>
                have H := HA.out
                clear HA
                simp only [laws_FnNext.l0] at H
                by_cases c82 : x171_5 < (t846.length : Int)
                ·rw [if_pos c82] at H
                 have c82b0 : decide (x171_5 < (t846.length : Int)) = true := decide_eq_true c82
                 clear c82
                 by_cases c83 : 0 ≤ x171_5
                 ·rw [if_pos c83] at H
                  have c83b0 : decide (0 ≤ x171_5) = true := decide_eq_true c83
                  clear c83
                  by_cases c84 : x171_5 < (t846.length : Int)
                  ·rw [if_pos c84] at H
                   have c84b0 : decide (x171_5 < (t846.length : Int)) = true := decide_eq_true c84
                   clear c84
                   replace H := Option.bind_eq_some_iff.mp H
                   obtain ⟨t870, A850, H⟩ := H
                   replace H : ((laws_has.f k5 t850 (rd t846 x171_5)).bind fun t871 => (if (t870 != t871) = true then (some false) else (laws_FnNext.l0 k5 l1 t833 t850 t846 (t846.length : Int) (wrap64 (x171_5 + 1))))) = some r := H
                   have A85 := Aside0.mk A850
                   clear A850
                   replace H := Option.bind_eq_some_iff.mp H
                   obtain ⟨t871, A860, H⟩ := H
                   replace H : (if (t870 != t871) = true then (some false) else (laws_FnNext.l0 k5 l1 t833 t850 t846 (t846.length : Int) (wrap64 (x171_5 + 1)))) = some r := H
                   have A86 := Aside0.mk A860
                   clear A860
                   by_cases c87 : (t870 != t871) = true
                   ·rw [if_pos c87] at H
                    have c87b0 : (t870 != t871) = true := c87
                    (try (have c87b1 : decide (t870 = t871) = false := by simpa using c87))
                    (try (have c87b2 : (t870 == t871) = false := by simpa using c87))
                    (try (have c87b3 : ¬ (t870 = t871) := by simpa using c87))
                    clear c87
                    exact absurd HT.out (by have H9 := Option.some.inj H; rw [← H9]; decide)
                   ·rw [if_neg c87] at H
                    have c87b0 : (t870 != t871) = false := by simpa using c87
                    (try (have c87b1 : decide (t870 = t871) = true := by simpa using c87))
                    (try (have c87b2 : (t870 == t871) = true := by simpa using c87))
                    clear c87
                    have H' := Aside0.mk H
                    clear H
                    have p869 : 0 ≤ (x171_5 : Int) := of_decide_eq_true (by first | (with_reducible assumption) | assumption)
                    have q869 : x171_5 < (t846.length : Int) := of_decide_eq_true (by first | (with_reducible assumption) | assumption)
                    obtain ⟨ad869, e869, hx869_0⟩ := Kd.at_int (Kd.R_reads' HO_169.out).2.2 x171_5 p869 q869
                    cases e869
                    replace p869 := eq_true p869
                    replace q869 := eq_true q869
                    obtain ⟨Ao88, co88, eo88⟩ := Kd.R_slice HO_19.out
                    subst eo88
                    go_wp2_with (first | ((with_reducible refine gate_callee (f := 44) rfl ?_); refine goesL_ (some 177) rfl rfl Try.func44 (by kernel_rfl) rfl #[.slice Ao88 t833.length co88, .int .i64 (rd t846 x171_5)] rfl (ag_) ?_; (with_reducible refine (laws_has.calls k5 _ _ t833 (rd t846 x171_5) t870 _ ?side1 ?side2 A85.out).mono ?_); (case side1 => refine cd_ ?_; exact (Kd.R_reads' HO_19.out).2.2); (case side2 => exact (Kd.R_reads' HO_19.out).2.1); rintro e w' ⟨rfl, ⟨nd, rfl⟩⟩; refine ⟨_, rfl, ?_⟩; obtain ⟨Ao89, co89, eo89⟩ := Kd.R_slice HO_27.out; subst eo89) | ((with_reducible refine gate_callee (f := 44) rfl ?_); refine goesL_ (some 180) rfl rfl Try.func44 (by kernel_rfl) rfl #[.slice Ao89 t850.length co89, .int .i64 (rd t846 x171_5)] rfl (ag_) ?_; (with_reducible refine (laws_has.calls k5 _ _ t850 (rd t846 x171_5) t871 _ ?side1 ?side2 A86.out).mono ?_); (case side1 => refine cd_ ?_; exact (Kd.R_reads' HO_27.out).2.2); (case side2 => exact (Kd.R_reads' HO_27.out).2.1); rintro e w' ⟨rfl, ⟨nd, rfl⟩⟩; refine ⟨_, rfl, ?_⟩))
                    go_roundg k5
                    case measure => have := HJ6.out; have := HJ18.out; have := HJ36.out; have := HJ62.out; have := HK5.out; omega
                    case rel => exact ⟨(wrap64 (x171_5 + 1)), (by first | rfl | (simp; done) | (simp [*]; done)), H', ⟨by have := HJ6.out; have := HJ18.out; have := HJ36.out; have := HJ62.out; have := HK5.out; omega⟩, ⟨by (with_reducible repeat (first | apply Kd.R_alloc | apply Kd.R_drewN | apply Kd.R_drew)); exact HO_19.out⟩, ⟨by (with_reducible repeat (first | apply Kd.R_alloc | apply Kd.R_drewN | apply Kd.R_drew)); exact HO_27.out⟩, ⟨by (with_reducible repeat (first | apply Kd.R_alloc | apply Kd.R_drewN | apply Kd.R_drew)); exact HO_169.out⟩, ⟨by (with_reducible repeat (first | apply Kd.R_alloc | apply Kd.R_drewN | apply Kd.R_drew)); exact HO_805002.out⟩, ⟨by (with_reducible repeat (first | apply Kd.R_alloc | apply Kd.R_drewN | apply Kd.R_drew)); exact HO_805003.out⟩, ⟨by (with_reducible repeat (first | apply Kd.R_alloc | apply Kd.R_drewN | apply Kd.R_drew)); exact HO_832002.out⟩, ⟨by (with_reducible repeat (first | apply Kd.R_alloc | apply Kd.R_drewN | apply Kd.R_drew)); exact HO_832003.out⟩, ⟨by (with_reducible repeat (first | apply Kd.R_alloc | apply Kd.R_drewN | apply Kd.R_drew)); exact HO_833002.out⟩, ⟨by (with_reducible repeat (first | apply Kd.R_alloc | apply Kd.R_drewN | apply Kd.R_drew)); exact HO_833003.out⟩, ⟨by (with_reducible repeat (first | refine blk_drewN ?_ _ | refine blk_drew ?_ | refine blk_alloc ?_ _)); exact BK804.out⟩, ⟨by (with_reducible repeat (first | refine blk_drewN ?_ _ | refine blk_drew ?_ | refine blk_alloc ?_ _)); exact BK831.out⟩, ⟨by (with_reducible repeat (first | refine blk_drewN ?_ _ | refine blk_drew ?_ | refine blk_alloc ?_ _)); exact BK832.out⟩, ⟨by repeat (first | (with_reducible first | exact HB.out | apply below_alloc | apply pw_below_drewN | apply below_drew1 | refine below_set ?_ GE804.out | refine below_set ?_ GE831.out | refine below_set ?_ GE832.out) | exact HB.out)⟩⟩
                  ·rw [if_neg c84] at H
                   exact absurd H (by simp)
                 ·rw [if_neg c83] at H
                  exact absurd H (by simp)
                ·rw [if_neg c82] at H
                 have c82b0 : decide (x171_5 < (t846.length : Int)) = false := decide_eq_false c82
                 clear c82
                 replace H := Option.bind_eq_some_iff.mp H
                 obtain ⟨⟨t855, t856, t857, t860, t863⟩, A900, H⟩ := H
                 replace H : ((impl_NumberAt.f k5 t855 t856 t857 t860 t863).bind fun bt865 => ((spec_NumberAt.f k5 t855 t856 t857 t860 t863).bind fun bt867 => (if (bt865.2 == bt867.2) = true then (some (bt865.1 == bt867.1)) else (some false)))) = some r := H
                 have A90 := Aside0.mk A900
                 clear A900
                 replace H := Option.bind_eq_some_iff.mp H
                 obtain ⟨⟨t865, t866⟩, A910, H⟩ := H
                 replace H : ((spec_NumberAt.f k5 t855 t856 t857 t860 t863).bind fun bt867 => (if (t866 == bt867.2) = true then (some (t865 == bt867.1)) else (some false))) = some r := H
                 have A91 := Aside0.mk A910
                 clear A910
                 replace H := Option.bind_eq_some_iff.mp H
                 obtain ⟨⟨t867, t868⟩, A920, H⟩ := H
                 replace H : (if (t866 == t868) = true then (some (t865 == t867)) else (some false)) = some r := H
                 have A92 := Aside0.mk A920
                 clear A920
                 by_cases c93 : (t866 == t868) = true
                 ·rw [if_pos c93] at H
                  have c93b0 : (t866 == t868) = true := c93
                  (try (have c93b1 : decide (t866 = t868) = true := by simpa using c93))
                  (try (have c93b2 : (t866 == t868) = true := by simpa using c93))
                  clear c93
                  obtain rfl := Option.some.inj H
                  go_wp2_with (first | ((with_reducible refine gate_callee (f := 45) rfl ?_); refine goesL_ (some 185) rfl rfl Try.func45 (by kernel_rfl) rfl #[.slice A1 l1.length c1] rfl (ag_) ?_; (with_reducible refine (spec_DrawNumberAt.calls k5 _ _ l1 t855 t856 t857 t860 t863 _ ?side1 ?side2 A90.out).mono ?_); (case side1 => refine cd_ ?_; exact (Kd.C_below HR1.out HB.out)); (case side2 => exact HC1.out); rintro e w94 ⟨v858, v861, rfl, ho0, ho1, hb⟩; refine ⟨_, rfl, ?_⟩; have n0_ := Aside0.mk (Kd.R_elder' (rk_ HO_19.out) (Kd.R_base ho0) hb); have n1_ := Aside0.mk (Kd.R_elder' (rk_ HO_27.out) (Kd.R_base ho0) hb); have n2_ := Aside0.mk (Kd.R_elder' (rk_ HO_169.out) (Kd.R_base ho0) hb); have n3_ := Aside0.mk (Kd.R_elder' (rk_ HO_805002.out) (Kd.R_base ho0) hb); have n4_ := Aside0.mk (Kd.R_elder' (rk_ HO_805003.out) (Kd.R_base ho1) hb); have n5_ := Aside0.mk (Kd.R_elder' (rk_ HO_832002.out) (Kd.R_base ho0) hb); have n6_ := Aside0.mk (Kd.R_elder' (rk_ HO_832003.out) (Kd.R_base ho1) hb); have n7_ := Aside0.mk (Kd.R_elder' (rk_ HO_833002.out) (Kd.R_base ho0) hb); have n8_ := Aside0.mk (Kd.R_elder' (rk_ HO_833003.out) (Kd.R_base ho1) hb); have n9_ := Aside0.mk (Kd.R_lower (Kd.R_new' (Kd.R_new' (Kd.R_new' (Kd.R_new' (Kd.R_new' (Kd.R_new' ho0 (Kd.R_lt (rk_ HO_19.out))) (Kd.R_lt (rk_ HO_27.out))) (Kd.R_lt (rk_ HO_169.out))) (Kd.R_lt (rk_ HO_805002.out))) (Kd.R_lt (rk_ HO_832002.out))) (Kd.R_lt (rk_ HO_833002.out))) (bw_ HB.out)); have n10_ := Aside0.mk (Kd.R_lower (Kd.R_new' (Kd.R_new' (Kd.R_new' ho1 (Kd.R_lt (rk_ HO_805003.out))) (Kd.R_lt (rk_ HO_832003.out))) (Kd.R_lt (rk_ HO_833003.out))) (bw_ HB.out)); have n11_ := Aside0.mk (blk_below (g := gb804) (o := .cells #[.int .i64 t795, .int .i64 t796, .slice Ao11 t797.length co11, .slice Ao12 t800.length co12] 25 (0, 0)) (pk_ BK804.out) hb); have n12_ := Aside0.mk (blk_below (g := gb831) (o := .cells #[.int .i64 t815, .int .i64 t816, .slice Ao44 t817.length co44, .slice Ao45 t820.length co45] 25 (0, 0)) (pk_ BK831.out) hb); have n13_ := Aside0.mk (blk_below (g := gb832) (o := .cells #[.int .i64 t823, .int .i64 t824, .slice Ao48 t825.length co48, .slice Ao49 t828.length co49] 25 (0, 0)) (pk_ BK832.out) hb); have n14_ := Aside0.mk (bs_ HB.out hb); clear HO_19; clear HO_27; clear HO_169; clear HO_805002; clear HO_805003; clear HO_832002; clear HO_832003; clear HO_833002; clear HO_833003; clear BK804; clear BK831; clear BK832; clear HB; have HO_19 := n0_; have HO_27 := n1_; have HO_169 := n2_; have HO_805002 := n3_; have HO_805003 := n4_; have HO_832002 := n5_; have HO_832003 := n6_; have HO_833002 := n7_; have HO_833003 := n8_; have HO859 := n9_; have HO862 := n10_; have BK804 := n11_; have BK831 := n12_; have BK832 := n13_; have HB := n14_; clear n0_ n1_ n2_ n3_ n4_ n5_ n6_ n7_ n8_ n9_ n10_ n11_ n12_ n13_ n14_; (try clear hb); (try clear hb2); (try clear hk); (try clear hi); (try clear ho0); (try clear ho1)) | ((with_reducible refine gate_dst (N := 31) rfl ?_); refine box_event ?hg (N := 31) ?hd (cs := #[.int .i64 0, .int .i64 0, .slice none 0 0, .slice none 0 0]) (t := 25) ?hr ?_; (case hd => rfl); (case hg => rfl); (case hr => first | (go_simp; done) | (go_simp; rfl)); intro gb864 hg w95 hbox hb; have n0_ := Aside0.mk (Kd.R_below (rk_ HO_19.out) hb); have n1_ := Aside0.mk (Kd.R_below (rk_ HO_27.out) hb); have n2_ := Aside0.mk (Kd.R_below (rk_ HO_169.out) hb); have n3_ := Aside0.mk (Kd.R_below (rk_ HO_805002.out) hb); have n4_ := Aside0.mk (Kd.R_below (rk_ HO_805003.out) hb); have n5_ := Aside0.mk (Kd.R_below (rk_ HO_832002.out) hb); have n6_ := Aside0.mk (Kd.R_below (rk_ HO_832003.out) hb); have n7_ := Aside0.mk (Kd.R_below (rk_ HO_833002.out) hb); have n8_ := Aside0.mk (Kd.R_below (rk_ HO_833003.out) hb); have n9_ := Aside0.mk (Kd.R_below (rk_ HO859.out) hb); have n10_ := Aside0.mk (Kd.R_below (rk_ HO862.out) hb); have n11_ := Aside0.mk (blk_below (g := gb804) (o := .cells #[.int .i64 t795, .int .i64 t796, .slice Ao11 t797.length co11, .slice Ao12 t800.length co12] 25 (0, 0)) (pk_ BK804.out) hb); have n12_ := Aside0.mk (blk_below (g := gb831) (o := .cells #[.int .i64 t815, .int .i64 t816, .slice Ao44 t817.length co44, .slice Ao45 t820.length co45] 25 (0, 0)) (pk_ BK831.out) hb); have n13_ := Aside0.mk (blk_below (g := gb832) (o := .cells #[.int .i64 t823, .int .i64 t824, .slice Ao48 t825.length co48, .slice Ao49 t828.length co49] 25 (0, 0)) (pk_ BK832.out) hb); have n14_ := Aside0.mk (bs_ HB.out hb); have n15_ := Aside0.mk (hbox); have n16_ := Aside0.mk ((by rw [hg]; exact (bw_ HB.out) : w.heap.size ≤ gb864)); have n17_ := Aside0.mk ((by rw [hg]; exact (bw_ HB.out) : w.heap.size ≤ gb864)); have n18_ := Aside0.mk ((by rw [hg]; exact Nat.ne_of_lt (blk_lt (g := gb804) (o := .cells #[.int .i64 t795, .int .i64 t796, .slice Ao11 t797.length co11, .slice Ao12 t800.length co12] 25 (0, 0)) (pk_ BK804.out)) : gb804 ≠ gb864)); have n19_ := Aside0.mk ((by rw [hg]; exact Nat.ne_of_gt (blk_lt (g := gb804) (o := .cells #[.int .i64 t795, .int .i64 t796, .slice Ao11 t797.length co11, .slice Ao12 t800.length co12] 25 (0, 0)) (pk_ BK804.out)) : gb864 ≠ gb804)); have n20_ := Aside0.mk ((by rw [hg]; exact Nat.ne_of_lt (blk_lt (g := gb831) (o := .cells #[.int .i64 t815, .int .i64 t816, .slice Ao44 t817.length co44, .slice Ao45 t820.length co45] 25 (0, 0)) (pk_ BK831.out)) : gb831 ≠ gb864)); have n21_ := Aside0.mk ((by rw [hg]; exact Nat.ne_of_gt (blk_lt (g := gb831) (o := .cells #[.int .i64 t815, .int .i64 t816, .slice Ao44 t817.length co44, .slice Ao45 t820.length co45] 25 (0, 0)) (pk_ BK831.out)) : gb864 ≠ gb831)); have n22_ := Aside0.mk ((by rw [hg]; exact Nat.ne_of_lt (blk_lt (g := gb832) (o := .cells #[.int .i64 t823, .int .i64 t824, .slice Ao48 t825.length co48, .slice Ao49 t828.length co49] 25 (0, 0)) (pk_ BK832.out)) : gb832 ≠ gb864)); have n23_ := Aside0.mk ((by rw [hg]; exact Nat.ne_of_gt (blk_lt (g := gb832) (o := .cells #[.int .i64 t823, .int .i64 t824, .slice Ao48 t825.length co48, .slice Ao49 t828.length co49] 25 (0, 0)) (pk_ BK832.out)) : gb864 ≠ gb832)); clear HO_19; clear HO_27; clear HO_169; clear HO_805002; clear HO_805003; clear HO_832002; clear HO_832003; clear HO_833002; clear HO_833003; clear HO859; clear HO862; clear BK804; clear BK831; clear BK832; clear HB; have HO_19 := n0_; have HO_27 := n1_; have HO_169 := n2_; have HO_805002 := n3_; have HO_805003 := n4_; have HO_832002 := n5_; have HO_832003 := n6_; have HO_833002 := n7_; have HO_833003 := n8_; have HO859 := n9_; have HO862 := n10_; have BK804 := n11_; have BK831 := n12_; have BK832 := n13_; have HB := n14_; have BK864 := n15_; have GW864 := n16_; have GE864 := n17_; have NB804_864 := n18_; have NB864_804 := n19_; have NB831_864 := n20_; have NB864_831 := n21_; have NB832_864 := n22_; have NB864_832 := n23_; clear n0_ n1_ n2_ n3_ n4_ n5_ n6_ n7_ n8_ n9_ n10_ n11_ n12_ n13_ n14_ n15_ n16_ n17_ n18_ n19_ n20_ n21_ n22_ n23_; clear hb hbox hg; have hnb96 := NB864_804.out; have hnc96 := NB804_864.out; have hnb97 := NB864_831.out; have hnc97 := NB831_864.out; have hnb98 := NB864_832.out; have hnc98 := NB832_864.out; have hcz99_0 : w95.cell? ⟨gb864, 0, none⟩ = some (.int .i64 0) := (blk_cell BK864.out 0).trans rfl; have hcz99_1 : w95.cell? ⟨gb864, 1, none⟩ = some (.int .i64 0) := (blk_cell BK864.out 1).trans rfl; have hcz99_2 : w95.cell? ⟨gb864, 2, none⟩ = some (.slice none 0 0) := (blk_cell BK864.out 2).trans rfl; have hcz99_3 : w95.cell? ⟨gb864, 3, none⟩ = some (.slice none 0 0) := (blk_cell BK864.out 3).trans rfl; have hfz99_0 := blk_frozen BK864.out 0; have hfz99_1 := blk_frozen BK864.out 1; have hfz99_2 := blk_frozen BK864.out 2; have hfz99_3 := blk_frozen BK864.out 3; obtain ⟨Ao100, co100, eo100⟩ := Kd.R_slice HO859.out; subst eo100; obtain ⟨Ao101, co101, eo101⟩ := Kd.R_slice HO862.out; subst eo101) | ((with_reducible refine gate_callee (f := 28) rfl ?_); refine goesL_ (some 191) rfl rfl Try.func28 (by kernel_rfl) rfl #[.agg #[.int .i64 t855, .int .i64 t856, .slice Ao100 t857.length co100, .slice Ao101 t860.length co101], .int .i64 t863] rfl (ag_) ?_; (with_reducible refine (impl_NumberAt.calls k5 t855 t856 _ _ t857 _ _ t860 t863 t865 t866 _ ?side1 ?side2 ?side3 ?side4 A91.out).mono ?_); (case side1 => refine (Kd.R_reads' (e := 3) (base := w.heap.size) (ok := fun k_ => ((((((True ∧ some k_ ≠ (v834 : Value).ownBlock) ∧ some k_ ≠ (v851 : Value).ownBlock) ∧ some k_ ≠ (.slice Ao81 t846.length co81 : Value).ownBlock) ∧ some k_ ≠ (.slice Ao11 t797.length co11 : Value).ownBlock) ∧ some k_ ≠ (.slice Ao44 t817.length co44 : Value).ownBlock) ∧ some k_ ≠ (.slice Ao48 t825.length co48 : Value).ownBlock)) (n := t857.length) (c := co100) ?_).2.2; exact (by (with_reducible repeat (first | apply Kd.R_alloc | apply Kd.R_drewN | apply Kd.R_drew)); exact (Kd.R_mono (Kd.R_far (p := ⟨gb864, 3, none⟩) (Kd.R_far (p := ⟨gb864, 2, none⟩) (Kd.R_far (p := ⟨gb864, 1, none⟩) (Kd.R_far (p := ⟨gb864, 0, none⟩) (Kd.R_types HO859.out BK864.out (by decide)) (fun _ hk => hk.2) (.int .i64 t855)) (fun _ hk => hk.2) (.int .i64 t856)) (fun _ hk => hk.2) (.slice Ao100 t857.length co100)) (fun _ hk => hk.2) (.slice Ao101 t860.length co101)) (fun _ h_ => h_.1)))); (case side2 => exact (Kd.R_reads' HO859.out).2.1); (case side3 => refine (Kd.R_reads' (e := 4) (base := w.heap.size) (ok := fun k_ => (((True ∧ some k_ ≠ (.slice Ao12 t800.length co12 : Value).ownBlock) ∧ some k_ ≠ (.slice Ao45 t820.length co45 : Value).ownBlock) ∧ some k_ ≠ (.slice Ao49 t828.length co49 : Value).ownBlock)) (n := t860.length) (c := co101) ?_).2.2; exact (by (with_reducible repeat (first | apply Kd.R_alloc | apply Kd.R_drewN | apply Kd.R_drew)); exact (Kd.R_mono (Kd.R_far (p := ⟨gb864, 3, none⟩) (Kd.R_far (p := ⟨gb864, 2, none⟩) (Kd.R_far (p := ⟨gb864, 1, none⟩) (Kd.R_far (p := ⟨gb864, 0, none⟩) (Kd.R_types HO862.out BK864.out (by decide)) (fun _ hk => hk.2) (.int .i64 t855)) (fun _ hk => hk.2) (.int .i64 t856)) (fun _ hk => hk.2) (.slice Ao100 t857.length co100)) (fun _ hk => hk.2) (.slice Ao101 t860.length co101)) (fun _ h_ => h_.1)))); (case side4 => exact (Kd.R_reads' HO862.out).2.1); rintro e w102 ⟨rfl, hb⟩; refine ⟨_, rfl, ?_⟩; have n0_ := Aside0.mk (Kd.R_below (by refine rk_ ?_; exact (Kd.R_mono (Kd.R_far (p := ⟨gb864, 3, none⟩) (Kd.R_far (p := ⟨gb864, 2, none⟩) (Kd.R_far (p := ⟨gb864, 1, none⟩) (Kd.R_far (p := ⟨gb864, 0, none⟩) (Kd.R_types HO_19.out BK864.out (by decide)) (fun _ hk => hk.2) (.int .i64 t855)) (fun _ hk => hk.2) (.int .i64 t856)) (fun _ hk => hk.2) (.slice Ao100 t857.length co100)) (fun _ hk => hk.2) (.slice Ao101 t860.length co101)) (fun _ h_ => h_.1))) hb); have n1_ := Aside0.mk (Kd.R_below (by refine rk_ ?_; exact (Kd.R_mono (Kd.R_far (p := ⟨gb864, 3, none⟩) (Kd.R_far (p := ⟨gb864, 2, none⟩) (Kd.R_far (p := ⟨gb864, 1, none⟩) (Kd.R_far (p := ⟨gb864, 0, none⟩) (Kd.R_types HO_27.out BK864.out (by decide)) (fun _ hk => hk.2) (.int .i64 t855)) (fun _ hk => hk.2) (.int .i64 t856)) (fun _ hk => hk.2) (.slice Ao100 t857.length co100)) (fun _ hk => hk.2) (.slice Ao101 t860.length co101)) (fun _ h_ => h_.1))) hb); have n2_ := Aside0.mk (Kd.R_below (by refine rk_ ?_; exact (Kd.R_mono (Kd.R_far (p := ⟨gb864, 3, none⟩) (Kd.R_far (p := ⟨gb864, 2, none⟩) (Kd.R_far (p := ⟨gb864, 1, none⟩) (Kd.R_far (p := ⟨gb864, 0, none⟩) (Kd.R_types HO_169.out BK864.out (by decide)) (fun _ hk => hk.2) (.int .i64 t855)) (fun _ hk => hk.2) (.int .i64 t856)) (fun _ hk => hk.2) (.slice Ao100 t857.length co100)) (fun _ hk => hk.2) (.slice Ao101 t860.length co101)) (fun _ h_ => h_.1))) hb); have n3_ := Aside0.mk (Kd.R_below (by refine rk_ ?_; exact (Kd.R_mono (Kd.R_far (p := ⟨gb864, 3, none⟩) (Kd.R_far (p := ⟨gb864, 2, none⟩) (Kd.R_far (p := ⟨gb864, 1, none⟩) (Kd.R_far (p := ⟨gb864, 0, none⟩) (Kd.R_types HO_805002.out BK864.out (by decide)) (fun _ hk => hk.2) (.int .i64 t855)) (fun _ hk => hk.2) (.int .i64 t856)) (fun _ hk => hk.2) (.slice Ao100 t857.length co100)) (fun _ hk => hk.2) (.slice Ao101 t860.length co101)) (fun _ h_ => h_.1))) hb); have n4_ := Aside0.mk (Kd.R_below (by refine rk_ ?_; exact (Kd.R_mono (Kd.R_far (p := ⟨gb864, 3, none⟩) (Kd.R_far (p := ⟨gb864, 2, none⟩) (Kd.R_far (p := ⟨gb864, 1, none⟩) (Kd.R_far (p := ⟨gb864, 0, none⟩) (Kd.R_types HO_805003.out BK864.out (by decide)) (fun _ hk => hk.2) (.int .i64 t855)) (fun _ hk => hk.2) (.int .i64 t856)) (fun _ hk => hk.2) (.slice Ao100 t857.length co100)) (fun _ hk => hk.2) (.slice Ao101 t860.length co101)) (fun _ h_ => h_.1))) hb); have n5_ := Aside0.mk (Kd.R_below (by refine rk_ ?_; exact (Kd.R_mono (Kd.R_far (p := ⟨gb864, 3, none⟩) (Kd.R_far (p := ⟨gb864, 2, none⟩) (Kd.R_far (p := ⟨gb864, 1, none⟩) (Kd.R_far (p := ⟨gb864, 0, none⟩) (Kd.R_types HO_832002.out BK864.out (by decide)) (fun _ hk => hk.2) (.int .i64 t855)) (fun _ hk => hk.2) (.int .i64 t856)) (fun _ hk => hk.2) (.slice Ao100 t857.length co100)) (fun _ hk => hk.2) (.slice Ao101 t860.length co101)) (fun _ h_ => h_.1))) hb); have n6_ := Aside0.mk (Kd.R_below (by refine rk_ ?_; exact (Kd.R_mono (Kd.R_far (p := ⟨gb864, 3, none⟩) (Kd.R_far (p := ⟨gb864, 2, none⟩) (Kd.R_far (p := ⟨gb864, 1, none⟩) (Kd.R_far (p := ⟨gb864, 0, none⟩) (Kd.R_types HO_832003.out BK864.out (by decide)) (fun _ hk => hk.2) (.int .i64 t855)) (fun _ hk => hk.2) (.int .i64 t856)) (fun _ hk => hk.2) (.slice Ao100 t857.length co100)) (fun _ hk => hk.2) (.slice Ao101 t860.length co101)) (fun _ h_ => h_.1))) hb); have n7_ := Aside0.mk (Kd.R_below (by refine rk_ ?_; exact (Kd.R_mono (Kd.R_far (p := ⟨gb864, 3, none⟩) (Kd.R_far (p := ⟨gb864, 2, none⟩) (Kd.R_far (p := ⟨gb864, 1, none⟩) (Kd.R_far (p := ⟨gb864, 0, none⟩) (Kd.R_types HO_833002.out BK864.out (by decide)) (fun _ hk => hk.2) (.int .i64 t855)) (fun _ hk => hk.2) (.int .i64 t856)) (fun _ hk => hk.2) (.slice Ao100 t857.length co100)) (fun _ hk => hk.2) (.slice Ao101 t860.length co101)) (fun _ h_ => h_.1))) hb); have n8_ := Aside0.mk (Kd.R_below (by refine rk_ ?_; exact (Kd.R_mono (Kd.R_far (p := ⟨gb864, 3, none⟩) (Kd.R_far (p := ⟨gb864, 2, none⟩) (Kd.R_far (p := ⟨gb864, 1, none⟩) (Kd.R_far (p := ⟨gb864, 0, none⟩) (Kd.R_types HO_833003.out BK864.out (by decide)) (fun _ hk => hk.2) (.int .i64 t855)) (fun _ hk => hk.2) (.int .i64 t856)) (fun _ hk => hk.2) (.slice Ao100 t857.length co100)) (fun _ hk => hk.2) (.slice Ao101 t860.length co101)) (fun _ h_ => h_.1))) hb); have n9_ := Aside0.mk (Kd.R_below (by refine rk_ ?_; exact (Kd.R_mono (Kd.R_far (p := ⟨gb864, 3, none⟩) (Kd.R_far (p := ⟨gb864, 2, none⟩) (Kd.R_far (p := ⟨gb864, 1, none⟩) (Kd.R_far (p := ⟨gb864, 0, none⟩) (Kd.R_types HO859.out BK864.out (by decide)) (fun _ hk => hk.2) (.int .i64 t855)) (fun _ hk => hk.2) (.int .i64 t856)) (fun _ hk => hk.2) (.slice Ao100 t857.length co100)) (fun _ hk => hk.2) (.slice Ao101 t860.length co101)) (fun _ h_ => h_.1))) hb); have n10_ := Aside0.mk (Kd.R_below (by refine rk_ ?_; exact (Kd.R_mono (Kd.R_far (p := ⟨gb864, 3, none⟩) (Kd.R_far (p := ⟨gb864, 2, none⟩) (Kd.R_far (p := ⟨gb864, 1, none⟩) (Kd.R_far (p := ⟨gb864, 0, none⟩) (Kd.R_types HO862.out BK864.out (by decide)) (fun _ hk => hk.2) (.int .i64 t855)) (fun _ hk => hk.2) (.int .i64 t856)) (fun _ hk => hk.2) (.slice Ao100 t857.length co100)) (fun _ hk => hk.2) (.slice Ao101 t860.length co101)) (fun _ h_ => h_.1))) hb); have n11_ := Aside0.mk (blk_below (g := gb804) (o := .cells #[.int .i64 t795, .int .i64 t796, .slice Ao11 t797.length co11, .slice Ao12 t800.length co12] 25 (0, 0)) (by refine pk_ ?_; refine blk_far ?_ NB804_864.out _; (with_reducible repeat (first | refine blk_drewN ?_ _ | refine blk_drew ?_ | refine blk_alloc ?_ _)); refine blk_far ?_ NB804_864.out _; (with_reducible repeat (first | refine blk_drewN ?_ _ | refine blk_drew ?_ | refine blk_alloc ?_ _)); refine blk_far ?_ NB804_864.out _; (with_reducible repeat (first | refine blk_drewN ?_ _ | refine blk_drew ?_ | refine blk_alloc ?_ _)); refine blk_far ?_ NB804_864.out _; (with_reducible repeat (first | refine blk_drewN ?_ _ | refine blk_drew ?_ | refine blk_alloc ?_ _)); exact BK804.out) hb); have n12_ := Aside0.mk (blk_below (g := gb831) (o := .cells #[.int .i64 t815, .int .i64 t816, .slice Ao44 t817.length co44, .slice Ao45 t820.length co45] 25 (0, 0)) (by refine pk_ ?_; refine blk_far ?_ NB831_864.out _; (with_reducible repeat (first | refine blk_drewN ?_ _ | refine blk_drew ?_ | refine blk_alloc ?_ _)); refine blk_far ?_ NB831_864.out _; (with_reducible repeat (first | refine blk_drewN ?_ _ | refine blk_drew ?_ | refine blk_alloc ?_ _)); refine blk_far ?_ NB831_864.out _; (with_reducible repeat (first | refine blk_drewN ?_ _ | refine blk_drew ?_ | refine blk_alloc ?_ _)); refine blk_far ?_ NB831_864.out _; (with_reducible repeat (first | refine blk_drewN ?_ _ | refine blk_drew ?_ | refine blk_alloc ?_ _)); exact BK831.out) hb); have n13_ := Aside0.mk (blk_below (g := gb832) (o := .cells #[.int .i64 t823, .int .i64 t824, .slice Ao48 t825.length co48, .slice Ao49 t828.length co49] 25 (0, 0)) (by refine pk_ ?_; refine blk_far ?_ NB832_864.out _; (with_reducible repeat (first | refine blk_drewN ?_ _ | refine blk_drew ?_ | refine blk_alloc ?_ _)); refine blk_far ?_ NB832_864.out _; (with_reducible repeat (first | refine blk_drewN ?_ _ | refine blk_drew ?_ | refine blk_alloc ?_ _)); refine blk_far ?_ NB832_864.out _; (with_reducible repeat (first | refine blk_drewN ?_ _ | refine blk_drew ?_ | refine blk_alloc ?_ _)); refine blk_far ?_ NB832_864.out _; (with_reducible repeat (first | refine blk_drewN ?_ _ | refine blk_drew ?_ | refine blk_alloc ?_ _)); exact BK832.out) hb); have n14_ := Aside0.mk (blk_below (g := gb864) (o := .cells #[.int .i64 t855, .int .i64 t856, .slice Ao100 t857.length co100, .slice Ao101 t860.length co101] 25 (0, 0)) (by refine pk_ ?_; refine blk_put (cs := #[.int .i64 t855, .int .i64 t856, .slice Ao100 t857.length co100, .slice none 0 0]) ?_ 3 _ rfl; (with_reducible repeat (first | refine blk_drewN ?_ _ | refine blk_drew ?_ | refine blk_alloc ?_ _)); refine blk_put (cs := #[.int .i64 t855, .int .i64 t856, .slice none 0 0, .slice none 0 0]) ?_ 2 _ rfl; (with_reducible repeat (first | refine blk_drewN ?_ _ | refine blk_drew ?_ | refine blk_alloc ?_ _)); refine blk_put (cs := #[.int .i64 t855, .int .i64 0, .slice none 0 0, .slice none 0 0]) ?_ 1 _ rfl; (with_reducible repeat (first | refine blk_drewN ?_ _ | refine blk_drew ?_ | refine blk_alloc ?_ _)); refine blk_put (cs := #[.int .i64 0, .int .i64 0, .slice none 0 0, .slice none 0 0]) ?_ 0 _ rfl; (with_reducible repeat (first | refine blk_drewN ?_ _ | refine blk_drew ?_ | refine blk_alloc ?_ _)); exact BK864.out) hb); have n15_ := Aside0.mk (bs_ HB.out hb); clear HO_19; clear HO_27; clear HO_169; clear HO_805002; clear HO_805003; clear HO_832002; clear HO_832003; clear HO_833002; clear HO_833003; clear HO859; clear HO862; clear BK804; clear BK831; clear BK832; clear BK864; clear HB; have HO_19 := n0_; have HO_27 := n1_; have HO_169 := n2_; have HO_805002 := n3_; have HO_805003 := n4_; have HO_832002 := n5_; have HO_832003 := n6_; have HO_833002 := n7_; have HO_833003 := n8_; have HO859 := n9_; have HO862 := n10_; have BK804 := n11_; have BK831 := n12_; have BK832 := n13_; have BK864 := n14_; have HB := n15_; clear n0_ n1_ n2_ n3_ n4_ n5_ n6_ n7_ n8_ n9_ n10_ n11_ n12_ n13_ n14_ n15_; (try clear hb); (try clear hb2); (try clear hk); (try clear hi); have hcz103_0 : w102.cell? ⟨gb864, 0, none⟩ = some (.int .i64 t855) := (blk_cell BK864.out 0).trans rfl; have hcz103_1 : w102.cell? ⟨gb864, 1, none⟩ = some (.int .i64 t856) := (blk_cell BK864.out 1).trans rfl; have hcz103_2 : w102.cell? ⟨gb864, 2, none⟩ = some (.slice Ao100 t857.length co100) := (blk_cell BK864.out 2).trans rfl; have hcz103_3 : w102.cell? ⟨gb864, 3, none⟩ = some (.slice Ao101 t860.length co101) := (blk_cell BK864.out 3).trans rfl; have hfz103_0 := blk_frozen BK864.out 0; have hfz103_1 := blk_frozen BK864.out 1; have hfz103_2 := blk_frozen BK864.out 2; have hfz103_3 := blk_frozen BK864.out 3) | ((with_reducible refine gate_callee (f := 27) rfl ?_); refine goesL_ (some 197) rfl rfl Try.func27 (by kernel_rfl) rfl #[.agg #[.int .i64 t855, .int .i64 t856, .slice Ao100 t857.length co100, .slice Ao101 t860.length co101], .int .i64 t863] rfl (ag_) ?_; (with_reducible refine (spec_NumberAt.calls k5 t855 t856 _ _ t857 _ _ t860 t863 t867 t868 _ ?side1 ?side2 ?side3 ?side4 A92.out).mono ?_); (case side1 => refine cd_ ?_; exact (Kd.R_reads' HO859.out).2.2); (case side2 => exact (Kd.R_reads' HO859.out).2.1); (case side3 => refine cd_ ?_; exact (Kd.R_reads' HO862.out).2.2); (case side4 => exact (Kd.R_reads' HO862.out).2.1); rintro e w104 ⟨rfl, hb⟩; refine ⟨_, rfl, ?_⟩; have n0_ := Aside0.mk (Kd.R_below (rk_ HO_19.out) hb); have n1_ := Aside0.mk (Kd.R_below (rk_ HO_27.out) hb); have n2_ := Aside0.mk (Kd.R_below (rk_ HO_169.out) hb); have n3_ := Aside0.mk (Kd.R_below (rk_ HO_805002.out) hb); have n4_ := Aside0.mk (Kd.R_below (rk_ HO_805003.out) hb); have n5_ := Aside0.mk (Kd.R_below (rk_ HO_832002.out) hb); have n6_ := Aside0.mk (Kd.R_below (rk_ HO_832003.out) hb); have n7_ := Aside0.mk (Kd.R_below (rk_ HO_833002.out) hb); have n8_ := Aside0.mk (Kd.R_below (rk_ HO_833003.out) hb); have n9_ := Aside0.mk (Kd.R_below (rk_ HO859.out) hb); have n10_ := Aside0.mk (Kd.R_below (rk_ HO862.out) hb); have n11_ := Aside0.mk (blk_below (g := gb804) (o := .cells #[.int .i64 t795, .int .i64 t796, .slice Ao11 t797.length co11, .slice Ao12 t800.length co12] 25 (0, 0)) (pk_ BK804.out) hb); have n12_ := Aside0.mk (blk_below (g := gb831) (o := .cells #[.int .i64 t815, .int .i64 t816, .slice Ao44 t817.length co44, .slice Ao45 t820.length co45] 25 (0, 0)) (pk_ BK831.out) hb); have n13_ := Aside0.mk (blk_below (g := gb832) (o := .cells #[.int .i64 t823, .int .i64 t824, .slice Ao48 t825.length co48, .slice Ao49 t828.length co49] 25 (0, 0)) (pk_ BK832.out) hb); have n14_ := Aside0.mk (blk_below (g := gb864) (o := .cells #[.int .i64 t855, .int .i64 t856, .slice Ao100 t857.length co100, .slice Ao101 t860.length co101] 25 (0, 0)) (pk_ BK864.out) hb); have n15_ := Aside0.mk (bs_ HB.out hb); clear HO_19; clear HO_27; clear HO_169; clear HO_805002; clear HO_805003; clear HO_832002; clear HO_832003; clear HO_833002; clear HO_833003; clear HO859; clear HO862; clear BK804; clear BK831; clear BK832; clear BK864; clear HB; have HO_19 := n0_; have HO_27 := n1_; have HO_169 := n2_; have HO_805002 := n3_; have HO_805003 := n4_; have HO_832002 := n5_; have HO_832003 := n6_; have HO_833002 := n7_; have HO_833003 := n8_; have HO859 := n9_; have HO862 := n10_; have BK804 := n11_; have BK831 := n12_; have BK832 := n13_; have BK864 := n14_; have HB := n15_; clear n0_ n1_ n2_ n3_ n4_ n5_ n6_ n7_ n8_ n9_ n10_ n11_ n12_ n13_ n14_ n15_; (try clear hb); (try clear hb2); (try clear hk); (try clear hi)))
                  go_ret
                  exact ⟨by first | rfl | (simp [errW_none, errW_some] <;> rfl) | (simp [*, errW_none, errW_some] <;> rfl), by repeat (first | (with_reducible first | exact HB.out | apply below_alloc | apply pw_below_drewN | apply below_drew1 | refine below_set ?_ GE804.out | refine below_set ?_ GE831.out | refine below_set ?_ GE832.out | refine below_set ?_ GE864.out) | exact HB.out)⟩
                 ·rw [if_neg c93] at H
                  have c93b0 : (t866 == t868) = false := by simpa using c93
                  (try (have c93b1 : decide (t866 = t868) = false := by simpa using c93))
                  (try (have c93b2 : (t866 == t868) = false := by simpa using c93))
                  (try (have c93b3 : ¬ (t866 = t868) := by simpa using c93))
                  clear c93
                  exact absurd HT.out (by have H9 := Option.some.inj H; rw [← H9]; decide)
          ·replace c59 := Bool.eq_false_iff.mpr c59
           subst c59
           have H1 : ((spec_DrawNumberAt.f kj36 l1).bind fun bt872 => ((impl_NumberAt.f kj36 bt872.1 bt872.2.1 bt872.2.2.1 bt872.2.2.2.1 bt872.2.2.2.2).bind fun bt882 => ((spec_NumberAt.f kj36 bt872.1 bt872.2.1 bt872.2.2.1 bt872.2.2.2.1 bt872.2.2.2.2).bind fun bt884 => (if (bt882.2 == bt884.2) = true then (some (bt882.1 == bt884.1)) else (some false))))) = some r := by rw [if_neg (show ¬ (false = true) by decide)] at H; exact H
           clear H
           have H := H1
           clear H1
           replace H := Option.bind_eq_some_iff.mp H
           obtain ⟨⟨t872, t873, t874, t877, t880⟩, A1050, H⟩ := H
           replace H : ((impl_NumberAt.f kj36 t872 t873 t874 t877 t880).bind fun bt882 => ((spec_NumberAt.f kj36 t872 t873 t874 t877 t880).bind fun bt884 => (if (bt882.2 == bt884.2) = true then (some (bt882.1 == bt884.1)) else (some false)))) = some r := H
           have A105 := Aside0.mk A1050
           clear A1050
           replace H := Option.bind_eq_some_iff.mp H
           obtain ⟨⟨t882, t883⟩, A1060, H⟩ := H
           replace H : ((spec_NumberAt.f kj36 t872 t873 t874 t877 t880).bind fun bt884 => (if (t883 == bt884.2) = true then (some (t882 == bt884.1)) else (some false))) = some r := H
           have A106 := Aside0.mk A1060
           clear A1060
           replace H := Option.bind_eq_some_iff.mp H
           obtain ⟨⟨t884, t885⟩, A1070, H⟩ := H
           replace H : (if (t883 == t885) = true then (some (t882 == t884)) else (some false)) = some r := H
           have A107 := Aside0.mk A1070
           clear A1070
           by_cases c108 : (t883 == t885) = true
           ·rw [if_pos c108] at H
            have c108b0 : (t883 == t885) = true := c108
            (try (have c108b1 : decide (t883 = t885) = true := by simpa using c108))
            (try (have c108b2 : (t883 == t885) = true := by simpa using c108))
            clear c108
            obtain rfl := Option.some.inj H
            go_wp2_with (first | ((with_reducible refine gate_callee (f := 45) rfl ?_); refine goesL_ (some 185) rfl rfl Try.func45 (by kernel_rfl) rfl #[.slice A1 l1.length c1] rfl (ag_) ?_; (with_reducible refine (spec_DrawNumberAt.calls kj36 _ _ l1 t872 t873 t874 t877 t880 _ ?side1 ?side2 A105.out).mono ?_); (case side1 => refine cd_ ?_; exact (Kd.C_below HR1.out HB.out)); (case side2 => exact HC1.out); rintro e w109 ⟨v875, v878, rfl, ho0, ho1, hb⟩; refine ⟨_, rfl, ?_⟩; have n0_ := Aside0.mk (Kd.R_elder' (rk_ HO_19.out) (Kd.R_base ho0) hb); have n1_ := Aside0.mk (Kd.R_elder' (rk_ HO_805002.out) (Kd.R_base ho0) hb); have n2_ := Aside0.mk (Kd.R_elder' (rk_ HO_805003.out) (Kd.R_base ho1) hb); have n3_ := Aside0.mk (Kd.R_elder' (rk_ HO_832002.out) (Kd.R_base ho0) hb); have n4_ := Aside0.mk (Kd.R_elder' (rk_ HO_832003.out) (Kd.R_base ho1) hb); have n5_ := Aside0.mk (Kd.R_elder' (rk_ HO_833002.out) (Kd.R_base ho0) hb); have n6_ := Aside0.mk (Kd.R_elder' (rk_ HO_833003.out) (Kd.R_base ho1) hb); have n7_ := Aside0.mk (Kd.R_lower (Kd.R_new' (Kd.R_new' (Kd.R_new' (Kd.R_new' ho0 (Kd.R_lt (rk_ HO_19.out))) (Kd.R_lt (rk_ HO_805002.out))) (Kd.R_lt (rk_ HO_832002.out))) (Kd.R_lt (rk_ HO_833002.out))) (bw_ HB.out)); have n8_ := Aside0.mk (Kd.R_lower (Kd.R_new' (Kd.R_new' (Kd.R_new' ho1 (Kd.R_lt (rk_ HO_805003.out))) (Kd.R_lt (rk_ HO_832003.out))) (Kd.R_lt (rk_ HO_833003.out))) (bw_ HB.out)); have n9_ := Aside0.mk (blk_below (g := gb804) (o := .cells #[.int .i64 t795, .int .i64 t796, .slice Ao11 t797.length co11, .slice Ao12 t800.length co12] 25 (0, 0)) (pk_ BK804.out) hb); have n10_ := Aside0.mk (blk_below (g := gb831) (o := .cells #[.int .i64 t815, .int .i64 t816, .slice Ao44 t817.length co44, .slice Ao45 t820.length co45] 25 (0, 0)) (pk_ BK831.out) hb); have n11_ := Aside0.mk (blk_below (g := gb832) (o := .cells #[.int .i64 t823, .int .i64 t824, .slice Ao48 t825.length co48, .slice Ao49 t828.length co49] 25 (0, 0)) (pk_ BK832.out) hb); have n12_ := Aside0.mk (bs_ HB.out hb); clear HO_19; clear HO_805002; clear HO_805003; clear HO_832002; clear HO_832003; clear HO_833002; clear HO_833003; clear BK804; clear BK831; clear BK832; clear HB; have HO_19 := n0_; have HO_805002 := n1_; have HO_805003 := n2_; have HO_832002 := n3_; have HO_832003 := n4_; have HO_833002 := n5_; have HO_833003 := n6_; have HO876 := n7_; have HO879 := n8_; have BK804 := n9_; have BK831 := n10_; have BK832 := n11_; have HB := n12_; clear n0_ n1_ n2_ n3_ n4_ n5_ n6_ n7_ n8_ n9_ n10_ n11_ n12_; (try clear hb); (try clear hb2); (try clear hk); (try clear hi); (try clear ho0); (try clear ho1)) | ((with_reducible refine gate_dst (N := 31) rfl ?_); refine box_event ?hg (N := 31) ?hd (cs := #[.int .i64 0, .int .i64 0, .slice none 0 0, .slice none 0 0]) (t := 25) ?hr ?_; (case hd => rfl); (case hg => rfl); (case hr => first | (go_simp; done) | (go_simp; rfl)); intro gb881 hg w110 hbox hb; have n0_ := Aside0.mk (Kd.R_below (rk_ HO_19.out) hb); have n1_ := Aside0.mk (Kd.R_below (rk_ HO_805002.out) hb); have n2_ := Aside0.mk (Kd.R_below (rk_ HO_805003.out) hb); have n3_ := Aside0.mk (Kd.R_below (rk_ HO_832002.out) hb); have n4_ := Aside0.mk (Kd.R_below (rk_ HO_832003.out) hb); have n5_ := Aside0.mk (Kd.R_below (rk_ HO_833002.out) hb); have n6_ := Aside0.mk (Kd.R_below (rk_ HO_833003.out) hb); have n7_ := Aside0.mk (Kd.R_below (rk_ HO876.out) hb); have n8_ := Aside0.mk (Kd.R_below (rk_ HO879.out) hb); have n9_ := Aside0.mk (blk_below (g := gb804) (o := .cells #[.int .i64 t795, .int .i64 t796, .slice Ao11 t797.length co11, .slice Ao12 t800.length co12] 25 (0, 0)) (pk_ BK804.out) hb); have n10_ := Aside0.mk (blk_below (g := gb831) (o := .cells #[.int .i64 t815, .int .i64 t816, .slice Ao44 t817.length co44, .slice Ao45 t820.length co45] 25 (0, 0)) (pk_ BK831.out) hb); have n11_ := Aside0.mk (blk_below (g := gb832) (o := .cells #[.int .i64 t823, .int .i64 t824, .slice Ao48 t825.length co48, .slice Ao49 t828.length co49] 25 (0, 0)) (pk_ BK832.out) hb); have n12_ := Aside0.mk (bs_ HB.out hb); have n13_ := Aside0.mk (hbox); have n14_ := Aside0.mk ((by rw [hg]; exact (bw_ HB.out) : w.heap.size ≤ gb881)); have n15_ := Aside0.mk ((by rw [hg]; exact (bw_ HB.out) : w.heap.size ≤ gb881)); have n16_ := Aside0.mk ((by rw [hg]; exact Nat.ne_of_lt (blk_lt (g := gb804) (o := .cells #[.int .i64 t795, .int .i64 t796, .slice Ao11 t797.length co11, .slice Ao12 t800.length co12] 25 (0, 0)) (pk_ BK804.out)) : gb804 ≠ gb881)); have n17_ := Aside0.mk ((by rw [hg]; exact Nat.ne_of_gt (blk_lt (g := gb804) (o := .cells #[.int .i64 t795, .int .i64 t796, .slice Ao11 t797.length co11, .slice Ao12 t800.length co12] 25 (0, 0)) (pk_ BK804.out)) : gb881 ≠ gb804)); have n18_ := Aside0.mk ((by rw [hg]; exact Nat.ne_of_lt (blk_lt (g := gb831) (o := .cells #[.int .i64 t815, .int .i64 t816, .slice Ao44 t817.length co44, .slice Ao45 t820.length co45] 25 (0, 0)) (pk_ BK831.out)) : gb831 ≠ gb881)); have n19_ := Aside0.mk ((by rw [hg]; exact Nat.ne_of_gt (blk_lt (g := gb831) (o := .cells #[.int .i64 t815, .int .i64 t816, .slice Ao44 t817.length co44, .slice Ao45 t820.length co45] 25 (0, 0)) (pk_ BK831.out)) : gb881 ≠ gb831)); have n20_ := Aside0.mk ((by rw [hg]; exact Nat.ne_of_lt (blk_lt (g := gb832) (o := .cells #[.int .i64 t823, .int .i64 t824, .slice Ao48 t825.length co48, .slice Ao49 t828.length co49] 25 (0, 0)) (pk_ BK832.out)) : gb832 ≠ gb881)); have n21_ := Aside0.mk ((by rw [hg]; exact Nat.ne_of_gt (blk_lt (g := gb832) (o := .cells #[.int .i64 t823, .int .i64 t824, .slice Ao48 t825.length co48, .slice Ao49 t828.length co49] 25 (0, 0)) (pk_ BK832.out)) : gb881 ≠ gb832)); clear HO_19; clear HO_805002; clear HO_805003; clear HO_832002; clear HO_832003; clear HO_833002; clear HO_833003; clear HO876; clear HO879; clear BK804; clear BK831; clear BK832; clear HB; have HO_19 := n0_; have HO_805002 := n1_; have HO_805003 := n2_; have HO_832002 := n3_; have HO_832003 := n4_; have HO_833002 := n5_; have HO_833003 := n6_; have HO876 := n7_; have HO879 := n8_; have BK804 := n9_; have BK831 := n10_; have BK832 := n11_; have HB := n12_; have BK881 := n13_; have GW881 := n14_; have GE881 := n15_; have NB804_881 := n16_; have NB881_804 := n17_; have NB831_881 := n18_; have NB881_831 := n19_; have NB832_881 := n20_; have NB881_832 := n21_; clear n0_ n1_ n2_ n3_ n4_ n5_ n6_ n7_ n8_ n9_ n10_ n11_ n12_ n13_ n14_ n15_ n16_ n17_ n18_ n19_ n20_ n21_; clear hb hbox hg; have hnb111 := NB881_804.out; have hnc111 := NB804_881.out; have hnb112 := NB881_831.out; have hnc112 := NB831_881.out; have hnb113 := NB881_832.out; have hnc113 := NB832_881.out; have hcz114_0 : w110.cell? ⟨gb881, 0, none⟩ = some (.int .i64 0) := (blk_cell BK881.out 0).trans rfl; have hcz114_1 : w110.cell? ⟨gb881, 1, none⟩ = some (.int .i64 0) := (blk_cell BK881.out 1).trans rfl; have hcz114_2 : w110.cell? ⟨gb881, 2, none⟩ = some (.slice none 0 0) := (blk_cell BK881.out 2).trans rfl; have hcz114_3 : w110.cell? ⟨gb881, 3, none⟩ = some (.slice none 0 0) := (blk_cell BK881.out 3).trans rfl; have hfz114_0 := blk_frozen BK881.out 0; have hfz114_1 := blk_frozen BK881.out 1; have hfz114_2 := blk_frozen BK881.out 2; have hfz114_3 := blk_frozen BK881.out 3; obtain ⟨Ao115, co115, eo115⟩ := Kd.R_slice HO876.out; subst eo115; obtain ⟨Ao116, co116, eo116⟩ := Kd.R_slice HO879.out; subst eo116) | ((with_reducible refine gate_callee (f := 28) rfl ?_); refine goesL_ (some 191) rfl rfl Try.func28 (by kernel_rfl) rfl #[.agg #[.int .i64 t872, .int .i64 t873, .slice Ao115 t874.length co115, .slice Ao116 t877.length co116], .int .i64 t880] rfl (ag_) ?_; (with_reducible refine (impl_NumberAt.calls kj36 t872 t873 _ _ t874 _ _ t877 t880 t882 t883 _ ?side1 ?side2 ?side3 ?side4 A106.out).mono ?_); (case side1 => refine (Kd.R_reads' (e := 3) (base := w.heap.size) (ok := fun k_ => ((((True ∧ some k_ ≠ (v834 : Value).ownBlock) ∧ some k_ ≠ (.slice Ao11 t797.length co11 : Value).ownBlock) ∧ some k_ ≠ (.slice Ao44 t817.length co44 : Value).ownBlock) ∧ some k_ ≠ (.slice Ao48 t825.length co48 : Value).ownBlock)) (n := t874.length) (c := co115) ?_).2.2; exact (by (with_reducible repeat (first | apply Kd.R_alloc | apply Kd.R_drewN | apply Kd.R_drew)); exact (Kd.R_mono (Kd.R_far (p := ⟨gb881, 3, none⟩) (Kd.R_far (p := ⟨gb881, 2, none⟩) (Kd.R_far (p := ⟨gb881, 1, none⟩) (Kd.R_far (p := ⟨gb881, 0, none⟩) (Kd.R_types HO876.out BK881.out (by decide)) (fun _ hk => hk.2) (.int .i64 t872)) (fun _ hk => hk.2) (.int .i64 t873)) (fun _ hk => hk.2) (.slice Ao115 t874.length co115)) (fun _ hk => hk.2) (.slice Ao116 t877.length co116)) (fun _ h_ => h_.1)))); (case side2 => exact (Kd.R_reads' HO876.out).2.1); (case side3 => refine (Kd.R_reads' (e := 4) (base := w.heap.size) (ok := fun k_ => (((True ∧ some k_ ≠ (.slice Ao12 t800.length co12 : Value).ownBlock) ∧ some k_ ≠ (.slice Ao45 t820.length co45 : Value).ownBlock) ∧ some k_ ≠ (.slice Ao49 t828.length co49 : Value).ownBlock)) (n := t877.length) (c := co116) ?_).2.2; exact (by (with_reducible repeat (first | apply Kd.R_alloc | apply Kd.R_drewN | apply Kd.R_drew)); exact (Kd.R_mono (Kd.R_far (p := ⟨gb881, 3, none⟩) (Kd.R_far (p := ⟨gb881, 2, none⟩) (Kd.R_far (p := ⟨gb881, 1, none⟩) (Kd.R_far (p := ⟨gb881, 0, none⟩) (Kd.R_types HO879.out BK881.out (by decide)) (fun _ hk => hk.2) (.int .i64 t872)) (fun _ hk => hk.2) (.int .i64 t873)) (fun _ hk => hk.2) (.slice Ao115 t874.length co115)) (fun _ hk => hk.2) (.slice Ao116 t877.length co116)) (fun _ h_ => h_.1)))); (case side4 => exact (Kd.R_reads' HO879.out).2.1); rintro e w117 ⟨rfl, hb⟩; refine ⟨_, rfl, ?_⟩; have n0_ := Aside0.mk (Kd.R_below (by refine rk_ ?_; exact (Kd.R_mono (Kd.R_far (p := ⟨gb881, 3, none⟩) (Kd.R_far (p := ⟨gb881, 2, none⟩) (Kd.R_far (p := ⟨gb881, 1, none⟩) (Kd.R_far (p := ⟨gb881, 0, none⟩) (Kd.R_types HO_19.out BK881.out (by decide)) (fun _ hk => hk.2) (.int .i64 t872)) (fun _ hk => hk.2) (.int .i64 t873)) (fun _ hk => hk.2) (.slice Ao115 t874.length co115)) (fun _ hk => hk.2) (.slice Ao116 t877.length co116)) (fun _ h_ => h_.1))) hb); have n1_ := Aside0.mk (Kd.R_below (by refine rk_ ?_; exact (Kd.R_mono (Kd.R_far (p := ⟨gb881, 3, none⟩) (Kd.R_far (p := ⟨gb881, 2, none⟩) (Kd.R_far (p := ⟨gb881, 1, none⟩) (Kd.R_far (p := ⟨gb881, 0, none⟩) (Kd.R_types HO_805002.out BK881.out (by decide)) (fun _ hk => hk.2) (.int .i64 t872)) (fun _ hk => hk.2) (.int .i64 t873)) (fun _ hk => hk.2) (.slice Ao115 t874.length co115)) (fun _ hk => hk.2) (.slice Ao116 t877.length co116)) (fun _ h_ => h_.1))) hb); have n2_ := Aside0.mk (Kd.R_below (by refine rk_ ?_; exact (Kd.R_mono (Kd.R_far (p := ⟨gb881, 3, none⟩) (Kd.R_far (p := ⟨gb881, 2, none⟩) (Kd.R_far (p := ⟨gb881, 1, none⟩) (Kd.R_far (p := ⟨gb881, 0, none⟩) (Kd.R_types HO_805003.out BK881.out (by decide)) (fun _ hk => hk.2) (.int .i64 t872)) (fun _ hk => hk.2) (.int .i64 t873)) (fun _ hk => hk.2) (.slice Ao115 t874.length co115)) (fun _ hk => hk.2) (.slice Ao116 t877.length co116)) (fun _ h_ => h_.1))) hb); have n3_ := Aside0.mk (Kd.R_below (by refine rk_ ?_; exact (Kd.R_mono (Kd.R_far (p := ⟨gb881, 3, none⟩) (Kd.R_far (p := ⟨gb881, 2, none⟩) (Kd.R_far (p := ⟨gb881, 1, none⟩) (Kd.R_far (p := ⟨gb881, 0, none⟩) (Kd.R_types HO_832002.out BK881.out (by decide)) (fun _ hk => hk.2) (.int .i64 t872)) (fun _ hk => hk.2) (.int .i64 t873)) (fun _ hk => hk.2) (.slice Ao115 t874.length co115)) (fun _ hk => hk.2) (.slice Ao116 t877.length co116)) (fun _ h_ => h_.1))) hb); have n4_ := Aside0.mk (Kd.R_below (by refine rk_ ?_; exact (Kd.R_mono (Kd.R_far (p := ⟨gb881, 3, none⟩) (Kd.R_far (p := ⟨gb881, 2, none⟩) (Kd.R_far (p := ⟨gb881, 1, none⟩) (Kd.R_far (p := ⟨gb881, 0, none⟩) (Kd.R_types HO_832003.out BK881.out (by decide)) (fun _ hk => hk.2) (.int .i64 t872)) (fun _ hk => hk.2) (.int .i64 t873)) (fun _ hk => hk.2) (.slice Ao115 t874.length co115)) (fun _ hk => hk.2) (.slice Ao116 t877.length co116)) (fun _ h_ => h_.1))) hb); have n5_ := Aside0.mk (Kd.R_below (by refine rk_ ?_; exact (Kd.R_mono (Kd.R_far (p := ⟨gb881, 3, none⟩) (Kd.R_far (p := ⟨gb881, 2, none⟩) (Kd.R_far (p := ⟨gb881, 1, none⟩) (Kd.R_far (p := ⟨gb881, 0, none⟩) (Kd.R_types HO_833002.out BK881.out (by decide)) (fun _ hk => hk.2) (.int .i64 t872)) (fun _ hk => hk.2) (.int .i64 t873)) (fun _ hk => hk.2) (.slice Ao115 t874.length co115)) (fun _ hk => hk.2) (.slice Ao116 t877.length co116)) (fun _ h_ => h_.1))) hb); have n6_ := Aside0.mk (Kd.R_below (by refine rk_ ?_; exact (Kd.R_mono (Kd.R_far (p := ⟨gb881, 3, none⟩) (Kd.R_far (p := ⟨gb881, 2, none⟩) (Kd.R_far (p := ⟨gb881, 1, none⟩) (Kd.R_far (p := ⟨gb881, 0, none⟩) (Kd.R_types HO_833003.out BK881.out (by decide)) (fun _ hk => hk.2) (.int .i64 t872)) (fun _ hk => hk.2) (.int .i64 t873)) (fun _ hk => hk.2) (.slice Ao115 t874.length co115)) (fun _ hk => hk.2) (.slice Ao116 t877.length co116)) (fun _ h_ => h_.1))) hb); have n7_ := Aside0.mk (Kd.R_below (by refine rk_ ?_; exact (Kd.R_mono (Kd.R_far (p := ⟨gb881, 3, none⟩) (Kd.R_far (p := ⟨gb881, 2, none⟩) (Kd.R_far (p := ⟨gb881, 1, none⟩) (Kd.R_far (p := ⟨gb881, 0, none⟩) (Kd.R_types HO876.out BK881.out (by decide)) (fun _ hk => hk.2) (.int .i64 t872)) (fun _ hk => hk.2) (.int .i64 t873)) (fun _ hk => hk.2) (.slice Ao115 t874.length co115)) (fun _ hk => hk.2) (.slice Ao116 t877.length co116)) (fun _ h_ => h_.1))) hb); have n8_ := Aside0.mk (Kd.R_below (by refine rk_ ?_; exact (Kd.R_mono (Kd.R_far (p := ⟨gb881, 3, none⟩) (Kd.R_far (p := ⟨gb881, 2, none⟩) (Kd.R_far (p := ⟨gb881, 1, none⟩) (Kd.R_far (p := ⟨gb881, 0, none⟩) (Kd.R_types HO879.out BK881.out (by decide)) (fun _ hk => hk.2) (.int .i64 t872)) (fun _ hk => hk.2) (.int .i64 t873)) (fun _ hk => hk.2) (.slice Ao115 t874.length co115)) (fun _ hk => hk.2) (.slice Ao116 t877.length co116)) (fun _ h_ => h_.1))) hb); have n9_ := Aside0.mk (blk_below (g := gb804) (o := .cells #[.int .i64 t795, .int .i64 t796, .slice Ao11 t797.length co11, .slice Ao12 t800.length co12] 25 (0, 0)) (by refine pk_ ?_; refine blk_far ?_ NB804_881.out _; (with_reducible repeat (first | refine blk_drewN ?_ _ | refine blk_drew ?_ | refine blk_alloc ?_ _)); refine blk_far ?_ NB804_881.out _; (with_reducible repeat (first | refine blk_drewN ?_ _ | refine blk_drew ?_ | refine blk_alloc ?_ _)); refine blk_far ?_ NB804_881.out _; (with_reducible repeat (first | refine blk_drewN ?_ _ | refine blk_drew ?_ | refine blk_alloc ?_ _)); refine blk_far ?_ NB804_881.out _; (with_reducible repeat (first | refine blk_drewN ?_ _ | refine blk_drew ?_ | refine blk_alloc ?_ _)); exact BK804.out) hb); have n10_ := Aside0.mk (blk_below (g := gb831) (o := .cells #[.int .i64 t815, .int .i64 t816, .slice Ao44 t817.length co44, .slice Ao45 t820.length co45] 25 (0, 0)) (by refine pk_ ?_; refine blk_far ?_ NB831_881.out _; (with_reducible repeat (first | refine blk_drewN ?_ _ | refine blk_drew ?_ | refine blk_alloc ?_ _)); refine blk_far ?_ NB831_881.out _; (with_reducible repeat (first | refine blk_drewN ?_ _ | refine blk_drew ?_ | refine blk_alloc ?_ _)); refine blk_far ?_ NB831_881.out _; (with_reducible repeat (first | refine blk_drewN ?_ _ | refine blk_drew ?_ | refine blk_alloc ?_ _)); refine blk_far ?_ NB831_881.out _; (with_reducible repeat (first | refine blk_drewN ?_ _ | refine blk_drew ?_ | refine blk_alloc ?_ _)); exact BK831.out) hb); have n11_ := Aside0.mk (blk_below (g := gb832) (o := .cells #[.int .i64 t823, .int .i64 t824, .slice Ao48 t825.length co48, .slice Ao49 t828.length co49] 25 (0, 0)) (by refine pk_ ?_; refine blk_far ?_ NB832_881.out _; (with_reducible repeat (first | refine blk_drewN ?_ _ | refine blk_drew ?_ | refine blk_alloc ?_ _)); refine blk_far ?_ NB832_881.out _; (with_reducible repeat (first | refine blk_drewN ?_ _ | refine blk_drew ?_ | refine blk_alloc ?_ _)); refine blk_far ?_ NB832_881.out _; (with_reducible repeat (first | refine blk_drewN ?_ _ | refine blk_drew ?_ | refine blk_alloc ?_ _)); refine blk_far ?_ NB832_881.out _; (with_reducible repeat (first | refine blk_drewN ?_ _ | refine blk_drew ?_ | refine blk_alloc ?_ _)); exact BK832.out) hb); have n12_ := Aside0.mk (blk_below (g := gb881) (o := .cells #[.int .i64 t872, .int .i64 t873, .slice Ao115 t874.length co115, .slice Ao116 t877.length co116] 25 (0, 0)) (by refine pk_ ?_; refine blk_put (cs := #[.int .i64 t872, .int .i64 t873, .slice Ao115 t874.length co115, .slice none 0 0]) ?_ 3 _ rfl; (with_reducible repeat (first | refine blk_drewN ?_ _ | refine blk_drew ?_ | refine blk_alloc ?_ _)); refine blk_put (cs := #[.int .i64 t872, .int .i64 t873, .slice none 0 0, .slice none 0 0]) ?_ 2 _ rfl; (with_reducible repeat (first | refine blk_drewN ?_ _ | refine blk_drew ?_ | refine blk_alloc ?_ _)); refine blk_put (cs := #[.int .i64 t872, .int .i64 0, .slice none 0 0, .slice none 0 0]) ?_ 1 _ rfl; (with_reducible repeat (first | refine blk_drewN ?_ _ | refine blk_drew ?_ | refine blk_alloc ?_ _)); refine blk_put (cs := #[.int .i64 0, .int .i64 0, .slice none 0 0, .slice none 0 0]) ?_ 0 _ rfl; (with_reducible repeat (first | refine blk_drewN ?_ _ | refine blk_drew ?_ | refine blk_alloc ?_ _)); exact BK881.out) hb); have n13_ := Aside0.mk (bs_ HB.out hb); clear HO_19; clear HO_805002; clear HO_805003; clear HO_832002; clear HO_832003; clear HO_833002; clear HO_833003; clear HO876; clear HO879; clear BK804; clear BK831; clear BK832; clear BK881; clear HB; have HO_19 := n0_; have HO_805002 := n1_; have HO_805003 := n2_; have HO_832002 := n3_; have HO_832003 := n4_; have HO_833002 := n5_; have HO_833003 := n6_; have HO876 := n7_; have HO879 := n8_; have BK804 := n9_; have BK831 := n10_; have BK832 := n11_; have BK881 := n12_; have HB := n13_; clear n0_ n1_ n2_ n3_ n4_ n5_ n6_ n7_ n8_ n9_ n10_ n11_ n12_ n13_; (try clear hb); (try clear hb2); (try clear hk); (try clear hi); have hcz118_0 : w117.cell? ⟨gb881, 0, none⟩ = some (.int .i64 t872) := (blk_cell BK881.out 0).trans rfl; have hcz118_1 : w117.cell? ⟨gb881, 1, none⟩ = some (.int .i64 t873) := (blk_cell BK881.out 1).trans rfl; have hcz118_2 : w117.cell? ⟨gb881, 2, none⟩ = some (.slice Ao115 t874.length co115) := (blk_cell BK881.out 2).trans rfl; have hcz118_3 : w117.cell? ⟨gb881, 3, none⟩ = some (.slice Ao116 t877.length co116) := (blk_cell BK881.out 3).trans rfl; have hfz118_0 := blk_frozen BK881.out 0; have hfz118_1 := blk_frozen BK881.out 1; have hfz118_2 := blk_frozen BK881.out 2; have hfz118_3 := blk_frozen BK881.out 3) | ((with_reducible refine gate_callee (f := 27) rfl ?_); refine goesL_ (some 197) rfl rfl Try.func27 (by kernel_rfl) rfl #[.agg #[.int .i64 t872, .int .i64 t873, .slice Ao115 t874.length co115, .slice Ao116 t877.length co116], .int .i64 t880] rfl (ag_) ?_; (with_reducible refine (spec_NumberAt.calls kj36 t872 t873 _ _ t874 _ _ t877 t880 t884 t885 _ ?side1 ?side2 ?side3 ?side4 A107.out).mono ?_); (case side1 => refine cd_ ?_; exact (Kd.R_reads' HO876.out).2.2); (case side2 => exact (Kd.R_reads' HO876.out).2.1); (case side3 => refine cd_ ?_; exact (Kd.R_reads' HO879.out).2.2); (case side4 => exact (Kd.R_reads' HO879.out).2.1); rintro e w119 ⟨rfl, hb⟩; refine ⟨_, rfl, ?_⟩; have n0_ := Aside0.mk (Kd.R_below (rk_ HO_19.out) hb); have n1_ := Aside0.mk (Kd.R_below (rk_ HO_805002.out) hb); have n2_ := Aside0.mk (Kd.R_below (rk_ HO_805003.out) hb); have n3_ := Aside0.mk (Kd.R_below (rk_ HO_832002.out) hb); have n4_ := Aside0.mk (Kd.R_below (rk_ HO_832003.out) hb); have n5_ := Aside0.mk (Kd.R_below (rk_ HO_833002.out) hb); have n6_ := Aside0.mk (Kd.R_below (rk_ HO_833003.out) hb); have n7_ := Aside0.mk (Kd.R_below (rk_ HO876.out) hb); have n8_ := Aside0.mk (Kd.R_below (rk_ HO879.out) hb); have n9_ := Aside0.mk (blk_below (g := gb804) (o := .cells #[.int .i64 t795, .int .i64 t796, .slice Ao11 t797.length co11, .slice Ao12 t800.length co12] 25 (0, 0)) (pk_ BK804.out) hb); have n10_ := Aside0.mk (blk_below (g := gb831) (o := .cells #[.int .i64 t815, .int .i64 t816, .slice Ao44 t817.length co44, .slice Ao45 t820.length co45] 25 (0, 0)) (pk_ BK831.out) hb); have n11_ := Aside0.mk (blk_below (g := gb832) (o := .cells #[.int .i64 t823, .int .i64 t824, .slice Ao48 t825.length co48, .slice Ao49 t828.length co49] 25 (0, 0)) (pk_ BK832.out) hb); have n12_ := Aside0.mk (blk_below (g := gb881) (o := .cells #[.int .i64 t872, .int .i64 t873, .slice Ao115 t874.length co115, .slice Ao116 t877.length co116] 25 (0, 0)) (pk_ BK881.out) hb); have n13_ := Aside0.mk (bs_ HB.out hb); clear HO_19; clear HO_805002; clear HO_805003; clear HO_832002; clear HO_832003; clear HO_833002; clear HO_833003; clear HO876; clear HO879; clear BK804; clear BK831; clear BK832; clear BK881; clear HB; have HO_19 := n0_; have HO_805002 := n1_; have HO_805003 := n2_; have HO_832002 := n3_; have HO_832003 := n4_; have HO_833002 := n5_; have HO_833003 := n6_; have HO876 := n7_; have HO879 := n8_; have BK804 := n9_; have BK831 := n10_; have BK832 := n11_; have BK881 := n12_; have HB := n13_; clear n0_ n1_ n2_ n3_ n4_ n5_ n6_ n7_ n8_ n9_ n10_ n11_ n12_ n13_; (try clear hb); (try clear hb2); (try clear hk); (try clear hi)))
            go_ret
            exact ⟨by first | rfl | (simp [errW_none, errW_some] <;> rfl) | (simp [*, errW_none, errW_some] <;> rfl), by repeat (first | (with_reducible first | exact HB.out | apply below_alloc | apply pw_below_drewN | apply below_drew1 | refine below_set ?_ GE804.out | refine below_set ?_ GE831.out | refine below_set ?_ GE832.out | refine below_set ?_ GE881.out) | exact HB.out)⟩
           ·rw [if_neg c108] at H
            have c108b0 : (t883 == t885) = false := by simpa using c108
            (try (have c108b1 : decide (t883 = t885) = false := by simpa using c108))
            (try (have c108b2 : (t883 == t885) = false := by simpa using c108))
            (try (have c108b3 : ¬ (t883 = t885) := by simpa using c108))
            clear c108
            exact absurd HT.out (by have H9 := Option.some.inj H; rw [← H9]; decide)

end Go.Proofs.Ytcjebflldmiajaa.Fn
namespace Go.Proofs.Ytcjebflldmiajaa.Pure
open Go.RowKit Go.Proofs.YtcjebflldmiajaaW.PrintWords Go.Proofs.YtcjebflldmiajaaW.PrintLast Go.Proofs.YtcjebflldmiajaaW.PrintMore

/-- A string's bytes, as numbers. -/
def nm (s : ByteArray) : List Int := s.data.toList.map fun b => (b.toNat : Int)
theorem nm_length (s : ByteArray) : (nm s).length = s.size := by
  rw [nm, List.length_map, Array.length_toList]; rfl
theorem u8_inj {a b : UInt8} (h : (a.toNat : Int) = (b.toNat : Int)) : a = b := UInt8.toNat_inj.1 (by omega)
theorem nm_inj {s t : ByteArray} (h : nm s = nm t) : s = t := by
  have : s.data.toList = t.data.toList := List.map_inj_right (fun a b h => u8_inj h) |>.1 h
  exact WideShapes.bytes_inj this
theorem toList_iff {s t : ByteArray} : s.toList = t.toList ↔ nm s = nm t := by
  rw [Lib.toList_data, Lib.toList_data, nm, nm]
  exact ⟨fun h => by rw [h], fun h => List.map_inj_right (fun a b h => u8_inj h) |>.1 h⟩
theorem toList_nil {s : ByteArray} : s.toList = ([] : List UInt8) ↔ nm s = [] := by
  rw [Lib.toList_data, nm]
  simp
theorem nm_range {s : ByteArray} {x : Int} (h : x ∈ nm s) : 0 ≤ x ∧ x < 256 := by
  obtain ⟨b, _, rfl⟩ := List.mem_map.1 h
  have := UInt8.toNat_lt b
  omega
theorem bt_nm (s : ByteArray) (i : Int) : bt s i = rd (nm s) i := (rd_bytesOf s i).symm
theorem nm_get {s : ByteArray} {i : Nat} {x : Int} (h : (nm s)[i]? = some x) : bt s (i : Int) = x := by rw [bt_nm]; exact rd_at h
theorem nm_extract (s : ByteArray) (a b : Nat) : nm (s.extract a b) = ((nm s).drop a).take (b - a) := by
  rw [nm, ← Lib.toList_data, Lib.extract_toList, List.map_take, List.map_drop]; rfl
theorem nm_tail (s : ByteArray) (a : Nat) : nm (s.extract a s.size) = (nm s).drop a := by
  rw [nm_extract]
  exact List.take_of_length_le (by rw [List.length_drop, nm_length]; omega)
/-- Bytes of a tail. -/
theorem bt_tail (s : ByteArray) (a : Nat) (i : Nat) : bt (s.extract a s.size) (i : Int) = bt s ((a + i : Nat) : Int) := by
  rw [bt_nm, bt_nm, nm_tail]
  have e : ((a + i : Nat) : Int).toNat = a + i := by omega
  simp only [rd, List.getD_eq_getElem?_getD, e, Int.toNat_natCast, List.getElem?_drop]
theorem nm_nums (xs : List Int) (h : ∀ x ∈ xs, 0 ≤ x ∧ x < 256) : nm (strOfNums xs) = xs := by
  rw [nm, strOfNums_data, List.map_map]
  conv => rhs; rw [← List.map_id xs]
  refine List.map_congr_left fun x hx => ?_
  have := h x hx
  simp only [Function.comp, id, UInt8.toNat_ofNat']
  omega
theorem nums_nm (s : ByteArray) : strOfNums (nm s) = s := nm_inj (nm_nums _ fun _ h => nm_range h)
theorem nm_append (s t : ByteArray) : nm (s ++ t) = nm s ++ nm t := by
  simp [nm]
theorem nm_empty : nm (⟨#[]⟩ : ByteArray) = [] := rfl
theorem or64 (i : Nat) (x y : Int) (hx0 : 0 ≤ x) (hx : x % 2 ^ i = 0) (hx1 : x < 2 ^ 62) (hy0 : 0 ≤ y) (hy : y < 2 ^ i) (hy1 : y < 2 ^ 62) : Go.bits .or .i64 x y = x + y :=
  bits_join .i64 62 (by decide) (fun n h0 h1 => by rw [IntKind.wrap_i64]; omega) i x y hx0 hx hx1 hy0 hy hy1
/-- A row is marked, element by element: c is the next mark. -/
theorem mark_ev {α γ : Type} (L : Nat → List α → γ → Int → Option (γ × List α)) (cn : Nat → γ) (e : Nat → α → α) (l : List α)
    (hend : ∀ k x, x.length = l.length → L (k + 1) x (cn l.length) (l.length : Int) = some (cn l.length, x))
    (hstep : ∀ (i : Nat) (y : α), l[i]? = some y → ∃ K, ∀ k (x : List α), K ≤ k → x.length = l.length → x[i]? = some y → L (k + 1) x (cn i) (i : Int) = L k (x.set i (e i y)) (cn (i + 1)) ((i + 1 : Nat) : Int)) :
    Ev (fun k => L k l (cn 0) 0) (cn l.length, l.mapIdx e) := by
  have := ev_down l.length (fun i => Ev (fun k => L k ((l.mapIdx e).take i ++ l.drop i) (cn i) (i : Int)) (cn l.length, l.mapIdx e)) ?_ ?_
  · simpa using this
  · refine ⟨1, fun k hk => ?_⟩
    obtain ⟨m, rfl⟩ : ∃ m, k = m + 1 := ⟨k - 1, by omega⟩
    dsimp only
    rw [hend _ _ (by simp)]
    simp only [List.drop_length, List.append_nil]
    rw [List.take_of_length_le (by simp)]
  · intro i hi ih
    have hx : l[i]? = some l[i] := List.getElem?_eq_getElem hi
    have hm : i = ((l.mapIdx e).take i).length := by simp; omega
    obtain ⟨K, hK⟩ := hstep i _ hx
    refine Ev.next (K := K) (fun k hk => ?_) ih
    have hd : l.drop i = l[i] :: l.drop (i + 1) := List.drop_eq_getElem_cons hi
    have hat : ((l.mapIdx e).take i ++ l.drop i)[i]? = some l[i] := by
      rw [List.getElem?_append_right (by omega), hd]
      have h0 : i - ((l.mapIdx e).take i).length = 0 := by omega
      rw [h0]; rfl
    rw [hK k _ hk (by simp; omega) hat]
    congr 1
    rw [List.set_append_right _ _ (by omega)]
    have h1 : i - ((l.mapIdx e).take i).length = 0 := by omega
    rw [h1, hd, List.set_cons_zero, List.take_succ_eq_append_getElem (by simpa using hi)]
    simp
/-- Two rows of one length, compared element by element. -/
theorem same_ev {α : Type} [DecidableEq α] (L : Nat → Int → Option Bool) (a b : List α) (hlen : a.length = b.length) (hend : ∀ k, L (k + 1) (a.length : Int) = some true)
    (hyes : ∀ k (i : Nat) x, i < a.length → a[i]? = some x → b[i]? = some x → L (k + 1) (i : Int) = L k ((i + 1 : Nat) : Int))
    (hno : ∀ k (i : Nat) x y, i < a.length → a[i]? = some x → b[i]? = some y → x ≠ y → L (k + 1) (i : Int) = some false) : Ev (fun k => L k 0) (decide (a = b)) := by
  have key : ∀ (t u : List α) (i : Nat), a.drop i = t → b.drop i = u → i ≤ a.length → Ev (fun k => L k (i : Int)) (decide (t = u)) := by
    intro t
    induction t with
    | nil =>
      intro u i h1 h2 hi
      have h3 := drop_len h1 hi
      have h4 := drop_len h2 (by omega)
      have e : i = a.length := by simpa using h3
      have hu : u = [] := List.length_eq_zero_iff.1 (by omega)
      subst hu
      refine Ev.up ?_
      rw [e]
      exact Ev.same (K := 0) (fun k _ => hend k) (Ev.val (by simp))
    | cons x t ih =>
      intro u i h1 h2 hi
      have h3 := drop_len h1 hi
      have h4 := drop_len h2 (by omega)
      cases u with
      | nil => simp at h3 h4; omega
      | cons y u =>
        obtain ⟨p1, p2, p3⟩ := drop_cons h1
        obtain ⟨q1, q2, q3⟩ := drop_cons h2
        by_cases hxy : x = y
        · subst hxy
          have := ih u (i + 1) p3 q3 (by omega)
          have e : decide (x :: t = x :: u) = decide (t = u) := by simp
          rw [e]
          exact Ev.up (Ev.same (K := 0) (fun k _ => hyes k i x (by omega) p2 q2) this)
        · exact Ev.up (Ev.same (K := 0) (fun k _ => hno k i x y (by omega) p2 q2 hxy) (Ev.val (by simp [hxy])))
  have h := key a b 0 rfl rfl (by omega)
  exact h
end Go.Proofs.Ytcjebflldmiajaa.Pure
namespace Go.Proofs.Ytcjebflldmiajaa.Pure
open Go.RowKit Go.Proofs.Ytcjebflldmiajaa.Fn Go.Proofs.YtcjebflldmiajaaW.PrintWords Go.Proofs.YtcjebflldmiajaaW.PrintLast Go.Proofs.YtcjebflldmiajaaW.PrintMore
set_option linter.unusedSimpArgs false
set_option linter.unusedVariables false

theorem Ev.uniq {α : Type} {g : Nat → Option α} {a b : α} (h1 : Ev g a) (h2 : Ev g b) : a = b := by
  obtain ⟨K1, e1⟩ := h1
  obtain ⟨K2, e2⟩ := h2
  have e1 := e1 (max K1 K2) (by omega)
  have e2 := e2 (max K1 K2) (by omega)
  rw [e1] at e2
  exact Option.some.inj e2
theorem u64_wrap (n : Int) : IntKind.u64.wrap n = n % 18446744073709551616 := by simp [IntKind.wrap, IntKind.bits, IntKind.signed]
theorem mask255 (y : Int) (h0 : 0 ≤ y) (h1 : y < 18446744073709551616) : 0 ≤ Go.bits .and .u64 y 255 ∧ Go.bits .and .u64 y 255 ≤ 255 := by
  have e : Go.bits .and .u64 y (2 ^ 8 - 1) = y % 2 ^ 8 := bits_mask .u64 64 (by decide) (fun n h0 h1 => by rw [u64_wrap]; omega) 8 (by decide) y h0 h1
  have e2 : ((2 : Int) ^ 8 - 1) = 255 := by decide
  rw [e2] at e
  rw [e]
  omega
/-- The code is made of bytes. -/
def Code (c : List Int) : Prop := ∀ y ∈ c, 0 ≤ y ∧ y ≤ 255
theorem next_some (c : List Int) (hc : Code c) (a s : Int) (h0 : 0 ≤ a) (h1 : a ≤ 2305843009213693952) : ∃ x s' : Int, spec_l1Cur_next.f c a s = some (x, a + 1, s') ∧ 0 ≤ x ∧ x ≤ 255 := by
  have ea : wrap64 (a + 1) = a + 1 := wrap_ok (by omega) (by omega)
  have hm : ∀ z : Int, 0 ≤ wrap64 (Go.bits .and .u64 (IntKind.u64.wrap z / 1099511627776) 255) ∧ wrap64 (Go.bits .and .u64 (IntKind.u64.wrap z / 1099511627776) 255) ≤ 255 := by
    intro z
    have h := mask255 (IntKind.u64.wrap z / 1099511627776) (by rw [u64_wrap]; omega) (by rw [u64_wrap]; omega)
    rw [wrap_ok (by omega) (by omega)]
    exact h
  have hr : a < (c.length : Int) → 0 ≤ wrap64 (rd c a) ∧ wrap64 (rd c a) ≤ 255 := by
    intro h
    have hx : c[a.toNat]? = some c[a.toNat] := List.getElem?_eq_getElem (by omega)
    have e : rd c a = c[a.toNat] := by
      have := rd_at hx
      rw [show ((a.toNat : Nat) : Int) = a by omega] at this
      exact this
    have hy := hc _ (List.mem_of_getElem? hx)
    rw [e, wrap_ok (by omega) (by omega)]
    exact hy
  simp only [spec_l1Cur_next.f, ea]
  by_cases h : a < (c.length : Int)
  · rw [if_pos h, if_pos h0]
    by_cases h2 : a + 1 ≤ (c.length : Int)
    · rw [if_pos h2]
      exact ⟨_, _, rfl, (hr h).1, (hr h).2⟩
    · rw [if_neg h2]
      exact ⟨_, _, rfl, (hm _).1, (hm _).2⟩
  · rw [if_neg h]
    by_cases h2 : a + 1 ≤ (c.length : Int)
    · rw [if_pos h2]
      exact ⟨_, _, rfl, by omega, by omega⟩
    · rw [if_neg h2]
      exact ⟨_, _, rfl, (hm _).1, (hm _).2⟩
theorem tmod_range (x n : Int) (h0 : 0 ≤ x) (h1 : 0 < n) : 0 ≤ Int.tmod x n ∧ Int.tmod x n < n := by
  rw [Int.tmod_eq_emod_of_nonneg h0]
  exact ⟨Int.emod_nonneg _ (by omega), Int.emod_lt_of_pos _ h1⟩
theorem pick_some (c : List Int) (hc : Code c) (a s : Int) (h0 : 0 ≤ a) (h1 : a ≤ 1152921504606846976) (n : Int) :
    ∃ x a' s' : Int, spec_l1Cur_pick.f c a s n = some (x, a', s') ∧ a ≤ a' ∧ a' ≤ a + 2 ∧ 0 ≤ x ∧ (0 < n → x < n) ∧ (n ≤ 0 → x = 0) := by
  simp only [spec_l1Cur_pick.f]
  by_cases hn : n ≤ 1
  · rw [if_pos hn]
    exact ⟨0, a, s, rfl, by omega, by omega, by omega, fun h => h, fun _ => rfl⟩
  · obtain ⟨x, s1, e1, b1, b2⟩ := next_some c hc a s h0 (by omega)
    rw [if_neg hn, e1, Option.bind_some]
    by_cases h2 : n > 200
    · obtain ⟨y, s2, e2, c1, c2⟩ := next_some c hc (a + 1) s1 (by omega) (by omega)
      have ew : wrap64 (wrap64 (x * 256) + y) = x * 256 + y := by rw [wrap_ok (n := x * 256) (by omega) (by omega), wrap_ok (by omega) (by omega)]
      have hr := tmod_range (x * 256 + y) n (by omega) (by omega)
      simp only [if_pos h2, e2, Option.bind_some, if_neg (show ¬ n = 0 by omega), ew]
      exact ⟨_, _, _, rfl, by omega, by omega, hr.1, fun _ => hr.2, fun h => by omega⟩
    · have hr := tmod_range x n (by omega) (by omega)
      simp only [if_neg h2, if_neg (show ¬ n = 0 by omega)]
      exact ⟨_, _, _, rfl, by omega, by omega, hr.1, fun _ => hr.2, fun h => by omega⟩
end Go.Proofs.Ytcjebflldmiajaa.Pure
namespace Go.Proofs.Ytcjebflldmiajaa.Pure
open Go.RowKit Go.Proofs.Ytcjebflldmiajaa.Fn Go.Proofs.YtcjebflldmiajaaW.PrintWords Go.Proofs.YtcjebflldmiajaaW.PrintLast Go.Proofs.YtcjebflldmiajaaW.PrintMore
set_option linter.unusedSimpArgs false
set_option linter.unusedVariables false

theorem within_eq (a b c : Int) : impl_within.f a b c = some (decide (b ≤ a ∧ a ≤ c)) := by
  unfold impl_within.f
  by_cases h : b ≤ a
  · rw [if_pos h]; simp [h]
  · rw [if_neg h]; simp [h]
theorem specIn_eq (a b c : Int) : spec_l1In.f a b c = some (decide (b ≤ a ∧ a ≤ c)) := within_eq a b c
/-- Rising, and in range, from i on. -/
def riseFrom (l : List Int) : List Int → Nat → Bool
  | [], _ => true
  | x :: t, i => decide (0 ≤ x ∧ x ≤ 10000) && ((decide (i = 0) || !decide (rd l ((i - 1 : Nat) : Int) ≥ x)) && riseFrom l t (i + 1))
def listOk (l : List Int) : Bool := decide (l.length ≤ 60) && riseFrom l l 0
theorem rise_ev (l : List Int) (hl : l.length ≤ 1048576) (t : List Int) : ∀ i, l.drop i = t → i ≤ l.length → Ev (fun k => spec_l1Rising.l0 k l 0 10000 l l.length i) (riseFrom l t i) := by
  induction t with
  | nil =>
    intro i h _
    have := drop_nil h
    (refine Ev.up ?_; simp only [spec_l1Rising.l0, decT])
    (repeat (first | with_reducible refine Ev.bindS ?_ | (with_reducible refine Ev.ifp ?_ ?_; (· first | omega | assumption | rfl | (simp only [List.length_map, List.length_replicate, List.length_take, List.length_drop, List.length_append, List.length_cons, List.length_nil, List.length_set]; omega) | (simp; done))) | (with_reducible refine Ev.ifn ?_ ?_; (· first | omega | assumption | rfl | (simp only [List.length_map, List.length_replicate, List.length_take, List.length_drop, List.length_append, List.length_cons, List.length_nil, List.length_set]; omega) | (simp; done)))))
    exact Ev.val rfl
  | cons x t ih =>
    intro i h hi
    obtain ⟨h1, h2, h3⟩ := drop_cons h
    have ih := ih (i + 1) h3 (by omega)
    (refine Ev.up ?_; simp only [spec_l1Rising.l0, decT])
    rw [rd_at h2, wrap_succ (by omega), specIn_eq]
    simp only [riseFrom]
    (repeat (first | with_reducible refine Ev.bindS ?_ | (with_reducible refine Ev.ifp ?_ ?_; (· first | omega | assumption | rfl | (simp only [List.length_map, List.length_replicate, List.length_take, List.length_drop, List.length_append, List.length_cons, List.length_nil, List.length_set]; omega) | (simp; done))) | (with_reducible refine Ev.ifn ?_ ?_; (· first | omega | assumption | rfl | (simp only [List.length_map, List.length_replicate, List.length_take, List.length_drop, List.length_append, List.length_cons, List.length_nil, List.length_set]; omega) | (simp; done)))))
    by_cases hx : 0 ≤ x ∧ x ≤ 10000
    · simp only [decT]
      rw [decide_eq_true hx, Bool.true_and]
      (repeat (first | with_reducible refine Ev.bindS ?_ | (with_reducible refine Ev.ifp ?_ ?_; (· first | omega | assumption | rfl | (simp only [List.length_map, List.length_replicate, List.length_take, List.length_drop, List.length_append, List.length_cons, List.length_nil, List.length_set]; omega) | (simp; done))) | (with_reducible refine Ev.ifn ?_ ?_; (· first | omega | assumption | rfl | (simp only [List.length_map, List.length_replicate, List.length_take, List.length_drop, List.length_append, List.length_cons, List.length_nil, List.length_set]; omega) | (simp; done)))))
      by_cases h0 : i = 0
      · rw [decide_eq_true h0, Bool.true_or, Bool.true_and]
        (repeat (first | with_reducible refine Ev.bindS ?_ | (with_reducible refine Ev.ifp ?_ ?_; (· first | omega | assumption | rfl | (simp only [List.length_map, List.length_replicate, List.length_take, List.length_drop, List.length_append, List.length_cons, List.length_nil, List.length_set]; omega) | (simp; done))) | (with_reducible refine Ev.ifn ?_ ?_; (· first | omega | assumption | rfl | (simp only [List.length_map, List.length_replicate, List.length_take, List.length_drop, List.length_append, List.length_cons, List.length_nil, List.length_set]; omega) | (simp; done)))))
        exact ih
      · have e : wrap64 ((i : Int) - 1) = ((i - 1 : Nat) : Int) := by rw [wrap_ok (by omega) (by omega)]; omega
        rw [decide_eq_false h0, Bool.false_or, e]
        (repeat (first | with_reducible refine Ev.bindS ?_ | (with_reducible refine Ev.ifp ?_ ?_; (· first | omega | assumption | rfl | (simp only [List.length_map, List.length_replicate, List.length_take, List.length_drop, List.length_append, List.length_cons, List.length_nil, List.length_set]; omega) | (simp; done))) | (with_reducible refine Ev.ifn ?_ ?_; (· first | omega | assumption | rfl | (simp only [List.length_map, List.length_replicate, List.length_take, List.length_drop, List.length_append, List.length_cons, List.length_nil, List.length_set]; omega) | (simp; done)))))
        by_cases hp : rd l ((i - 1 : Nat) : Int) ≥ x
        · (repeat (first | with_reducible refine Ev.bindS ?_ | (with_reducible refine Ev.ifp ?_ ?_; (· first | omega | assumption | rfl | (simp only [List.length_map, List.length_replicate, List.length_take, List.length_drop, List.length_append, List.length_cons, List.length_nil, List.length_set]; omega) | (simp; done))) | (with_reducible refine Ev.ifn ?_ ?_; (· first | omega | assumption | rfl | (simp only [List.length_map, List.length_replicate, List.length_take, List.length_drop, List.length_append, List.length_cons, List.length_nil, List.length_set]; omega) | (simp; done)))))
          exact Ev.val (by simp [hp])
        · (repeat (first | with_reducible refine Ev.bindS ?_ | (with_reducible refine Ev.ifp ?_ ?_; (· first | omega | assumption | rfl | (simp only [List.length_map, List.length_replicate, List.length_take, List.length_drop, List.length_append, List.length_cons, List.length_nil, List.length_set]; omega) | (simp; done))) | (with_reducible refine Ev.ifn ?_ ?_; (· first | omega | assumption | rfl | (simp only [List.length_map, List.length_replicate, List.length_take, List.length_drop, List.length_append, List.length_cons, List.length_nil, List.length_set]; omega) | (simp; done)))))
          simpa [hp] using ih
    · simp only [decT]
      rw [decide_eq_false hx]
      (repeat (first | with_reducible refine Ev.bindS ?_ | (with_reducible refine Ev.ifp ?_ ?_; (· first | omega | assumption | rfl | (simp only [List.length_map, List.length_replicate, List.length_take, List.length_drop, List.length_append, List.length_cons, List.length_nil, List.length_set]; omega) | (simp; done))) | (with_reducible refine Ev.ifn ?_ ?_; (· first | omega | assumption | rfl | (simp only [List.length_map, List.length_replicate, List.length_take, List.length_drop, List.length_append, List.length_cons, List.length_nil, List.length_set]; omega) | (simp; done)))))
      exact Ev.val rfl
theorem isList_ev (l : List Int) (hl : l.length ≤ 1048576) (t : List Int) : ∀ i, l.drop i = t → i ≤ l.length → Ev (fun k => impl_isList.l0 k l l l.length i) (riseFrom l t i && decide ((l.length : Int) ≤ 60)) := by
  induction t with
  | nil =>
    intro i h _
    have := drop_nil h
    (refine Ev.up ?_; simp only [impl_isList.l0, decT])
    (repeat (first | with_reducible refine Ev.bindS ?_ | (with_reducible refine Ev.ifp ?_ ?_; (· first | omega | assumption | rfl | (simp only [List.length_map, List.length_replicate, List.length_take, List.length_drop, List.length_append, List.length_cons, List.length_nil, List.length_set]; omega) | (simp; done))) | (with_reducible refine Ev.ifn ?_ ?_; (· first | omega | assumption | rfl | (simp only [List.length_map, List.length_replicate, List.length_take, List.length_drop, List.length_append, List.length_cons, List.length_nil, List.length_set]; omega) | (simp; done)))))
    exact Ev.val rfl
  | cons x t ih =>
    intro i h hi
    obtain ⟨h1, h2, h3⟩ := drop_cons h
    have ih := ih (i + 1) h3 (by omega)
    (refine Ev.up ?_; simp only [impl_isList.l0, decT])
    rw [rd_at h2, wrap_succ (by omega), within_eq]
    simp only [riseFrom]
    (repeat (first | with_reducible refine Ev.bindS ?_ | (with_reducible refine Ev.ifp ?_ ?_; (· first | omega | assumption | rfl | (simp only [List.length_map, List.length_replicate, List.length_take, List.length_drop, List.length_append, List.length_cons, List.length_nil, List.length_set]; omega) | (simp; done))) | (with_reducible refine Ev.ifn ?_ ?_; (· first | omega | assumption | rfl | (simp only [List.length_map, List.length_replicate, List.length_take, List.length_drop, List.length_append, List.length_cons, List.length_nil, List.length_set]; omega) | (simp; done)))))
    by_cases hx : 0 ≤ x ∧ x ≤ 10000
    · simp only [decT]
      rw [decide_eq_true hx, Bool.true_and]
      (repeat (first | with_reducible refine Ev.bindS ?_ | (with_reducible refine Ev.ifp ?_ ?_; (· first | omega | assumption | rfl | (simp only [List.length_map, List.length_replicate, List.length_take, List.length_drop, List.length_append, List.length_cons, List.length_nil, List.length_set]; omega) | (simp; done))) | (with_reducible refine Ev.ifn ?_ ?_; (· first | omega | assumption | rfl | (simp only [List.length_map, List.length_replicate, List.length_take, List.length_drop, List.length_append, List.length_cons, List.length_nil, List.length_set]; omega) | (simp; done)))))
      by_cases h0 : i = 0
      · rw [decide_eq_true h0, Bool.true_or, Bool.true_and]
        (repeat (first | with_reducible refine Ev.bindS ?_ | (with_reducible refine Ev.ifp ?_ ?_; (· first | omega | assumption | rfl | (simp only [List.length_map, List.length_replicate, List.length_take, List.length_drop, List.length_append, List.length_cons, List.length_nil, List.length_set]; omega) | (simp; done))) | (with_reducible refine Ev.ifn ?_ ?_; (· first | omega | assumption | rfl | (simp only [List.length_map, List.length_replicate, List.length_take, List.length_drop, List.length_append, List.length_cons, List.length_nil, List.length_set]; omega) | (simp; done)))))
        exact ih
      · have e : wrap64 ((i : Int) - 1) = ((i - 1 : Nat) : Int) := by rw [wrap_ok (by omega) (by omega)]; omega
        rw [decide_eq_false h0, Bool.false_or, e]
        (repeat (first | with_reducible refine Ev.bindS ?_ | (with_reducible refine Ev.ifp ?_ ?_; (· first | omega | assumption | rfl | (simp only [List.length_map, List.length_replicate, List.length_take, List.length_drop, List.length_append, List.length_cons, List.length_nil, List.length_set]; omega) | (simp; done))) | (with_reducible refine Ev.ifn ?_ ?_; (· first | omega | assumption | rfl | (simp only [List.length_map, List.length_replicate, List.length_take, List.length_drop, List.length_append, List.length_cons, List.length_nil, List.length_set]; omega) | (simp; done)))))
        by_cases hp : rd l ((i - 1 : Nat) : Int) ≥ x
        · (repeat (first | with_reducible refine Ev.bindS ?_ | (with_reducible refine Ev.ifp ?_ ?_; (· first | omega | assumption | rfl | (simp only [List.length_map, List.length_replicate, List.length_take, List.length_drop, List.length_append, List.length_cons, List.length_nil, List.length_set]; omega) | (simp; done))) | (with_reducible refine Ev.ifn ?_ ?_; (· first | omega | assumption | rfl | (simp only [List.length_map, List.length_replicate, List.length_take, List.length_drop, List.length_append, List.length_cons, List.length_nil, List.length_set]; omega) | (simp; done)))))
          exact Ev.val (by simp [hp])
        · (repeat (first | with_reducible refine Ev.bindS ?_ | (with_reducible refine Ev.ifp ?_ ?_; (· first | omega | assumption | rfl | (simp only [List.length_map, List.length_replicate, List.length_take, List.length_drop, List.length_append, List.length_cons, List.length_nil, List.length_set]; omega) | (simp; done))) | (with_reducible refine Ev.ifn ?_ ?_; (· first | omega | assumption | rfl | (simp only [List.length_map, List.length_replicate, List.length_take, List.length_drop, List.length_append, List.length_cons, List.length_nil, List.length_set]; omega) | (simp; done)))))
          simpa [hp] using ih
    · simp only [decT]
      rw [decide_eq_false hx]
      (repeat (first | with_reducible refine Ev.bindS ?_ | (with_reducible refine Ev.ifp ?_ ?_; (· first | omega | assumption | rfl | (simp only [List.length_map, List.length_replicate, List.length_take, List.length_drop, List.length_append, List.length_cons, List.length_nil, List.length_set]; omega) | (simp; done))) | (with_reducible refine Ev.ifn ?_ ?_; (· first | omega | assumption | rfl | (simp only [List.length_map, List.length_replicate, List.length_take, List.length_drop, List.length_append, List.length_cons, List.length_nil, List.length_set]; omega) | (simp; done)))))
      exact Ev.val (by simp)
theorem specList_ev (l : List Int) (hl : l.length ≤ 1048576) : Ev (fun k => spec_l8List.f k l) (listOk l) := by
  simp only [spec_l8List.f, listOk]
  by_cases h : (l.length : Int) ≤ 60
  · rw [decide_eq_true (p := l.length ≤ 60) (by omega), Bool.true_and]
    (repeat (first | with_reducible refine Ev.bindS ?_ | (with_reducible refine Ev.ifp ?_ ?_; (· first | omega | assumption | rfl | (simp only [List.length_map, List.length_replicate, List.length_take, List.length_drop, List.length_append, List.length_cons, List.length_nil, List.length_set]; omega) | (simp; done))) | (with_reducible refine Ev.ifn ?_ ?_; (· first | omega | assumption | rfl | (simp only [List.length_map, List.length_replicate, List.length_take, List.length_drop, List.length_append, List.length_cons, List.length_nil, List.length_set]; omega) | (simp; done)))))
    exact Ev.bind (rise_ev l hl l 0 rfl (by omega)) (Ev.val rfl)
  · rw [decide_eq_false (p := l.length ≤ 60) (by omega)]
    (repeat (first | with_reducible refine Ev.bindS ?_ | (with_reducible refine Ev.ifp ?_ ?_; (· first | omega | assumption | rfl | (simp only [List.length_map, List.length_replicate, List.length_take, List.length_drop, List.length_append, List.length_cons, List.length_nil, List.length_set]; omega) | (simp; done))) | (with_reducible refine Ev.ifn ?_ ?_; (· first | omega | assumption | rfl | (simp only [List.length_map, List.length_replicate, List.length_take, List.length_drop, List.length_append, List.length_cons, List.length_nil, List.length_set]; omega) | (simp; done)))))
    exact Ev.val rfl
theorem implList_ev (l : List Int) (hl : l.length ≤ 1048576) : Ev (fun k => impl_isList.f k l) (listOk l) := by
  have h := isList_ev l hl l 0 rfl (by omega)
  have e : listOk l = (riseFrom l l 0 && decide ((l.length : Int) ≤ 60)) := by
    have e2 : decide ((l.length : Int) ≤ 60) = decide (l.length ≤ 60) := by rw [decide_eq_decide]; omega
    rw [listOk, Bool.and_comm, e2]
  rw [e]
  exact h
/-- What a good list's numbers are. -/
theorem rise_at {l : List Int} (t : List Int) : ∀ i, l.drop i = t → riseFrom l t i = true → ∀ j x, i ≤ j → l[j]? = some x → (0 ≤ x ∧ x ≤ 10000) ∧ (0 < j → rd l ((j - 1 : Nat) : Int) < x) := by
  induction t with
  | nil =>
    intro i h _ j x hj hx
    have := drop_nil h
    have := (List.getElem?_eq_some_iff.1 hx).1
    omega
  | cons y t ih =>
    intro i h hr j x hj hx
    obtain ⟨h1, h2, h3⟩ := drop_cons h
    simp only [riseFrom, Bool.and_eq_true, decide_eq_true_eq, Bool.or_eq_true, Bool.not_eq_true', decide_eq_false_iff_not] at hr
    rcases Nat.lt_or_ge i j with hlt | hge
    · exact ih (i + 1) h3 hr.2.2 j x (by omega) hx
    · have e : j = i := by omega
      subst e
      rw [h2] at hx
      injection hx with hx
      subst hx
      refine ⟨hr.1, fun h0 => ?_⟩
      rcases hr.2.1 with h | h
      · omega
      · omega
theorem ok_at {l : List Int} (h : listOk l = true) {j : Nat} {x : Int} (hx : l[j]? = some x) : (0 ≤ x ∧ x ≤ 10000) ∧ (0 < j → rd l ((j - 1 : Nat) : Int) < x) := by
  simp only [listOk, Bool.and_eq_true] at h
  exact rise_at l 0 rfl h.2 j x (by omega) hx
theorem ok_len {l : List Int} (h : listOk l = true) : l.length ≤ 60 := by
  simp only [listOk, Bool.and_eq_true, decide_eq_true_eq] at h
  exact h.1
theorem ok_mono {l : List Int} (h : listOk l = true) : ∀ (d i : Nat) (x y : Int), l[i]? = some x → l[i + d]? = some y → x ≤ y ∧ (0 < d → x < y) := by
  intro d
  induction d with
  | zero =>
    intro i x y hx hy
    rw [Nat.add_zero, hx] at hy
    injection hy with hy
    omega
  | succ d ih =>
    intro i x y hx hy
    have hlt : i + (d + 1) < l.length := (List.getElem?_eq_some_iff.1 hy).1
    have hz : l[i + d]? = some l[i + d] := List.getElem?_eq_getElem (by omega)
    have h1 := ih i x _ hx hz
    have h2 := (ok_at h hy).2 (by omega)
    have e : i + (d + 1) - 1 = i + d := by omega
    rw [e, rd_at hz] at h2
    omega
end Go.Proofs.Ytcjebflldmiajaa.Pure
