/- The law FnWords holds of the given program: at every input it answers true and leaves its arguments as they were; no condition. -/
import Derived.Test.YtcopakljdenolaaQWWords
import Derived.ChangeArms
import Derived.ChangeSame
import Derived.Deep.Slices
import Derived.Deep.Strs
import Derived.Deep.Fields
import Derived.Lib.SmallJoins
import Derived.WideShapes
import Derived.Test.YtcopakljdenolaaRows
import Derived.WalkKit
import Derived.ProofKit
import Derived.OpenShut
import Derived.ShutString
import Derived.ChangeOld
import Derived.Below
import Derived.SizedLaws
import Derived.Carry
import Derived.Test.YtcopakljdenolaaCFWordsA
import Derived.Test.YtcopakljdenolaaCFWordsB
import Derived.Test.YtcopakljdenolaaCFWordsC
import Derived.Test.YtcopakljdenolaaCFWordsD
namespace Go.Proofs.Ytcopakljdenolaa.OpenA
open Go.RowKit Go.Deep Go.ChangeShapes Go.Joins Go.Proofs.YtcopakljdenolaaW Go.Proofs.YtcopakljdenolaaW.PrintWords

/-- What can be read as data of type t can be read as kind d, and is well formed. -/
def Op (P : Program) (t : TypeId) {α : Type} (d : Kd α) (Wf : α → Prop) : Prop :=
  ∀ {H : Type} {enc : TypeId × Value → H} {w : World} {base : Nat} {spare : Nat → Bool} {held : Bool} {fuel : Nat} {cs : List Value} {x : DataW H × List MemPlace},
    DataW.trod enc P w base spare held fuel t cs = some x → ∃ a : α, d.K w a cs ∧ Wf a

variable {P : Program} {t e : TypeId}

theorem op_int {k : IntKind} (hu : P.underlying t = some (.int k)) : Op P t (Kd.int k) (fun n => (Lit.int k n).wf = true) := by
  intro H enc w base spare held fuel cs x h
  obtain ⟨n, rfl, _, hw⟩ := DataW.trod_int hu h
  exact ⟨n, rfl, hw⟩
theorem op_bool (hu : P.underlying t = some .bool) : Op P t Kd.bool (fun _ => True) := by
  intro H enc w base spare held fuel cs x h
  obtain ⟨b, rfl, _⟩ := DataW.trod_bool hu h
  exact ⟨b, rfl, trivial⟩
theorem op_string (hu : P.underlying t = some .string) : Op P t Kd.string (fun s => s.size ≤ maxLen) := by
  intro H enc w base spare held fuel cs x h
  obtain ⟨s, rfl, _, hs⟩ := DataW.trod_string hu h
  exact ⟨s, rfl, hs⟩
theorem cells_of {w : World} {base : Nat} {a : Addr} {n : Nat} {cs : List Value} (h : w.cells? base a n = some cs) : cs.length = n ∧ ∀ j u, cs[j]? = some u → w.cell? (a.add j) = some u := by
  unfold World.cells? at h
  split at h
  · have hl := mapM_some_length h
    refine ⟨by simpa using hl, fun j u hj => ?_⟩
    have hlt : j < n := by
      have := (List.getElem?_eq_some_iff.1 hj).1
      have : cs.length = n := by simpa using hl
      omega
    have := mapM_some_get h j j (by simp [hlt])
    rw [hj] at this
    exact this
  · simp at h
theorem op_slice {α : Type} {d : Kd α} {Wf : α → Prop} (hu : P.underlying t = some (.slice e)) (hc : P.cellsOf e = d.sz) (h : Op P e d Wf) :
    Op P t (Kd.slice e d) (fun xs => xs.length ≤ maxLen ∧ ∀ x ∈ xs, Wf x) := by
  intro H enc w base spare held fuel cs x hf
  rcases open_slice hu hf with ⟨rfl, _⟩ | ⟨a, len, cap, m, n, D, Pl, rfl, _, hl, hm, hmm, hxe, hall⟩
  · exact ⟨[], ⟨none, 0, rfl, Nat.le_refl _, rfl, by simp, fun h => absurd h (by simp)⟩, by simp, by simp⟩
  · have hlm : len ≤ m := by rw [hmm]; split <;> omega
    have hx : ∀ i, i < len → ∃ y : α × List Value, w.cells? base (a.add (i * P.cellsOf e)) (P.cellsOf e) = some y.2 ∧ d.K w y.1 y.2 ∧ Wf y.1 := by
      intro i hi
      obtain ⟨cs', h1, h2⟩ := hall i (by omega)
      obtain ⟨y, h3, h4⟩ := h h2
      exact ⟨⟨y, cs'⟩, h1, h3, h4⟩
    have hx' : ∃ ys : List (α × List Value), ys.length = len ∧ ∀ i y, ys[i]? = some y → w.cells? base (a.add (i * P.cellsOf e)) (P.cellsOf e) = some y.2 ∧ d.K w y.1 y.2 ∧ Wf y.1 := by
      clear hall hf hmm hlm hl hm hxe
      induction len with
      | zero => exact ⟨[], rfl, by simp⟩
      | succ len ih =>
        obtain ⟨ys, h1, h2⟩ := ih (fun i hi => hx i (by omega))
        obtain ⟨y, hy⟩ := hx len (by omega)
        refine ⟨ys ++ [y], by simp [h1], fun i z hz => ?_⟩
        rcases Nat.lt_or_ge i ys.length with hi | hi
        · rw [List.getElem?_append_left hi] at hz
          exact h2 i z hz
        · rw [List.getElem?_append_right hi] at hz
          have h0 : i - ys.length = 0 := by
            rcases Nat.eq_zero_or_pos (i - ys.length) with h0 | h0
            · exact h0
            · rw [List.getElem?_eq_none (by simp; omega)] at hz
              cases hz
          rw [h0] at hz
          have hz' : y = z := by simpa using hz
          have : i = len := by omega
          subst this
          subst hz'
          exact hy
    obtain ⟨ys, hl2, hys⟩ := hx'
    have hlen : (ys.map (·.1)).length = len := by simp [hl2]
    refine ⟨ys.map (·.1), ⟨some a, cap, by rw [hlen], by omega, ?_⟩, by simp only [maxLen] at *; omega, ?_⟩
    · refine ⟨rfl, by rw [hlen]; simp only [maxLen] at hm; omega, fun _ => ⟨a, rfl, fun j p hj => ?_⟩⟩
      rw [List.getElem?_map] at hj
      obtain ⟨y, hy, rfl⟩ := Option.map_eq_some_iff.1 hj
      obtain ⟨h1, h2, _⟩ := hys j y hy
      obtain ⟨h3, h4⟩ := cells_of h1
      refine ⟨y.2, by rw [h3, hc], h2, fun i u hu => ?_⟩
      have := h4 i u hu
      rw [PrintWords.add_add, hc] at this
      exact this
    · intro x hx
      obtain ⟨y, hy, rfl⟩ := List.mem_map.1 hx
      obtain ⟨i, hi⟩ := List.mem_iff_getElem?.1 hy
      exact (hys i y hi).2.2

theorem len1 {l : List Value} (h : l.length = 1) : ∃ a, l = [a] := by
  match l, h with
  | [a], _ => exact ⟨a, rfl⟩
theorem len2 {l : List Value} (h : l.length = 2) : ∃ a b, l = [a, b] := by
  match l, h with
  | [a, b], _ => exact ⟨a, b, rfl⟩
theorem len3 {l : List Value} (h : l.length = 3) : ∃ a b c, l = [a, b, c] := by
  match l, h with
  | [a, b, c], _ => exact ⟨a, b, c, rfl⟩
theorem len4 {l : List Value} (h : l.length = 4) : ∃ a b c d, l = [a, b, c, d] := by
  match l, h with
  | [a, b, c, d], _ => exact ⟨a, b, c, d, rfl⟩

theorem fields_of {H : Type} {enc : TypeId × Value → H} {w : World} {base : Nat} {spare : Nat → Bool} {held : Bool} {fuel : Nat} {cs : List Value} {x : DataW H × List MemPlace} {fs : Array Field}
    (hs : P.underlying t = some (.struct fs)) (hone : oneCellFields P fs = true) (hC : P.cellsOf t = fs.size) (h : DataW.trod enc P w base spare held fuel t cs = some x) :
    cs.length = fs.size ∧ ∃ n, ∀ (i : Nat) (f : Field) (v : Value), fs[i]? = some f → cs[i]? = some v → ∃ y, DataW.trod enc P w base spare held n f.type [v] = some y := by
  obtain ⟨xs, n, _, _, hl, hx, hf⟩ := DataW.trod_struct hs h
  refine ⟨hl.trans hC, n, fun i f v hi hv => ?_⟩
  have h1 := hf i f hi
  obtain ⟨h2, h3⟩ := hone_of hone i f hi
  have hlt : i < fs.size := (Array.getElem?_eq_some_iff.1 hi).1
  have h4 : xs[i]? = some (xs[i]'(by omega)) := List.getElem?_eq_getElem (by omega)
  have h5 : (cs.drop f.offset).take (P.cellsOf f.type) = [v] := by
    rw [h2, h3]
    have hlt2 : i < cs.length := by omega
    rw [List.getElem?_eq_getElem hlt2] at hv
    injection hv with hv
    rw [List.drop_eq_getElem_cons hlt2, hv]
    simp
  rw [h5, h4] at h1
  exact ⟨_, h1⟩

theorem op_struct1 {α S : Type} {d0 : Kd α} {W0 : α → Prop} {f0 : Field} {f : S → α} (mk : α → S) (hf : ∀ a, f (mk a) = a)
    (hs : P.underlying t = some (.struct #[f0])) (hone : oneCellFields P #[f0] = true) (hC : P.cellsOf t = 1) (h0 : Op P f0.type d0 W0) :
    Op P t (Kd.iso d0 f) (fun x => W0 (f x)) := by
  intro H enc w base spare held fuel cs x h
  obtain ⟨hl, n, hF⟩ := fields_of hs hone hC h
  obtain ⟨c0, rfl⟩ := len1 hl
  obtain ⟨y0, k0⟩ := hF 0 f0 c0 rfl rfl
  obtain ⟨a0, q0, w0⟩ := h0 k0
  exact ⟨mk a0, by show d0.K w (f (mk a0)) [c0]; rw [hf]; exact q0, by show W0 (f (mk a0)); rw [hf]; exact w0⟩
theorem op_struct2 {α β S : Type} {d0 : Kd α} {d1 : Kd β} {W0 : α → Prop} {W1 : β → Prop} {f0 f1 : Field} {f : S → α × β} (mk : α → β → S) (hf : ∀ a b, f (mk a b) = (a, b))
    (hs : P.underlying t = some (.struct #[f0, f1])) (hone : oneCellFields P #[f0, f1] = true) (hC : P.cellsOf t = 2) (h0 : Op P f0.type d0 W0) (h1 : Op P f1.type d1 W1) :
    Op P t (Kd.iso (Kd.pair d0 d1) f) (fun x => W0 (f x).1 ∧ W1 (f x).2) := by
  intro H enc w base spare held fuel cs x h
  obtain ⟨hl, n, hF⟩ := fields_of hs hone hC h
  obtain ⟨c0, c1, rfl⟩ := len2 hl
  obtain ⟨y0, k0⟩ := hF 0 f0 c0 rfl rfl
  obtain ⟨y1, k1⟩ := hF 1 f1 c1 rfl rfl
  obtain ⟨a0, q0, w0⟩ := h0 k0
  obtain ⟨a1, q1, w1⟩ := h1 k1
  exact ⟨mk a0 a1, ⟨[c0], [c1], rfl, by rw [hf]; exact q0, by rw [hf]; exact q1⟩, by dsimp only; rw [hf]; exact ⟨w0, w1⟩⟩
theorem op_struct3 {α β γ S : Type} {d0 : Kd α} {d1 : Kd β} {d2 : Kd γ} {W0 : α → Prop} {W1 : β → Prop} {W2 : γ → Prop} {f0 f1 f2 : Field} {f : S → α × β × γ} (mk : α → β → γ → S) (hf : ∀ a b c, f (mk a b c) = (a, b, c))
    (hs : P.underlying t = some (.struct #[f0, f1, f2])) (hone : oneCellFields P #[f0, f1, f2] = true) (hC : P.cellsOf t = 3) (h0 : Op P f0.type d0 W0) (h1 : Op P f1.type d1 W1) (h2 : Op P f2.type d2 W2) :
    Op P t (Kd.iso (Kd.pair d0 (Kd.pair d1 d2)) f) (fun x => W0 (f x).1 ∧ W1 (f x).2.1 ∧ W2 (f x).2.2) := by
  intro H enc w base spare held fuel cs x h
  obtain ⟨hl, n, hF⟩ := fields_of hs hone hC h
  obtain ⟨c0, c1, c2, rfl⟩ := len3 hl
  obtain ⟨y0, k0⟩ := hF 0 f0 c0 rfl rfl
  obtain ⟨y1, k1⟩ := hF 1 f1 c1 rfl rfl
  obtain ⟨y2, k2⟩ := hF 2 f2 c2 rfl rfl
  obtain ⟨a0, q0, w0⟩ := h0 k0
  obtain ⟨a1, q1, w1⟩ := h1 k1
  obtain ⟨a2, q2, w2⟩ := h2 k2
  exact ⟨mk a0 a1 a2, ⟨[c0], [c1, c2], rfl, by rw [hf]; exact q0, [c1], [c2], rfl, by rw [hf]; exact q1, by rw [hf]; exact q2⟩, by dsimp only; rw [hf]; exact ⟨w0, w1, w2⟩⟩
theorem op_struct4 {α β γ δ S : Type} {d0 : Kd α} {d1 : Kd β} {d2 : Kd γ} {d3 : Kd δ} {W0 : α → Prop} {W1 : β → Prop} {W2 : γ → Prop} {W3 : δ → Prop} {f0 f1 f2 f3 : Field} {f : S → α × β × γ × δ} (mk : α → β → γ → δ → S) (hf : ∀ a b c d, f (mk a b c d) = (a, b, c, d))
    (hs : P.underlying t = some (.struct #[f0, f1, f2, f3])) (hone : oneCellFields P #[f0, f1, f2, f3] = true) (hC : P.cellsOf t = 4) (h0 : Op P f0.type d0 W0) (h1 : Op P f1.type d1 W1) (h2 : Op P f2.type d2 W2) (h3 : Op P f3.type d3 W3) :
    Op P t (Kd.iso (Kd.pair d0 (Kd.pair d1 (Kd.pair d2 d3))) f) (fun x => W0 (f x).1 ∧ W1 (f x).2.1 ∧ W2 (f x).2.2.1 ∧ W3 (f x).2.2.2) := by
  intro H enc w base spare held fuel cs x h
  obtain ⟨hl, n, hF⟩ := fields_of hs hone hC h
  obtain ⟨c0, c1, c2, c3, rfl⟩ := len4 hl
  obtain ⟨y0, k0⟩ := hF 0 f0 c0 rfl rfl
  obtain ⟨y1, k1⟩ := hF 1 f1 c1 rfl rfl
  obtain ⟨y2, k2⟩ := hF 2 f2 c2 rfl rfl
  obtain ⟨y3, k3⟩ := hF 3 f3 c3 rfl rfl
  obtain ⟨a0, q0, w0⟩ := h0 k0
  obtain ⟨a1, q1, w1⟩ := h1 k1
  obtain ⟨a2, q2, w2⟩ := h2 k2
  obtain ⟨a3, q3, w3⟩ := h3 k3
  exact ⟨mk a0 a1 a2 a3, ⟨[c0], [c1, c2, c3], rfl, by rw [hf]; exact q0, [c1], [c2, c3], rfl, by rw [hf]; exact q1, [c2], [c3], rfl, by rw [hf]; exact q2, by rw [hf]; exact q3⟩, by dsimp only; rw [hf]; exact ⟨w0, w1, w2, w3⟩⟩

/-- A struct's value, by its list of cells. -/
theorem agg_of {cs : Array Value} {l : List Value} (h : cs.toList = l) : cs = l.toArray := by
  cases cs
  simp at h
  simp [h]
end Go.Proofs.Ytcopakljdenolaa.OpenA
namespace Go.Proofs.Ytcopakljdenolaa.fnWords
open Go.ChangeShapes Go.WideShapes Go.ChangeAt Go.RowKit Go.Proofs.Ytcopakljdenolaa.Fn Go.Proofs.YtcopakljdenolaaW.PrintWords Go.Proofs.Ytcopakljdenolaa.OpenA
open Go.ChangeMaps (open_string shut_string)
set_option linter.unusedVariables false
theorem own : ownKnob Try.prog.godebug = none := by kernel_rfl
theorem laidOut : laidOutB Try.prog = true := by kernel_rfl
set_option maxRecDepth 100000 in
theorem lifted (os : Os) (started : os.Started) (H : Type) (enc : TypeId × Value → H) :
    ReturnsInHanded {} Try.checked os 11 .any (Rows.fnWordsSpec.pre6 enc Try.prog Try.f11 Rows.fnWordsRow.domain false) (Rows.fnWordsSpec.post enc Try.prog Try.f11 false true false false) := by
  refine returnsInHanded_of_change_sized (C := Try.checked) own started (by kernel_rfl) Try.func11
    (ChangeSpec.witness6 (enc := enc) (C := Try.checked) false ⟨#[], #[.slice none 0 0, .slice none 0 0], []⟩ 8 (by kernel_rfl) (by kernel_rfl) (by kernel_rfl) (by kernel_rfl)) ?_
  intro W base args ds gs before hval0 hW hcnd hsz0 _
  have hsz : (DataW.weightsEach Try.prog (Try.f11.params.toList ++ Rows.fnWordsSpec.plain.varTypes Try.prog) (ds ++ gs)).all (· ≤ reachBytes) = true := hsz0
  have hval : ∀ (j : Nat) t v, Try.f11.params[j]? = some t → args[j]? = some v → Value.okWide Try.prog W .any base t v := hval0
  have hW' := hW
  obtain ⟨p, q, hA0, hV, rfl, hfz, hnd⟩ := hW
  have hA : DataW.TrodAll enc Try.prog W 0 (fun _ => true) true Try.f11.params.toList args.toList ds p := hA0
  rw [Try.params11] at hA hval hsz
  obtain ⟨v0, vs0, d0, ds0, p0, q0, hargs, rfl, rfl, h0, r0⟩ := trodAll_cons hA
  obtain ⟨v1, vs1, d1, ds1, p1, q1, rfl, rfl, rfl, h1, r1⟩ := trodAll_cons r0
  obtain ⟨rfl, rfl, rfl⟩ := trodAll_nil r1
  obtain rfl : args = #[v0, v1] := by cases args; simp_all
  obtain ⟨rfl, rfl⟩ := trodVars_none hV
  obtain ⟨a0, len0, cap0, rfl⟩ := okWide_slice Try.underlying53 (hval 0 53 v0 rfl rfl)
  have k0 := h0
  have lt0 : ∀ x ∈ p0, x.block < W.heap.size := by obtain ⟨m, hm⟩ := k0; exact DataW.trod_lt m _ _ _ hm
  obtain ⟨fuel0, hf0⟩ := h0
  obtain ⟨l0, hK0, hw0⟩ := (op_slice Try.underlying53 (by kernel_rfl) (op_int Try.underlying5)) hf0
  obtain ⟨A0, c0, e0, hc0, hr0⟩ := hK0
  simp [Value.cells] at e0
  obtain ⟨rfl, rfl, rfl⟩ := e0
  obtain ⟨a1, len1, cap1, rfl⟩ := okWide_slice Try.underlying53 (hval 1 53 v1 rfl rfl)
  have k1 := h1
  have lt1 : ∀ x ∈ p1, x.block < W.heap.size := by obtain ⟨m, hm⟩ := k1; exact DataW.trod_lt m _ _ _ hm
  obtain ⟨fuel1, hf1⟩ := h1
  obtain ⟨l1, hK1, hw1⟩ := (op_slice Try.underlying53 (by kernel_rfl) (op_int Try.underlying5)) hf1
  obtain ⟨A1, c1, e1, hc1, hr1⟩ := hK1
  simp [Value.cells] at e1
  obtain ⟨rfl, rfl, rfl⟩ := e1
  clear hA0 hval0 hsz0 hsz
  obtain ⟨k, h⟩ := Pure.FnWords l0 l1 hw0 hw1
  refine (laws_FnWords.calls k _ _ l0 _ _ l1 true W hr0 hc0 hr1 hc1 h rfl).mono fun e W' ⟨he, bel0⟩ => ?_
  have bel : Below W.heap.size W W' := bel0
  subst he
  exact ⟨_, rfl, _, _, _, [], _, [], hW', trodAll_mk1 (shut_bool Try.underlying4 _), (trodAll_cons_mk (Below.trod laidOut (by kernel_rfl) (of_decide_eq_true (by kernel_rfl)) k0 bel lt0) (trodAll_cons_mk (Below.trod laidOut (by kernel_rfl) (of_decide_eq_true (by kernel_rfl)) k1 bel lt1) trodAll_mk0)), rfl, bel.frame _, fun h => by cases h⟩
theorem over : Rows.fnWordsRow.holds Try.pinned (OpenSpec.ofChange Rows.fnWordsSpec) :=
  OpenClaim.holds_of_wide 11 Try.f11 rfl rfl rfl rfl rfl rfl rfl ⟨rfl, rfl, rfl, rfl, rfl⟩ rfl rfl rfl rfl rfl (by kernel_rfl) Try.func11 (by kernel_rfl)
    (of_decide_eq_true (by kernel_rfl)) (by unfold Func.isWrapper; first | (rw [if_pos (by decide +kernel)]; kernel_rfl) | (rw [if_neg (by decide +kernel)]; exact ⟨rfl, rfl⟩))
    (fun os started H enc _ => lifted os started H enc)
theorem proved : Rows.FnWordsSaid := over
#print axioms proved
end Go.Proofs.Ytcopakljdenolaa.fnWords
namespace Go.Proofs.Ytcopakljdenolaa
/-- The row, under a short name, for the claim. -/
theorem fnWords_holds : Rows.FnWordsSaid := fnWords.proved
end Go.Proofs.Ytcopakljdenolaa
