/- Words that the proof uses, of those printed for this seat. -/
import Derived.Test.YtoddejmlcnbdmaaQWWords
import Derived.Test.YtoddejmlcnbdmaaQWLast
namespace Go.Proofs.YtoddejmlcnbdmaaW.PrintWords
open Go.RowKit
namespace Kd
def tag {α : Type} (f : Nat -> Nat) (d : Kd α) : Kd (α × Nat) where
 sz := d.sz
 E := d.E
 K := fun w x cs => d.K w x.1 cs
 M := fun w base ok x cs => d.M w base (fun k => ok k /\ f k = x.2) x.1 cs
 jC := fun h => d.jC h
 jD := fun h => d.jD h
 fK := fun hb h => d.fK hb h
 eQ := fun h => d.eQ h
 dB := fun hok h => d.dB (fun k hk => ⟨hok k hk.1, hk.2⟩) h
 dM := fun h => d.dB (fun _ hk => ⟨⟨hk.1.1, hk.2⟩, hk.1.2⟩) (d.dM h)
 gz := fun hm h => d.gz (fun k hk => hm k hk.1) h
 fV := fun hb h => d.fV hb h
def raw (sz : Nat) : Kd (List Value) where
 sz := sz
 E := []
 K := fun _ x cs => cs = x /\ cs.length = sz /\ ∀ u ∈ cs, u.oneCell' = true
 M := fun _ _ _ x cs => cs = x /\ cs.length = sz /\ ∀ u ∈ cs, u.oneCell' = true
 jC := fun h => h.2.1
 jD := fun h => h.2.2
 fK := fun _ h => h
 eQ := fun h => h
 dB := fun _ h => h
 dM := fun h => h
 gz := fun _ h => h
 fV := fun _ h => h
def S {α : Type} (d : Kd α) (e : Nat) (w : World) (base : Nat) (ok : Nat -> Prop) (v : Value) (xs : List α) : Prop := ∃ f, (tag f d).R e w base ok v xs.zipIdx
section
variable {α β : Type} {d : Kd α} {d' : Kd β} {e e' : Nat} {w w1 W : World} {base b : Nat} {ok ok' okv oku : Nat -> Prop} {u v : Value} {xs : List α} {ys : List β}
theorem pX {xs : List α} {j : Nat} {p : α} (h : xs[j]? = some p) : xs.zipIdx[j]? = some (p, j) := by rw [List.getElem?_zipIdx, h, Nat.zero_add]; rfl
theorem Yk (h : S d e w base ok v xs) : d.R e w base ok v xs := by
 obtain ⟨f, h0, inner, ho, hr⟩ := h
 rw [List.length_zipIdx] at ho
 exact ⟨h0, inner, ho, by have := hr.1; rw [List.length_zipIdx] at this; exact this, fun j p hj => d.dB (fun _ hk => hk.1) (hr.2 j (p, j) (pX hj))⟩
theorem Jo (hE : d.E = []) (h : d.R e w base ok v xs) : d.R e w base (fun k => some k = v.ownBlock) v xs := by
 obtain ⟨h0, inner, ho, hr⟩ := h
 refine ⟨fun k hk => hk.symm, inner, ho, hr.qF (fun p c hp => d.dB (fun k hk => ?_) (d.dM hp))⟩
 obtain ⟨_, _, _, q, hq, _⟩ := hk
 rw [hE] at hq
 cases hq
theorem RD (h : S d e w base ok v xs) (hok : ∀ k, ok k -> ok' k) : S d e w base ok' v xs := by
 obtain ⟨f, h⟩ := h
 exact ⟨f, jH h hok⟩
theorem PG (h : S d e w base ok v xs) : S d e w base (fun k => ok k /\ base <= k /\ k < w.heap.size /\ ∃ q, q ∈ e :: d.E /\ ∃ cells, w.heap[k]? = some (.cells cells q (0, 0))) v xs := by
 obtain ⟨f, h⟩ := h
 exact ⟨f, qL h⟩
theorem RF (h : S d e w base ok v xs) (hm : ∀ k, ok k -> w1.heap[k]? = w.heap[k]?) : S d e w1 base ok v xs := by
 obtain ⟨f, h⟩ := h
 exact ⟨f, xz h hm⟩
theorem RG (h : S d e w base ok v xs) (hm : ∀ k, ok k -> k < w.heap.size -> w1.heap[k]? = w.heap[k]?) : S d e w1 base ok v xs :=
 RD (RF (PG h) (fun k hk => hm k hk.1 hk.2.2.1)) (fun _ hk => hk.1)
theorem Ew (h : S d e w base ok v xs) (hb : Below w.heap.size w w1) : S d e w1 base ok v xs := RG h (fun k _ hk => hb.block k hk)
theorem OY (h : S d e w base ok v xs) (o : Obj) : S d e (w.alloc o) base ok v xs := Ew h (bu (Below.refl _ _) o)
theorem QX (h : S d e w base ok v xs) : S d e w.drew base ok v xs := Ew h (aH (Below.refl _ _))
theorem OZ (h : S d e w base ok v xs) (m : Nat) : S d e (w.drewN m) base ok v xs := Ew h (ah (Below.refl _ _) m)
end
section
variable {α β : Type} {d : Kd α} {d' : Kd β} {e e' g : Nat} {w w1 W : World} {base b : Nat} {ok ok' okv oku : Nat -> Prop} {u v : Value} {xs : List α} {ys : List β}
theorem M9 {A : Option Addr} {n c : Nat} (h : S d e w base ok (.slice A n c) xs) : n = xs.length /\ n <= c /\ d.C w A xs.length xs := dW (Yk h)
end
section
variable {P : Program} {ops : Array Oper} {rest : List Oper} {o : Oper} {a : Act} {Q : Exit -> Act -> World -> Prop} {Kc : Act -> World -> Prop} {α : Type}
theorem MX {d : Kd α} {w : World} {base : Nat} {ok : Nat -> Prop} {xs : List α} {inner : List Value} (Uy : Nat -> Nat -> Prop) (hap : ∀ i j k, Uy i k -> Uy j k -> i = j) (hok : ∀ j k, Uy j k -> ok k)
  (hl : inner.length = xs.length * d.sz) (hrep : ∀ j x, xs[j]? = some x -> d.M w base (Uy j) x ((inner.drop (j * d.sz)).take d.sz)) : ∃ f, fq ((tag f d).M w base ok) d.sz xs.zipIdx inner := by
 refine ⟨fun k => open Classical in if h : ∃ j, Uy j k then h.choose else 0, by rw [List.length_zipIdx]; exact hl, fun j p hj => ?_⟩
 rw [List.getElem?_zipIdx, Nat.zero_add] at hj
 obtain ⟨x, hx, rfl⟩ := Option.map_eq_some_iff.1 hj
 refine d.dB (fun k hk => ⟨hok j k hk, ?_⟩) (hrep j x hx)
 have h : ∃ j, Uy j k := ⟨j, hk⟩
 exact (dif_pos h).trans (hap _ _ k h.choose_spec hk)
end
def gap {α : Type} (f : Nat -> Nat) (d : Kd α) (i : Nat) (c : List Value) : Kd (α × Nat) where
 sz := d.sz
 E := d.E
 K := fun w x cs => (x.2 = i -> cs = c /\ cs.length = d.sz /\ ∀ u ∈ cs, u.oneCell' = true) /\ (x.2 ≠ i -> d.K w x.1 cs)
 M := fun w base ok x cs => (x.2 = i -> cs = c /\ cs.length = d.sz /\ ∀ u ∈ cs, u.oneCell' = true) /\ (x.2 ≠ i -> d.M w base (fun k => ok k /\ f k = x.2) x.1 cs)
 jC := fun {w x cs} h => by
  by_cases hx : x.2 = i
  ·exact (h.1 hx).2.1
  ·exact d.jC (h.2 hx)
 jD := fun {w x cs} h => by
  by_cases hx : x.2 = i
  ·exact (h.1 hx).2.2
  ·exact d.jD (h.2 hx)
 fK := fun hb h => ⟨h.1, fun hx => d.fK hb (h.2 hx)⟩
 eQ := fun h => ⟨h.1, fun hx => d.eQ (h.2 hx)⟩
 dB := fun hok h => ⟨h.1, fun hx => d.dB (fun k hk => ⟨hok k hk.1, hk.2⟩) (h.2 hx)⟩
 dM := fun h => ⟨h.1, fun hx => d.dB (fun _ hk => ⟨⟨hk.1.1, hk.2⟩, hk.1.2⟩) (d.dM (h.2 hx))⟩
 gz := fun hm h => ⟨h.1, fun hx => d.gz (fun k hk => hm k hk.1) (h.2 hx)⟩
 fV := fun hb h => ⟨h.1, fun hx => d.fV hb (h.2 hx)⟩
def H {α : Type} (d : Kd α) (e : Nat) (w : World) (base : Nat) (ok : Nat -> Prop) (v : Value) (xs : List α) (i : Int) (VT : Nat -> Prop) (c : List Value) : Prop :=
 (∀ k, VT k -> ok k) /\ ∃ f, (gap f d i.toNat c).R e w base (fun k => ok k /\ ¬ VT k) v xs.zipIdx
section
variable {α β : Type} {d : Kd α} {e e' g n cap : Nat} {w w1 W : World} {base : Nat} {ok ok' VT okp : Nat -> Prop} {u v : Value} {xs : List α} {i : Int} {c : List Value}
end
section
variable {P : Program} {ops : Array Oper} {rest : List Oper} {o : Oper} {a : Act} {Q : Exit -> Act -> World -> Prop} {α : Type}
end
end Kd
end Go.Proofs.YtoddejmlcnbdmaaW.PrintWords


