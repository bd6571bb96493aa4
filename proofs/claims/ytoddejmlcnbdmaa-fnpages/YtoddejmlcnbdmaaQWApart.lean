/- Words used here. -/
import Derived.Test.YtoddejmlcnbdmaaQWWords
import Derived.Test.YtoddejmlcnbdmaaQWLast
namespace Go.Proofs.YtoddejmlcnbdmaaW.PrintWords
open Go.RowKit
namespace Kd
def tag {α : Type} (f : Nat -> Nat) (d : Kd α) : Kd (α × Nat) where
 sz := d.sz
 E := d.E
 K := fun w x cs => d.K w x.1 cs
 M := fun w base ok x cs => d.M w base (fun k => ok k /\ f k = x.2) x.1 cs
 kQ := fun h => d.kQ h
 kR := fun h => d.kR h
 gX := fun hb h => d.gX hb h
 gF := fun h => d.gF h
 dU := fun hok h => d.dU (fun k hk => ⟨hok k hk.1, hk.2⟩) h
 eF := fun h => d.dU (fun _ hk => ⟨⟨hk.1.1, hk.2⟩, hk.1.2⟩) (d.eF h)
 iI := fun hm h => d.iI (fun k hk => hm k hk.1) h
 iC := fun hb h => d.iC hb h
def raw (sz : Nat) : Kd (List Value) where
 sz := sz
 E := []
 K := fun _ x cs => cs = x /\ cs.length = sz /\ ∀ u ∈ cs, u.oneCell' = true
 M := fun _ _ _ x cs => cs = x /\ cs.length = sz /\ ∀ u ∈ cs, u.oneCell' = true
 kQ := fun h => h.2.1
 kR := fun h => h.2.2
 gX := fun _ h => h
 gF := fun h => h
 dU := fun _ h => h
 eF := fun h => h
 iI := fun _ h => h
 iC := fun _ h => h
def S {α : Type} (d : Kd α) (e : Nat) (w : World) (base : Nat) (ok : Nat -> Prop) (v : Value) (xs : List α) : Prop := ∃ f, (tag f d).R e w base ok v xs.zipIdx
section
variable {α β : Type} {d : Kd α} {d' : Kd β} {e e' : Nat} {w w1 W : World} {base b : Nat} {ok ok' okv oku : Nat -> Prop} {u v : Value} {xs : List α} {ys : List β}
theorem rf {xs : List α} {j : Nat} {p : α} (h : xs[j]? = some p) : xs.zipIdx[j]? = some (p, j) := by rw [List.getElem?_zipIdx, h, Nat.zero_add]; rfl
theorem S_R (h : S d e w base ok v xs) : d.R e w base ok v xs := by
 obtain ⟨f, h0, inner, ho, hr⟩ := h
 rw [List.length_zipIdx] at ho
 exact ⟨h0, inner, ho, by have := hr.1; rw [List.length_zipIdx] at this; exact this, fun j p hj => d.dU (fun _ hk => hk.1) (hr.2 j (p, j) (rf hj))⟩
theorem LA (hE : d.E = []) (h : d.R e w base ok v xs) : d.R e w base (fun k => some k = v.ownBlock) v xs := by
 obtain ⟨h0, inner, ho, hr⟩ := h
 refine ⟨fun k hk => hk.symm, inner, ho, hr.sD (fun p c hp => d.dU (fun k hk => ?_) (d.eF hp))⟩
 obtain ⟨_, _, _, q, hq, _⟩ := hk
 rw [hE] at hq
 cases hq
theorem Uo (h : S d e w base ok v xs) (hok : ∀ k, ok k -> ok' k) : S d e w base ok' v xs := by
 obtain ⟨f, h⟩ := h
 exact ⟨f, kW h hok⟩
theorem Sl (h : S d e w base ok v xs) : S d e w base (fun k => ok k /\ base <= k /\ k < w.heap.size /\ ∃ q, q ∈ e :: d.E /\ ∃ cells, w.heap[k]? = some (.cells cells q (0, 0))) v xs := by
 obtain ⟨f, h⟩ := h
 exact ⟨f, sK h⟩
theorem Uq (h : S d e w base ok v xs) (hm : ∀ k, ok k -> w1.heap[k]? = w.heap[k]?) : S d e w1 base ok v xs := by
 obtain ⟨f, h⟩ := h
 exact ⟨f, yV h hm⟩
theorem Ur (h : S d e w base ok v xs) (hm : ∀ k, ok k -> k < w.heap.size -> w1.heap[k]? = w.heap[k]?) : S d e w1 base ok v xs :=
 Uo (Uq (Sl h) (fun k hk => hm k hk.1 hk.2.2.1)) (fun _ hk => hk.1)
theorem Gv (h : S d e w base ok v xs) (hb : Below w.heap.size w w1) : S d e w1 base ok v xs := Ur h (fun k _ hk => hb.block k hk)
theorem Rq (h : S d e w base ok v xs) (o : Obj) : S d e (w.alloc o) base ok v xs := Gv h (bz (Below.refl _ _) o)
theorem TG (h : S d e w base ok v xs) : S d e w.drew base ok v xs := Gv h (aG (Below.refl _ _))
theorem Rs (h : S d e w base ok v xs) (m : Nat) : S d e (w.drewN m) base ok v xs := Gv h (aj (Below.refl _ _) m)
end
section
variable {α β : Type} {d : Kd α} {d' : Kd β} {e e' g : Nat} {w w1 W : World} {base b : Nat} {ok ok' okv oku : Nat -> Prop} {u v : Value} {xs : List α} {ys : List β}
theorem PI {A : Option Addr} {n c : Nat} (h : S d e w base ok (.slice A n c) xs) : n = xs.length /\ n <= c /\ d.C w A xs.length xs := dS (S_R h)
end
section
variable {P : Program} {ops : Array Oper} {rest : List Oper} {o : Oper} {a : Act} {Q : Exit -> Act -> World -> Prop} {Kc : Act -> World -> Prop} {α : Type}
theorem Pn {d : Kd α} {w : World} {base : Nat} {ok : Nat -> Prop} {xs : List α} {inner : List Value} (WJ : Nat -> Nat -> Prop) (hap : ∀ i j k, WJ i k -> WJ j k -> i = j) (hok : ∀ j k, WJ j k -> ok k)
  (hl : inner.length = xs.length * d.sz) (hrep : ∀ j x, xs[j]? = some x -> d.M w base (WJ j) x ((inner.drop (j * d.sz)).take d.sz)) : ∃ f, gm ((tag f d).M w base ok) d.sz xs.zipIdx inner := by
 refine ⟨fun k => open Classical in if h : ∃ j, WJ j k then h.choose else 0, by rw [List.length_zipIdx]; exact hl, fun j p hj => ?_⟩
 rw [List.getElem?_zipIdx, Nat.zero_add] at hj
 obtain ⟨x, hx, rfl⟩ := Option.map_eq_some_iff.1 hj
 refine d.dU (fun k hk => ⟨hok j k hk, ?_⟩) (hrep j x hx)
 have h : ∃ j, WJ j k := ⟨j, hk⟩
 exact (dif_pos h).trans (hap _ _ k h.choose_spec hk)
end
def gap {α : Type} (f : Nat -> Nat) (d : Kd α) (i : Nat) (c : List Value) : Kd (α × Nat) where
 sz := d.sz
 E := d.E
 K := fun w x cs => (x.2 = i -> cs = c /\ cs.length = d.sz /\ ∀ u ∈ cs, u.oneCell' = true) /\ (x.2 ≠ i -> d.K w x.1 cs)
 M := fun w base ok x cs => (x.2 = i -> cs = c /\ cs.length = d.sz /\ ∀ u ∈ cs, u.oneCell' = true) /\ (x.2 ≠ i -> d.M w base (fun k => ok k /\ f k = x.2) x.1 cs)
 kQ := fun {w x cs} h => by
  by_cases hx : x.2 = i
  ·exact (h.1 hx).2.1
  ·exact d.kQ (h.2 hx)
 kR := fun {w x cs} h => by
  by_cases hx : x.2 = i
  ·exact (h.1 hx).2.2
  ·exact d.kR (h.2 hx)
 gX := fun hb h => ⟨h.1, fun hx => d.gX hb (h.2 hx)⟩
 gF := fun h => ⟨h.1, fun hx => d.gF (h.2 hx)⟩
 dU := fun hok h => ⟨h.1, fun hx => d.dU (fun k hk => ⟨hok k hk.1, hk.2⟩) (h.2 hx)⟩
 eF := fun h => ⟨h.1, fun hx => d.dU (fun _ hk => ⟨⟨hk.1.1, hk.2⟩, hk.1.2⟩) (d.eF (h.2 hx))⟩
 iI := fun hm h => ⟨h.1, fun hx => d.iI (fun k hk => hm k hk.1) (h.2 hx)⟩
 iC := fun hb h => ⟨h.1, fun hx => d.iC hb (h.2 hx)⟩
def H {α : Type} (d : Kd α) (e : Nat) (w : World) (base : Nat) (ok : Nat -> Prop) (v : Value) (xs : List α) (i : Int) (Yg : Nat -> Prop) (c : List Value) : Prop :=
 (∀ k, Yg k -> ok k) /\ ∃ f, (gap f d i.toNat c).R e w base (fun k => ok k /\ ¬ Yg k) v xs.zipIdx
section
variable {α β : Type} {d : Kd α} {e e' g n cap : Nat} {w w1 W : World} {base : Nat} {ok ok' Yg okp : Nat -> Prop} {u v : Value} {xs : List α} {i : Int} {c : List Value}
end
section
variable {P : Program} {ops : Array Oper} {rest : List Oper} {o : Oper} {a : Act} {Q : Exit -> Act -> World -> Prop} {α : Type}
end
end Kd
end Go.Proofs.YtoddejmlcnbdmaaW.PrintWords


