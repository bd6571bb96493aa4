/- The law FnExactAtPlace holds of the given program: at every input it answers true and leaves its arguments as they were; no condition. -/
import Derived.Test.YtoddejmlcnbdmaaQWWords
import Derived.ChangeArms
import Derived.ChangeSame
import Derived.Deep.Slices
import Derived.Deep.Strs
import Derived.Deep.Fields
import Derived.Lib.SmallJoins
import Derived.WideShapes
import Derived.Test.YtoddejmlcnbdmaaRows
import Derived.WalkKit
import Derived.ProofKit
import Derived.OpenShut
import Derived.ShutString
import Derived.ChangeOld
import Derived.Below
import Derived.SizedLaws
import Derived.Carry
import Derived.Test.YtoddejmlcnbdmaaCXAtPlaceA
import Derived.Test.YtoddejmlcnbdmaaCXAtPlaceB
import Derived.Test.YtoddejmlcnbdmaaCXAtPlaceC
namespace Go.Proofs.Ytoddejmlcnbdmaa.Fn
open Go.RowKit Go.Proofs.YtoddejmlcnbdmaaW.PrintWords Go.Proofs.YtoddejmlcnbdmaaW.PrintLast Go.Proofs.YtoddejmlcnbdmaaW.PrintMore
attribute [local go_sem] max2_int min2_int max_two min_two max_three min_three max_four min_four   -- for this text's walks alone
set_option linter.unusedVariables false
set_option linter.unusedSimpArgs false

/-! ### impl_isRange: function 72 -/
def impl_isRange.f (a0 : ByteArray) (a1 : ByteArray) : Option (Bool) := (impl_isKey.f a0).bind fun t284 => (if t284 = true then ((impl_isKey.f a1).bind fun t285 => (if t285 = true then (some (Op.bytesLess a0.toList a1.toList)) else (some false))) else (some false))
set_option maxHeartbeats 8000000 in
set_option maxRecDepth 100000 in
theorem impl_isRange.calls (a0 : ByteArray) (a1 : ByteArray) (r : Bool) (w : World) (h : impl_isRange.f a0 a1 = some r) :
    Calls Try.prog 72 #[.string a0, .string a1] w fun e w' => e = .returned (.bool r) ∧ Drawn0 w w' := by
  have H : ((impl_isKey.f a0).bind fun t284 => (if t284 = true then ((impl_isKey.f a1).bind fun t285 => (if t285 = true then (some (Op.bytesLess a0.toList a1.toList)) else (some false))) else (some false))) = some r := h
  clear h
  replace H := Option.bind_eq_some_iff.mp H
  obtain ⟨t284, A30, H⟩ := H
  replace H : (if t284 = true then ((impl_isKey.f a1).bind fun t285 => (if t285 = true then (some (Op.bytesLess a0.toList a1.toList)) else (some false))) else (some false)) = some r := H
  have A3 := Aside0.mk A30
  clear A30
  by_cases c4 : t284 = true
  · subst c4
    have H1 : ((impl_isKey.f a1).bind fun t285 => (if t285 = true then (some (Op.bytesLess a0.toList a1.toList)) else (some false))) = some r := by rw [if_pos rfl] at H; exact H
    clear H
    have H := H1
    clear H1
    replace H := Option.bind_eq_some_iff.mp H
    obtain ⟨t285, A50, H⟩ := H
    replace H : (if t285 = true then (some (Op.bytesLess a0.toList a1.toList)) else (some false)) = some r := H
    have A5 := Aside0.mk A50
    clear A50
    by_cases c6 : t285 = true
    · subst c6
      have H1 : (some (Op.bytesLess a0.toList a1.toList)) = some r := by rw [if_pos rfl] at H; exact H
      clear H
      have H := H1
      clear H1
      obtain rfl := Option.some.inj H
      go_enter Try.func72, Try.ntmps72
      go_wp2_with (first | ((with_reducible refine gate_callee (f := 78) rfl ?_); refine goesL_ (some 6) rfl rfl Try.func78 (by kernel_rfl) rfl #[.string a0] rfl (by (try simp only [List.map_toArray, List.map_cons, List.map_nil]); first | done | rfl | (simp only [List.length_drop, List.length_take]; rfl)) ?_; (with_reducible refine (impl_isKey.calls a0 true _ A3.out).mono ?_); rintro e w' ⟨rfl, ⟨nd, rfl⟩⟩; refine ⟨_, rfl, ?_⟩) | (go_at_call 78; (with_reducible refine (impl_isKey.calls a1 true _ A5.out).mono ?_); rintro e w' ⟨rfl, ⟨nd, rfl⟩⟩))
      go_ret
      exact ⟨by first | rfl | (simp only [Go.Proofs.Ytoddejmlcnbdmaa.Gen.nil_str, Go.Proofs.Ytoddejmlcnbdmaa.Gen.gt_str]; first | done | rfl | (simp; done)) | (simp; done) | (simp [*]; done), by repeat (first | exact Drawn0.refl _ | apply Drawn0.step)⟩
    · replace c6 := Bool.eq_false_iff.mpr c6
      subst c6
      have H1 : (some false) = some r := by rw [if_neg (show ¬ (false = true) by decide)] at H; exact H
      clear H
      have H := H1
      clear H1
      obtain rfl := Option.some.inj H
      go_enter Try.func72, Try.ntmps72
      go_wp2_with (first | ((with_reducible refine gate_callee (f := 78) rfl ?_); refine goesL_ (some 6) rfl rfl Try.func78 (by kernel_rfl) rfl #[.string a0] rfl (by (try simp only [List.map_toArray, List.map_cons, List.map_nil]); first | done | rfl | (simp only [List.length_drop, List.length_take]; rfl)) ?_; (with_reducible refine (impl_isKey.calls a0 true _ A3.out).mono ?_); rintro e w' ⟨rfl, ⟨nd, rfl⟩⟩; refine ⟨_, rfl, ?_⟩) | (go_at_call 78; (with_reducible refine (impl_isKey.calls a1 false _ A5.out).mono ?_); rintro e w' ⟨rfl, ⟨nd, rfl⟩⟩))
      go_ret
      exact ⟨by first | rfl | (simp only [Go.Proofs.Ytoddejmlcnbdmaa.Gen.nil_str, Go.Proofs.Ytoddejmlcnbdmaa.Gen.gt_str]; first | done | rfl | (simp; done)) | (simp; done) | (simp [*]; done), by repeat (first | exact Drawn0.refl _ | apply Drawn0.step)⟩
  · replace c4 := Bool.eq_false_iff.mpr c4
    subst c4
    have H1 : (some false) = some r := by rw [if_neg (show ¬ (false = true) by decide)] at H; exact H
    clear H
    have H := H1
    clear H1
    obtain rfl := Option.some.inj H
    go_enter Try.func72, Try.ntmps72
    go_wp2_with (first | ((with_reducible refine gate_callee (f := 78) rfl ?_); refine goesL_ (some 6) rfl rfl Try.func78 (by kernel_rfl) rfl #[.string a0] rfl (by (try simp only [List.map_toArray, List.map_cons, List.map_nil]); first | done | rfl | (simp only [List.length_drop, List.length_take]; rfl)) ?_; (with_reducible refine (impl_isKey.calls a0 false _ A3.out).mono ?_); rintro e w' ⟨rfl, ⟨nd, rfl⟩⟩; refine ⟨_, rfl, ?_⟩))
    go_ret
    exact ⟨by first | rfl | (simp only [Go.Proofs.Ytoddejmlcnbdmaa.Gen.nil_str, Go.Proofs.Ytoddejmlcnbdmaa.Gen.gt_str]; first | done | rfl | (simp; done)) | (simp; done) | (simp [*]; done), by repeat (first | exact Drawn0.refl _ | apply Drawn0.step)⟩

end Go.Proofs.Ytoddejmlcnbdmaa.Fn
namespace Go.Proofs.Ytoddejmlcnbdmaa.Fn
open Go.Proofs.Ytoddejmlcnbdmaa.Gen Go.Proofs.Ytoddejmlcnbdmaa.Tree
open Go.RowKit Go.Proofs.YtoddejmlcnbdmaaW.PrintWords Go.Proofs.YtoddejmlcnbdmaaW.PrintLast Go.Proofs.YtoddejmlcnbdmaaW.PrintMore
set_option linter.unusedVariables false
set_option linter.unusedSimpArgs false
set_option maxHeartbeats 8000000
set_option maxRecDepth 100000

def inB (a b k : ByteArray) : Bool := !(Op.bytesLess k.toList a.toList) && Op.bytesLess k.toList b.toList
theorem inB_f (a b k : ByteArray) : spec_l7In.f k a b = some (inB a b k) := by
  unfold spec_l7In.f inB
  cases Op.bytesLess k.toList a.toList <;> simp
def rngK (a b : ByteArray) (K : List ByteArray) : List ByteArray := K.filter (inB a b)
def rngV (a b : ByteArray) : List ByteArray → List ByteArray → List ByteArray
  | k :: K, v :: V => if inB a b k = true then v :: rngV a b K V else rngV a b K V
  | _, _ => []
theorem rng_on {a b kx vx : ByteArray} {K V : List ByteArray} {i : Nat} (hk : K[i]? = some kx) (hv : V[i]? = some vx) (h : inB a b kx = true) : rngK a b (K.drop i) = [kx] ++ rngK a b (K.drop (i + 1)) ∧ rngV a b (K.drop i) (V.drop i) = [vx] ++ rngV a b (K.drop (i + 1)) (V.drop (i + 1)) := by
  rw [drop_of hk, drop_of hv]
  constructor
  · unfold rngK
    rw [List.filter_cons_of_pos h]
    rfl
  · rw [rngV, if_pos h]
    rfl
theorem rng_off {a b kx vx : ByteArray} {K V : List ByteArray} {i : Nat} (hk : K[i]? = some kx) (hv : V[i]? = some vx) (h : inB a b kx = false) : rngK a b (K.drop i) = rngK a b (K.drop (i + 1)) ∧ rngV a b (K.drop i) (V.drop i) = rngV a b (K.drop (i + 1)) (V.drop (i + 1)) := by
  rw [drop_of hk, drop_of hv]
  constructor
  · unfold rngK
    rw [List.filter_cons_of_neg (by simp [h])]
  · rw [rngV, if_neg (by simp [h])]
theorem rngV_len (a b : ByteArray) : ∀ K V : List ByteArray, (rngV a b K V).length ≤ K.length
  | [], _ => by simp [rngV]
  | k :: K, [] => by simp [rngV]
  | k :: K, v :: V => by
    have := rngV_len a b K V
    rw [rngV]
    split <;> simp <;> omega
theorem SR.strong {w : World} {base : Nat} {v u : Value} {l : List ByteArray} (h : SR w base v l) (hne : NeRow v u) : Kd.string.R 9 w base (fun k_ => some k_ ≠ (u : Value).ownBlock) v l :=
  Kd.R_mono (Kd.R_tight rfl h) (fun k hk he => hne k hk.symm he.symm)
/-- What is made late is none of the elder. -/
theorem neLate {w7 w8 : World} {base : Nat} {v0 v1 : Value} {l0 l1 : List ByteArray} (h0 : Kd.string.R 9 w7 base (fun _ => True) v0 l0) (h1 : Kd.string.R 9 w8 w7.heap.size (fun _ => True) v1 l1) : NeRow v0 v1 := by
  intro k hk hk1
  have a := SR.lt (SR.ofR h0) hk
  have b := ((Kd.R_bound h1).1 k hk1).2.1
  omega
def spec_RangeOf.f (l0_0 : List S110) (a1 a2 : ByteArray) : Option (List ByteArray × List ByteArray × Bool) := if okP l0_0 = true then (match ofS l0_0 with | none => some ([], [], false) | some t => (spec_l7Range.f a1 a2).bind fun g => if g = true then some (rngK a1 a2 (allK t), rngV a1 a2 (allK t) (allV t), true) else some ([], [], false)) else none
def impl_RangeOf.f (k : Nat) (l0_0 : List S110) (a1 a2 : ByteArray) : Option (List ByteArray × List ByteArray × Bool) := if okP l0_0 = true then (rootI k l0_0).bind fun r => (match r with | none => some ([], [], false) | some t => (impl_isRange.f a1 a2).bind fun g => if g = true then ((impl_less.f k (allK t) a1).bind fun lo => (impl_less.f k (allK t) a2).bind fun x => if 0 ≤ lo ∧ lo ≤ ((allK t).length : Int) ∧ x ≤ ((allK t).length : Int) then some (((allK t).take (if lo < x then x else lo).toNat).drop lo.toNat, ((allV t).take (if lo < x then x else lo).toNat).drop lo.toNat, true) else none) else some ([], [], false)) else none
theorem impl_RangeOf.mono : ∀ a0 a1 a2 k, LeO (impl_RangeOf.f k a0 a1 a2) (impl_RangeOf.f (k + 1) a0 a1 a2) := fun a0 a1 a2 k => LeO.ite (LeO.bind (rootI_mono _ _) fun r => by cases r with
  | none => exact LeO.refl _
  | some t => exact LeO.bind (LeO.refl _) fun g => LeO.ite (LeO.bind (impl_less.mono _ _ _) fun lo => LeO.bind (impl_less.mono _ _ _) fun x => LeO.refl _) (LeO.refl _)) (LeO.refl _)
theorem clone_some {l : List ByteArray} (h : l.length < 8796093022208) : slices_Clone_string_string.f l = some l := by
  unfold slices_Clone_string_string.f
  simp only [Option.bind_some, List.length_nil, Nat.zero_add]
  rw [if_pos h]
  rfl
theorem spec_RangeOf.calls (A0_0 : Option Addr) (c0_0 : Nat) (l0_0 : List (S110)) (a1 a2 : ByteArray) (r1 : List ByteArray) (r2 : List ByteArray) (r3 : Bool) (w : World) (hr0_0 : Kd.C k110 w A0_0 l0_0.length l0_0) (hc0_0 : l0_0.length ≤ c0_0) (h : spec_RangeOf.f l0_0 a1 a2 = some (r1, r2, r3)) :
    Calls Try.prog 34 #[.agg #[.slice A0_0 l0_0.length c0_0], .string a1, .string a2] w fun e w' => ∃ v0_ v1_ : Value, e = .returned (.tuple #[v0_, v1_, .bool r3]) ∧ Kd.R Kd.string 9 w' w.heap.size (fun k_ => some k_ ≠ (v1_ : Value).ownBlock) v0_ r1 ∧ Kd.R Kd.string 9 w' w.heap.size (fun k_ => some k_ ≠ (v0_ : Value).ownBlock) v1_ r2 ∧ Below w.heap.size w w' := by
  unfold spec_RangeOf.f at h
  have HP := Aside0.mk hr0_0
  clear hr0_0 hc0_0
  by_cases hok : okP l0_0 = true
  · rw [if_pos hok] at h
    have HNP := Aside0.mk (okP_parts hok).1
    have HM := Aside0.mk (okP_parts hok).2
    cases hrs : ofS l0_0 with
    | none =>
      rw [hrs] at h
      injection h with h
      injection h with e1 h
      injection h with e2 e3
      subst e1
      subst e2
      subst e3
      have HRS := Aside0.mk hrs
      clear hrs hok
      go_enter Try.func34, Try.ntmps34
      go_wp2_with (first | ((with_reducible refine gate_dst (N := 3) rfl ?_); refine box_event ?hg (N := 3) ?hd (cs := #[.slice A0_0 l0_0.length c0_0]) (t := 29) ?hr ?_; (case hd => rfl); (case hg => rfl); (case hr => first | (go_simp; done) | (go_simp; rfl)); intro b3 hg w1 hbox hb; have HB := Aside0.mk hb; have hz3 : w1.cell? ⟨b3, 0, none⟩ = some (.slice A0_0 l0_0.length c0_0) := (blk_cell hbox 0).trans rfl; clear hg hbox hb) | (go_at_call 57; (with_reducible refine (spec_l5Of.calls l0_0 HNP.out A0_0 c0_0 _ (Kd.C_below HP.out HB.out) HM.out).mono ?_); rintro e w2 ⟨hb, hr⟩; rw [HRS.out] at hr; obtain ⟨-, rfl⟩ := hr.resolve_right (by rintro ⟨_, h, _⟩; cases h); have n1_ := Aside0.mk (below_step HB.out hb); clear HB; have HB := n1_; clear n1_ hb hr hz3))
      go_ret3
      exact ⟨_, _, rfl, Kd.R_nil _ _ _ _ _, Kd.R_nil _ _ _ _ _, (by repeat (first | (with_reducible exact HB.out) | (with_reducible apply pw_below_drewN) | (with_reducible apply below_drew1)))⟩
    | some t =>
      rw [hrs] at h
      have HRS := Aside0.mk hrs
      have HSH := Aside0.mk (ofS_shp hrs)
      have HLN := Aside0.mk (ofS_len hrs HNP.out)
      have HZ1 := Aside0.mk (show (allK t).length ≤ 8796093022208 by have := HLN.out; omega)
      have HZ2 := Aside0.mk (show (allV t).length ≤ 8796093022208 by rw [allV_len HSH.out]; have := HLN.out; omega)
      have hln : (allK t).length ≤ 4000000000000 := HLN.out
      have HVK := Aside0.mk (allV_len HSH.out)
      replace h := Option.bind_eq_some_iff.mp h
      obtain ⟨g, hg0, h⟩ := h
      have HG := Aside0.mk hg0
      clear hrs hok hg0
      cases g with
      | false =>
        rw [if_neg (by decide)] at h
        injection h with h
        injection h with e1 h
        injection h with e2 e3
        subst e1
        subst e2
        subst e3
        go_enter Try.func34, Try.ntmps34
        go_wp2_with (first | ((with_reducible refine gate_dst (N := 3) rfl ?_); refine box_event ?hg (N := 3) ?hd (cs := #[.slice A0_0 l0_0.length c0_0]) (t := 29) ?hr ?_; (case hd => rfl); (case hg => rfl); (case hr => first | (go_simp; done) | (go_simp; rfl)); intro b3 hg w1 hbox hb; have HB := Aside0.mk hb; have hz3 : w1.cell? ⟨b3, 0, none⟩ = some (.slice A0_0 l0_0.length c0_0) := (blk_cell hbox 0).trans rfl; clear hg hbox hb) | (go_at_call 57; (with_reducible refine (spec_l5Of.calls l0_0 HNP.out A0_0 c0_0 _ (Kd.C_below HP.out HB.out) HM.out).mono ?_); rintro e w2 ⟨hb, hr⟩; rw [HRS.out] at hr; obtain ⟨nt, h9, rfl, hs⟩ := hr.resolve_left (by rintro ⟨h, _⟩; cases h); injection h9 with h9; subst h9; have HR2 := Aside0.mk (rd_of hs); have n1_ := Aside0.mk (below_step HB.out hb); clear HB; have HB := n1_; clear n1_ hb hr hs hz3) | (go_at_call 70; (with_reducible refine (spec_l7Range.calls a1 a2 false _ HG.out).mono ?_); rintro e w' ⟨rfl, ⟨nd, rfl⟩⟩))
        go_ret3
        exact ⟨_, _, rfl, Kd.R_nil _ _ _ _ _, Kd.R_nil _ _ _ _ _, (by repeat (first | (with_reducible exact HB.out) | (with_reducible apply pw_below_drewN) | (with_reducible apply below_drew1)))⟩
      | true =>
        rw [if_pos rfl] at h
        injection h with h
        injection h with e1 h
        injection h with e2 e3
        subst e3
        have HE1 := Aside0.mk e1
        have HE2 := Aside0.mk e2
        clear e1 e2
        go_enter Try.func34, Try.ntmps34
        go_upto_region 7 with (first | ((with_reducible refine gate_dst (N := 3) rfl ?_); refine box_event ?hg (N := 3) ?hd (cs := #[.slice A0_0 l0_0.length c0_0]) (t := 29) ?hr ?_; (case hd => rfl); (case hg => rfl); (case hr => first | (go_simp; done) | (go_simp; rfl)); intro b3 hg w1 hbox hb; have HB := Aside0.mk hb; have hz3 : w1.cell? ⟨b3, 0, none⟩ = some (.slice A0_0 l0_0.length c0_0) := (blk_cell hbox 0).trans rfl; clear hg hbox hb) | (go_at_call 57; (with_reducible refine (spec_l5Of.calls l0_0 HNP.out A0_0 c0_0 _ (Kd.C_below HP.out HB.out) HM.out).mono ?_); rintro e w2 ⟨hb, hr⟩; rw [HRS.out] at hr; obtain ⟨nt, h9, rfl, hs⟩ := hr.resolve_left (by rintro ⟨h, _⟩; cases h); injection h9 with h9; subst h9; have HR2 := Aside0.mk (rd_of hs); have n1_ := Aside0.mk (below_step HB.out hb); clear HB; have HB := n1_; clear n1_ hb hr hs hz3) | (go_at_call 70; (with_reducible refine (spec_l7Range.calls a1 a2 true _ HG.out).mono ?_); rintro e w' ⟨rfl, ⟨nd, rfl⟩⟩) | (go_at_call 65; (with_reducible refine (spec_all.calls0 nt.erase HSH.out _ ?side1 HZ1.out HZ2.out).mono ?_); (case side1 => repeat (first | exact HR2.out | (with_reducible refine Rd.drewN ?_ _) | (with_reducible refine Rd.drew ?_))); rintro e w5 ⟨u1, u2, rfl, ho1, ho2, hne, hb⟩; have HO1 := Aside0.mk (Kd.R_lower ho1 (show w.heap.size ≤ _ from HB.out.size)); have HO2 := Aside0.mk (Kd.R_lower ho2 (show w.heap.size ≤ _ from HB.out.size)); have HNE := Aside0.mk hne; have n1_ := Aside0.mk (below_step (by repeat (first | (with_reducible exact HB.out) | (with_reducible apply pw_below_drewN) | (with_reducible apply below_drew1))) hb); clear HB; have HB := n1_; clear n1_ hb ho1 ho2 hne; obtain ⟨B1, d1, rfl, hl1, hc1⟩ := Kd.R_reads HO1.out; obtain ⟨B2, d2, rfl, hl2, hc2⟩ := Kd.R_reads HO2.out; have HC1 := Aside0.mk hc1; have HC2 := Aside0.mk hc2; have HD1 := Aside0.mk hl1; have HD2 := Aside0.mk hl2; clear hl1 hl2 hc1 hc2))
        have hkb : (allK nt.erase).length ≤ 4000000000000 := HLN.out
        have HBA := Aside0.mk HB.out
        clear HB
        have HB := Aside0.mk (Below.refl w5.heap.size w5)
        have HL1 := Aside0.mk (show r1.length ≤ 8796093022208 by have := List.length_filter_le (inB a1 a2) (allK nt.erase); rw [← HE1.out]; unfold rngK; omega)
        have HL2 := Aside0.mk (show r2.length ≤ 8796093022208 by have := rngV_len a1 a2 (allK nt.erase) (allV nt.erase); rw [← HE2.out]; omega)
        have HR1 := Aside0.mk (show [] ++ rngK a1 a2 ((allK nt.erase).drop 0) = r1 from HE1.out)
        have HR2' := Aside0.mk (show [] ++ rngV a1 a2 ((allK nt.erase).drop 0) ((allV nt.erase).drop 0) = r2 from HE2.out)
        have HO1' := Aside0.mk (SR.nil w5 w5.heap.size)
        have HO2' := Aside0.mk (SR.nil w5 w5.heap.size)
        have HNE' := Aside0.mk (neNil (.slice none 0 0))
        clear HE1 HE2 HO1 HO2 HNE HR2
        go_loopg [13, 14, 37] (allK nt.erase).length (fun kq u1 u2 u8 w' => ∃ (i : Nat) (x1 x2 : List ByteArray), u8 = .int .i64 (i : Int) ∧ Aside0 (i ≤ (allK nt.erase).length ∧ kq + i = (allK nt.erase).length) ∧ Aside0 (x1 ++ rngK a1 a2 ((allK nt.erase).drop i) = r1) ∧ Aside0 (x2 ++ rngV a1 a2 ((allK nt.erase).drop i) ((allV nt.erase).drop i) = r2) ∧ Aside0 (SR w' w5.heap.size u1 x1) ∧ Aside0 (SR w' w5.heap.size u2 x2) ∧ Aside0 (NeRow u1 u2) ∧ Aside0 (Below w5.heap.size w5 w'))
        case atStart => exact ⟨0, [], [], by first | rfl | (simp; done), ⟨by omega⟩, HR1, HR2', ⟨by exact rk_ HO1'.out⟩, ⟨by exact rk_ HO2'.out⟩, HNE', ⟨be_ HB.out⟩⟩
        case round =>
          clear HR1 HR2' HO1' HO2' HNE' HB
          obtain ⟨i, x1, x2, rfl, HK, HR1, HR2, HO1, HO2, HNE, HB⟩ := hrel
          have ci : (0 ≤ (i : Int)) = True := eq_true (by omega)
          by_cases hi : i < (allK nt.erase).length
          · have ce : decide ((i : Int) < ((allK nt.erase).length : Int)) = true := decide_eq_true (by omega)
            have cee : ((i : Int) < ((allK nt.erase).length : Int)) = True := eq_true (by omega)
            have ceb : (i < (allK nt.erase).length) = True := eq_true hi
            have hil : i < 4000000000000 := by omega
            have hiv : i < (allV nt.erase).length := by rw [HVK.out]; exact hi
            have cva : ((i : Int) < ((allV nt.erase).length : Int)) = True := eq_true (by omega)
            have cvb : (i < (allV nt.erase).length) = True := eq_true hiv
            have HI := Aside0.mk hi
            obtain ⟨adk, hA1, hk5⟩ := Kd.at_string HC1.out (i : Int) (by omega) (by omega)
            obtain ⟨adv, hA2, hv5⟩ := Kd.at_string HC2.out (i : Int) (by omega) (by omega)
            subst hA1
            subst hA2
            rw [Int.toNat_natCast] at hk5 hv5
            have hks : (allK nt.erase)[i]? = some (rdOf ByteArray.empty (allK nt.erase) (i : Int)) := by unfold rdOf; rw [Int.toNat_natCast, List.getD_eq_getElem?_getD, List.getElem?_eq_getElem hi]; rfl
            have hvs : (allV nt.erase)[i]? = some (rdOf ByteArray.empty (allV nt.erase) (i : Int)) := by unfold rdOf; rw [Int.toNat_natCast, List.getD_eq_getElem?_getD, List.getElem?_eq_getElem hiv]; rfl
            generalize rdOf ByteArray.empty (allK nt.erase) (i : Int) = kx at hk5 hks
            generalize rdOf ByteArray.empty (allV nt.erase) (i : Int) = vx at hv5 hvs
            have HV0 := Aside0.mk hv5
            have hk0 := (HB.out.cell (World.block_lt_of_cell? w5 _ hk5)).trans hk5
            have HKS := Aside0.mk hks
            have HVS := Aside0.mk hvs
            clear hks hvs hi hiv hk5 hv5
            cases hin : inB a1 a2 kx with
            | true =>
              have HIN := Aside0.mk ((inB_f a1 a2 kx).trans (by rw [hin]))
              obtain ⟨e1, e2⟩ := rng_on HKS.out HVS.out hin
              have HE1 := Aside0.mk (app_rest (x := [kx]) HR1.out e1)
              have HE2 := Aside0.mk (app_rest (x := [vx]) HR2.out e2)
              have HZ1 := Aside0.mk (show x1.length + 1 ≤ 8796093022208 from app_len (x := [kx]) HR1.out e1 HL1.out)
              have HZ2 := Aside0.mk (show x2.length + 1 ≤ 8796093022208 from app_len (x := [vx]) HR2.out e2 HL2.out)
              clear hin e1 e2 HR1 HR2
              go_wp2_with (first | (go_at_call 71; (with_reducible refine (spec_l7In.calls kx a1 a2 true _ HIN.out).mono ?_); rintro e w' ⟨rfl, ⟨nd, rfl⟩⟩) | ((with_reducible refine gate_builtin (b := .append) (xs := #[.tmp 46, .tmp 48]) rfl ?_); at_builtin; refine Kd.R_append Kd.string (w0 := w5) w5.heap.size rfl (.tmp 46) (.tmp 48) 38 9 (.string ⟨#[]⟩) 16 rfl Try.underlying38 info9 rfl (by decide) (by omega) u13 x1 kx [.string kx] (fun _ => True) (fun _ => False) rfl rfl ?aP (fun _ hk => hk.elim) ?aF ?aO ?aB ?aS ?aL ?_; (case aP => exact rfl); (case aB => exact be_ HB.out); (case aF => exact fun _ _ => trivial); (case aO => exact rk_ HO1.out); (case aS => exact bw_ HB.out); (case aL => have := HZ1.out; omega); intro u1' w7 ho hb hg hat; have n1_ := Aside0.mk ho; have n2_ := Aside0.mk (SR.far (SR.ofR (rk_ HO2.out)) hg (neSymm HNE.out)); have n3_ := Aside0.mk (SR.ne (SR.ofR (rk_ HO2.out)) hat HNE.out); have n4_ := Aside0.mk hb; have hzv' := (hb.cell (World.block_lt_of_cell? w5 _ HV0.out)).trans HV0.out; clear HO1 HO2 HNE HB; have HO1 := n1_; have HO2 := n2_; have HNE := n3_; have HB := n4_; clear n1_ n2_ n3_ n4_ ho hb hg hat) | ((with_reducible refine gate_builtin (b := .append) (xs := #[.tmp 50, .tmp 55]) rfl ?_); at_builtin; refine Kd.R_append Kd.string (w0 := w5) w5.heap.size rfl (.tmp 50) (.tmp 55) 38 9 (.string ⟨#[]⟩) 16 rfl Try.underlying38 info9 rfl (by decide) (by omega) u14 x2 vx [.string vx] (fun _ => True) (fun _ => False) rfl rfl ?aP (fun _ hk => hk.elim) ?aF ?aO ?aB ?aS ?aL ?_; (case aP => exact rfl); (case aB => exact be_ HB.out); (case aF => exact fun _ _ => trivial); (case aO => exact rk_ HO2.out); (case aS => exact bw_ HB.out); (case aL => have := HZ2.out; omega); intro u2' w8 ho hb hg hat; have n1_ := Aside0.mk ho; have n2_ := Aside0.mk (SR.far (SR.ofR (rk_ HO1.out)) hg HNE.out); have n3_ := Aside0.mk (neSymm (SR.ne (SR.ofR (rk_ HO1.out)) hat (neSymm HNE.out))); have n4_ := Aside0.mk hb; clear HO1 HO2 HNE HB; have HO2 := n1_; have HO1 := n2_; have HNE := n3_; have HB := n4_; clear n1_ n2_ n3_ n4_ ho hb hg hat))
              go_roundg ((allK nt.erase).length - (i + 1))
              case measure => have := HK.out; have := HI.out; omega
              case rel => exact ⟨i + 1, _, _, by first | rfl | go_num | (simp; done), ⟨by have := HK.out; have := HI.out; omega⟩, HE1, HE2, ⟨SR.ofR (rk_ HO1.out)⟩, ⟨SR.ofR (rk_ HO2.out)⟩, HNE, ⟨be_ HB.out⟩⟩
            | false =>
              have HIN := Aside0.mk ((inB_f a1 a2 kx).trans (by rw [hin]))
              obtain ⟨e1, e2⟩ := rng_off HKS.out HVS.out hin
              have HE1 := Aside0.mk (HR1.out); rw [e1] at HE1
              have HE2 := Aside0.mk (HR2.out); rw [e2] at HE2
              clear hin e1 e2 HR1 HR2
              go_wp2_with (first | (go_at_call 71; (with_reducible refine (spec_l7In.calls kx a1 a2 false _ HIN.out).mono ?_); rintro e w' ⟨rfl, ⟨nd, rfl⟩⟩))
              go_roundg ((allK nt.erase).length - (i + 1))
              case measure => have := HK.out; have := HI.out; omega
              case rel => exact ⟨i + 1, _, _, by first | rfl | go_num | (simp; done), ⟨by have := HK.out; have := HI.out; omega⟩, HE1, HE2, ⟨SR.ofR (rk_ HO1.out)⟩, ⟨SR.ofR (rk_ HO2.out)⟩, HNE, ⟨be_ HB.out⟩⟩
          · have ce : decide ((i : Int) < ((allK nt.erase).length : Int)) = false := decide_eq_false (by omega)
            have ceb : (i < (allK nt.erase).length) = False := eq_false hi
            have e1 : x1 = r1 := by rw [← HR1.out, List.drop_eq_nil_of_le (by omega)]; simp [rngK]
            have e2 : x2 = r2 := by rw [← HR2.out, List.drop_eq_nil_of_le (by omega)]; simp [rngV]
            subst e1
            subst e2
            clear hi
            go_wp2
            go_ret3
            exact ⟨_, _, rfl, Kd.R_lower (SR.strong (SR.ofR (rk_ HO1.out)) HNE.out) HBA.out.size, Kd.R_lower (SR.strong (SR.ofR (rk_ HO2.out)) (neSymm HNE.out)) HBA.out.size, below_step HBA.out (be_ HB.out)⟩
  · rw [if_neg hok] at h
    cases h
theorem impl_RangeOf.calls (k : Nat) (A0_0 : Option Addr) (c0_0 : Nat) (l0_0 : List (S110)) (a1 a2 : ByteArray) (r1 : List ByteArray) (r2 : List ByteArray) (r3 : Bool) (w : World) (hr0_0 : Kd.C k110 w A0_0 l0_0.length l0_0) (hc0_0 : l0_0.length ≤ c0_0) (h : impl_RangeOf.f k l0_0 a1 a2 = some (r1, r2, r3)) :
    Calls Try.prog 35 #[.agg #[.slice A0_0 l0_0.length c0_0], .string a1, .string a2] w fun e w' => ∃ v0_ v1_ : Value, e = .returned (.tuple #[v0_, v1_, .bool r3]) ∧ Kd.R Kd.string 9 w' w.heap.size (fun k_ => some k_ ≠ (v1_ : Value).ownBlock) v0_ r1 ∧ Kd.R Kd.string 9 w' w.heap.size (fun k_ => some k_ ≠ (v0_ : Value).ownBlock) v1_ r2 ∧ Below w.heap.size w w' := by
  unfold impl_RangeOf.f at h
  have HP := Aside0.mk hr0_0
  clear hr0_0 hc0_0
  by_cases hok : okP l0_0 = true
  · rw [if_pos hok] at h
    have HNP := Aside0.mk (okP_parts hok).1
    have HM := Aside0.mk (okP_parts hok).2
    obtain ⟨o, hrs, h⟩ := Option.bind_eq_some_iff.mp h
    cases o with
    | none =>
      injection h with h
      injection h with e1 h
      injection h with e2 e3
      subst e1
      subst e2
      subst e3
      have HRS := Aside0.mk hrs
      clear hrs hok
      go_enter Try.func35, Try.ntmps35
      go_wp2_with (first | ((with_reducible refine gate_dst (N := 3) rfl ?_); refine box_event ?hg (N := 3) ?hd (cs := #[.slice A0_0 l0_0.length c0_0]) (t := 29) ?hr ?_; (case hd => rfl); (case hg => rfl); (case hr => first | (go_simp; done) | (go_simp; rfl)); intro b3 hg w1 hbox hb; have HB := Aside0.mk hb; have hz3 : w1.cell? ⟨b3, 0, none⟩ = some (.slice A0_0 l0_0.length c0_0) := (blk_cell hbox 0).trans rfl; clear hg hbox hb) | (go_at_call 59; (with_reducible refine (impl_root.calls k l0_0 HNP.out A0_0 c0_0 _ (Kd.C_below HP.out HB.out) HM.out _ HRS.out).mono ?_); rintro e w2 ⟨hb, hr⟩; obtain ⟨-, rfl⟩ := hr.resolve_right (by rintro ⟨_, h, _⟩; cases h); have n1_ := Aside0.mk (below_step HB.out hb); clear HB; have HB := n1_; clear n1_ hb hr hz3))
      go_ret3
      exact ⟨_, _, rfl, Kd.R_nil _ _ _ _ _, Kd.R_nil _ _ _ _ _, (by repeat (first | (with_reducible exact HB.out) | (with_reducible apply pw_below_drewN) | (with_reducible apply below_drew1)))⟩
    | some t =>
      have HRS := Aside0.mk hrs
      have HSH := Aside0.mk (rootI_shp hrs)
      have HLN := Aside0.mk (rootI_len hrs HNP.out)
      have HZ1 := Aside0.mk (show (allK t).length ≤ 8796093022208 by have := HLN.out; omega)
      have HZ2 := Aside0.mk (show (allV t).length ≤ 8796093022208 by rw [allV_len HSH.out]; have := HLN.out; omega)
      have hln : (allK t).length ≤ 4000000000000 := HLN.out
      have HVK := Aside0.mk (allV_len HSH.out)
      replace h := Option.bind_eq_some_iff.mp h
      obtain ⟨g, hg0, h⟩ := h
      have HG := Aside0.mk hg0
      clear hrs hok hg0
      cases g with
      | false =>
        rw [if_neg (by decide)] at h
        injection h with h
        injection h with e1 h
        injection h with e2 e3
        subst e1
        subst e2
        subst e3
        go_enter Try.func35, Try.ntmps35
        go_wp2_with (first | ((with_reducible refine gate_dst (N := 3) rfl ?_); refine box_event ?hg (N := 3) ?hd (cs := #[.slice A0_0 l0_0.length c0_0]) (t := 29) ?hr ?_; (case hd => rfl); (case hg => rfl); (case hr => first | (go_simp; done) | (go_simp; rfl)); intro b3 hg w1 hbox hb; have HB := Aside0.mk hb; have hz3 : w1.cell? ⟨b3, 0, none⟩ = some (.slice A0_0 l0_0.length c0_0) := (blk_cell hbox 0).trans rfl; clear hg hbox hb) | (go_at_call 59; (with_reducible refine (impl_root.calls k l0_0 HNP.out A0_0 c0_0 _ (Kd.C_below HP.out HB.out) HM.out _ HRS.out).mono ?_); rintro e w2 ⟨hb, hr⟩; obtain ⟨nt, h9, rfl, hs⟩ := hr.resolve_left (by rintro ⟨h, _⟩; cases h); injection h9 with h9; subst h9; have HR2 := Aside0.mk (rd_of hs); have n1_ := Aside0.mk (below_step HB.out hb); clear HB; have HB := n1_; clear n1_ hb hr hs hz3) | (go_at_call 72; (with_reducible refine (impl_isRange.calls a1 a2 false _ HG.out).mono ?_); rintro e w' ⟨rfl, ⟨nd, rfl⟩⟩))
        go_ret3
        exact ⟨_, _, rfl, Kd.R_nil _ _ _ _ _, Kd.R_nil _ _ _ _ _, (by repeat (first | (with_reducible exact HB.out) | (with_reducible apply pw_below_drewN) | (with_reducible apply below_drew1)))⟩
      | true =>
        rw [if_pos rfl] at h
        obtain ⟨lo, hlo, h⟩ := Option.bind_eq_some_iff.mp h
        obtain ⟨x, hx, h⟩ := Option.bind_eq_some_iff.mp h
        have HLO := Aside0.mk hlo
        have HX := Aside0.mk hx
        clear hlo hx
        by_cases cb : 0 ≤ lo ∧ lo ≤ ((allK t).length : Int) ∧ x ≤ ((allK t).length : Int)
        · rw [if_pos cb] at h
          obtain ⟨hi, hhi⟩ : ∃ y : Int, y = (if lo < x then x else lo) := ⟨_, rfl⟩
          rw [← hhi] at h
          have hb1 : lo ≤ hi := by rw [hhi]; split <;> omega
          have hb2 : hi ≤ ((allK t).length : Int) := by rw [hhi]; split <;> omega
          have HHI := Aside0.mk hhi
          have HCB := Aside0.mk cb.1
          have HB1 := Aside0.mk hb1
          have HB2 := Aside0.mk hb2
          injection h with h
          injection h with e1 h
          injection h with e2 e3
          subst e3
          have HE1 := Aside0.mk e1
          have HE2 := Aside0.mk e2
          clear e1 e2
          clear cb hb1 hb2
          by_cases cx : lo < x
          · obtain rfl : hi = x := by rw [hhi, if_pos cx]
            have tx : decide (lo < hi) = true := decide_eq_true cx
            have tx2 : (lo < hi) = True := eq_true cx
            clear hhi cx
            go_enter Try.func35, Try.ntmps35
            go_upto_region 7 with (first | ((with_reducible refine gate_dst (N := 3) rfl ?_); refine box_event ?hg (N := 3) ?hd (cs := #[.slice A0_0 l0_0.length c0_0]) (t := 29) ?hr ?_; (case hd => rfl); (case hg => rfl); (case hr => first | (go_simp; done) | (go_simp; rfl)); intro b3 hg w1 hbox hb; have HB := Aside0.mk hb; have hz3 : w1.cell? ⟨b3, 0, none⟩ = some (.slice A0_0 l0_0.length c0_0) := (blk_cell hbox 0).trans rfl; clear hg hbox hb) | (go_at_call 59; (with_reducible refine (impl_root.calls k l0_0 HNP.out A0_0 c0_0 _ (Kd.C_below HP.out HB.out) HM.out _ HRS.out).mono ?_); rintro e w2 ⟨hb, hr⟩; obtain ⟨nt, h9, rfl, hs⟩ := hr.resolve_left (by rintro ⟨h, _⟩; cases h); injection h9 with h9; subst h9; have HR2 := Aside0.mk (rd_of hs); have n1_ := Aside0.mk (below_step HB.out hb); clear HB; have HB := n1_; clear n1_ hb hr hs hz3) | (go_at_call 72; (with_reducible refine (impl_isRange.calls a1 a2 true _ HG.out).mono ?_); rintro e w' ⟨rfl, ⟨nd, rfl⟩⟩) | (go_at_call 66; (with_reducible refine (impl_all.calls0 nt.erase HSH.out _ ?side1 HZ1.out HZ2.out).mono ?_); (case side1 => repeat (first | exact HR2.out | (with_reducible refine Rd.drewN ?_ _) | (with_reducible refine Rd.drew ?_))); rintro e w5 ⟨u1, u2, rfl, ho1, ho2, hne, hb⟩; have HO1 := Aside0.mk (Kd.R_lower ho1 (show w.heap.size ≤ _ from HB.out.size)); have HO2 := Aside0.mk (Kd.R_lower ho2 (show w.heap.size ≤ _ from HB.out.size)); have HNE := Aside0.mk hne; have n1_ := Aside0.mk (below_step (by repeat (first | (with_reducible exact HB.out) | (with_reducible apply pw_below_drewN) | (with_reducible apply below_drew1))) hb); clear HB; have HB := n1_; clear n1_ hb ho1 ho2 hne; obtain ⟨B1, d1, rfl, hl1, hc1⟩ := Kd.R_reads HO1.out; obtain ⟨B2, d2, rfl, hl2, hc2⟩ := Kd.R_reads HO2.out; have HC1 := Aside0.mk hc1; have HC2 := Aside0.mk hc2; have HD1 := Aside0.mk hl1; have HD2 := Aside0.mk hl2; clear hl1 hl2 hc1 hc2) | (go_at_call 73; (with_reducible refine (impl_less.calls k B1 d1 (allK nt.erase) a1 lo _ ?side1 HD1.out HLO.out).mono ?_); (case side1 => repeat (first | (with_reducible exact HC1.out) | (with_reducible refine Kd.C_drewN ?_ _) | (with_reducible refine Kd.C_drew ?_) | exact HC1.out)); rintro e w' ⟨rfl, ⟨nd, rfl⟩⟩) | (go_at_call 73; (with_reducible refine (impl_less.calls k B1 d1 (allK nt.erase) a2 hi _ ?side1 HD1.out HX.out).mono ?_); (case side1 => repeat (first | (with_reducible exact HC1.out) | (with_reducible refine Kd.C_drewN ?_ _) | (with_reducible refine Kd.C_drew ?_) | exact HC1.out)); rintro e w' ⟨rfl, ⟨nd, rfl⟩⟩))
            generalize hW : World.drewN w5 _ = w6
            have n1_ := Aside0.mk (show Below w.heap.size w w6 by rw [← hW]; exact pw_below_drewN HB.out _)
            have n2_ : Aside0 (Kd.C Kd.string w6 B1 (allK nt.erase).length (allK nt.erase)) := ⟨by rw [← hW]; exact Kd.C_drewN HC1.out _⟩
            have n3_ : Aside0 (Kd.C Kd.string w6 B2 (allV nt.erase).length (allV nt.erase)) := ⟨by rw [← hW]; exact Kd.C_drewN HC2.out _⟩
            clear HB HC1 HC2 HO1 HO2 HNE hW
            have HB := n1_
            obtain ⟨i0, hi0, _, hsz, _⟩ := info_parts info9
            have hcutK := cut_mid (P := Try.prog) 38 9 .i64 .i64 Try.underlying38 hi0 1 hsz B1 (allK nt.erase).length d1 lo hi HCB.out HB1.out HB2.out HD1.out
            have hcutV := cut_mid (P := Try.prog) 38 9 .i64 .i64 Try.underlying38 hi0 1 hsz B2 (allV nt.erase).length d2 lo hi HCB.out HB1.out (by rw [HVK.out]; exact HB2.out) HD2.out
            obtain ⟨A1, hA1⟩ : ∃ A1, A1 = (if d1 = lo.toNat then B1 else B1.map (·.add (lo.toNat * 1))) := ⟨_, rfl⟩
            obtain ⟨A2, hA2⟩ : ∃ A2, A2 = (if d2 = lo.toNat then B2 else B2.map (·.add (lo.toNat * 1))) := ⟨_, rfl⟩
            obtain ⟨c1, hc1⟩ : ∃ c1, c1 = d1 - lo.toNat := ⟨_, rfl⟩
            obtain ⟨c2, hc2⟩ : ∃ c2, c2 = d2 - lo.toNat := ⟨_, rfl⟩
            have hq := HB2.out
            have hv := HVK.out
            have hp := HB1.out
            have hd1 := HD1.out
            have hd2 := HD2.out
            have hy1 : r1.length = hi.toNat - lo.toNat := by rw [← HE1.out, List.length_drop, List.length_take]; omega
            have hy2 : r2.length = hi.toNat - lo.toNat := by rw [← HE2.out, List.length_drop, List.length_take]; omega
            have hr1 : Kd.C Kd.string w6 A1 r1.length r1 := by rw [hA1, ← HE1.out]; exact Kd.C_mid n2_.out (by omega) (by omega) hd1
            have hr2 : Kd.C Kd.string w6 A2 r2.length r2 := by rw [hA2, ← HE2.out]; exact Kd.C_mid n3_.out (by omega) (by omega) hd2
            rw [← hy1, ← hA1, ← hc1] at hcutK
            rw [← hy2, ← hA2, ← hc2] at hcutV
            have HQ1 := Aside0.mk (show r1.length ≤ c1 by omega)
            have HQ2 := Aside0.mk (show r2.length ≤ c2 by omega)
            have HL1 := Aside0.mk (show r1.length < 8796093022208 by omega)
            have HL2 := Aside0.mk (show r2.length < 8796093022208 by omega)
            have HR1 := Aside0.mk hr1
            have HR2' := Aside0.mk hr2
            clear hi0 hsz hA1 hA2 hc1 hc2 hq hv hp hd1 hd2 hy1 hy2 hr1 hr2 n1_ n2_ n3_
            refine start_ (n := 13) (S := fun w' => True) (ds := []) #[false, false, false, false, false, false, false, false, false, false, false, false, false] (by kernel_rfl) rfl rfl trivial (fun hHeld => ?_)
            refine pure_ (i := 0) (N := some 41) (v := ?_) (a' := ?_) #[true, false, false, false, false, false, false, false, false, false, false, false, false] rfl rfl (by kernel_rfl) (fun _ _ _ h => h) (Or.inl ⟨by rfl, ?_⟩) ?_ ?_
            rotate_left
            · intro w'
              go_simp
              with_reducible rfl
            rotate_left
            · simp only [Act.put, List.setIfInBounds_toArray, List.set_cons_zero, List.set_cons_succ, i64_w, i32_w]
              rfl
            refine pure_ (i := 1) (N := some 42) (v := ?_) (a' := ?_) #[true, true, false, false, false, false, false, false, false, false, false, false, false] rfl rfl (by kernel_rfl) (fun _ _ _ h => h) (Or.inl ⟨by rfl, ?_⟩) ?_ ?_
            rotate_left
            · intro w'
              go_simp
              with_reducible rfl
            rotate_left
            · simp only [Act.put, List.setIfInBounds_toArray, List.set_cons_zero, List.set_cons_succ, i64_w, i32_w]
              rfl
            refine pure_ (i := 2) (N := some 43) (v := ?_) (a' := ?_) #[true, true, true, false, false, false, false, false, false, false, false, false, false] rfl rfl (by kernel_rfl) (fun _ _ _ h => h) (Or.inl ⟨by rfl, ?_⟩) ?_ ?_
            rotate_left
            · intro w'
              go_simp
              with_reducible rfl
            rotate_left
            · simp only [Act.put, List.setIfInBounds_toArray, List.set_cons_zero, List.set_cons_succ, i64_w, i32_w]
              rfl
            refine pure_ (i := 3) (N := some 44) (v := ?_) (a' := ?_) #[true, true, true, true, false, false, false, false, false, false, false, false, false] rfl rfl (by kernel_rfl) (fun _ _ _ h => h) (Or.inl ⟨by rfl, ?_⟩) ?_ ?_
            rotate_left
            · intro w'
              go_simp
              with_reducible rfl
            rotate_left
            · simp only [Act.put, List.setIfInBounds_toArray, List.set_cons_zero, List.set_cons_succ, i64_w, i32_w]
              rfl
            refine pure_ (i := 5) (N := some 46) (v := ?_) (a' := ?_) #[true, true, true, true, false, true, false, false, false, false, false, false, false] rfl rfl (by kernel_rfl) (fun _ _ _ h => h) (Or.inl ⟨by rfl, ?_⟩) ?_ ?_
            rotate_left
            · intro w'
              go_simp
              with_reducible rfl
            rotate_left
            · simp only [Act.put, List.setIfInBounds_toArray, List.set_cons_zero, List.set_cons_succ, i64_w, i32_w]
              rfl
            refine pure_ (i := 6) (N := some 47) (v := ?_) (a' := ?_) #[true, true, true, true, false, true, true, false, false, false, false, false, false] rfl rfl (by kernel_rfl) (fun _ _ _ h => h) (Or.inl ⟨by rfl, ?_⟩) ?_ ?_
            rotate_left
            · intro w'
              go_simp
              with_reducible rfl
            rotate_left
            · simp only [Act.put, List.setIfInBounds_toArray, List.set_cons_zero, List.set_cons_succ, i64_w, i32_w]
              rfl
            refine pure_ (i := 7) (N := some 48) (v := ?_) (a' := ?_) #[true, true, true, true, false, true, true, true, false, false, false, false, false] rfl rfl (by kernel_rfl) (fun _ _ _ h => h) (Or.inl ⟨by rfl, ?_⟩) ?_ ?_
            rotate_left
            · intro w'
              go_simp
              with_reducible rfl
            rotate_left
            · simp only [Act.put, List.setIfInBounds_toArray, List.set_cons_zero, List.set_cons_succ, i64_w, i32_w]
              rfl
            refine pure_ (i := 8) (N := some 49) (v := ?_) (a' := ?_) #[true, true, true, true, false, true, true, true, true, false, false, false, false] rfl rfl (by kernel_rfl) (fun _ _ _ h => h) (Or.inl ⟨by rfl, ?_⟩) ?_ ?_
            rotate_left
            · intro w'
              go_simp
              with_reducible rfl
            rotate_left
            · simp only [Act.put, List.setIfInBounds_toArray, List.set_cons_zero, List.set_cons_succ, i64_w, i32_w]
              rfl
            refine one_ (i := 4) (N := some 45) #[true, true, true, true, true, true, true, true, true, false, false, false, false] rfl rfl (by kernel_rfl) (by decide) (fun K hK => ?_)
            refine goes_ Try.func74 (by kernel_rfl) rfl #[.slice A1 r1.length c1] (by rfl) rfl rfl (by simp only [List.map_toArray, List.map_cons, List.map_nil]; rfl) ?_
            with_reducible refine (slices_Clone_string_string.calls A1 c1 r1 r1 _ (Kd.C_drew HR1.out) HQ1.out (clone_some HL1.out)).mono ?_
            rintro e w7 ⟨v0, rfl, ho, hb⟩
            refine ⟨_, rfl, ?_⟩
            obtain ⟨Av0, cv0, rfl⟩ := Kd.R_slice ho
            have HBA := Aside0.mk (show w.heap.size ≤ w6.heap.size from HB.out.size)
            have HBB := Aside0.mk (show w6.heap.size ≤ w7.heap.size from hb.size)
            have HO0 := Aside0.mk ho
            have HR2 := Aside0.mk (Kd.C_below (Kd.C_drew HR2'.out) hb)
            have n1_ := Aside0.mk (below_step (below_drew HB.out) hb)
            clear HB ho hb
            have HB := n1_
            clear n1_
            refine hK.out _ _ trivial (fun hHeld => ?_)
            clear hK K
            refine norm_ (a' := ?_) ?_ ?_
            rotate_left
            · show Act.put _ (some 45) _ = _
              simp only [Act.put, List.setIfInBounds_toArray, List.set_cons_zero, List.set_cons_succ, i64_w, i32_w]
              rfl
            refine one_ (i := 9) (N := some 50) #[true, true, true, true, true, true, true, true, true, true, false, false, false] rfl rfl (by kernel_rfl) (by decide) (fun K hK => ?_)
            refine goes_ Try.func74 (by kernel_rfl) rfl #[.slice A2 r2.length c2] (by rfl) rfl rfl (by simp only [List.map_toArray, List.map_cons, List.map_nil]; rfl) ?_
            with_reducible refine (slices_Clone_string_string.calls A2 c2 r2 r2 _ HR2.out HQ2.out (clone_some HL2.out)).mono ?_
            rintro e w8 ⟨v1, rfl, ho, hb⟩
            refine ⟨_, rfl, ?_⟩
            obtain ⟨Av1, cv1, rfl⟩ := Kd.R_slice ho
            have HNE := Aside0.mk (neLate HO0.out ho)
            have n2_ := Aside0.mk (Kd.R_below HO0.out hb)
            have HO1 := Aside0.mk ho
            have n1_ := Aside0.mk (below_step HB.out hb)
            clear HB HO0 ho hb
            have HB := n1_
            have HO0 := n2_
            clear n1_ n2_
            refine hK.out _ _ trivial (fun hHeld => ?_)
            clear hK K
            refine norm_ (a' := ?_) ?_ ?_
            rotate_left
            · show Act.put _ (some 50) _ = _
              simp only [Act.put, List.setIfInBounds_toArray, List.set_cons_zero, List.set_cons_succ, i64_w, i32_w]
              rfl
            refine pure_ (i := 10) (N := some 6) (v := ?_) (a' := ?_) #[true, true, true, true, true, true, true, true, true, true, true, false, false] rfl rfl (by kernel_rfl) (fun _ _ _ h => h) (Or.inl ⟨by rfl, ?_⟩) ?_ ?_
            rotate_left
            · intro w'
              go_simp
              with_reducible rfl
            rotate_left
            · simp only [Act.put, List.setIfInBounds_toArray, List.set_cons_zero, List.set_cons_succ, i64_w, i32_w]
              rfl
            refine pure_ (i := 11) (N := some 7) (v := ?_) (a' := ?_) #[true, true, true, true, true, true, true, true, true, true, true, true, false] rfl rfl (by kernel_rfl) (fun _ _ _ h => h) (Or.inl ⟨by rfl, ?_⟩) ?_ ?_
            rotate_left
            · intro w'
              go_simp
              with_reducible rfl
            rotate_left
            · simp only [Act.put, List.setIfInBounds_toArray, List.set_cons_zero, List.set_cons_succ, i64_w, i32_w]
              rfl
            refine pure_ (i := 12) (N := some 8) (v := ?_) (a' := ?_) #[true, true, true, true, true, true, true, true, true, true, true, true, true] rfl rfl (by kernel_rfl) (fun _ _ _ h => h) (Or.inl ⟨by rfl, ?_⟩) ?_ ?_
            rotate_left
            · intro w'
              go_simp
              with_reducible rfl
            rotate_left
            · simp only [Act.put, List.setIfInBounds_toArray, List.set_cons_zero, List.set_cons_succ, i64_w, i32_w]
              rfl
            refine done_ (by kernel_rfl) ?_
            go_wp2
            go_ret3
            exact ⟨_, _, rfl, Kd.R_lower (SR.strong (SR.ofR (rk_ HO0.out)) HNE.out) HBA.out, Kd.R_lower (SR.strong (SR.ofR (rk_ HO1.out)) (neSymm HNE.out)) (Nat.le_trans HBA.out HBB.out), be_ HB.out⟩
          · obtain rfl : hi = lo := by rw [hhi, if_neg cx]
            have tx : decide (hi < x) = false := decide_eq_false cx
            have tx2 : (hi < x) = False := eq_false cx
            clear hhi cx
            go_enter Try.func35, Try.ntmps35
            go_upto_region 7 with (first | ((with_reducible refine gate_dst (N := 3) rfl ?_); refine box_event ?hg (N := 3) ?hd (cs := #[.slice A0_0 l0_0.length c0_0]) (t := 29) ?hr ?_; (case hd => rfl); (case hg => rfl); (case hr => first | (go_simp; done) | (go_simp; rfl)); intro b3 hg w1 hbox hb; have HB := Aside0.mk hb; have hz3 : w1.cell? ⟨b3, 0, none⟩ = some (.slice A0_0 l0_0.length c0_0) := (blk_cell hbox 0).trans rfl; clear hg hbox hb) | (go_at_call 59; (with_reducible refine (impl_root.calls k l0_0 HNP.out A0_0 c0_0 _ (Kd.C_below HP.out HB.out) HM.out _ HRS.out).mono ?_); rintro e w2 ⟨hb, hr⟩; obtain ⟨nt, h9, rfl, hs⟩ := hr.resolve_left (by rintro ⟨h, _⟩; cases h); injection h9 with h9; subst h9; have HR2 := Aside0.mk (rd_of hs); have n1_ := Aside0.mk (below_step HB.out hb); clear HB; have HB := n1_; clear n1_ hb hr hs hz3) | (go_at_call 72; (with_reducible refine (impl_isRange.calls a1 a2 true _ HG.out).mono ?_); rintro e w' ⟨rfl, ⟨nd, rfl⟩⟩) | (go_at_call 66; (with_reducible refine (impl_all.calls0 nt.erase HSH.out _ ?side1 HZ1.out HZ2.out).mono ?_); (case side1 => repeat (first | exact HR2.out | (with_reducible refine Rd.drewN ?_ _) | (with_reducible refine Rd.drew ?_))); rintro e w5 ⟨u1, u2, rfl, ho1, ho2, hne, hb⟩; have HO1 := Aside0.mk (Kd.R_lower ho1 (show w.heap.size ≤ _ from HB.out.size)); have HO2 := Aside0.mk (Kd.R_lower ho2 (show w.heap.size ≤ _ from HB.out.size)); have HNE := Aside0.mk hne; have n1_ := Aside0.mk (below_step (by repeat (first | (with_reducible exact HB.out) | (with_reducible apply pw_below_drewN) | (with_reducible apply below_drew1))) hb); clear HB; have HB := n1_; clear n1_ hb ho1 ho2 hne; obtain ⟨B1, d1, rfl, hl1, hc1⟩ := Kd.R_reads HO1.out; obtain ⟨B2, d2, rfl, hl2, hc2⟩ := Kd.R_reads HO2.out; have HC1 := Aside0.mk hc1; have HC2 := Aside0.mk hc2; have HD1 := Aside0.mk hl1; have HD2 := Aside0.mk hl2; clear hl1 hl2 hc1 hc2) | (go_at_call 73; (with_reducible refine (impl_less.calls k B1 d1 (allK nt.erase) a1 hi _ ?side1 HD1.out HLO.out).mono ?_); (case side1 => repeat (first | (with_reducible exact HC1.out) | (with_reducible refine Kd.C_drewN ?_ _) | (with_reducible refine Kd.C_drew ?_) | exact HC1.out)); rintro e w' ⟨rfl, ⟨nd, rfl⟩⟩) | (go_at_call 73; (with_reducible refine (impl_less.calls k B1 d1 (allK nt.erase) a2 x _ ?side1 HD1.out HX.out).mono ?_); (case side1 => repeat (first | (with_reducible exact HC1.out) | (with_reducible refine Kd.C_drewN ?_ _) | (with_reducible refine Kd.C_drew ?_) | exact HC1.out)); rintro e w' ⟨rfl, ⟨nd, rfl⟩⟩))
            generalize hW : World.drewN w5 _ = w6
            have n1_ := Aside0.mk (show Below w.heap.size w w6 by rw [← hW]; exact pw_below_drewN HB.out _)
            have n2_ : Aside0 (Kd.C Kd.string w6 B1 (allK nt.erase).length (allK nt.erase)) := ⟨by rw [← hW]; exact Kd.C_drewN HC1.out _⟩
            have n3_ : Aside0 (Kd.C Kd.string w6 B2 (allV nt.erase).length (allV nt.erase)) := ⟨by rw [← hW]; exact Kd.C_drewN HC2.out _⟩
            clear HB HC1 HC2 HO1 HO2 HNE hW
            have HB := n1_
            obtain ⟨i0, hi0, _, hsz, _⟩ := info_parts info9
            have hcutK := cut_mid (P := Try.prog) 38 9 .i64 .i64 Try.underlying38 hi0 1 hsz B1 (allK nt.erase).length d1 hi hi HCB.out HB1.out HB2.out HD1.out
            have hcutV := cut_mid (P := Try.prog) 38 9 .i64 .i64 Try.underlying38 hi0 1 hsz B2 (allV nt.erase).length d2 hi hi HCB.out HB1.out (by rw [HVK.out]; exact HB2.out) HD2.out
            obtain ⟨A1, hA1⟩ : ∃ A1, A1 = (if d1 = hi.toNat then B1 else B1.map (·.add (hi.toNat * 1))) := ⟨_, rfl⟩
            obtain ⟨A2, hA2⟩ : ∃ A2, A2 = (if d2 = hi.toNat then B2 else B2.map (·.add (hi.toNat * 1))) := ⟨_, rfl⟩
            obtain ⟨c1, hc1⟩ : ∃ c1, c1 = d1 - hi.toNat := ⟨_, rfl⟩
            obtain ⟨c2, hc2⟩ : ∃ c2, c2 = d2 - hi.toNat := ⟨_, rfl⟩
            have hq := HB2.out
            have hv := HVK.out
            have hp := HB1.out
            have hd1 := HD1.out
            have hd2 := HD2.out
            have hy1 : r1.length = hi.toNat - hi.toNat := by rw [← HE1.out, List.length_drop, List.length_take]; omega
            have hy2 : r2.length = hi.toNat - hi.toNat := by rw [← HE2.out, List.length_drop, List.length_take]; omega
            have hr1 : Kd.C Kd.string w6 A1 r1.length r1 := by rw [hA1, ← HE1.out]; exact Kd.C_mid n2_.out (by omega) (by omega) hd1
            have hr2 : Kd.C Kd.string w6 A2 r2.length r2 := by rw [hA2, ← HE2.out]; exact Kd.C_mid n3_.out (by omega) (by omega) hd2
            rw [← hy1, ← hA1, ← hc1] at hcutK
            rw [← hy2, ← hA2, ← hc2] at hcutV
            have HQ1 := Aside0.mk (show r1.length ≤ c1 by omega)
            have HQ2 := Aside0.mk (show r2.length ≤ c2 by omega)
            have HL1 := Aside0.mk (show r1.length < 8796093022208 by omega)
            have HL2 := Aside0.mk (show r2.length < 8796093022208 by omega)
            have HR1 := Aside0.mk hr1
            have HR2' := Aside0.mk hr2
            clear hi0 hsz hA1 hA2 hc1 hc2 hq hv hp hd1 hd2 hy1 hy2 hr1 hr2 n1_ n2_ n3_
            refine start_ (n := 13) (S := fun w' => True) (ds := []) #[false, false, false, false, false, false, false, false, false, false, false, false, false] (by kernel_rfl) rfl rfl trivial (fun hHeld => ?_)
            refine pure_ (i := 0) (N := some 41) (v := ?_) (a' := ?_) #[true, false, false, false, false, false, false, false, false, false, false, false, false] rfl rfl (by kernel_rfl) (fun _ _ _ h => h) (Or.inl ⟨by rfl, ?_⟩) ?_ ?_
            rotate_left
            · intro w'
              go_simp
              with_reducible rfl
            rotate_left
            · simp only [Act.put, List.setIfInBounds_toArray, List.set_cons_zero, List.set_cons_succ, i64_w, i32_w]
              rfl
            refine pure_ (i := 1) (N := some 42) (v := ?_) (a' := ?_) #[true, true, false, false, false, false, false, false, false, false, false, false, false] rfl rfl (by kernel_rfl) (fun _ _ _ h => h) (Or.inl ⟨by rfl, ?_⟩) ?_ ?_
            rotate_left
            · intro w'
              go_simp
              with_reducible rfl
            rotate_left
            · simp only [Act.put, List.setIfInBounds_toArray, List.set_cons_zero, List.set_cons_succ, i64_w, i32_w]
              rfl
            refine pure_ (i := 2) (N := some 43) (v := ?_) (a' := ?_) #[true, true, true, false, false, false, false, false, false, false, false, false, false] rfl rfl (by kernel_rfl) (fun _ _ _ h => h) (Or.inl ⟨by rfl, ?_⟩) ?_ ?_
            rotate_left
            · intro w'
              go_simp
              with_reducible rfl
            rotate_left
            · simp only [Act.put, List.setIfInBounds_toArray, List.set_cons_zero, List.set_cons_succ, i64_w, i32_w]
              rfl
            refine pure_ (i := 3) (N := some 44) (v := ?_) (a' := ?_) #[true, true, true, true, false, false, false, false, false, false, false, false, false] rfl rfl (by kernel_rfl) (fun _ _ _ h => h) (Or.inl ⟨by rfl, ?_⟩) ?_ ?_
            rotate_left
            · intro w'
              go_simp
              with_reducible rfl
            rotate_left
            · simp only [Act.put, List.setIfInBounds_toArray, List.set_cons_zero, List.set_cons_succ, i64_w, i32_w]
              rfl
            refine pure_ (i := 5) (N := some 46) (v := ?_) (a' := ?_) #[true, true, true, true, false, true, false, false, false, false, false, false, false] rfl rfl (by kernel_rfl) (fun _ _ _ h => h) (Or.inl ⟨by rfl, ?_⟩) ?_ ?_
            rotate_left
            · intro w'
              go_simp
              with_reducible rfl
            rotate_left
            · simp only [Act.put, List.setIfInBounds_toArray, List.set_cons_zero, List.set_cons_succ, i64_w, i32_w]
              rfl
            refine pure_ (i := 6) (N := some 47) (v := ?_) (a' := ?_) #[true, true, true, true, false, true, true, false, false, false, false, false, false] rfl rfl (by kernel_rfl) (fun _ _ _ h => h) (Or.inl ⟨by rfl, ?_⟩) ?_ ?_
            rotate_left
            · intro w'
              go_simp
              with_reducible rfl
            rotate_left
            · simp only [Act.put, List.setIfInBounds_toArray, List.set_cons_zero, List.set_cons_succ, i64_w, i32_w]
              rfl
            refine pure_ (i := 7) (N := some 48) (v := ?_) (a' := ?_) #[true, true, true, true, false, true, true, true, false, false, false, false, false] rfl rfl (by kernel_rfl) (fun _ _ _ h => h) (Or.inl ⟨by rfl, ?_⟩) ?_ ?_
            rotate_left
            · intro w'
              go_simp
              with_reducible rfl
            rotate_left
            · simp only [Act.put, List.setIfInBounds_toArray, List.set_cons_zero, List.set_cons_succ, i64_w, i32_w]
              rfl
            refine pure_ (i := 8) (N := some 49) (v := ?_) (a' := ?_) #[true, true, true, true, false, true, true, true, true, false, false, false, false] rfl rfl (by kernel_rfl) (fun _ _ _ h => h) (Or.inl ⟨by rfl, ?_⟩) ?_ ?_
            rotate_left
            · intro w'
              go_simp
              with_reducible rfl
            rotate_left
            · simp only [Act.put, List.setIfInBounds_toArray, List.set_cons_zero, List.set_cons_succ, i64_w, i32_w]
              rfl
            refine one_ (i := 4) (N := some 45) #[true, true, true, true, true, true, true, true, true, false, false, false, false] rfl rfl (by kernel_rfl) (by decide) (fun K hK => ?_)
            refine goes_ Try.func74 (by kernel_rfl) rfl #[.slice A1 r1.length c1] (by rfl) rfl rfl (by simp only [List.map_toArray, List.map_cons, List.map_nil]; rfl) ?_
            with_reducible refine (slices_Clone_string_string.calls A1 c1 r1 r1 _ (Kd.C_drew HR1.out) HQ1.out (clone_some HL1.out)).mono ?_
            rintro e w7 ⟨v0, rfl, ho, hb⟩
            refine ⟨_, rfl, ?_⟩
            obtain ⟨Av0, cv0, rfl⟩ := Kd.R_slice ho
            have HBA := Aside0.mk (show w.heap.size ≤ w6.heap.size from HB.out.size)
            have HBB := Aside0.mk (show w6.heap.size ≤ w7.heap.size from hb.size)
            have HO0 := Aside0.mk ho
            have HR2 := Aside0.mk (Kd.C_below (Kd.C_drew HR2'.out) hb)
            have n1_ := Aside0.mk (below_step (below_drew HB.out) hb)
            clear HB ho hb
            have HB := n1_
            clear n1_
            refine hK.out _ _ trivial (fun hHeld => ?_)
            clear hK K
            refine norm_ (a' := ?_) ?_ ?_
            rotate_left
            · show Act.put _ (some 45) _ = _
              simp only [Act.put, List.setIfInBounds_toArray, List.set_cons_zero, List.set_cons_succ, i64_w, i32_w]
              rfl
            refine one_ (i := 9) (N := some 50) #[true, true, true, true, true, true, true, true, true, true, false, false, false] rfl rfl (by kernel_rfl) (by decide) (fun K hK => ?_)
            refine goes_ Try.func74 (by kernel_rfl) rfl #[.slice A2 r2.length c2] (by rfl) rfl rfl (by simp only [List.map_toArray, List.map_cons, List.map_nil]; rfl) ?_
            with_reducible refine (slices_Clone_string_string.calls A2 c2 r2 r2 _ HR2.out HQ2.out (clone_some HL2.out)).mono ?_
            rintro e w8 ⟨v1, rfl, ho, hb⟩
            refine ⟨_, rfl, ?_⟩
            obtain ⟨Av1, cv1, rfl⟩ := Kd.R_slice ho
            have HNE := Aside0.mk (neLate HO0.out ho)
            have n2_ := Aside0.mk (Kd.R_below HO0.out hb)
            have HO1 := Aside0.mk ho
            have n1_ := Aside0.mk (below_step HB.out hb)
            clear HB HO0 ho hb
            have HB := n1_
            have HO0 := n2_
            clear n1_ n2_
            refine hK.out _ _ trivial (fun hHeld => ?_)
            clear hK K
            refine norm_ (a' := ?_) ?_ ?_
            rotate_left
            · show Act.put _ (some 50) _ = _
              simp only [Act.put, List.setIfInBounds_toArray, List.set_cons_zero, List.set_cons_succ, i64_w, i32_w]
              rfl
            refine pure_ (i := 10) (N := some 6) (v := ?_) (a' := ?_) #[true, true, true, true, true, true, true, true, true, true, true, false, false] rfl rfl (by kernel_rfl) (fun _ _ _ h => h) (Or.inl ⟨by rfl, ?_⟩) ?_ ?_
            rotate_left
            · intro w'
              go_simp
              with_reducible rfl
            rotate_left
            · simp only [Act.put, List.setIfInBounds_toArray, List.set_cons_zero, List.set_cons_succ, i64_w, i32_w]
              rfl
            refine pure_ (i := 11) (N := some 7) (v := ?_) (a' := ?_) #[true, true, true, true, true, true, true, true, true, true, true, true, false] rfl rfl (by kernel_rfl) (fun _ _ _ h => h) (Or.inl ⟨by rfl, ?_⟩) ?_ ?_
            rotate_left
            · intro w'
              go_simp
              with_reducible rfl
            rotate_left
            · simp only [Act.put, List.setIfInBounds_toArray, List.set_cons_zero, List.set_cons_succ, i64_w, i32_w]
              rfl
            refine pure_ (i := 12) (N := some 8) (v := ?_) (a' := ?_) #[true, true, true, true, true, true, true, true, true, true, true, true, true] rfl rfl (by kernel_rfl) (fun _ _ _ h => h) (Or.inl ⟨by rfl, ?_⟩) ?_ ?_
            rotate_left
            · intro w'
              go_simp
              with_reducible rfl
            rotate_left
            · simp only [Act.put, List.setIfInBounds_toArray, List.set_cons_zero, List.set_cons_succ, i64_w, i32_w]
              rfl
            refine done_ (by kernel_rfl) ?_
            go_wp2
            go_ret3
            exact ⟨_, _, rfl, Kd.R_lower (SR.strong (SR.ofR (rk_ HO0.out)) HNE.out) HBA.out, Kd.R_lower (SR.strong (SR.ofR (rk_ HO1.out)) (neSymm HNE.out)) (Nat.le_trans HBA.out HBB.out), be_ HB.out⟩
        · rw [if_neg cb] at h
          cases h
  · rw [if_neg hok] at h
    cases h
end Go.Proofs.Ytoddejmlcnbdmaa.Fn
namespace Go.Proofs.Ytoddejmlcnbdmaa.Pure
open Go.RowKit Go.Proofs.Ytoddejmlcnbdmaa.Fn Go.Proofs.YtoddejmlcnbdmaaW.PrintWords Go.Proofs.YtoddejmlcnbdmaaW.PrintLast Go.Proofs.YtoddejmlcnbdmaaW.PrintMore Go.Proofs.Ytoddejmlcnbdmaa.Tree
set_option linter.unusedSimpArgs false
set_option linter.unusedVariables false

theorem atI_zero {key k : ByteArray} : ∀ {ks : List ByteArray}, Srt (k :: ks) → ltB k key = false → atI key ks = 0
  | [], _, _ => rfl
  | x :: xs, hs, h => by
    rw [atI]
    cases hx : ltB x key with
    | false => rfl
    | true =>
      have hk : lt_ k x := (List.pairwise_cons.1 hs).1 x List.mem_cons_self
      have := (ltB_iff _ _).2 (lt_trans hk ((ltB_iff _ _).1 hx))
      rw [h] at this
      cases this
theorem inB_eq (a b k : ByteArray) : inB a b k = (!ltB k a && ltB k b) := rfl
theorem range_eq {a b : ByteArray} (hab : ltB a b = true) : ∀ (K V : List ByteArray), Srt K → V.length = K.length →
    atI a K ≤ atI b K ∧ rngK a b K = (K.take (atI b K)).drop (atI a K) ∧ rngV a b K V = (V.take (atI b K)).drop (atI a K)
  | [], V, _, _ => by
    refine ⟨Nat.le_refl _, by simp [rngK, atI], ?_⟩
    simp [rngV, atI]
  | k :: ks, [], _, h => by simp at h
  | k :: ks, v :: vs, hs, h => by
    obtain ⟨i1, i2, i3⟩ := range_eq hab ks vs (List.pairwise_cons.1 hs).2 (by simpa using h)
    cases ha : ltB k a with
    | true =>
      have hb : ltB k b = true := (ltB_iff _ _).2 (lt_trans ((ltB_iff _ _).1 ha) ((ltB_iff _ _).1 hab))
      have hin : inB a b k = false := by rw [inB_eq, ha]; rfl
      have ea : atI a (k :: ks) = atI a ks + 1 := by rw [atI, if_pos ha]
      have eb : atI b (k :: ks) = atI b ks + 1 := by rw [atI, if_pos hb]
      rw [ea, eb]
      refine ⟨by omega, ?_, ?_⟩
      · rw [List.take_succ_cons, List.drop_succ_cons, ← i2]
        unfold rngK
        rw [List.filter_cons_of_neg (by simp [hin])]
      · rw [List.take_succ_cons, List.drop_succ_cons, ← i3, rngV, if_neg (by simp [hin])]
    | false =>
      have ea : atI a (k :: ks) = 0 := by rw [atI, if_neg (by simp [ha])]
      have ea2 : atI a ks = 0 := atI_zero hs ha
      rw [ea2] at i2 i3
      cases hb : ltB k b with
      | true =>
        have hin : inB a b k = true := by rw [inB_eq, ha, hb]; rfl
        have eb : atI b (k :: ks) = atI b ks + 1 := by rw [atI, if_pos hb]
        rw [ea, eb]
        refine ⟨Nat.zero_le _, ?_, ?_⟩
        · rw [List.take_succ_cons, List.drop_zero]
          unfold rngK
          rw [List.filter_cons_of_pos hin]
          have : ks.filter (inB a b) = (ks.take (atI b ks)).drop 0 := i2
          rw [this, List.drop_zero]
        · rw [List.take_succ_cons, List.drop_zero, rngV, if_pos hin, i3, List.drop_zero]
      | false =>
        have hin : inB a b k = false := by rw [inB_eq, ha, hb]; rfl
        have eb : atI b (k :: ks) = 0 := by rw [atI, if_neg (by simp [hb])]
        have eb2 : atI b ks = 0 := atI_zero hs hb
        rw [eb2] at i2 i3
        rw [ea, eb]
        refine ⟨Nat.le_refl _, ?_, ?_⟩
        · unfold rngK
          rw [List.filter_cons_of_neg (by simp [hin])]
          have : ks.filter (inB a b) = (ks.take 0).drop 0 := i2
          rw [this]
          rfl
        · rw [rngV, if_neg (by simp [hin]), i3]
          rfl
def rangeOk (a b : ByteArray) : Bool := keyOk a && (keyOk b && ltB a b)
theorem valOk_nil : valOk (⟨#[]⟩ : ByteArray) = true := by decide
theorem isRange_eq (a b : ByteArray) : impl_isRange.f a b = some (rangeOk a b) := by
  simp only [impl_isRange.f, isKey_eq, Option.bind_some, rangeOk, ltB]
  cases keyOk a <;> cases keyOk b <;> simp
theorem l7Range_eq (a b : ByteArray) : spec_l7Range.f a b = some (rangeOk a b) := by
  simp only [spec_l7Range.f, pair_eq, valOk_nil, Bool.and_true, Option.bind_some, rangeOk, ltB]
  cases keyOk a <;> cases keyOk b <;> simp
def rangeS (t : PT) (a b : ByteArray) : List ByteArray × List ByteArray × Bool := if rangeOk a b = true then (rngK a b (allK t), rngV a b (allK t) (allV t), true) else ([], [], false)
def rangeP (P : List S110) (a b : ByteArray) : List ByteArray × List ByteArray × Bool := match ofS P with | none => ([], [], false) | some t => rangeS t a b
theorem rangeS_f {P : List S110} {a b : ByteArray} (hok : okP P = true) : spec_RangeOf.f P a b = some (rangeP P a b) := by
  unfold spec_RangeOf.f rangeP
  rw [if_pos hok]
  cases ofS P with
  | none => rfl
  | some t =>
    simp only [l7Range_eq, Option.bind_some, rangeS]
    split <;> rfl
theorem rangeI_ev {P : List S110} {a b : ByteArray} (hok : okP P = true) (hP : P.length ≤ 1048576) : Ev (fun k => impl_RangeOf.f k P a b) (rangeP P a b) := by
  simp only [impl_RangeOf.f, if_pos hok]
  refine Ev.bind (root_ev _ hP) ?_
  unfold rangeP
  cases hof : ofS P with
  | none => exact Ev.val rfl
  | some t =>
    have hg := of_good hP hof
    simp only [isRange_eq, Option.bind_some, rangeS]
    cases hr : rangeOk a b with
    | false =>
      refine Ev.ifn (by decide) ?_
      exact Ev.val (by simp)
    | true =>
      have hab : ltB a b = true := by
        unfold rangeOk at hr
        simp only [Bool.and_eq_true] at hr
        exact hr.2.2
      have hK : (allK t).length ≤ 1048576000 := by have := hg.few; omega
      obtain ⟨r1, r2, r3⟩ := range_eq hab (allK t) (allV t) hg.srt (allV_len hg.shp)
      have la := atI_le a (allK t)
      have lb := atI_le b (allK t)
      refine Ev.ifp rfl ?_
      refine Ev.bind (lessI_ev _ a hK hg.srt) (Ev.bind (lessI_ev _ b hK hg.srt) ?_)
      refine Ev.ifp ⟨by omega, by omega, by omega⟩ ?_
      have e : (if ((atI a (allK t) : Nat) : Int) < ((atI b (allK t) : Nat) : Int) then ((atI b (allK t) : Nat) : Int) else ((atI a (allK t) : Nat) : Int)) = ((atI b (allK t) : Nat) : Int) := by split <;> omega
      rw [e, Int.toNat_natCast, Int.toNat_natCast, ← r2, ← r3]
      exact Ev.val (by simp)
theorem range_none {P : List S110} {a b : ByteArray} (h : (rangeP P a b).2.2 = false) : (rangeP P a b).1 = [] := by
  unfold rangeP at h ⊢
  cases hof : ofS P with
  | none => rfl
  | some t =>
    rw [hof] at h
    unfold rangeS at h ⊢
    simp only at h ⊢
    split at h
    · cases h
    · rename_i c
      rw [if_neg c]
def atP (P : List S110) (i : Int) : ByteArray × ByteArray × Bool := match ofS P with | none => (⟨#[]⟩, ⟨#[]⟩, false) | some t => atS t i
theorem atP_f {P : List S110} {i : Int} (hok : okP P = true) : spec_AtPlace.f P i = some (atP P i) := by
  unfold spec_AtPlace.f atP
  rw [if_pos hok]
  cases ofS P <;> rfl
theorem atI_ev {P : List S110} {i : Int} (hok : okP P = true) (hP : P.length ≤ 1048576) : Ev (fun k => impl_AtPlace.f k P i) (atP P i) := by
  simp only [impl_AtPlace.f, if_pos hok]
  refine Ev.bind (root_ev _ hP) ?_
  unfold atP
  cases ofS P with
  | none => exact Ev.val rfl
  | some t => exact Ev.val rfl
def keysP (P : List S110) : List ByteArray × Bool := match ofS P with | none => ([], false) | some t => (allK t, true)
theorem keysP_f {P : List S110} (hok : okP P = true) : spec_KeysIn.f P = some (keysP P) := by
  unfold spec_KeysIn.f keysP
  rw [if_pos hok]
  cases ofS P <;> rfl
theorem keysI_ev {P : List S110} (hok : okP P = true) (hP : P.length ≤ 1048576) : Ev (fun k => impl_KeysIn.f k P) (keysP P) := by
  simp only [impl_KeysIn.f, if_pos hok]
  refine Ev.bind (root_ev _ hP) ?_
  unfold keysP
  cases ofS P with
  | none => exact Ev.val rfl
  | some t => exact Ev.val rfl
end Go.Proofs.Ytoddejmlcnbdmaa.Pure
namespace Go.Proofs.Ytoddejmlcnbdmaa.Pure
open Go.RowKit Go.Proofs.Ytoddejmlcnbdmaa.Fn Go.Proofs.YtoddejmlcnbdmaaW.PrintWords Go.Proofs.YtoddejmlcnbdmaaW.PrintLast Go.Proofs.YtoddejmlcnbdmaaW.PrintMore Go.Proofs.Ytoddejmlcnbdmaa.Tree
set_option linter.unusedSimpArgs false
set_option linter.unusedVariables false

theorem FnExactAtPlace : ∀ (l0_0 : List (S115)) (a1 : Int), (l0_0.length ≤ maxLen ∧ ∀ y4 ∈ l0_0, ((y4.f0.length ≤ maxLen ∧ ∀ y5 ∈ y4.f0, y5.size ≤ maxLen) ∧ (y4.f1.length ≤ maxLen ∧ ∀ y6 ∈ y4.f1, y6.size ≤ maxLen) ∧ (y4.f2.length ≤ maxLen ∧ ∀ y7 ∈ y4.f2, (Lit.int .i64 y7).wf = true))) → (Lit.int .i64 a1).wf = true → ∃ k, laws_FnExactAtPlace.f k l0_0 a1 = some true := by
  intro l i h hi
  refine Ev.some (g := fun k => laws_FnExactAtPlace.f k l i) ?_
  simp only [laws_FnExactAtPlace.f]
  obtain ⟨r, hr, hb⟩ := szTree_ev l h.1 fun p hp => ⟨(h.2 p hp).1, (h.2 p hp).2.1, (h.2 p hp).2.2.1⟩
  refine Ev.bind hr ?_
  by_cases c : r < 0
  · (repeat (first | with_reducible refine Ev.bindS ?_ | (with_reducible refine Ev.ifp ?_ ?_; (· exact cnd_)) | (with_reducible refine Ev.ifn ?_ ?_; (· exact cnd_))))
    exact Ev.val rfl
  obtain ⟨hl, hs⟩ := hb (by omega)
  obtain ⟨hok, hlen, hto, heq⟩ := pages_ok l hl hs
  have last : ∀ b : Bool, Ev (fun k => laws_FnExactAtPlace.j0 k (b != b) l (l.map cvP)) true := by
    intro b
    (refine Ev.up ?_; simp only [laws_FnExactAtPlace.j0, decT])
    refine Ev.ifn (by simp) ?_
    refine Ev.bind hto (Ev.bind heq ?_)
    (repeat (first | with_reducible refine Ev.bindS ?_ | (with_reducible refine Ev.ifp ?_ ?_; (· exact cnd_)) | (with_reducible refine Ev.ifn ?_ ?_; (· exact cnd_))))
    exact Ev.val rfl
  (repeat (first | with_reducible refine Ev.bindS ?_ | (with_reducible refine Ev.ifp ?_ ?_; (· exact cnd_)) | (with_reducible refine Ev.ifn ?_ ?_; (· exact cnd_))))
  refine Ev.bind hto ?_
  simp only [atP_f hok, Option.bind_some]
  refine Ev.bind hto (Ev.bind (atI_ev hok hlen) ?_)
  exact Ev.ifp rfl (Ev.ifp rfl (last _))
end Go.Proofs.Ytoddejmlcnbdmaa.Pure
namespace Go.Proofs.Ytoddejmlcnbdmaa.OpenA
open Go.RowKit Go.Deep Go.ChangeShapes Go.Joins Go.Proofs.YtoddejmlcnbdmaaW Go.Proofs.YtoddejmlcnbdmaaW.PrintWords

/-- What can be read as data of type t can be read as kind d, and is well formed. -/
def Op (P : Program) (t : TypeId) {α : Type} (d : Kd α) (Wf : α → Prop) : Prop :=
  ∀ {H : Type} {enc : TypeId × Value → H} {w : World} {base : Nat} {spare : Nat → Bool} {held : Bool} {fuel : Nat} {cs : List Value} {x : DataW H × List MemPlace},
    DataW.trod enc P w base spare held fuel t cs = some x → ∃ a : α, d.K w a cs ∧ Wf a

variable {P : Program} {t e : TypeId}

theorem op_int {k : IntKind} (hu : P.underlying t = some (.int k)) : Op P t (Kd.int k) (fun n => (Lit.int k n).wf = true) := by
  intro H enc w base spare held fuel cs x h
  obtain ⟨n, rfl, _, hw⟩ := DataW.trod_int hu h
  exact ⟨n, rfl, hw⟩
theorem op_bool (hu : P.underlying t = some .bool) : Op P t Kd.bool (fun _ => True) := by
  intro H enc w base spare held fuel cs x h
  obtain ⟨b, rfl, _⟩ := DataW.trod_bool hu h
  exact ⟨b, rfl, trivial⟩
theorem op_string (hu : P.underlying t = some .string) : Op P t Kd.string (fun s => s.size ≤ maxLen) := by
  intro H enc w base spare held fuel cs x h
  obtain ⟨s, rfl, _, hs⟩ := DataW.trod_string hu h
  exact ⟨s, rfl, hs⟩
theorem cells_of {w : World} {base : Nat} {a : Addr} {n : Nat} {cs : List Value} (h : w.cells? base a n = some cs) : cs.length = n ∧ ∀ j u, cs[j]? = some u → w.cell? (a.add j) = some u := by
  unfold World.cells? at h
  split at h
  · have hl := mapM_some_length h
    refine ⟨by simpa using hl, fun j u hj => ?_⟩
    have hlt : j < n := by
      have := (List.getElem?_eq_some_iff.1 hj).1
      have : cs.length = n := by simpa using hl
      omega
    have := mapM_some_get h j j (by simp [hlt])
    rw [hj] at this
    exact this
  · simp at h
theorem op_slice {α : Type} {d : Kd α} {Wf : α → Prop} (hu : P.underlying t = some (.slice e)) (hc : P.cellsOf e = d.sz) (h : Op P e d Wf) :
    Op P t (Kd.slice e d) (fun xs => xs.length ≤ maxLen ∧ ∀ x ∈ xs, Wf x) := by
  intro H enc w base spare held fuel cs x hf
  rcases open_slice hu hf with ⟨rfl, _⟩ | ⟨a, len, cap, m, n, D, Pl, rfl, _, hl, hm, hmm, hxe, hall⟩
  · exact ⟨[], ⟨none, 0, rfl, Nat.le_refl _, rfl, by simp, fun h => absurd h (by simp)⟩, by simp, by simp⟩
  · have hlm : len ≤ m := by rw [hmm]; split <;> omega
    have hx : ∀ i, i < len → ∃ y : α × List Value, w.cells? base (a.add (i * P.cellsOf e)) (P.cellsOf e) = some y.2 ∧ d.K w y.1 y.2 ∧ Wf y.1 := by
      intro i hi
      obtain ⟨cs', h1, h2⟩ := hall i (by omega)
      obtain ⟨y, h3, h4⟩ := h h2
      exact ⟨⟨y, cs'⟩, h1, h3, h4⟩
    have hx' : ∃ ys : List (α × List Value), ys.length = len ∧ ∀ i y, ys[i]? = some y → w.cells? base (a.add (i * P.cellsOf e)) (P.cellsOf e) = some y.2 ∧ d.K w y.1 y.2 ∧ Wf y.1 := by
      clear hall hf hmm hlm hl hm hxe
      induction len with
      | zero => exact ⟨[], rfl, by simp⟩
      | succ len ih =>
        obtain ⟨ys, h1, h2⟩ := ih (fun i hi => hx i (by omega))
        obtain ⟨y, hy⟩ := hx len (by omega)
        refine ⟨ys ++ [y], by simp [h1], fun i z hz => ?_⟩
        rcases Nat.lt_or_ge i ys.length with hi | hi
        · rw [List.getElem?_append_left hi] at hz
          exact h2 i z hz
        · rw [List.getElem?_append_right hi] at hz
          have h0 : i - ys.length = 0 := by
            rcases Nat.eq_zero_or_pos (i - ys.length) with h0 | h0
            · exact h0
            · rw [List.getElem?_eq_none (by simp; omega)] at hz
              cases hz
          rw [h0] at hz
          have hz' : y = z := by simpa using hz
          have : i = len := by omega
          subst this
          subst hz'
          exact hy
    obtain ⟨ys, hl2, hys⟩ := hx'
    have hlen : (ys.map (·.1)).length = len := by simp [hl2]
    refine ⟨ys.map (·.1), ⟨some a, cap, by rw [hlen], by omega, ?_⟩, by simp only [maxLen] at *; omega, ?_⟩
    · refine ⟨rfl, by rw [hlen]; simp only [maxLen] at hm; omega, fun _ => ⟨a, rfl, fun j p hj => ?_⟩⟩
      rw [List.getElem?_map] at hj
      obtain ⟨y, hy, rfl⟩ := Option.map_eq_some_iff.1 hj
      obtain ⟨h1, h2, _⟩ := hys j y hy
      obtain ⟨h3, h4⟩ := cells_of h1
      refine ⟨y.2, by rw [h3, hc], h2, fun i u hu => ?_⟩
      have := h4 i u hu
      rw [PrintWords.add_add, hc] at this
      exact this
    · intro x hx
      obtain ⟨y, hy, rfl⟩ := List.mem_map.1 hx
      obtain ⟨i, hi⟩ := List.mem_iff_getElem?.1 hy
      exact (hys i y hi).2.2

theorem len1 {l : List Value} (h : l.length = 1) : ∃ a, l = [a] := by
  match l, h with
  | [a], _ => exact ⟨a, rfl⟩
theorem len2 {l : List Value} (h : l.length = 2) : ∃ a b, l = [a, b] := by
  match l, h with
  | [a, b], _ => exact ⟨a, b, rfl⟩
theorem len3 {l : List Value} (h : l.length = 3) : ∃ a b c, l = [a, b, c] := by
  match l, h with
  | [a, b, c], _ => exact ⟨a, b, c, rfl⟩
theorem len4 {l : List Value} (h : l.length = 4) : ∃ a b c d, l = [a, b, c, d] := by
  match l, h with
  | [a, b, c, d], _ => exact ⟨a, b, c, d, rfl⟩

theorem fields_of {H : Type} {enc : TypeId × Value → H} {w : World} {base : Nat} {spare : Nat → Bool} {held : Bool} {fuel : Nat} {cs : List Value} {x : DataW H × List MemPlace} {fs : Array Field}
    (hs : P.underlying t = some (.struct fs)) (hone : oneCellFields P fs = true) (hC : P.cellsOf t = fs.size) (h : DataW.trod enc P w base spare held fuel t cs = some x) :
    cs.length = fs.size ∧ ∃ n, ∀ (i : Nat) (f : Field) (v : Value), fs[i]? = some f → cs[i]? = some v → ∃ y, DataW.trod enc P w base spare held n f.type [v] = some y := by
  obtain ⟨xs, n, _, _, hl, hx, hf⟩ := DataW.trod_struct hs h
  refine ⟨hl.trans hC, n, fun i f v hi hv => ?_⟩
  have h1 := hf i f hi
  obtain ⟨h2, h3⟩ := hone_of hone i f hi
  have hlt : i < fs.size := (Array.getElem?_eq_some_iff.1 hi).1
  have h4 : xs[i]? = some (xs[i]'(by omega)) := List.getElem?_eq_getElem (by omega)
  have h5 : (cs.drop f.offset).take (P.cellsOf f.type) = [v] := by
    rw [h2, h3]
    have hlt2 : i < cs.length := by omega
    rw [List.getElem?_eq_getElem hlt2] at hv
    injection hv with hv
    rw [List.drop_eq_getElem_cons hlt2, hv]
    simp
  rw [h5, h4] at h1
  exact ⟨_, h1⟩

theorem op_struct1 {α S : Type} {d0 : Kd α} {W0 : α → Prop} {f0 : Field} {f : S → α} (mk : α → S) (hf : ∀ a, f (mk a) = a)
    (hs : P.underlying t = some (.struct #[f0])) (hone : oneCellFields P #[f0] = true) (hC : P.cellsOf t = 1) (h0 : Op P f0.type d0 W0) :
    Op P t (Kd.iso d0 f) (fun x => W0 (f x)) := by
  intro H enc w base spare held fuel cs x h
  obtain ⟨hl, n, hF⟩ := fields_of hs hone hC h
  obtain ⟨c0, rfl⟩ := len1 hl
  obtain ⟨y0, k0⟩ := hF 0 f0 c0 rfl rfl
  obtain ⟨a0, q0, w0⟩ := h0 k0
  exact ⟨mk a0, by show d0.K w (f (mk a0)) [c0]; rw [hf]; exact q0, by show W0 (f (mk a0)); rw [hf]; exact w0⟩
theorem op_struct2 {α β S : Type} {d0 : Kd α} {d1 : Kd β} {W0 : α → Prop} {W1 : β → Prop} {f0 f1 : Field} {f : S → α × β} (mk : α → β → S) (hf : ∀ a b, f (mk a b) = (a, b))
    (hs : P.underlying t = some (.struct #[f0, f1])) (hone : oneCellFields P #[f0, f1] = true) (hC : P.cellsOf t = 2) (h0 : Op P f0.type d0 W0) (h1 : Op P f1.type d1 W1) :
    Op P t (Kd.iso (Kd.pair d0 d1) f) (fun x => W0 (f x).1 ∧ W1 (f x).2) := by
  intro H enc w base spare held fuel cs x h
  obtain ⟨hl, n, hF⟩ := fields_of hs hone hC h
  obtain ⟨c0, c1, rfl⟩ := len2 hl
  obtain ⟨y0, k0⟩ := hF 0 f0 c0 rfl rfl
  obtain ⟨y1, k1⟩ := hF 1 f1 c1 rfl rfl
  obtain ⟨a0, q0, w0⟩ := h0 k0
  obtain ⟨a1, q1, w1⟩ := h1 k1
  exact ⟨mk a0 a1, ⟨[c0], [c1], rfl, by rw [hf]; exact q0, by rw [hf]; exact q1⟩, by dsimp only; rw [hf]; exact ⟨w0, w1⟩⟩
theorem op_struct3 {α β γ S : Type} {d0 : Kd α} {d1 : Kd β} {d2 : Kd γ} {W0 : α → Prop} {W1 : β → Prop} {W2 : γ → Prop} {f0 f1 f2 : Field} {f : S → α × β × γ} (mk : α → β → γ → S) (hf : ∀ a b c, f (mk a b c) = (a, b, c))
    (hs : P.underlying t = some (.struct #[f0, f1, f2])) (hone : oneCellFields P #[f0, f1, f2] = true) (hC : P.cellsOf t = 3) (h0 : Op P f0.type d0 W0) (h1 : Op P f1.type d1 W1) (h2 : Op P f2.type d2 W2) :
    Op P t (Kd.iso (Kd.pair d0 (Kd.pair d1 d2)) f) (fun x => W0 (f x).1 ∧ W1 (f x).2.1 ∧ W2 (f x).2.2) := by
  intro H enc w base spare held fuel cs x h
  obtain ⟨hl, n, hF⟩ := fields_of hs hone hC h
  obtain ⟨c0, c1, c2, rfl⟩ := len3 hl
  obtain ⟨y0, k0⟩ := hF 0 f0 c0 rfl rfl
  obtain ⟨y1, k1⟩ := hF 1 f1 c1 rfl rfl
  obtain ⟨y2, k2⟩ := hF 2 f2 c2 rfl rfl
  obtain ⟨a0, q0, w0⟩ := h0 k0
  obtain ⟨a1, q1, w1⟩ := h1 k1
  obtain ⟨a2, q2, w2⟩ := h2 k2
  exact ⟨mk a0 a1 a2, ⟨[c0], [c1, c2], rfl, by rw [hf]; exact q0, [c1], [c2], rfl, by rw [hf]; exact q1, by rw [hf]; exact q2⟩, by dsimp only; rw [hf]; exact ⟨w0, w1, w2⟩⟩
theorem op_struct4 {α β γ δ S : Type} {d0 : Kd α} {d1 : Kd β} {d2 : Kd γ} {d3 : Kd δ} {W0 : α → Prop} {W1 : β → Prop} {W2 : γ → Prop} {W3 : δ → Prop} {f0 f1 f2 f3 : Field} {f : S → α × β × γ × δ} (mk : α → β → γ → δ → S) (hf : ∀ a b c d, f (mk a b c d) = (a, b, c, d))
    (hs : P.underlying t = some (.struct #[f0, f1, f2, f3])) (hone : oneCellFields P #[f0, f1, f2, f3] = true) (hC : P.cellsOf t = 4) (h0 : Op P f0.type d0 W0) (h1 : Op P f1.type d1 W1) (h2 : Op P f2.type d2 W2) (h3 : Op P f3.type d3 W3) :
    Op P t (Kd.iso (Kd.pair d0 (Kd.pair d1 (Kd.pair d2 d3))) f) (fun x => W0 (f x).1 ∧ W1 (f x).2.1 ∧ W2 (f x).2.2.1 ∧ W3 (f x).2.2.2) := by
  intro H enc w base spare held fuel cs x h
  obtain ⟨hl, n, hF⟩ := fields_of hs hone hC h
  obtain ⟨c0, c1, c2, c3, rfl⟩ := len4 hl
  obtain ⟨y0, k0⟩ := hF 0 f0 c0 rfl rfl
  obtain ⟨y1, k1⟩ := hF 1 f1 c1 rfl rfl
  obtain ⟨y2, k2⟩ := hF 2 f2 c2 rfl rfl
  obtain ⟨y3, k3⟩ := hF 3 f3 c3 rfl rfl
  obtain ⟨a0, q0, w0⟩ := h0 k0
  obtain ⟨a1, q1, w1⟩ := h1 k1
  obtain ⟨a2, q2, w2⟩ := h2 k2
  obtain ⟨a3, q3, w3⟩ := h3 k3
  exact ⟨mk a0 a1 a2 a3, ⟨[c0], [c1, c2, c3], rfl, by rw [hf]; exact q0, [c1], [c2, c3], rfl, by rw [hf]; exact q1, [c2], [c3], rfl, by rw [hf]; exact q2, by rw [hf]; exact q3⟩, by dsimp only; rw [hf]; exact ⟨w0, w1, w2, w3⟩⟩

/-- A struct's value, by its list of cells. -/
theorem agg_of {cs : Array Value} {l : List Value} (h : cs.toList = l) : cs = l.toArray := by
  cases cs
  simp at h
  simp [h]
end Go.Proofs.Ytoddejmlcnbdmaa.OpenA
namespace Go.Proofs.Ytoddejmlcnbdmaa.fnExactAtPlace
open Go.ChangeShapes Go.WideShapes Go.ChangeAt Go.RowKit Go.Proofs.Ytoddejmlcnbdmaa.Fn Go.Proofs.YtoddejmlcnbdmaaW.PrintWords Go.Proofs.Ytoddejmlcnbdmaa.OpenA
open Go.ChangeMaps (open_string shut_string)
set_option linter.unusedVariables false
theorem own : ownKnob Try.prog.godebug = none := by kernel_rfl
theorem laidOut : laidOutB Try.prog = true := by kernel_rfl
theorem op115 : OpenA.Op Try.prog 115 k115 (fun x => ((x.f0.length ≤ maxLen ∧ ∀ y1 ∈ x.f0, y1.size ≤ maxLen) ∧ (x.f1.length ≤ maxLen ∧ ∀ y2 ∈ x.f1, y2.size ≤ maxLen) ∧ (x.f2.length ≤ maxLen ∧ ∀ y3 ∈ x.f2, (Lit.int .i64 y3).wf = true))) := op_struct3 (f := fun x : S115 => (x.f0, x.f1, x.f2)) S115.mk (fun _ _ _ => rfl) Try.underlying115 (by kernel_rfl) (by kernel_rfl) (op_slice Try.underlying38 (by kernel_rfl) (op_string Try.underlying9)) (op_slice Try.underlying38 (by kernel_rfl) (op_string Try.underlying9)) (op_slice Try.underlying108 (by kernel_rfl) (op_int Try.underlying3))
set_option maxRecDepth 100000 in
theorem lifted (os : Os) (started : os.Started) (H : Type) (enc : TypeId × Value → H) :
    ReturnsInHanded {} Try.checked os 7 .any (Rows.fnExactAtPlaceSpec.pre6 enc Try.prog Try.f7 Rows.fnExactAtPlaceRow.domain false) (Rows.fnExactAtPlaceSpec.post enc Try.prog Try.f7 false true false false) := by
  refine returnsInHanded_of_change_sized (C := Try.checked) own started (by kernel_rfl) Try.func7
    (ChangeSpec.witness6 (enc := enc) (C := Try.checked) false ⟨#[], #[.agg #[.slice none 0 0], .int .i64 0], []⟩ 8 (by kernel_rfl) (by kernel_rfl) (by kernel_rfl) (by kernel_rfl)) ?_
  intro W base args ds gs before hval0 hW hcnd hsz0 _
  have hsz : (DataW.weightsEach Try.prog (Try.f7.params.toList ++ Rows.fnExactAtPlaceSpec.plain.varTypes Try.prog) (ds ++ gs)).all (· ≤ reachBytes) = true := hsz0
  have hval : ∀ (j : Nat) t v, Try.f7.params[j]? = some t → args[j]? = some v → Value.okWide Try.prog W .any base t v := hval0
  have hW' := hW
  obtain ⟨p, q, hA0, hV, rfl, hfz, hnd⟩ := hW
  have hA : DataW.TrodAll enc Try.prog W 0 (fun _ => true) true Try.f7.params.toList args.toList ds p := hA0
  rw [Try.params7] at hA hval hsz
  obtain ⟨v0, vs0, d0, ds0, p0, q0, hargs, rfl, rfl, h0, r0⟩ := trodAll_cons hA
  obtain ⟨v1, vs1, d1, ds1, p1, q1, rfl, rfl, rfl, h1, r1⟩ := trodAll_cons r0
  obtain ⟨rfl, rfl, rfl⟩ := trodAll_nil r1
  obtain rfl : args = #[v0, v1] := by cases args; simp_all
  obtain ⟨rfl, rfl⟩ := trodVars_none hV
  obtain ⟨cs0, rfl, hz0⟩ := okWide_struct Try.underlying24 (hval 0 24 v0 rfl rfl)
  have k0 := h0
  have lt0 : ∀ x ∈ p0, x.block < W.heap.size := by obtain ⟨m, hm⟩ := k0; exact DataW.trod_lt m _ _ _ hm
  obtain ⟨fuel0, hf0⟩ := h0
  obtain ⟨hl0, n0, hF0⟩ := fields_of Try.underlying24 (by kernel_rfl) (by kernel_rfl) hf0
  obtain ⟨c0_0, e0⟩ := len1 hl0
  have e0' := agg_of (cs := cs0) (by simpa [Value.cells] using e0)
  obtain ⟨y0_0, k0_0⟩ := hF0 0 _ c0_0 rfl (by rw [e0]; rfl)
  obtain ⟨a0_0, q0_0, w0_0⟩ := (op_slice Try.underlying22 (by kernel_rfl) op115) k0_0
  obtain ⟨A0_0, b0_0, g0_0, hc0_0, hr0_0⟩ := q0_0
  obtain rfl := (List.cons.inj g0_0).1
  clear hF0
  subst e0'
  obtain ⟨a1, rfl, rfl, rfl, w1⟩ := open_int Try.underlying3 (hval 1 3 v1 rfl rfl) h1
  clear hA0 hval0 hsz0 hsz
  obtain ⟨k, h⟩ := Pure.FnExactAtPlace a0_0 a1 w0_0 w1
  refine (laws_FnExactAtPlace.calls k _ _ a0_0 a1 true W hr0_0 hc0_0 h rfl).mono fun e W' ⟨he, bel0⟩ => ?_
  have bel : Below W.heap.size W W' := bel0
  subst he
  exact ⟨_, rfl, _, _, _, [], _, [], hW', trodAll_mk1 (shut_bool Try.underlying4 _), (trodAll_cons_mk (Below.trod laidOut (by kernel_rfl) (of_decide_eq_true (by kernel_rfl)) k0 bel lt0) (trodAll_cons_mk (shut_int Try.underlying3 w1) trodAll_mk0)), rfl, bel.frame _, fun h => by cases h⟩
theorem over : Rows.fnExactAtPlaceRow.holds Try.pinned (OpenSpec.ofChange Rows.fnExactAtPlaceSpec) :=
  OpenClaim.holds_of_wide 7 Try.f7 rfl rfl rfl rfl rfl rfl rfl ⟨rfl, rfl, rfl, rfl, rfl⟩ rfl rfl rfl rfl rfl (by kernel_rfl) Try.func7 (by kernel_rfl)
    (of_decide_eq_true (by kernel_rfl)) (by unfold Func.isWrapper; first | (rw [if_pos (by decide +kernel)]; kernel_rfl) | (rw [if_neg (by decide +kernel)]; exact ⟨rfl, rfl⟩))
    (fun os started H enc _ => lifted os started H enc)
theorem proved : Rows.FnExactAtPlaceSaid := over
#print axioms proved
end Go.Proofs.Ytoddejmlcnbdmaa.fnExactAtPlace
namespace Go.Proofs.Ytoddejmlcnbdmaa
/-- The row, under a short name, for the claim. -/
theorem fnExactAtPlace_holds : Rows.FnExactAtPlaceSaid := fnExactAtPlace.proved
end Go.Proofs.Ytoddejmlcnbdmaa
