/- The law FnExactDropKey holds of the given program: at every input it answers true and leaves its arguments as they were; no condition. This text: part 2 of what its proof reaches. -/
import Derived.Deep.QuietTactic
import Derived.BigQuiet
import Derived.Laws.BitsLemmas
import Derived.Laws.BytesArg
import Derived.Test.YtoddejmlcnbdmaaCXDropKeyA
set_option maxHeartbeats 8000000
set_option maxRecDepth 100000
set_option linter.unusedVariables false
set_option linter.unusedSimpArgs false
open Go.Proofs.Ytoddejmlcnbdmaa.Fn
open Go.RowKit Go.Proofs.YtoddejmlcnbdmaaW.PrintWords Go.Proofs.YtoddejmlcnbdmaaW.PrintLast Go.Proofs.YtoddejmlcnbdmaaW.PrintMore Go.Proofs.Ytoddejmlcnbdmaa.Gen
namespace Go.Proofs.Ytoddejmlcnbdmaa.Tree
theorem Db {p0 q : Prop} (h0 : p0) (h : p0 -> q := by intro Dl; repeat (first | exact Dl | (with_reducible refine Rd.drewN ?_ _) | (with_reducible refine Rd.drew ?_))) : q := h h0
set_option maxHeartbeats 8000000
set_option maxRecDepth 100000
def VF (w0 : World) (k v : List ByteArray) (e : Ending) (w' : World) : Prop :=
 ∃ v1 v2, e = .returned (.tuple #[v1, v2]) /\ SR w' w0.heap.size v1 k /\ SR w' w0.heap.size v2 v /\ vF v1 v2 /\ Below w0.heap.size w0 w'
theorem iO {α : Type} {l x r r' L : List α} (h : l ++ r = L) (hr : r = x ++ r') : (l ++ x) ++ r' = L := by rw [<- h, hr, List.append_assoc]
theorem kP {α : Type} {l x r r' L : List α} {N : Nat} (h : l ++ r = L) (hr : r = x ++ r') (hL : L.length <= N) : l.length + x.length <= N := by
 have := congrArg List.length (iO h hr)
 simp only [List.length_append] at this
 omega
theorem DW.calls : ∀ (n : Nat) (t : PT), SizeOf.sizeOf t <= n -> qB t -> ∀ {p : Nat} (w0 w : World) (v1 v2 : Value) (l1 l2 : List ByteArray), Rd 96 w0 p t -> Below w0.heap.size w0 w -> SR w w0.heap.size v1 l1 -> SR w w0.heap.size v2 l2 -> vF v1 v2 ->
  (l1 ++ bY t).length <= 8796093022208 -> (l2 ++ fT t).length <= 8796093022208 -> Calls Try.prog 65 #[bO p, v1, v2] w (VF w0 (l1 ++ bY t) (l2 ++ fT t)) := by
 intro n
 induction n with
 | zero =>
  intro t hs
  cases t with | mk keys vals kids => simp at hs
 | succ n ih =>
  intro t hs hf p w0 w v1 v2 l1 l2 hrd hB ho1 ho2 hne hb1 hb2
  obtain ⟨Ak, ck, Av, cv, Ac, cc, ps, Ab⟩ := hrd.open
  have HN := A_ Ab
  have HB := A_ hB
  have qj := A_ ho1
  have ql := A_ ho2
  have uC := A_ hne
  obtain ⟨L1, hL1⟩ : ∃ L, L = l1 ++ bY t := ⟨_, rfl⟩
  obtain ⟨L2, hL2⟩ : ∃ L, L = l2 ++ fT t := ⟨_, rfl⟩
  rw [<- hL1, <- hL2]
  rw [<- hL1] at hb1
  rw [<- hL2] at hb2
  have OL := A_ hb1
  have HL2 := A_ hb2
  have HR1 := A_ (show l1 ++ mU t 0 = L1 by rw [Dz, hL1])
  have HR2 := A_ (show l2 ++ oN t 0 = L2 by rw [DC, hL2])
  have h1 := hf.one
  unfold xZ at h1
  have vQ := A_ h1
  have HF := A_ hf
  have KG := A_ hs
  have hm : t.keys.length <= 1000 := h1.2.1
  clear hrd hB ho1 ho2 hne hb1 hb2 hL1 hL2 Ab h1 hf hs
  go_enter Try.func65, Try.ntmps65
  go_wp2
  go_loopg [1, 2, 8] (t.keys.length + 1) (fun kq u1 u2 u8 w' => ∃ (i : Nat) (x1 x2 : List ByteArray), u8 = .int .i64 (i : Int) /\ ae (kq + i = t.keys.length + 1) /\ ae (x1 ++ mU t i = L1) /\ ae (x2 ++ oN t i = L2) /\ ae (SR w' w0.heap.size u1 x1) /\ ae (SR w' w0.heap.size u2 x2) /\ ae (vF u1 u2) /\ ae (Below w0.heap.size w0 w'))
  case atStart => exact ⟨0, l1, l2, by first | rfl | (simp; done), ⟨Nat.add_zero _⟩, HR1, HR2, qj, ql, uC, HB⟩
  case round =>
   clear HR1 HR2 qj ql uC HB
   obtain ⟨i, x1, x2, rfl, HK, HR1, HR2, qj, ql, uC, HB⟩ := hrel
   have Xn := A_ (HN.out.below HB.out)
   have WG := A_ Xn.out.rd
   have hz0 := Xn.out.z0
   have hz2 := Xn.out.z2
   by_cases hi : i <= t.keys.length
   ·have ce := pF ((i : Int) <= (t.keys.length : Int))
    have BU : (i <= t.keys.length) = True := eq_true hi
    have ci := dN (0 <= (i : Int))
    have hJ : i <= 1000 := (by omega)
    have HI := A_ hi
    by_cases h0 : t.kids.length = 0
    ·have hbl := A_ (show decide ((t.kids.length : Int) = 0) = true from decide_eq_true (by omega))
     by_cases hlt : i < t.keys.length
     ·obtain ⟨r1, hr1⟩ : ∃ r, mU t (i + 1) = r := ⟨_, rfl⟩
      obtain ⟨adk, rfl, hk0⟩ := HN.out.key i (by omega) (by omega)
      obtain ⟨RU, rfl, hv0⟩ := HN.out.val i (by omega) (by have := vQ.out; omega)
      rw [Int.toNat_natCast] at hk0 hv0
      obtain ⟨kx, hkx⟩ : ∃ x, x = cK ByteArray.empty t.keys (i : Int) := ⟨_, rfl⟩
      obtain ⟨vx, RV⟩ : ∃ x, x = cK ByteArray.empty t.vals (i : Int) := ⟨_, rfl⟩
      rw [<- hkx] at hk0
      rw [<- RV] at hv0
      have e1 := DD h0 hlt
      have e2 := DF h0 (i := i) (by have := vQ.out; omega)
      rw [show t.keys.getD i ByteArray.empty = kx from hkx.symm] at e1
      rw [show t.vals.getD i ByteArray.empty = vx from RV.symm] at e2
      have qa := A_ (iO (x := [kx]) HR1.out e1)
      have HE2 := A_ (iO (x := [vx]) HR2.out e2)
      have HZ1 := A_ (show x1.length + 1 <= 8796093022208 from kP (x := [kx]) HR1.out e1 OL.out)
      have HZ2 := A_ (show x2.length + 1 <= 8796093022208 from kP (x := [vx]) HR2.out e2 HL2.out)
      have WH := A_ hk0
      have pX := A_ hv0
      have hlc := pF ((i : Int) < (t.keys.length : Int))
      have hlb : (i < t.keys.length) = True := eq_true hlt
      have hva : ((i : Int) < (t.vals.length : Int)) = True := eq_true (by have := vQ.out; omega)
      have hvb : (i < t.vals.length) = True := eq_true (by have := vQ.out; omega)
      have YM := (HB.out.cell (World.block_lt_of_cell? w0 _ hk0)).trans hk0
      have hz1 := Xn.out.z1
      clear hk0 hv0 hkx RV e1 e2 hi hlt h0 hr1 HR1 HR2
      go_wp2_with (first | (go_at_call 84; (with_reducible refine (dZ.dQ true hbl.out _ ?aj).mono ?_); (case aj => exact Db WG.out); rintro e w' ⟨rfl, ⟨nd, rfl⟩⟩) | ((with_reducible refine di (b := .append) (xs := #[.tmp 41, .tmp 49]) rfl ?_); at_builtin; refine Kd.uh Kd.string (w0 := w0) w0.heap.size rfl (.tmp 41) (.tmp 49) 38 9 (.string ⟨#[]⟩) 16 rfl Try.underlying38 eU rfl (by decide) (by omega) u1 x1 kx [.string kx] (fun _ => True) (fun _ => False) rfl rfl ?aP (fun _ hk => hk.elim) ?aF ?aO ?aB ?aS ?aL ?_; (case aP => exact rfl); (case aB => exact ko HB.out); (case aF => exact fun _ _ => trivial); (case aO => exact qU qj.out); (case aS => exact iU HB.out); (case aL => have := HZ1.out; omega); intro u1' w7 ho hb hg hat; have az := A_ ho; have aG := A_ (SR.far (SR.FP (qU ql.out)) hg (Bn uC.out)); have lG := A_ (SR.ne (SR.FP (qU ql.out)) hat uC.out); have p8 := A_ hb; have hz1' := (HN.out.below hb).z1; have hz0' := (HN.out.below hb).z0; have hzv' := (hb.cell (World.block_lt_of_cell? w0 _ pX.out)).trans pX.out; clear qj ql uC HB; have qj := az; have ql := aG; have uC := lG; have HB := p8; clear az aG lG p8 ho hb hg hat) | ((with_reducible refine di (b := .append) (xs := #[.tmp 51, .tmp 59]) rfl ?_); at_builtin; refine Kd.uh Kd.string (w0 := w0) w0.heap.size rfl (.tmp 51) (.tmp 59) 38 9 (.string ⟨#[]⟩) 16 rfl Try.underlying38 eU rfl (by decide) (by omega) u2 x2 vx [.string vx] (fun _ => True) (fun _ => False) rfl rfl ?aP (fun _ hk => hk.elim) ?aF ?aO ?aB ?aS ?aL ?_; (case aP => exact rfl); (case aB => exact ko HB.out); (case aF => exact fun _ _ => trivial); (case aO => exact qU ql.out); (case aS => exact iU HB.out); (case aL => have := HZ2.out; omega); intro u2' w8 ho hb hg hat; have az := A_ ho; have aG := A_ (SR.far (SR.FP (qU qj.out)) hg uC.out); have lG := A_ (Bn (SR.ne (SR.FP (qU qj.out)) hat (Bn uC.out))); have p8 := A_ hb; clear qj ql uC HB; have ql := az; have qj := aG; have uC := lG; have HB := p8; clear az aG lG p8 ho hb hg hat))
      go_roundg (t.keys.length - i)
      case measure => have := HK.out; have := HI.out; omega
      case rel => exact ⟨i + 1, _, _, by first | rfl | go_num | (simp; done), ⟨by have := HK.out; have := HI.out; omega⟩, qa, HE2, ⟨SR.FP (qU qj.out)⟩, ⟨SR.FP (qU ql.out)⟩, uC, ⟨ko HB.out⟩⟩
     ·obtain rfl : i = t.keys.length := by omega
      have qa := A_ (show x1 ++ mU t (t.keys.length + 1) = L1 by rw [<- HR1.out, tY (by omega) (by omega), tY (by omega) (by omega)])
      have HE2 := A_ (show x2 ++ oN t (t.keys.length + 1) = L2 by have := vQ.out; rw [<- HR2.out, tZ (by omega) (by omega), tZ (by omega) (by omega)])
      have hlc := mZ ((t.keys.length : Int) < (t.keys.length : Int))
      clear hi hlt h0 HR1 HR2
      go_wp2_with (first | (go_at_call 84; (with_reducible refine (dZ.dQ true hbl.out _ ?aj).mono ?_); (case aj => exact Db WG.out); rintro e w' ⟨rfl, ⟨nd, rfl⟩⟩))
      go_roundg (t.keys.length - t.keys.length)
      case measure => have := HK.out; have := HI.out; omega
      case rel => exact ⟨t.keys.length + 1, _, _, by first | rfl | go_num | (simp; done), ⟨by have := HK.out; have := HI.out; omega⟩, qa, HE2, ⟨SR.FP (qU qj.out)⟩, ⟨SR.FP (qU ql.out)⟩, uC, ⟨ko HB.out⟩⟩
    ·have hbl := A_ (show decide ((t.kids.length : Int) = 0) = false from decide_eq_false (by omega))
     have hkl : t.kids.length = t.keys.length + 1 := vQ.out.2.2.resolve_left h0
     obtain ⟨adc, q, s, rfl, hc0, hs, hrs⟩ := HN.out.kid i (by omega) (by omega)
     rw [Int.toNat_natCast] at hc0 hs
     have HS := A_ hs
     have Vk := A_ hrs
     have hzc := (HB.out.cell (World.block_lt_of_cell? w0 _ hc0)).trans hc0
     have hca := dN ((i : Int) < (t.kids.length : Int))
     have hcb := dN (i < t.kids.length)
     by_cases hlt : i < t.keys.length
     ·obtain ⟨r1, hr1⟩ : ∃ r, mU t (i + 1) = r := ⟨_, rfl⟩
      obtain ⟨adk, rfl, hk0⟩ := HN.out.key i (by omega) (by omega)
      obtain ⟨RU, rfl, hv0⟩ := HN.out.val i (by omega) (by have := vQ.out; omega)
      rw [Int.toNat_natCast] at hk0 hv0
      obtain ⟨kx, hkx⟩ : ∃ x, x = cK ByteArray.empty t.keys (i : Int) := ⟨_, rfl⟩
      obtain ⟨vx, RV⟩ : ∃ x, x = cK ByteArray.empty t.vals (i : Int) := ⟨_, rfl⟩
      rw [<- hkx] at hk0
      rw [<- RV] at hv0
      have e1 := DI hs hlt
      have e2 := DJ hs (i := i) (by have := vQ.out; omega)
      rw [show t.keys.getD i ByteArray.empty = kx from hkx.symm] at e1
      rw [show t.vals.getD i ByteArray.empty = vx from RV.symm] at e2
      have OM := iO HR1.out e1
      have OO := iO HR2.out e2
      have qa := A_ (iO (x := [kx]) OM rfl)
      have HE2 := A_ (iO (x := [vx]) OO rfl)
      have HZ1 := A_ (show (x1 ++ bY s).length <= 8796093022208 by rw [List.length_append]; exact kP HR1.out e1 OL.out)
      have HZ2 := A_ (show (x2 ++ fT s).length <= 8796093022208 by rw [List.length_append]; exact kP HR2.out e2 HL2.out)
      have HZ3 := A_ (show (x1 ++ bY s).length + 1 <= 8796093022208 from kP (x := [kx]) OM rfl OL.out)
      have HZ4 := A_ (show (x2 ++ fT s).length + 1 <= 8796093022208 from kP (x := [vx]) OO rfl HL2.out)
      have WH := A_ hk0
      have pX := A_ hv0
      have hlc := pF ((i : Int) < (t.keys.length : Int))
      have hlb : (i < t.keys.length) = True := eq_true hlt
      have hva : ((i : Int) < (t.vals.length : Int)) = True := eq_true (by have := vQ.out; omega)
      have hvb : (i < t.vals.length) = True := eq_true (by have := vQ.out; omega)
      clear hk0 hv0 hkx RV e1 e2 hi hlt h0 hr1 HR1 HR2 OM OO hkl hs hrs hc0
      go_wp2_with (first | (go_at_call 84; (with_reducible refine (dZ.dQ false hbl.out _ ?aj).mono ?_); (case aj => exact Db WG.out); rintro e w' ⟨rfl, ⟨nd, rfl⟩⟩) | (go_at_call 65; (with_reducible refine (ih s (by have := PT.iL HS.out; have := KG.out; omega) (HF.out.kid HS.out) w0 _ u1 u2 x1 x2 Vk.out ?aU ?fM ?fO uC.out HZ1.out HZ2.out).mono ?_); (case aU => exact ko HB.out); (case fM => exact SR.FP (qU qj.out)); (case fO => exact SR.FP (qU ql.out)); rintro e w5 ⟨u3, u4, rfl, ho1, ho2, hne, hb⟩; have az := A_ ho1; have aG := A_ ho2; have lG := A_ hne; have p8 := A_ hb; have hz0' := (HN.out.below hb).z0; have hzk' := (hb.cell (World.block_lt_of_cell? w0 _ WH.out)).trans WH.out; clear qj ql uC HB; have qj := az; have ql := aG; have uC := lG; have HB := p8; clear az aG lG p8 ho1 ho2 hne hb) | ((with_reducible refine di (b := .append) (xs := #[.tmp 41, .tmp 49]) rfl ?_); at_builtin; refine Kd.uh Kd.string (w0 := w0) w0.heap.size rfl (.tmp 41) (.tmp 49) 38 9 (.string ⟨#[]⟩) 16 rfl Try.underlying38 eU rfl (by decide) (by omega) u3 (x1 ++ bY s) kx [.string kx] (fun _ => True) (fun _ => False) rfl rfl ?aP (fun _ hk => hk.elim) ?aF ?aO ?aB ?aS ?aL ?_; (case aP => exact rfl); (case aB => exact ko HB.out); (case aF => exact fun _ _ => trivial); (case aO => exact qU qj.out); (case aS => exact iU HB.out); (case aL => have := HZ3.out; omega); intro u1' w7 ho hb hg hat; have az := A_ ho; have aG := A_ (SR.far (SR.FP (qU ql.out)) hg (Bn uC.out)); have lG := A_ (SR.ne (SR.FP (qU ql.out)) hat uC.out); have p8 := A_ hb; have hz1' := (HN.out.below hb).z1; have hz0b := (HN.out.below hb).z0; have hzv' := (hb.cell (World.block_lt_of_cell? w0 _ pX.out)).trans pX.out; clear qj ql uC HB; have qj := az; have ql := aG; have uC := lG; have HB := p8; clear az aG lG p8 ho hb hg hat) | ((with_reducible refine di (b := .append) (xs := #[.tmp 51, .tmp 59]) rfl ?_); at_builtin; refine Kd.uh Kd.string (w0 := w0) w0.heap.size rfl (.tmp 51) (.tmp 59) 38 9 (.string ⟨#[]⟩) 16 rfl Try.underlying38 eU rfl (by decide) (by omega) u4 (x2 ++ fT s) vx [.string vx] (fun _ => True) (fun _ => False) rfl rfl ?aP (fun _ hk => hk.elim) ?aF ?aO ?aB ?aS ?aL ?_; (case aP => exact rfl); (case aB => exact ko HB.out); (case aF => exact fun _ _ => trivial); (case aO => exact qU ql.out); (case aS => exact iU HB.out); (case aL => have := HZ4.out; omega); intro u2' w8 ho hb hg hat; have az := A_ ho; have aG := A_ (SR.far (SR.FP (qU qj.out)) hg uC.out); have lG := A_ (Bn (SR.ne (SR.FP (qU qj.out)) hat (Bn uC.out))); have p8 := A_ hb; clear qj ql uC HB; have ql := az; have qj := aG; have uC := lG; have HB := p8; clear az aG lG p8 ho hb hg hat))
      go_roundg (t.keys.length - i)
      case measure => have := HK.out; have := HI.out; omega
      case rel => exact ⟨i + 1, _, _, by first | rfl | go_num | (simp; done), ⟨by have := HK.out; have := HI.out; omega⟩, qa, HE2, ⟨SR.FP (qU qj.out)⟩, ⟨SR.FP (qU ql.out)⟩, uC, ⟨ko HB.out⟩⟩
     ·obtain rfl : i = t.keys.length := by omega
      have e1 := DK hs (Nat.le_refl _) hkl
      have e2 := DL hs (by have := vQ.out; omega) hkl
      have qa := A_ (iO HR1.out e1)
      have HE2 := A_ (iO HR2.out e2)
      have HZ1 := A_ (show (x1 ++ bY s).length <= 8796093022208 by rw [List.length_append]; exact kP HR1.out e1 OL.out)
      have HZ2 := A_ (show (x2 ++ fT s).length <= 8796093022208 by rw [List.length_append]; exact kP HR2.out e2 HL2.out)
      have hlc := mZ ((t.keys.length : Int) < (t.keys.length : Int))
      clear hi hlt h0 HR1 HR2 e1 e2 hkl hs hrs hc0
      go_wp2_with (first | (go_at_call 84; (with_reducible refine (dZ.dQ false hbl.out _ ?aj).mono ?_); (case aj => exact Db WG.out); rintro e w' ⟨rfl, ⟨nd, rfl⟩⟩) | (go_at_call 65; (with_reducible refine (ih s (by have := PT.iL HS.out; have := KG.out; omega) (HF.out.kid HS.out) w0 _ u1 u2 x1 x2 Vk.out ?aU ?fM ?fO uC.out HZ1.out HZ2.out).mono ?_); (case aU => exact ko HB.out); (case fM => exact SR.FP (qU qj.out)); (case fO => exact SR.FP (qU ql.out)); rintro e w5 ⟨u3, u4, rfl, ho1, ho2, hne, hb⟩; have az := A_ ho1; have aG := A_ ho2; have lG := A_ hne; have p8 := A_ hb; have hz0' := (HN.out.below hb).z0;  clear qj ql uC HB; have qj := az; have ql := aG; have uC := lG; have HB := p8; clear az aG lG p8 ho1 ho2 hne hb))
      go_roundg (t.keys.length - t.keys.length)
      case measure => have := HK.out; have := HI.out; omega
      case rel => exact ⟨t.keys.length + 1, _, _, by first | rfl | go_num | (simp; done), ⟨by have := HK.out; have := HI.out; omega⟩, qa, HE2, ⟨SR.FP (qU qj.out)⟩, ⟨SR.FP (qU ql.out)⟩, uC, ⟨ko HB.out⟩⟩
   ·have ce := mZ ((i : Int) <= (t.keys.length : Int))
    have BU : (i <= t.keys.length) = False := eq_false hi
    have qa := show x1 = L1 by have := vQ.out; rw [<- HR1.out, tY (by omega) (by omega), List.append_nil]
    have HE2 := show x2 = L2 by have := vQ.out; rw [<- HR2.out, tZ (by omega) (by omega), List.append_nil]
    subst qa
    subst HE2
    clear hi
    go_wp2
    go_ret2
    exact ⟨_, _, rfl, SR.FP (qU qj.out), SR.FP (qU ql.out), uC.out, ko HB.out⟩
theorem uP {p0 q : Prop} (h0 : p0) (h : p0 -> q := by intro Dl; repeat (first | exact Dl | (with_reducible refine Rd.drewN ?_ _) | (with_reducible refine Rd.drew ?_))) : q := h h0
set_option maxHeartbeats 8000000
set_option maxRecDepth 100000
theorem dU.dQ {p : Nat} {t : PT} (b : Bool) (hb : decide ((t.kids.length : Int) = 0) = b) (w : World) (h : Rd 101 w p t) :
  Calls Try.prog 99 #[bO p] w fun e w' => e = .returned (.bool b) /\ ak w w' := by
 subst hb
 obtain ⟨Ak, ck, Av, cv, Ac, cc, ps, HN⟩ := h.open
 have hz := HN.z2
 clear HN h
 go_enter Try.func99, Try.ntmps99
 go_wp2
 go_ret
 exact ⟨by first | rfl | (simp; done), by repeat (first | exact ak.refl _ | apply ak.step)⟩
theorem yc.calls : ∀ (n : Nat) (t : PT), SizeOf.sizeOf t <= n -> Nu t -> ∀ (d : Int) (b : Bool), jo t = (d, b) -> ∀ {p : Nat} (w : World), Rd 101 w p t ->
  Calls Try.prog 62 #[bO p] w fun e w' => e = .returned (.tuple #[.int .i64 d, .bool b]) /\ ak w w' := by
 intro n
 induction n with
 | zero =>
  intro t hs
  cases t with | mk keys vals kids => simp at hs
 | succ n ih =>
  intro t hs hf d b hr p w h
  by_cases h0 : t.kids.length = 0
  ·have HO := A_ h
   have he := Cj h0
   rw [hr] at he
   injection he with e1 e2
   subst e1; subst e2
   have hb0 := A_ (show decide ((t.kids.length : Int) = 0) = true from decide_eq_true (by omega))
   clear h h0 hr
   go_enter Try.func62, Try.ntmps62
   go_wp2_with (go_at_call 99; (with_reducible refine (dU.dQ true hb0.out _ ?aj).mono ?_); (case aj => exact uP HO.out); rintro e w' ⟨rfl, ⟨nd, rfl⟩⟩)
   go_ret2
   exact ⟨by first | done | rfl, by repeat (first | exact ak.refl _ | apply ak.step)⟩
  ·have HO := A_ h
   have hb0 := A_ (show decide ((t.kids.length : Int) = 0) = false from decide_eq_false (by omega))
   obtain ⟨Ak, ck, Av, cv, Ac, cc, ps, HN⟩ := h.open
   have hz0 := HN.z0
   have hz2 := HN.z2
   have HN' := A_ HN
   have HF := A_ hf
   have KG := A_ hs
   have HL := A_ (show 0 < t.kids.length by omega)
   have HE := A_ (hr.symm.trans (Cm h0))
   clear h h0 HN hf hs hr
   go_enter Try.func62, Try.ntmps62
   go_upto_region 5 with (go_at_call 99; (with_reducible refine (dU.dQ false hb0.out _ ?aj).mono ?_); (case aj => exact uP HO.out); rintro e w' ⟨rfl, ⟨nd, rfl⟩⟩)
   go_loopg [4, 16] t.kids.length (fun kq v4 v16 w' => ∃ (i m : Nat) (f : Int), v16 = .int .i64 (i : Int) /\ v4 = .int .i64 f /\ ae (kq + i = t.kids.length) /\ ae ((d, b) = xX t.keys.length (iX i f (t.kids.drop i))) /\ w' = w.drewN m)
   case atStart => exact ⟨0, _, 0, by first | rfl | (simp; done), rfl, ⟨Nat.add_zero _⟩, HE, rfl⟩
   case round =>
    clear HE
    obtain ⟨i, m, f, rfl, rfl, HK, HE, rfl⟩ := hrel
    by_cases hi : i < t.kids.length
    ·obtain ⟨ad, q, s, rfl, hz, hs, ho⟩ := HN'.out.kid i (by omega) (by omega)
     rw [Int.toNat_natCast] at hz hs
     obtain ⟨KH, ck1, Bh, xW, YN, Xo, ps1, HN1⟩ := ho.open
     have YM := HN1.z0
     have HS := A_ hs
     have H1 := A_ ho
     have HI := A_ hi
     have ce := pF ((i : Int) < (t.kids.length : Int))
     have cea := dN ((i : Int) < (t.kids.length : Int))
     have BU : (i < t.kids.length) = True := eq_true hi
     have cec := dN (0 <= (i : Int))
     obtain ⟨d1, b1, hdb⟩ : ∃ d1 b1, jo s = (d1, b1) := ⟨_, _, rfl⟩
     have HD := A_ hdb
     clear HN1 ho hs hi hdb
     cases b1 with
     | false =>
      have qa := A_ (xY HS.out HE.out (.inl (by rw [HD.out])))
      go_wp2_with (go_at_call 62; (with_reducible refine (ih s (by have := PT.iL HS.out; have := KG.out; omega) (HF.out.kid HS.out) d1 false HD.out _ ?aj).mono ?_); (case aj => exact uP H1.out); rintro e w' ⟨rfl, ⟨nd, rfl⟩⟩)
      go_ret2
      have := qa.out
      injection this with e1 e2
      exact ⟨by rw [e1, e2]; first | done | rfl, by repeat (first | exact ak.refl _ | apply ak.step | exact ⟨_, rfl⟩)⟩
     | true =>
      by_cases hk : s.keys.length < 2
      ·have qa := A_ (xY HS.out HE.out (.inr (.inl hk)))
       have hkb := pF ((s.keys.length : Int) < 2)
       clear hk
       go_wp2_with (go_at_call 62; (with_reducible refine (ih s (by have := PT.iL HS.out; have := KG.out; omega) (HF.out.kid HS.out) d1 true HD.out _ ?aj).mono ?_); (case aj => exact uP H1.out); rintro e w' ⟨rfl, ⟨nd, rfl⟩⟩)
       go_ret2
       have := qa.out
       injection this with e1 e2
       exact ⟨by rw [e1, e2]; first | done | rfl, by repeat (first | exact ak.refl _ | apply ak.step | exact ⟨_, rfl⟩)⟩
      ·have hkb := mZ ((s.keys.length : Int) < 2)
       by_cases h3 : i = 0 ∨ d1 = f
       ·have qa := A_ (Q3 HS.out HE.out (by rw [HD.out]) hk (by rw [HD.out]; exact h3))
        have hm : t.kids.length <= 1048576 := HF.out.len
        have hj : i < t.kids.length := HI.out
        rw [HD.out] at qa
        clear hk
        by_cases hi0 : 0 < i
        ·obtain rfl : d1 = f := h3.resolve_left (by omega)
         have hi0b := pF (0 < (i : Int))
         have hi0c : (0 < i) = True := eq_true hi0
         clear hi0 h3
         go_wp2_with (go_at_call 62; (with_reducible refine (ih s (by have := PT.iL HS.out; have := KG.out; omega) (HF.out.kid HS.out) d1 true HD.out _ ?aj).mono ?_); (case aj => exact uP H1.out); rintro e w' ⟨rfl, ⟨nd, rfl⟩⟩)
         go_roundg (t.kids.length - (i + 1))
         case measure => have := HK.out; omega
         case rel => exact ⟨i + 1, _, d1, by first | rfl | go_num | (simp; done), rfl, ⟨by omega⟩, qa, rfl⟩
        ·have hi0b := mZ (0 < (i : Int))
         have hi0c : (0 < i) = False := eq_false hi0
         clear hi0 h3
         go_wp2_with (go_at_call 62; (with_reducible refine (ih s (by have := PT.iL HS.out; have := KG.out; omega) (HF.out.kid HS.out) d1 true HD.out _ ?aj).mono ?_); (case aj => exact uP H1.out); rintro e w' ⟨rfl, ⟨nd, rfl⟩⟩)
         go_roundg (t.kids.length - (i + 1))
         case measure => have := HK.out; omega
         case rel => exact ⟨i + 1, _, d1, by first | rfl | go_num | (simp; done), rfl, ⟨by omega⟩, qa, rfl⟩
       ·have h4 : 0 < i /\ d1 ≠ f := ⟨by omega, fun e => h3 (.inr e)⟩
        have qa := A_ (xY HS.out HE.out (.inr (.inr ⟨h4.1, by rw [HD.out]; exact h4.2⟩)))
        have hi0b := pF (0 < (i : Int))
        have hi0c : (0 < i) = True := eq_true h4.1
        have hne : (d1 != f) = true := by simpa using h4.2
        clear hk h3 h4
        go_wp2_with (go_at_call 62; (with_reducible refine (ih s (by have := PT.iL HS.out; have := KG.out; omega) (HF.out.kid HS.out) d1 true HD.out _ ?aj).mono ?_); (case aj => exact uP H1.out); rintro e w' ⟨rfl, ⟨nd, rfl⟩⟩)
        go_ret2
        have := qa.out
        injection this with e1 e2
        exact ⟨by rw [e1, e2]; first | done | rfl, by repeat (first | exact ak.refl _ | apply ak.step | exact ⟨_, rfl⟩)⟩
    ·have ce := mZ ((i : Int) < (t.kids.length : Int))
     have BU : (i < t.kids.length) = False := eq_false (by omega)
     have qa := Nv (by omega) HE.out
     injection qa with e1 e2
     subst e1; subst e2
     clear hi HE
     go_wp2
     go_quiet (fail)
     go_wp2
     go_ret2
     exact ⟨by first | done | rfl | simp [xO] | simp [IntKind.wrap_i64, wrap64], by repeat (first | exact ak.refl _ | apply ak.step | exact ⟨_, rfl⟩)⟩
set_option maxHeartbeats 8000000
set_option maxRecDepth 100000
theorem gz {w w' : World} (h : ak w w') : Below w.heap.size w w' := by
 obtain ⟨n, rfl⟩ := h.out
 exact ah (Below.refl _ _) n
theorem nI {N : Nat} {w w' : World} (h : ak w w') : Below N w w' := by
 obtain ⟨n, rfl⟩ := h.out
 exact ah (Below.refl _ _) n
theorem zb.calls : ∀ (n : Nat) (t : PT), SizeOf.sizeOf t <= n -> qB t -> ∀ {p : Nat} (w0 w : World) (v1 v2 : Value) (l1 l2 : List ByteArray), Rd 101 w0 p t -> Below w0.heap.size w0 w -> SR w w0.heap.size v1 l1 -> SR w w0.heap.size v2 l2 -> vF v1 v2 ->
  (l1 ++ bY t).length <= 8796093022208 -> (l2 ++ fT t).length <= 8796093022208 -> Calls Try.prog 66 #[bO p, v1, v2] w (VF w0 (l1 ++ bY t) (l2 ++ fT t)) := by
 intro n
 induction n with
 | zero =>
  intro t hs
  cases t with | mk keys vals kids => simp at hs
 | succ n ih =>
  intro t hs hf p w0 w v1 v2 l1 l2 hrd hB ho1 ho2 hne hb1 hb2
  obtain ⟨Ak, ck, Av, cv, Ac, cc, ps, Ab⟩ := hrd.open
  have HN := A_ Ab
  have HB := A_ hB
  have qj := A_ ho1
  have ql := A_ ho2
  have uC := A_ hne
  obtain ⟨L1, hL1⟩ : ∃ L, L = l1 ++ bY t := ⟨_, rfl⟩
  obtain ⟨L2, hL2⟩ : ∃ L, L = l2 ++ fT t := ⟨_, rfl⟩
  rw [<- hL1, <- hL2]
  rw [<- hL1] at hb1
  rw [<- hL2] at hb2
  have OL := A_ hb1
  have HL2 := A_ hb2
  have HR1 := A_ (show l1 ++ mU t 0 = L1 by rw [Dz, hL1])
  have HR2 := A_ (show l2 ++ oN t 0 = L2 by rw [DC, hL2])
  have h1 := hf.one
  unfold xZ at h1
  have vQ := A_ h1
  have HF := A_ hf
  have KG := A_ hs
  have hm : t.keys.length <= 1000 := h1.2.1
  have hz0 := (Ab.below hB).z0
  clear hrd hB ho1 ho2 hne hb1 hb2 hL1 hL2 Ab h1 hf hs
  go_enter Try.func66, Try.ntmps66
  go_wp2
  go_loopg [1, 2, 15] t.keys.length (fun kq u1 u2 u15 w' => ∃ (i : Nat) (x1 x2 : List ByteArray), u15 = .int .i64 (i : Int) /\ ae (kq + i = t.keys.length) /\ ae (x1 ++ mU t i = L1) /\ ae (x2 ++ oN t i = L2) /\ ae (SR w' w0.heap.size u1 x1) /\ ae (SR w' w0.heap.size u2 x2) /\ ae (vF u1 u2) /\ ae (Below w0.heap.size w0 w'))
  case atStart => exact ⟨0, l1, l2, by first | rfl | (simp; done), ⟨Nat.add_zero _⟩, HR1, HR2, qj, ql, uC, HB⟩
  case round =>
   clear HR1 HR2 qj ql uC HB hz0
   obtain ⟨i, x1, x2, rfl, HK, HR1, HR2, qj, ql, uC, HB⟩ := hrel
   have Xn := A_ (HN.out.below HB.out)
   have WG := A_ Xn.out.rd
   have hz0 := Xn.out.z0
   have hz2 := Xn.out.z2
   have ci := dN (0 <= (i : Int))
   by_cases hi : i < t.keys.length
   ·have ce := pF ((i : Int) < (t.keys.length : Int))
    have BU : (i < t.keys.length) = True := eq_true hi
    have hJ : i <= 1000 := (by omega)
    have HI := A_ hi
    obtain ⟨adk, rfl, hk0⟩ := HN.out.key i (by omega) (by omega)
    obtain ⟨RU, rfl, hv0⟩ := HN.out.val i (by omega) (by have := vQ.out; omega)
    rw [Int.toNat_natCast] at hk0 hv0
    obtain ⟨kx, hkx⟩ : ∃ x, x = cK ByteArray.empty t.keys (i : Int) := ⟨_, rfl⟩
    obtain ⟨vx, RV⟩ : ∃ x, x = cK ByteArray.empty t.vals (i : Int) := ⟨_, rfl⟩
    rw [<- hkx] at hk0
    rw [<- RV] at hv0
    by_cases h0 : t.kids.length = 0
    ·have hbl := A_ (show decide ((t.kids.length : Int) = 0) = true from decide_eq_true (by omega))
     have e1 := DD h0 hi
     have e2 := DF h0 (i := i) (by have := vQ.out; omega)
     rw [show t.keys.getD i ByteArray.empty = kx from hkx.symm] at e1
     rw [show t.vals.getD i ByteArray.empty = vx from RV.symm] at e2
     have qa := A_ (iO (x := [kx]) HR1.out e1)
     have HE2 := A_ (iO (x := [vx]) HR2.out e2)
     have HZ1 := A_ (show x1.length + 1 <= 8796093022208 from kP (x := [kx]) HR1.out e1 OL.out)
     have HZ2 := A_ (show x2.length + 1 <= 8796093022208 from kP (x := [vx]) HR2.out e2 HL2.out)
     have pX := A_ hv0
     have YM := (Below.cell HB.out (World.block_lt_of_cell? w0 _ hk0)).trans hk0
     have hva : ((i : Int) < (t.vals.length : Int)) = True := eq_true (by have := vQ.out; omega)
     have hvb : (i < t.vals.length) = True := eq_true (by have := vQ.out; omega)
     clear hk0 hv0 hkx RV e1 e2 hi h0 HR1 HR2
     go_wp2_with ((go_at_call 99; (with_reducible refine (dU.dQ true hbl.out _ ?aj).mono ?_); (case aj => exact WG.out); rintro e w6 ⟨rfl, hd⟩; have az := A_ (HB.out.trans (nI hd)); have hz0' := (HN.out.below az.out).z0; have hz2' := (HN.out.below az.out).z2; have aG := A_ (SR.under qj.out (gz hd)); have lG := A_ (SR.under ql.out (gz hd)); clear hd; clear HB; clear qj; clear ql; have HB := az; have qj := aG; have ql := lG; clear az aG lG))
     have HS2 := A_ (Sat.two qj.out ql.out uC.out)
     refine dL (n := 16) (S := fun w' => w'.cell? ⟨p, 1, none⟩ = some (.slice (some RU) t.vals.length cv) /\ w'.cell? (RU.add i) = some (.string vx)) (ds := []) (bt 16 0) (by kernel_rfl) rfl rfl ⟨(HN.out.below (aH HB.out)).z1, (Below.cell (aH HB.out) (World.block_lt_of_cell? w0 _ pX.out)).trans pX.out⟩ (fun hHeld => ?_)
     refine aQ 0 36 1 ?_
     refine aQ 1 37 3 ?_
     refine aQ 4 40 19 ?_
     refine aQ 5 41 51 ?_
     refine aQ 6 42 115 ?_
     refine aQ 7 43 243 ?_
     refine aQ 9 45 755 ?_
     refine gF 8 44 1011 hHeld ?_
     refine aQ 10 46 2035 ?_
     refine gF 11 47 4083 hHeld ?_
     refine GN (σ := Value × Value × Value) 3 (bt 16 8191) (fun z => [(38, z.1), (39, z.2.1), (48, z.2.2)]) (fun z w' => Below w0.heap.size w0 w' /\ Sat w' w0.heap.size [txt z.2.1 (x1 ++ [kx]), txt u2 x2, txt z.2.2 [vx]]) ?_ ?_
     rotate_left
     ·intro iW
      refine IX 2 12 (some 38) (some 48) 4087 8179 (fun K hK => ?_) (fun K hK => ?_)
      ·skip
       refine Kd.bB Kd.string (w0 := w0) w0.heap.size 9 (by rfl) (N := 38) rfl (xs := [kx]) (inner := [.string kx]) (ok := fun _ => True) (okp := fun _ => False) ?hr (Kd.bH (enc := Value.string) [kx]) (fun _ h => h.elim) trivial (aH HB.out) ((aH HB.out)).size (by simp) ?_
       (case hr => first | (go_simp; done) | (go_simp; rfl))
       intro vb1 Ub dW hbb hgb hnb
       have oJ := A_ hbb
       have oL := A_ (Sat.lit (Sat.drew HS2.out) dW hgb hnb)
       obtain ⟨iw, iy, rfl⟩ : ∃ A c, vb1 = .slice A 1 c := Kd.au dW
       clear dW hbb hgb hnb
       refine hK.out _ _ ⟨(HN.out.below oJ.out).z1, (Below.cell oJ.out (World.block_lt_of_cell? w0 _ pX.out)).trans pX.out⟩ (fun hHeld => ?_)
       clear hK K
       refine fw 38 ?_
       refine IX 3 12 (some 39) (some 48) 4095 8183 (fun K hK => ?_) (fun K hK => ?_)
       ·skip
        refine Kd.aV Kd.string (w0 := w0) w0.heap.size (by rfl) (.tmp 36) (.tmp 38) 38 9 (.string ⟨#[]⟩) 16 rfl Try.underlying38 eU rfl (by decide) (by omega) u1 x1 [kx] iw 1 iy (fun _ => True) (fun _ => False) rfl rfl (Sat.sr oL.out 0 rfl) (Kd.gm (Sat.sr oL.out 2 rfl)).2.2 (fun _ _ h => h) (fun _ h => h.elim) (fun _ _ => trivial) oJ.out (oJ.out).size (by have := HZ1.out; (try simp only [List.length_singleton]); omega) ?_
        intro RX KF ho hb hg hat
        have kE := A_ hb
        have jg := A_ (Sat.app 0 oL.out rfl ho hg hat)
        clear ho hb hg hat
        refine hK.out _ _ ⟨(HN.out.below kE.out).z1, (Below.cell kE.out (World.block_lt_of_cell? w0 _ pX.out)).trans pX.out⟩ (fun hHeld => ?_)
        clear hK K
        refine fw 39 ?_
        refine jm 12 (some 48) 8191 (fun K hK => ?_)
        refine Kd.bB Kd.string (w0 := w0) w0.heap.size 9 (by rfl) (N := 48) rfl (xs := [vx]) (inner := [.string vx]) (ok := fun _ => True) (okp := fun _ => False) ?hr (Kd.bH (enc := Value.string) [vx]) (fun _ h => h.elim) trivial kE.out (kE.out).size (by simp) ?_
        (case hr => first | (go_simp; done) | (go_simp; rfl))
        intro uD Gi dW hbb hgb hnb
        have lu := A_ hbb
        have iR := A_ (Sat.lit jg.out dW hgb hnb)
        obtain ⟨gI, gJ, rfl⟩ : ∃ A c, uD = .slice A 1 c := Kd.au dW
        clear dW hbb hgb hnb
        refine hK.out _ _ ⟨(HN.out.below lu.out).z1, (Below.cell lu.out (World.block_lt_of_cell? w0 _ pX.out)).trans pX.out⟩ (fun hHeld => ?_)
        clear hK K
        refine fw 48 ?_
        exact CL (iW ⟨.slice iw 1 iy, RX, .slice gI 1 gJ⟩ _ ⟨lu.out, Sat.sub iR.out (by simp)⟩)
       ·skip
        refine Kd.bB Kd.string (w0 := w0) w0.heap.size 9 (by rfl) (N := 48) rfl (xs := [vx]) (inner := [.string vx]) (ok := fun _ => True) (okp := fun _ => False) ?hr (Kd.bH (enc := Value.string) [vx]) (fun _ h => h.elim) trivial oJ.out (oJ.out).size (by simp) ?_
        (case hr => first | (go_simp; done) | (go_simp; rfl))
        intro uD KF dW hbb hgb hnb
        have kE := A_ hbb
        have jg := A_ (Sat.lit oL.out dW hgb hnb)
        obtain ⟨gI, gJ, rfl⟩ : ∃ A c, uD = .slice A 1 c := Kd.au dW
        clear dW hbb hgb hnb
        refine hK.out _ _ ⟨(HN.out.below kE.out).z1, (Below.cell kE.out (World.block_lt_of_cell? w0 _ pX.out)).trans pX.out⟩ (fun hHeld => ?_)
        clear hK K
        refine fw 48 ?_
        refine jm 3 (some 39) 8191 (fun K hK => ?_)
        refine Kd.aV Kd.string (w0 := w0) w0.heap.size (by rfl) (.tmp 36) (.tmp 38) 38 9 (.string ⟨#[]⟩) 16 rfl Try.underlying38 eU rfl (by decide) (by omega) u1 x1 [kx] iw 1 iy (fun _ => True) (fun _ => False) rfl rfl (Sat.sr jg.out 0 rfl) (Kd.gm (Sat.sr jg.out 2 rfl)).2.2 (fun _ _ h => h) (fun _ h => h.elim) (fun _ _ => trivial) kE.out (kE.out).size (by have := HZ1.out; (try simp only [List.length_singleton]); omega) ?_
        intro RX Gi ho hb hg hat
        have lu := A_ hb
        have iR := A_ (Sat.app 0 jg.out rfl ho hg hat)
        clear ho hb hg hat
        refine hK.out _ _ ⟨(HN.out.below lu.out).z1, (Below.cell lu.out (World.block_lt_of_cell? w0 _ pX.out)).trans pX.out⟩ (fun hHeld => ?_)
        clear hK K
        refine fw 39 ?_
        exact CL (iW ⟨.slice iw 1 iy, RX, .slice gI 1 gJ⟩ _ ⟨lu.out, Sat.sub iR.out (by simp)⟩)
      ·skip
       refine Kd.bB Kd.string (w0 := w0) w0.heap.size 9 (by rfl) (N := 48) rfl (xs := [vx]) (inner := [.string vx]) (ok := fun _ => True) (okp := fun _ => False) ?hr (Kd.bH (enc := Value.string) [vx]) (fun _ h => h.elim) trivial (aH HB.out) ((aH HB.out)).size (by simp) ?_
       (case hr => first | (go_simp; done) | (go_simp; rfl))
       intro uD Ub dW hbb hgb hnb
       have oJ := A_ hbb
       have oL := A_ (Sat.lit (Sat.drew HS2.out) dW hgb hnb)
       obtain ⟨gI, gJ, rfl⟩ : ∃ A c, uD = .slice A 1 c := Kd.au dW
       clear dW hbb hgb hnb
       refine hK.out _ _ ⟨(HN.out.below oJ.out).z1, (Below.cell oJ.out (World.block_lt_of_cell? w0 _ pX.out)).trans pX.out⟩ (fun hHeld => ?_)
       clear hK K
       refine fw 48 ?_
       refine jm 2 (some 38) 8183 (fun K hK => ?_)
       refine Kd.bB Kd.string (w0 := w0) w0.heap.size 9 (by rfl) (N := 38) rfl (xs := [kx]) (inner := [.string kx]) (ok := fun _ => True) (okp := fun _ => False) ?hr (Kd.bH (enc := Value.string) [kx]) (fun _ h => h.elim) trivial oJ.out (oJ.out).size (by simp) ?_
       (case hr => first | (go_simp; done) | (go_simp; rfl))
       intro vb1 KF dW hbb hgb hnb
       have kE := A_ hbb
       have jg := A_ (Sat.lit oL.out dW hgb hnb)
       obtain ⟨iw, iy, rfl⟩ : ∃ A c, vb1 = .slice A 1 c := Kd.au dW
       clear dW hbb hgb hnb
       refine hK.out _ _ ⟨(HN.out.below kE.out).z1, (Below.cell kE.out (World.block_lt_of_cell? w0 _ pX.out)).trans pX.out⟩ (fun hHeld => ?_)
       clear hK K
       refine fw 38 ?_
       refine jm 3 (some 39) 8191 (fun K hK => ?_)
       refine Kd.aV Kd.string (w0 := w0) w0.heap.size (by rfl) (.tmp 36) (.tmp 38) 38 9 (.string ⟨#[]⟩) 16 rfl Try.underlying38 eU rfl (by decide) (by omega) u1 x1 [kx] iw 1 iy (fun _ => True) (fun _ => False) rfl rfl (Sat.sr jg.out 0 rfl) (Kd.gm (Sat.sr jg.out 3 rfl)).2.2 (fun _ _ h => h) (fun _ h => h.elim) (fun _ _ => trivial) kE.out (kE.out).size (by have := HZ1.out; (try simp only [List.length_singleton]); omega) ?_
       intro RX Gi ho hb hg hat
       have lu := A_ hb
       have iR := A_ (Sat.app 0 jg.out rfl ho hg hat)
       clear ho hb hg hat
       refine hK.out _ _ ⟨(HN.out.below lu.out).z1, (Below.cell lu.out (World.block_lt_of_cell? w0 _ pX.out)).trans pX.out⟩ (fun hHeld => ?_)
       clear hK K
       refine fw 39 ?_
       exact CL (iW ⟨.slice iw 1 iy, RX, .slice gI 1 gJ⟩ _ ⟨lu.out, Sat.sub iR.out (by simp)⟩)
     rintro ⟨vb1, RX, uD⟩ w8 ⟨hb, hs⟩
     obtain ⟨gI, gJ, rfl⟩ : ∃ A c, uD = .slice A 1 c := Kd.au (Sat.sr hs 2 rfl)
     have hHeld : (w8.cell? ⟨p, 1, none⟩ = some (.slice (some RU) t.vals.length cv)) /\ (w8.cell? (RU.add i) = some (.string vx)) := ⟨(HN.out.below hb).z1, (Below.cell hb (World.block_lt_of_cell? w0 _ pX.out)).trans pX.out⟩
     have OP := A_ hb
     have Ml := A_ hs
     clear hb hs
     refine Cg (a' := ?_) ?_ ?_
     rotate_left
     ·simp only [sU, Act.put, List.setIfInBounds_toArray, List.set_cons_zero, List.set_cons_succ]
      rfl
     refine jm 13 (some 49) 16383 (fun K hK => ?_)
     refine Kd.aV Kd.string (w0 := w0) w0.heap.size (by rfl) (.tmp 40) (.tmp 48) 38 9 (.string ⟨#[]⟩) 16 rfl Try.underlying38 eU rfl (by decide) (by omega) u2 x2 [vx] gI 1 gJ (fun _ => True) (fun _ => False) rfl rfl (Sat.sr Ml.out 1 rfl) (Kd.gm (Sat.sr Ml.out 2 rfl)).2.2 (fun _ _ h => h) (fun _ h => h.elim) (fun _ _ => trivial) OP.out OP.out.size (by have := HZ2.out; (try simp only [List.length_singleton]); omega) ?_
     intro u2n w9 ho hb hg hat
     have az := A_ hb
     have aG := A_ (Sat.app 1 Ml.out rfl ho hg hat)
     clear ho hb hg hat OP Ml
     have OP := az
     have Ml := aG
     clear az aG
     refine hK.out _ _ ⟨(HN.out.below OP.out).z1, (Below.cell OP.out (World.block_lt_of_cell? w0 _ pX.out)).trans pX.out⟩ (fun hHeld => ?_)
     clear hK K
     refine fw 49 ?_
     refine aQ 14 1 32767 ?_
     refine aQ 15 2 65535 ?_
     refine fA (by kernel_rfl) ?_
     go_wp2
     go_roundg (t.keys.length - (i + 1))
     case measure => have := HK.out; have := HI.out; omega
     case rel => exact ⟨i + 1, _, _, by first | rfl | go_num | (simp; done), ⟨by have := HK.out; have := HI.out; omega⟩, qa, HE2, ⟨Sat.sr Ml.out 0 rfl⟩, ⟨Sat.sr Ml.out 1 rfl⟩, ⟨Sat.ap2 Ml.out (i := 0) (j := 1) (by omega) rfl rfl⟩, OP⟩
    ·have hbl := A_ (show decide ((t.kids.length : Int) = 0) = false from decide_eq_false (by omega))
     have hkl : t.kids.length = t.keys.length + 1 := vQ.out.2.2.resolve_left h0
     obtain ⟨adc, q, s, rfl, hc0, hs, hrs⟩ := HN.out.kid i (by omega) (by omega)
     rw [Int.toNat_natCast] at hc0 hs
     have HS := A_ hs
     have Vk := A_ hrs
     have nQ := A_ hc0
     have hca := dN ((i : Int) < (t.kids.length : Int))
     have hcb := dN (i < t.kids.length)
     have e1 := DI hs hi
     have e2 := DJ hs (i := i) (by have := vQ.out; omega)
     rw [show t.keys.getD i ByteArray.empty = kx from hkx.symm] at e1
     rw [show t.vals.getD i ByteArray.empty = vx from RV.symm] at e2
     have OM := iO HR1.out e1
     have OO := iO HR2.out e2
     have qa := A_ (iO (x := [kx]) OM rfl)
     have HE2 := A_ (iO (x := [vx]) OO rfl)
     have HZ1 := A_ (show (x1 ++ bY s).length <= 8796093022208 by rw [List.length_append]; exact kP HR1.out e1 OL.out)
     have HZ2 := A_ (show (x2 ++ fT s).length <= 8796093022208 by rw [List.length_append]; exact kP HR2.out e2 HL2.out)
     have HZ3 := A_ (show (x1 ++ bY s).length + 1 <= 8796093022208 from kP (x := [kx]) OM rfl OL.out)
     have HZ4 := A_ (show (x2 ++ fT s).length + 1 <= 8796093022208 from kP (x := [vx]) OO rfl HL2.out)
     have pX := A_ hv0
     have YM := (Below.cell HB.out (World.block_lt_of_cell? w0 _ hk0)).trans hk0
     have hva : ((i : Int) < (t.vals.length : Int)) = True := eq_true (by have := vQ.out; omega)
     have hvb : (i < t.vals.length) = True := eq_true (by have := vQ.out; omega)
     clear hk0 hv0 hkx RV e1 e2 hi h0 HR1 HR2 OM OO hkl hs hrs hc0
     go_wp2_with (first | (go_at_call 99; (with_reducible refine (dU.dQ false hbl.out _ ?aj).mono ?_); (case aj => exact WG.out); rintro e w6 ⟨rfl, hd⟩; have az := A_ (HB.out.trans (nI hd)); have hz0' := (HN.out.below az.out).z0; have hz2' := (HN.out.below az.out).z2; have aG := A_ (SR.under qj.out (gz hd)); have lG := A_ (SR.under ql.out (gz hd)); have hzc := (Below.cell az.out (World.block_lt_of_cell? w0 _ nQ.out)).trans nQ.out; clear hd; clear HB; clear qj; clear ql; have HB := az; have qj := aG; have ql := lG; clear az aG lG) | (go_at_call 66; (with_reducible refine (ih s (by have := PT.iL HS.out; have := KG.out; omega) (HF.out.kid HS.out) w0 _ u1 u2 x1 x2 Vk.out HB.out qj.out ql.out uC.out HZ1.out HZ2.out).mono ?_); rintro e w7 ⟨u3, u4, rfl, ho1, ho2, hne, hb⟩; have az := A_ ho1; have aG := A_ ho2; have lG := A_ hne; have p8 := A_ hb; clear qj ql uC HB; have qj := az; have ql := aG; have uC := lG; have HB := p8; clear az aG lG p8 ho1 ho2 hne hb))
     have HS2 := A_ (Sat.two qj.out ql.out uC.out)
     refine dL (n := 16) (S := fun w' => w'.cell? ⟨p, 1, none⟩ = some (.slice (some RU) t.vals.length cv) /\ w'.cell? (RU.add i) = some (.string vx)) (ds := []) (bt 16 0) (by kernel_rfl) rfl rfl ⟨(HN.out.below (aH HB.out)).z1, (Below.cell (aH HB.out) (World.block_lt_of_cell? w0 _ pX.out)).trans pX.out⟩ (fun hHeld => ?_)
     refine aQ 0 36 1 ?_
     refine aQ 1 37 3 ?_
     refine aQ 4 40 19 ?_
     refine aQ 5 41 51 ?_
     refine aQ 6 42 115 ?_
     refine aQ 7 43 243 ?_
     refine aQ 9 45 755 ?_
     refine gF 8 44 1011 hHeld ?_
     refine aQ 10 46 2035 ?_
     refine gF 11 47 4083 hHeld ?_
     refine GN (σ := Value × Value × Value) 3 (bt 16 8191) (fun z => [(38, z.1), (39, z.2.1), (48, z.2.2)]) (fun z w' => Below w0.heap.size w0 w' /\ Sat w' w0.heap.size [txt z.2.1 ((x1 ++ bY s) ++ [kx]), txt u4 (x2 ++ fT s), txt z.2.2 [vx]]) ?_ ?_
     rotate_left
     ·intro iW
      refine IX 2 12 (some 38) (some 48) 4087 8179 (fun K hK => ?_) (fun K hK => ?_)
      ·skip
       refine Kd.bB Kd.string (w0 := w0) w0.heap.size 9 (by rfl) (N := 38) rfl (xs := [kx]) (inner := [.string kx]) (ok := fun _ => True) (okp := fun _ => False) ?hr (Kd.bH (enc := Value.string) [kx]) (fun _ h => h.elim) trivial (aH HB.out) ((aH HB.out)).size (by simp) ?_
       (case hr => first | (go_simp; done) | (go_simp; rfl))
       intro vb1 Ub dW hbb hgb hnb
       have oJ := A_ hbb
       have oL := A_ (Sat.lit (Sat.drew HS2.out) dW hgb hnb)
       obtain ⟨iw, iy, rfl⟩ : ∃ A c, vb1 = .slice A 1 c := Kd.au dW
       clear dW hbb hgb hnb
       refine hK.out _ _ ⟨(HN.out.below oJ.out).z1, (Below.cell oJ.out (World.block_lt_of_cell? w0 _ pX.out)).trans pX.out⟩ (fun hHeld => ?_)
       clear hK K
       refine fw 38 ?_
       refine IX 3 12 (some 39) (some 48) 4095 8183 (fun K hK => ?_) (fun K hK => ?_)
       ·skip
        refine Kd.aV Kd.string (w0 := w0) w0.heap.size (by rfl) (.tmp 36) (.tmp 38) 38 9 (.string ⟨#[]⟩) 16 rfl Try.underlying38 eU rfl (by decide) (by omega) u3 (x1 ++ bY s) [kx] iw 1 iy (fun _ => True) (fun _ => False) rfl rfl (Sat.sr oL.out 0 rfl) (Kd.gm (Sat.sr oL.out 2 rfl)).2.2 (fun _ _ h => h) (fun _ h => h.elim) (fun _ _ => trivial) oJ.out (oJ.out).size (by have := HZ3.out; (try simp only [List.length_singleton]); omega) ?_
        intro RX KF ho hb hg hat
        have kE := A_ hb
        have jg := A_ (Sat.app 0 oL.out rfl ho hg hat)
        clear ho hb hg hat
        refine hK.out _ _ ⟨(HN.out.below kE.out).z1, (Below.cell kE.out (World.block_lt_of_cell? w0 _ pX.out)).trans pX.out⟩ (fun hHeld => ?_)
        clear hK K
        refine fw 39 ?_
        refine jm 12 (some 48) 8191 (fun K hK => ?_)
        refine Kd.bB Kd.string (w0 := w0) w0.heap.size 9 (by rfl) (N := 48) rfl (xs := [vx]) (inner := [.string vx]) (ok := fun _ => True) (okp := fun _ => False) ?hr (Kd.bH (enc := Value.string) [vx]) (fun _ h => h.elim) trivial kE.out (kE.out).size (by simp) ?_
        (case hr => first | (go_simp; done) | (go_simp; rfl))
        intro uD Gi dW hbb hgb hnb
        have lu := A_ hbb
        have iR := A_ (Sat.lit jg.out dW hgb hnb)
        obtain ⟨gI, gJ, rfl⟩ : ∃ A c, uD = .slice A 1 c := Kd.au dW
        clear dW hbb hgb hnb
        refine hK.out _ _ ⟨(HN.out.below lu.out).z1, (Below.cell lu.out (World.block_lt_of_cell? w0 _ pX.out)).trans pX.out⟩ (fun hHeld => ?_)
        clear hK K
        refine fw 48 ?_
        exact CL (iW ⟨.slice iw 1 iy, RX, .slice gI 1 gJ⟩ _ ⟨lu.out, Sat.sub iR.out (by simp)⟩)
       ·skip
        refine Kd.bB Kd.string (w0 := w0) w0.heap.size 9 (by rfl) (N := 48) rfl (xs := [vx]) (inner := [.string vx]) (ok := fun _ => True) (okp := fun _ => False) ?hr (Kd.bH (enc := Value.string) [vx]) (fun _ h => h.elim) trivial oJ.out (oJ.out).size (by simp) ?_
        (case hr => first | (go_simp; done) | (go_simp; rfl))
        intro uD KF dW hbb hgb hnb
        have kE := A_ hbb
        have jg := A_ (Sat.lit oL.out dW hgb hnb)
        obtain ⟨gI, gJ, rfl⟩ : ∃ A c, uD = .slice A 1 c := Kd.au dW
        clear dW hbb hgb hnb
        refine hK.out _ _ ⟨(HN.out.below kE.out).z1, (Below.cell kE.out (World.block_lt_of_cell? w0 _ pX.out)).trans pX.out⟩ (fun hHeld => ?_)
        clear hK K
        refine fw 48 ?_
        refine jm 3 (some 39) 8191 (fun K hK => ?_)
        refine Kd.aV Kd.string (w0 := w0) w0.heap.size (by rfl) (.tmp 36) (.tmp 38) 38 9 (.string ⟨#[]⟩) 16 rfl Try.underlying38 eU rfl (by decide) (by omega) u3 (x1 ++ bY s) [kx] iw 1 iy (fun _ => True) (fun _ => False) rfl rfl (Sat.sr jg.out 0 rfl) (Kd.gm (Sat.sr jg.out 2 rfl)).2.2 (fun _ _ h => h) (fun _ h => h.elim) (fun _ _ => trivial) kE.out (kE.out).size (by have := HZ3.out; (try simp only [List.length_singleton]); omega) ?_
        intro RX Gi ho hb hg hat
        have lu := A_ hb
        have iR := A_ (Sat.app 0 jg.out rfl ho hg hat)
        clear ho hb hg hat
        refine hK.out _ _ ⟨(HN.out.below lu.out).z1, (Below.cell lu.out (World.block_lt_of_cell? w0 _ pX.out)).trans pX.out⟩ (fun hHeld => ?_)
        clear hK K
        refine fw 39 ?_
        exact CL (iW ⟨.slice iw 1 iy, RX, .slice gI 1 gJ⟩ _ ⟨lu.out, Sat.sub iR.out (by simp)⟩)
      ·skip
       refine Kd.bB Kd.string (w0 := w0) w0.heap.size 9 (by rfl) (N := 48) rfl (xs := [vx]) (inner := [.string vx]) (ok := fun _ => True) (okp := fun _ => False) ?hr (Kd.bH (enc := Value.string) [vx]) (fun _ h => h.elim) trivial (aH HB.out) ((aH HB.out)).size (by simp) ?_
       (case hr => first | (go_simp; done) | (go_simp; rfl))
       intro uD Ub dW hbb hgb hnb
       have oJ := A_ hbb
       have oL := A_ (Sat.lit (Sat.drew HS2.out) dW hgb hnb)
       obtain ⟨gI, gJ, rfl⟩ : ∃ A c, uD = .slice A 1 c := Kd.au dW
       clear dW hbb hgb hnb
       refine hK.out _ _ ⟨(HN.out.below oJ.out).z1, (Below.cell oJ.out (World.block_lt_of_cell? w0 _ pX.out)).trans pX.out⟩ (fun hHeld => ?_)
       clear hK K
       refine fw 48 ?_
       refine jm 2 (some 38) 8183 (fun K hK => ?_)
       refine Kd.bB Kd.string (w0 := w0) w0.heap.size 9 (by rfl) (N := 38) rfl (xs := [kx]) (inner := [.string kx]) (ok := fun _ => True) (okp := fun _ => False) ?hr (Kd.bH (enc := Value.string) [kx]) (fun _ h => h.elim) trivial oJ.out (oJ.out).size (by simp) ?_
       (case hr => first | (go_simp; done) | (go_simp; rfl))
       intro vb1 KF dW hbb hgb hnb
       have kE := A_ hbb
       have jg := A_ (Sat.lit oL.out dW hgb hnb)
       obtain ⟨iw, iy, rfl⟩ : ∃ A c, vb1 = .slice A 1 c := Kd.au dW
       clear dW hbb hgb hnb
       refine hK.out _ _ ⟨(HN.out.below kE.out).z1, (Below.cell kE.out (World.block_lt_of_cell? w0 _ pX.out)).trans pX.out⟩ (fun hHeld => ?_)
       clear hK K
       refine fw 38 ?_
       refine jm 3 (some 39) 8191 (fun K hK => ?_)
       refine Kd.aV Kd.string (w0 := w0) w0.heap.size (by rfl) (.tmp 36) (.tmp 38) 38 9 (.string ⟨#[]⟩) 16 rfl Try.underlying38 eU rfl (by decide) (by omega) u3 (x1 ++ bY s) [kx] iw 1 iy (fun _ => True) (fun _ => False) rfl rfl (Sat.sr jg.out 0 rfl) (Kd.gm (Sat.sr jg.out 3 rfl)).2.2 (fun _ _ h => h) (fun _ h => h.elim) (fun _ _ => trivial) kE.out (kE.out).size (by have := HZ3.out; (try simp only [List.length_singleton]); omega) ?_
       intro RX Gi ho hb hg hat
       have lu := A_ hb
       have iR := A_ (Sat.app 0 jg.out rfl ho hg hat)
       clear ho hb hg hat
       refine hK.out _ _ ⟨(HN.out.below lu.out).z1, (Below.cell lu.out (World.block_lt_of_cell? w0 _ pX.out)).trans pX.out⟩ (fun hHeld => ?_)
       clear hK K
       refine fw 39 ?_
       exact CL (iW ⟨.slice iw 1 iy, RX, .slice gI 1 gJ⟩ _ ⟨lu.out, Sat.sub iR.out (by simp)⟩)
     rintro ⟨vb1, RX, uD⟩ w8 ⟨hb, hs⟩
     obtain ⟨gI, gJ, rfl⟩ : ∃ A c, uD = .slice A 1 c := Kd.au (Sat.sr hs 2 rfl)
     have hHeld : (w8.cell? ⟨p, 1, none⟩ = some (.slice (some RU) t.vals.length cv)) /\ (w8.cell? (RU.add i) = some (.string vx)) := ⟨(HN.out.below hb).z1, (Below.cell hb (World.block_lt_of_cell? w0 _ pX.out)).trans pX.out⟩
     have OP := A_ hb
     have Ml := A_ hs
     clear hb hs
     refine Cg (a' := ?_) ?_ ?_
     rotate_left
     ·simp only [sU, Act.put, List.setIfInBounds_toArray, List.set_cons_zero, List.set_cons_succ]
      rfl
     refine jm 13 (some 49) 16383 (fun K hK => ?_)
     refine Kd.aV Kd.string (w0 := w0) w0.heap.size (by rfl) (.tmp 40) (.tmp 48) 38 9 (.string ⟨#[]⟩) 16 rfl Try.underlying38 eU rfl (by decide) (by omega) u4 (x2 ++ fT s) [vx] gI 1 gJ (fun _ => True) (fun _ => False) rfl rfl (Sat.sr Ml.out 1 rfl) (Kd.gm (Sat.sr Ml.out 2 rfl)).2.2 (fun _ _ h => h) (fun _ h => h.elim) (fun _ _ => trivial) OP.out OP.out.size (by have := HZ4.out; (try simp only [List.length_singleton]); omega) ?_
     intro u2n w9 ho hb hg hat
     have az := A_ hb
     have aG := A_ (Sat.app 1 Ml.out rfl ho hg hat)
     clear ho hb hg hat OP Ml
     have OP := az
     have Ml := aG
     clear az aG
     refine hK.out _ _ ⟨(HN.out.below OP.out).z1, (Below.cell OP.out (World.block_lt_of_cell? w0 _ pX.out)).trans pX.out⟩ (fun hHeld => ?_)
     clear hK K
     refine fw 49 ?_
     refine aQ 14 1 32767 ?_
     refine aQ 15 2 65535 ?_
     refine fA (by kernel_rfl) ?_
     go_wp2
     go_roundg (t.keys.length - (i + 1))
     case measure => have := HK.out; have := HI.out; omega
     case rel => exact ⟨i + 1, _, _, by first | rfl | go_num | (simp; done), ⟨by have := HK.out; have := HI.out; omega⟩, qa, HE2, ⟨Sat.sr Ml.out 0 rfl⟩, ⟨Sat.sr Ml.out 1 rfl⟩, ⟨Sat.ap2 Ml.out (i := 0) (j := 1) (by omega) rfl rfl⟩, OP⟩
   ·have ce := mZ ((i : Int) < (t.keys.length : Int))
    have BU : (i < t.keys.length) = False := eq_false hi
    obtain rfl : i = t.keys.length := by have := HK.out; omega
    by_cases h0 : t.kids.length = 0
    ·have hbl := A_ (show decide ((t.kids.length : Int) = 0) = true from decide_eq_true (by omega))
     have qa := show x1 = L1 by have := vQ.out; rw [<- HR1.out, tY (by omega) (by omega), List.append_nil]
     have HE2 := show x2 = L2 by have := vQ.out; rw [<- HR2.out, tZ (by omega) (by omega), List.append_nil]
     subst qa
     subst HE2
     clear hi
     go_wp2_with ((go_at_call 99; (with_reducible refine (dU.dQ true hbl.out _ ?aj).mono ?_); (case aj => exact WG.out); rintro e w6 ⟨rfl, hd⟩; have az := A_ (HB.out.trans (nI hd)); have hz0' := (HN.out.below az.out).z0; have hz2' := (HN.out.below az.out).z2; have aG := A_ (SR.under qj.out (gz hd)); have lG := A_ (SR.under ql.out (gz hd)); clear hd; clear HB; clear qj; clear ql; have HB := az; have qj := aG; have ql := lG; clear az aG lG))
     go_ret2
     exact ⟨_, _, rfl, qj.out, ql.out, uC.out, HB.out⟩
    ·have hbl := A_ (show decide ((t.kids.length : Int) = 0) = false from decide_eq_false (by omega))
     have hkl : t.kids.length = t.keys.length + 1 := vQ.out.2.2.resolve_left h0
     obtain ⟨adc, q, s, rfl, hc0, hs, hrs⟩ := HN.out.kid (t.keys.length : Int) (by omega) (by omega)
     rw [Int.toNat_natCast] at hc0 hs
     have HS := A_ hs
     have Vk := A_ hrs
     have nQ := A_ hc0
     have hca := pF ((t.keys.length : Int) < (t.kids.length : Int))
     have hcb := dN (t.keys.length < t.kids.length)
     have e1 := DK hs (Nat.le_refl _) hkl
     have e2 := DL hs (by have := vQ.out; omega) hkl
     have qa := show x1 ++ bY s = L1 by rw [<- HR1.out, e1, tY (by omega) (by omega), List.append_nil]
     have HE2 := show x2 ++ fT s = L2 by have := vQ.out; rw [<- HR2.out, e2, tZ (by omega) (by omega), List.append_nil]
     have HZ1 := A_ (show (x1 ++ bY s).length <= 8796093022208 by rw [qa]; exact OL.out)
     have HZ2 := A_ (show (x2 ++ fT s).length <= 8796093022208 by rw [HE2]; exact HL2.out)
     subst qa
     subst HE2
     clear hi e1 e2 hkl hs hrs hc0 h0 HR1 HR2
     go_wp2_with ((go_at_call 99; (with_reducible refine (dU.dQ false hbl.out _ ?aj).mono ?_); (case aj => exact WG.out); rintro e w6 ⟨rfl, hd⟩; have az := A_ (HB.out.trans (nI hd)); have hz0 := (HN.out.below az.out).z0; have hz2 := (HN.out.below az.out).z2; have aG := A_ (SR.under qj.out (gz hd)); have lG := A_ (SR.under ql.out (gz hd)); have hzc := (Below.cell az.out (World.block_lt_of_cell? w0 _ nQ.out)).trans nQ.out; clear hd; clear HB; clear qj; clear ql; have HB := az; have qj := aG; have ql := lG; clear az aG lG))
     have HB9 := HB
     refine dL (n := 19) (S := fun w' => w'.cell? ⟨p, 2, none⟩ = some (.slice (some adc) t.kids.length cc) /\ w'.cell? ⟨p, 0, none⟩ = some (.slice Ak t.keys.length ck) /\ w'.cell? (adc.add t.keys.length) = some (bO q)) (ds := [13]) (bt 19 0) (by kernel_rfl) rfl rfl ⟨hz2, hz0, hzc⟩ (fun hHeld => ?_)
     refine aQ 0 55 1 ?_
     refine aQ 1 56 3 ?_
     refine aQ 2 57 7 ?_
     refine aQ 4 59 23 ?_
     refine aQ 5 60 55 ?_
     refine aQ 6 61 119 ?_
     refine aQ 11 66 2167 ?_
     refine aQ 12 67 6263 ?_
     refine gF 3 58 6271 hHeld ?_
     refine gF 7 62 6399 hHeld ?_
     refine aQ 8 63 6655 ?_
     refine aQ 9 64 7167 ?_
     refine gF 10 65 8191 hHeld ?_
     refine wZ 13 (some 68) 16383 (fun K hK => ?_)
     refine wm Try.func66 #[bO q, u1, u2] ?_
     with_reducible refine (ih s (by have := PT.iL HS.out; have := KG.out; omega) (HF.out.kid HS.out) w0 _ u1 u2 x1 x2 Vk.out (aH HB9.out) (SR.under qj.out (aH (Below.refl _ _))) (SR.under ql.out (aH (Below.refl _ _))) uC.out HZ1.out HZ2.out).mono ?_
     rintro e w5 ⟨u3, u4, rfl, ho1, ho2, hne, hb⟩
     refine ⟨_, rfl, ?_⟩
     have az := A_ ho1
     have aG := A_ ho2
     have lG := A_ hne
     have p8 := A_ hb
     clear ho1 ho2 hne hb
     refine hK.out _ _ ?_
     clear hK K
     refine fw 68 ?_
     refine aQ 14 54 32767 ?_
     refine aQ 15 69 65535 ?_
     refine aQ 16 70 131071 ?_
     refine aQ 17 1 262143 ?_
     refine aQ 18 2 524287 ?_
     refine fA (by kernel_rfl) ?_
     go_wp2
     go_ret2
     exact ⟨_, _, rfl, az.out, aG.out, lG.out, p8.out⟩
theorem xh {p0 q : Prop} (h0 : p0) (h : p0 -> q := by intro Dl; repeat (first | exact Dl | (with_reducible refine Rd.drewN ?_ _) | (with_reducible refine Rd.drew ?_))) : q := h h0
set_option maxHeartbeats 8000000
set_option maxRecDepth 100000
theorem qV.calls : ∀ (n : Nat) (t : PT), SizeOf.sizeOf t <= n -> Nu t -> ∀ {p : Nat} (w : World), Rd 96 w p t ->
  Calls Try.prog 61 #[bO p] w fun e w' => e = .returned (.int .i64 (iH t)) /\ ak w w' := by
 intro n
 induction n with
 | zero =>
  intro t hs
  cases t with | mk keys vals kids => simp at hs
 | succ n ih =>
  intro t hs hf p w h
  by_cases h0 : t.kids.length = 0
  ·have HO := A_ h
   have HE := A_ (Dw h0)
   have hb0 := A_ (show decide ((t.kids.length : Int) = 0) = true from decide_eq_true (by omega))
   clear h h0
   go_enter Try.func61, Try.ntmps61
   go_wp2_with (go_at_call 84; (with_reducible refine (dZ.dQ true hb0.out _ ?aj).mono ?_); (case aj => exact xh HO.out); rintro e w' ⟨rfl, ⟨nd, rfl⟩⟩)
   go_ret
   exact ⟨by rw [HE.out]; first | done | rfl, by repeat (first | exact ak.refl _ | apply ak.step)⟩
  ·have HO := A_ h
   have hb0 := A_ (show decide ((t.kids.length : Int) = 0) = false from decide_eq_false (by omega))
   obtain ⟨Ak, ck, Av, cv, Ac, cc, ps, HN⟩ := h.open
   have hz2 := HN.z2
   obtain ⟨ad, q0, c, rfl, hz0, hs0, ho0⟩ := HN.kid 0 (by omega) (by omega)
   have H0 := A_ ho0
   have hS := A_ (PT.iL hs0)
   have HC := A_ hs0
   have HN' := A_ HN
   have HF := A_ hf
   have KG := A_ hs
   have HL := A_ (show 0 < t.kids.length by omega)
   have HE := A_ (Dx hs0)
   have hz0' : w.cell? ad = some (bO q0) := at0 hz0
   have p0b : (0 < t.kids.length) = True := eq_true HL.out
   clear h h0 hz0 hs0 ho0 HN hf hs
   go_enter Try.func61, Try.ntmps61
   go_upto_region 5 with (first | (go_at_call 84; (with_reducible refine (dZ.dQ false hb0.out _ ?aj).mono ?_); (case aj => exact xh HO.out); rintro e w' ⟨rfl, ⟨nd, rfl⟩⟩) | (go_at_call 61; (with_reducible refine (ih c (by have := hS.out; have := KG.out; omega) (HF.out.kid HC.out) _ ?aj).mono ?_); (case aj => exact xh H0.out); rintro e w' ⟨rfl, ⟨nd, rfl⟩⟩))
   generalize iH c = d at HE
   go_loopg [20] t.kids.length (fun kq v20 w' => ∃ (i m : Nat), v20 = .int .i64 (i : Int) /\ ae (kq + i = t.kids.length) /\ ae (iH t = if qA d (t.kids.drop i) then wrap64 (d + 1) else -1) /\ w' = w.drewN m)
   case atStart => exact ⟨0, _, by first | rfl | (simp; done), ⟨Nat.add_zero _⟩, HE, rfl⟩
   case round =>
    clear HE H0 HC hz0' hS
    obtain ⟨i, m, rfl, HK, HE, rfl⟩ := hrel
    by_cases hi : i < t.kids.length
    ·obtain ⟨ad1, q, s, ha, hz, hs, ho⟩ := HN'.out.kid i (by omega) (by omega)
     obtain rfl : ad = ad1 := Option.some.inj ha
     rw [Int.toNat_natCast] at hz hs
     obtain ⟨KH, ck1, Bh, xW, YN, Xo, ps1, HN1⟩ := ho.open
     have YM := HN1.z0
     have HS := A_ hs
     have H1 := A_ ho
     have HI := A_ hi
     have ce := pF ((i : Int) < (t.kids.length : Int))
     have cea := dN ((i : Int) < (t.kids.length : Int))
     have BU : (i < t.kids.length) = True := eq_true hi
     have cec := dN (0 <= (i : Int))
     clear HN1 ho hs hi ha
     by_cases hd : d < 0
     ·have hdb : decide (d < 0) = true := decide_eq_true hd
      have qa := A_ (Bl HS.out HE.out (.inl hd))
      clear hd
      go_wp2
      go_ret
      exact ⟨by rw [qa.out]; first | done | rfl, by repeat (first | exact ak.refl _ | apply ak.step | exact ⟨_, rfl⟩)⟩
     ·have hdb : decide (d < 0) = false := decide_eq_false hd
      have HD := A_ hd
      clear hd
      by_cases he : iH s = d
      ·subst he
       by_cases hk : s.keys.length < 2
       ·have qa := A_ (Bl HS.out HE.out (.inr (.inr hk)))
        have hkb := pF ((s.keys.length : Int) < 2)
        clear hk
        go_wp2_with (go_at_call 61; (with_reducible refine (ih s (by have := PT.iL HS.out; have := KG.out; omega) (HF.out.kid HS.out) _ ?aj).mono ?_); (case aj => exact xh H1.out); rintro e w' ⟨rfl, ⟨nd, rfl⟩⟩)
        go_ret
        exact ⟨by rw [qa.out]; first | done | rfl, by repeat (first | exact ak.refl _ | apply ak.step | exact ⟨_, rfl⟩)⟩
       ·have qa := A_ (SE HS.out HE.out HD.out rfl hk)
        have hkb := mZ ((s.keys.length : Int) < 2)
        clear hk
        have hm : t.kids.length <= 1048576 := HF.out.len
        have hj : i < t.kids.length := HI.out
        go_wp2_with (go_at_call 61; (with_reducible refine (ih s (by have := PT.iL HS.out; have := KG.out; omega) (HF.out.kid HS.out) _ ?aj).mono ?_); (case aj => exact xh H1.out); rintro e w' ⟨rfl, ⟨nd, rfl⟩⟩)
        go_roundg (t.kids.length - (i + 1))
        case measure => have := HK.out; omega
        case rel => exact ⟨i + 1, _, by first | rfl | go_num | (simp; done), ⟨by omega⟩, qa, rfl⟩
      ·have qa := A_ (Bl HS.out HE.out (.inr (.inl he)))
       have heb : (iH s != d) = true := by simpa using he
       clear he
       go_wp2_with (go_at_call 61; (with_reducible refine (ih s (by have := PT.iL HS.out; have := KG.out; omega) (HF.out.kid HS.out) _ ?aj).mono ?_); (case aj => exact xh H1.out); rintro e w' ⟨rfl, ⟨nd, rfl⟩⟩)
       go_ret
       exact ⟨by rw [qa.out]; first | done | rfl, by repeat (first | exact ak.refl _ | apply ak.step | exact ⟨_, rfl⟩)⟩
    ·have ce := mZ ((i : Int) < (t.kids.length : Int))
     have BU : (i < t.kids.length) = False := eq_false (by omega)
     have qa := A_ (Q0 (by omega) HE.out)
     clear hi
     go_wp2
     go_ret
     exact ⟨by rw [qa.out]; first | rfl | simp [xO] | simp [IntKind.wrap_i64, wrap64], by repeat (first | exact ak.refl _ | apply ak.step | exact ⟨_, rfl⟩)⟩
end Go.Proofs.Ytoddejmlcnbdmaa.Tree
namespace Go.Proofs.Ytoddejmlcnbdmaa.Fn
def cmp_isNaN_string.f (a0 : ByteArray) : Option (Bool) := some (a0.toList != a0.toList)
theorem cmp_isNaN_string.calls (a0 : ByteArray) (r : Bool) (w : World) (h : cmp_isNaN_string.f a0 = some r) :
  Calls Try.prog 135 #[.string a0] w fun e w' => e = .returned (.bool r) /\ ak w w' := by
 have H : (some (a0.toList != a0.toList)) = some r := h
 clear h
 obtain rfl := Option.some.inj H
 go_enter Try.func135, Try.ntmps135
 go_wp2
 go_ret
 exact ⟨by first | rfl | (simp; done) | (simp [*]; done), by repeat (first | exact ak.refl _ | apply ak.step)⟩
def cmp_Less_string.f (a0 : ByteArray) (a1 : ByteArray) : Option (Bool) := (cmp_isNaN_string.f a0).bind fun RY => (if RY = true then ((cmp_isNaN_string.f a1).bind fun Gm => (if Gm = true then (some (Op.bytesLess a0.toList a1.toList)) else (some true))) else (some (Op.bytesLess a0.toList a1.toList)))
theorem cmp_Less_string.calls (a0 : ByteArray) (a1 : ByteArray) (r : Bool) (w : World) (h : cmp_Less_string.f a0 a1 = some r) :
  Calls Try.prog 122 #[.string a0, .string a1] w fun e w' => e = .returned (.bool r) /\ ak w w' := by
 have H : ((cmp_isNaN_string.f a0).bind fun RY => (if RY = true then ((cmp_isNaN_string.f a1).bind fun Gm => (if Gm = true then (some (Op.bytesLess a0.toList a1.toList)) else (some true))) else (some (Op.bytesLess a0.toList a1.toList)))) = some r := h
 clear h
 replace H := Option.bind_eq_some_iff.mp H
 obtain ⟨RY, tN, H⟩ := H
 replace H : (if RY = true then ((cmp_isNaN_string.f a1).bind fun Gm => (if Gm = true then (some (Op.bytesLess a0.toList a1.toList)) else (some true))) else (some (Op.bytesLess a0.toList a1.toList))) = some r := H
 have A3 := A_ tN
 clear tN
 by_cases c4 : RY = true
 ·subst c4
  have H1 : ((cmp_isNaN_string.f a1).bind fun Gm => (if Gm = true then (some (Op.bytesLess a0.toList a1.toList)) else (some true))) = some r := by rw [if_pos rfl] at H; exact H
  clear H
  have H := H1
  clear H1
  replace H := Option.bind_eq_some_iff.mp H
  obtain ⟨Gm, IB, H⟩ := H
  replace H : (if Gm = true then (some (Op.bytesLess a0.toList a1.toList)) else (some true)) = some r := H
  have A5 := A_ IB
  clear IB
  by_cases c6 : Gm = true
  ·subst c6
   have H1 : (some (Op.bytesLess a0.toList a1.toList)) = some r := by rw [if_pos rfl] at H; exact H
   clear H
   have H := H1
   clear H1
   obtain rfl := Option.some.inj H
   go_enter Try.func122, Try.ntmps122
   go_wp2_with (first | ((with_reducible refine aI (f := 135) rfl ?_); refine bV (some 6) rfl rfl Try.func135 (by kernel_rfl) rfl #[.string a0] rfl (mY) ?_; (with_reducible refine (cmp_isNaN_string.calls a0 true _ A3.out).mono ?_); rintro e w' ⟨rfl, ⟨nd, rfl⟩⟩; refine ⟨_, rfl, ?_⟩) | (go_at_call 135; (with_reducible refine (cmp_isNaN_string.calls a1 true _ A5.out).mono ?_); rintro e w' ⟨rfl, ⟨nd, rfl⟩⟩))
   go_ret
   exact ⟨by first | rfl | (simp only [Go.Proofs.Ytoddejmlcnbdmaa.Gen.qC, Go.Proofs.Ytoddejmlcnbdmaa.Gen.uK]; first | done | rfl | (simp; done)) | (simp; done) | (simp [*]; done), by repeat (first | exact ak.refl _ | apply ak.step)⟩
  ·replace c6 := Bool.eq_false_iff.mpr c6
   subst c6
   have H1 : (some true) = some r := by rw [if_neg (show ¬ (false = true) by decide)] at H; exact H
   clear H
   have H := H1
   clear H1
   obtain rfl := Option.some.inj H
   go_enter Try.func122, Try.ntmps122
   go_wp2_with (first | ((with_reducible refine aI (f := 135) rfl ?_); refine bV (some 6) rfl rfl Try.func135 (by kernel_rfl) rfl #[.string a0] rfl (mY) ?_; (with_reducible refine (cmp_isNaN_string.calls a0 true _ A3.out).mono ?_); rintro e w' ⟨rfl, ⟨nd, rfl⟩⟩; refine ⟨_, rfl, ?_⟩) | (go_at_call 135; (with_reducible refine (cmp_isNaN_string.calls a1 false _ A5.out).mono ?_); rintro e w' ⟨rfl, ⟨nd, rfl⟩⟩))
   go_ret
   exact ⟨by first | rfl | (simp only [Go.Proofs.Ytoddejmlcnbdmaa.Gen.qC, Go.Proofs.Ytoddejmlcnbdmaa.Gen.uK]; first | done | rfl | (simp; done)) | (simp; done) | (simp [*]; done), by repeat (first | exact ak.refl _ | apply ak.step)⟩
 ·replace c4 := Bool.eq_false_iff.mpr c4
  subst c4
  have H1 : (some (Op.bytesLess a0.toList a1.toList)) = some r := by rw [if_neg (show ¬ (false = true) by decide)] at H; exact H
  clear H
  have H := H1
  clear H1
  obtain rfl := Option.some.inj H
  go_enter Try.func122, Try.ntmps122
  go_wp2_with (first | ((with_reducible refine aI (f := 135) rfl ?_); refine bV (some 6) rfl rfl Try.func135 (by kernel_rfl) rfl #[.string a0] rfl (mY) ?_; (with_reducible refine (cmp_isNaN_string.calls a0 false _ A3.out).mono ?_); rintro e w' ⟨rfl, ⟨nd, rfl⟩⟩; refine ⟨_, rfl, ?_⟩))
  go_ret
  exact ⟨by first | rfl | (simp only [Go.Proofs.Ytoddejmlcnbdmaa.Gen.qC, Go.Proofs.Ytoddejmlcnbdmaa.Gen.uK]; first | done | rfl | (simp; done)) | (simp; done) | (simp [*]; done), by repeat (first | exact ak.refl _ | apply ak.step)⟩
def slices_isNaN_string.f (a0 : ByteArray) : Option (Bool) := some (a0.toList != a0.toList)
theorem slices_isNaN_string.calls (a0 : ByteArray) (r : Bool) (w : World) (h : slices_isNaN_string.f a0 = some r) :
  Calls Try.prog 123 #[.string a0] w fun e w' => e = .returned (.bool r) /\ ak w w' := by
 have H : (some (a0.toList != a0.toList)) = some r := h
 clear h
 obtain rfl := Option.some.inj H
 go_enter Try.func123, Try.ntmps123
 go_wp2
 go_ret
 exact ⟨by first | rfl | (simp; done) | (simp [*]; done), by repeat (first | exact ak.refl _ | apply ak.step)⟩
def ag.l0 : Nat -> List ByteArray -> ByteArray -> Int -> Int -> Int -> Option (Int × Bool)
 | 0, _, _, _, _, _ => none
 | k + 1, x0, x1, x6, x7, x8 => if x7 < x8 then (if 0 <= (wrap64 ((IntKind.u64.wrap (wrap64 (x7 + x8))) / 2)) then (if (wrap64 ((IntKind.u64.wrap (wrap64 (x7 + x8))) / 2)) < (x0.length : Int) then ((cmp_Less_string.f (cK ByteArray.empty x0 (wrap64 ((IntKind.u64.wrap (wrap64 (x7 + x8))) / 2))) x1).bind fun RZ => (if RZ = true then (ag.l0 k x0 x1 x6 (wrap64 ((wrap64 ((IntKind.u64.wrap (wrap64 (x7 + x8))) / 2)) + 1)) x8) else (ag.l0 k x0 x1 x6 x7 (wrap64 ((IntKind.u64.wrap (wrap64 (x7 + x8))) / 2))))) else (none)) else (none)) else (if x7 < x6 then (if 0 <= x7 then (if x7 < (x0.length : Int) then (if (cK ByteArray.empty x0 x7).toList = x1.toList then (some (x7, true)) else ((slices_isNaN_string.f (cK ByteArray.empty x0 x7)).bind fun WI => (if WI = true then ((slices_isNaN_string.f x1).bind fun Mm => (some (x7, Mm))) else (some (x7, false))))) else (none)) else (none)) else (some (x7, false)))
def ag.f (k : Nat) (l0 : List ByteArray) (a1 : ByteArray) : Option (Int × Bool) := ag.l0 k l0 a1 (l0.length : Int) 0 (l0.length : Int)
theorem ag.wB : ∀ k, (∀ y0 y1 y2 y3 y4, ku (ag.l0 k y0 y1 y2 y3 y4) (ag.l0 (k + 1) y0 y1 y2 y3 y4))
 | 0 => fun _ _ _ _ _ r h => by simp [ag.l0] at h
 | k + 1 => by
  have Ue := ag.wB k
  ·intro y0 y1 y2 y3 y4
   unfold ag.l0
   repeat' (with_reducible first | exact Ue _ _ _ _ _ | exact ku.refl _ | exact ku.none _ | refine ku.ite ?_ ?_ | refine ku.bind ?_ (fun _ => ?_))
theorem ag.mono : ∀ a0 a1 k, ku (ag.f k a0 a1) (ag.f (k + 1) a0 a1) := by
 intro a0 a1 k
 have Ue := ag.wB k
 unfold ag.f
 repeat' (with_reducible first | exact Ue _ _ _ _ _ | exact ku.refl _ | exact ku.none _ | refine ku.ite ?_ ?_ | refine ku.bind ?_ (fun _ => ?_))
theorem ag.calls (k : Nat) (A0 : Option Addr) (c0 : Nat) (l0 : List ByteArray) (a1 : ByteArray) (r1 : Int) (r2 : Bool) (w : World) (hr0 : Kd.C Kd.string w A0 l0.length l0) (hc0 : l0.length <= c0) (h : ag.f k l0 a1 = some (r1, r2)) :
  Calls Try.prog 103 #[.slice A0 l0.length c0, .string a1] w fun e w' => e = .returned (.tuple #[.int .i64 r1, .bool r2]) /\ ak w w' := by
 have jf := A_ hr0
 have nQ := A_ hc0
 clear hr0 hc0
 have H : (ag.l0 k l0 a1 (l0.length : Int) 0 (l0.length : Int)) = some (r1, r2) := h
 clear h
 have H' := A_ H
 clear H
 go_enter Try.func103, Try.ntmps103
 go_wp2
 go_loopg [7, 8] k (fun kq v7 v8 w' => ∃ (dm : Int) (kF : Int), v7 = .int .i64 dm /\ v8 = .int .i64 kF /\ ae (ag.l0 kq l0 a1 (l0.length : Int) dm kF = some (r1, r2)) /\ ae (kq <= k) /\ ak w w')
 case atStart => exact ⟨(0), ((l0.length : Int)), (by first | rfl | (simp; done) | (simp [*]; done)), (by first | rfl | (simp; done) | (simp [*]; done)), H', ⟨Nat.le_refl _⟩, by repeat (first | exact ak.refl _ | apply ak.step)⟩
 case round =>
  clear H'
  (try clear c1); (try clear p2)
  obtain ⟨dm, kF, rfl, rfl, HA, ni, ⟨m1, rfl⟩⟩ := hrel
  cases gk with
  | zero => exact absurd HA.out (by simp [ag.l0])
  | succ k1 =>
   have H := HA.out
   clear HA
   simp only [ag.l0] at H
   by_cases c3 : dm < kF
   ·rw [if_pos c3] at H
    have jv : decide (dm < kF) = true := decide_eq_true c3
    clear c3
    obtain ⟨CF, OQ⟩ : ∃ j_ : Int, (wrap64 ((IntKind.u64.wrap (wrap64 (dm + kF))) / 2)) = j_ := ⟨_, rfl⟩
    replace H : (if 0 <= (CF) then (if (CF) < (l0.length : Int) then ((cmp_Less_string.f (cK ByteArray.empty l0 (CF)) a1).bind fun RZ => (if RZ = true then (ag.l0 k1 l0 a1 (l0.length : Int) (wrap64 ((CF) + 1)) kF) else (ag.l0 k1 l0 a1 (l0.length : Int) dm CF))) else (none)) else (none)) = some (r1, r2) := by first | (rw [OQ] at H; exact H) | (simp only [OQ] at H ⊢; exact H)
    have hji4w : (IntKind.i64.wrap ((IntKind.u64.wrap (wrap64 (dm + kF))) / 2)) = CF := (xO _).trans OQ
    by_cases c5 : 0 <= (CF)
    ·rw [if_pos c5] at H
     have CS : decide (0 <= (CF)) = true := decide_eq_true c5
     clear c5
     by_cases c6 : (CF) < (l0.length : Int)
     ·rw [if_pos c6] at H
      have yD : decide ((CF) < (l0.length : Int)) = true := decide_eq_true c6
      clear c6
      replace H := Option.bind_eq_some_iff.mp H
      obtain ⟨RZ, QL, H⟩ := H
      replace H : (if RZ = true then (ag.l0 k1 l0 a1 (l0.length : Int) (wrap64 ((CF) + 1)) kF) else (ag.l0 k1 l0 a1 (l0.length : Int) dm CF)) = some (r1, r2) := H
      have A7 := A_ QL
      clear QL
      by_cases c8 : RZ = true
      ·subst c8
       have H1 : (ag.l0 k1 l0 a1 (l0.length : Int) (wrap64 ((CF) + 1)) kF) = some (r1, r2) := by rw [if_pos rfl] at H; exact H
       clear H
       have H := H1
       clear H1
       have H' := A_ H
       clear H
       have OT : 0 <= ((CF) : Int) := of_decide_eq_true eP
       have OU : (CF) < (l0.length : Int) := of_decide_eq_true eP
       obtain ⟨ad239, YO, hx239_0⟩ := Kd.cO jf.out (CF) OT OU
       cases YO
       replace OT := eq_true OT
       replace OU := eq_true OU
       go_wp2_with (first | ((with_reducible refine aI (f := 122) rfl ?_); refine bV (some 27) rfl rfl Try.func122 (by kernel_rfl) rfl #[.string (cK ByteArray.empty l0 (CF)), .string a1] rfl (by (try simp only [List.map_toArray, List.map_cons, List.map_nil]); first | done | (simp only [OQ]; rfl) | rfl | (simp only [List.length_drop, List.length_take]; rfl)) ?_; (with_reducible refine (cmp_Less_string.calls (cK ByteArray.empty l0 (CF)) a1 true _ A7.out).mono ?_); rintro e w' ⟨rfl, ⟨nd, rfl⟩⟩; refine ⟨_, rfl, ?_⟩))
       go_roundg k1
       case measure => have := ni.out; omega
       case rel => exact ⟨(wrap64 ((CF) + 1)), (kF), (by first | rfl | (simp; done) | (simp only [<- OQ] <;> (first | rfl | simp)) | (simp [*]; done)), (by first | rfl | (simp; done) | (simp [*]; done)), H', ⟨by have := ni.out; omega⟩, by repeat (first | exact ak.refl _ | apply ak.step)⟩
      ·replace c8 := Bool.eq_false_iff.mpr c8
       subst c8
       have H1 : (ag.l0 k1 l0 a1 (l0.length : Int) dm CF) = some (r1, r2) := by rw [if_neg (show ¬ (false = true) by decide)] at H; exact H
       clear H
       have H := H1
       clear H1
       have H' := A_ H
       clear H
       have OT : 0 <= ((CF) : Int) := of_decide_eq_true eP
       have OU : (CF) < (l0.length : Int) := of_decide_eq_true eP
       obtain ⟨ad239, YO, hx239_0⟩ := Kd.cO jf.out (CF) OT OU
       cases YO
       replace OT := eq_true OT
       replace OU := eq_true OU
       go_wp2_with (first | ((with_reducible refine aI (f := 122) rfl ?_); refine bV (some 27) rfl rfl Try.func122 (by kernel_rfl) rfl #[.string (cK ByteArray.empty l0 (CF)), .string a1] rfl (by (try simp only [List.map_toArray, List.map_cons, List.map_nil]); first | done | (simp only [OQ]; rfl) | rfl | (simp only [List.length_drop, List.length_take]; rfl)) ?_; (with_reducible refine (cmp_Less_string.calls (cK ByteArray.empty l0 (CF)) a1 false _ A7.out).mono ?_); rintro e w' ⟨rfl, ⟨nd, rfl⟩⟩; refine ⟨_, rfl, ?_⟩))
       go_roundg k1
       case measure => have := ni.out; omega
       case rel => exact ⟨(dm), (CF), (by first | rfl | (simp; done) | (simp [*]; done)), (by first | rfl | (simp; done) | (simp only [<- OQ] <;> (first | rfl | simp)) | (simp [*]; done)), H', ⟨by have := ni.out; omega⟩, by repeat (first | exact ak.refl _ | apply ak.step)⟩
     ·rw [if_neg c6] at H
      exact absurd H (by simp)
    ·rw [if_neg c5] at H
     exact absurd H (by simp)
   ·rw [if_neg c3] at H
    have jv : decide (dm < kF) = false := decide_eq_false c3
    clear c3
    by_cases c9 : dm < (l0.length : Int)
    ·rw [if_pos c9] at H
     have Oz : decide (dm < (l0.length : Int)) = true := decide_eq_true c9
     clear c9
     by_cases c10 : 0 <= dm
     ·rw [if_pos c10] at H
      have c10b0 : decide (0 <= dm) = true := decide_eq_true c10
      clear c10
      by_cases c11 : dm < (l0.length : Int)
      ·rw [if_pos c11] at H
       have c11b0 : decide (dm < (l0.length : Int)) = true := decide_eq_true c11
       clear c11
       by_cases c12 : (cK ByteArray.empty l0 dm).toList = a1.toList
       ·rw [if_pos c12] at H
        have Uf : ((cK ByteArray.empty l0 dm).toList == a1.toList) = true := beq_iff_eq.mpr c12
        have c12b1 : ((cK ByteArray.empty l0 dm).toList != a1.toList) = false := bne_eq_false_iff_eq.mpr c12
        clear c12
        simp only [Option.some.injEq, Prod.mk.injEq] at H
        obtain ⟨rfl, rfl⟩ := H
        have EW : 0 <= (dm : Int) := of_decide_eq_true eP
        have EX : dm < (l0.length : Int) := of_decide_eq_true eP
        obtain ⟨QM, e241, hx241_0⟩ := Kd.cO jf.out dm EW EX
        cases e241
        replace EW := eq_true EW
        replace EX := eq_true EX
        go_wp2
        go_ret2
        exact ⟨by first | rfl | (simp; done) | (simp [*]; done), by repeat (first | exact ak.refl _ | apply ak.step)⟩
       ·rw [if_neg c12] at H
        have Uf : ((cK ByteArray.empty l0 dm).toList == a1.toList) = false := beq_eq_false_iff_ne.mpr c12
        have c12b1 : ((cK ByteArray.empty l0 dm).toList != a1.toList) = true := bne_iff_ne.mpr c12
        replace H := Option.bind_eq_some_iff.mp H
        obtain ⟨WI, A130, H⟩ := H
        replace H : (if WI = true then ((slices_isNaN_string.f a1).bind fun Mm => (some (dm, Mm))) else (some (dm, false))) = some (r1, r2) := H
        have A13 := A_ A130
        clear A130
        by_cases c14 : WI = true
        ·subst c14
         have H1 : ((slices_isNaN_string.f a1).bind fun Mm => (some (dm, Mm))) = some (r1, r2) := by rw [if_pos rfl] at H; exact H
         clear H
         have H := H1
         clear H1
         replace H := Option.bind_eq_some_iff.mp H
         obtain ⟨Mm, A150, H⟩ := H
         replace H : (some (dm, Mm)) = some (r1, r2) := H
         have A15 := A_ A150
         clear A150
         simp only [Option.some.injEq, Prod.mk.injEq] at H
         obtain ⟨rfl, rfl⟩ := H
         have EW : 0 <= (dm : Int) := of_decide_eq_true eP
         have EX : dm < (l0.length : Int) := of_decide_eq_true eP
         obtain ⟨QM, e241, hx241_0⟩ := Kd.cO jf.out dm EW EX
         cases e241
         replace EW := eq_true EW
         replace EX := eq_true EX
         have OV : 0 <= (dm : Int) := of_decide_eq_true eP
         have OW : dm < (l0.length : Int) := of_decide_eq_true eP
         obtain ⟨Ug, e242, hx242_0⟩ := Kd.cO jf.out dm OV OW
         obtain rfl : QM = Ug := (by injection e242)
         replace OV := eq_true OV
         replace OW := eq_true OW
         go_wp2_with (first | (go_at_call 123; (with_reducible refine (slices_isNaN_string.calls (cK ByteArray.empty l0 dm) true _ A13.out).mono ?_); rintro e w' ⟨rfl, ⟨nd, rfl⟩⟩) | (go_at_call 123; (with_reducible refine (slices_isNaN_string.calls a1 Mm _ A15.out).mono ?_); rintro e w' ⟨rfl, ⟨nd, rfl⟩⟩))
         go_ret2
         exact ⟨by first | rfl | (simp; done) | (simp [*]; done), by repeat (first | exact ak.refl _ | apply ak.step)⟩
        ·replace c14 := Bool.eq_false_iff.mpr c14
         subst c14
         have H1 : (some (dm, false)) = some (r1, r2) := by rw [if_neg (show ¬ (false = true) by decide)] at H; exact H
         clear H
         have H := H1
         clear H1
         simp only [Option.some.injEq, Prod.mk.injEq] at H
         obtain ⟨rfl, rfl⟩ := H
         have EW : 0 <= (dm : Int) := of_decide_eq_true eP
         have EX : dm < (l0.length : Int) := of_decide_eq_true eP
         obtain ⟨QM, e241, hx241_0⟩ := Kd.cO jf.out dm EW EX
         cases e241
         replace EW := eq_true EW
         replace EX := eq_true EX
         have OV : 0 <= (dm : Int) := of_decide_eq_true eP
         have OW : dm < (l0.length : Int) := of_decide_eq_true eP
         obtain ⟨Ug, e242, hx242_0⟩ := Kd.cO jf.out dm OV OW
         obtain rfl : QM = Ug := (by injection e242)
         replace OV := eq_true OV
         replace OW := eq_true OW
         go_wp2_with (first | (go_at_call 123; (with_reducible refine (slices_isNaN_string.calls (cK ByteArray.empty l0 dm) false _ A13.out).mono ?_); rintro e w' ⟨rfl, ⟨nd, rfl⟩⟩))
         go_ret2
         exact ⟨by first | rfl | (simp; done) | (simp [*]; done), by repeat (first | exact ak.refl _ | apply ak.step)⟩
      ·rw [if_neg c11] at H
       exact absurd H (by simp)
     ·rw [if_neg c10] at H
      exact absurd H (by simp)
    ·rw [if_neg c9] at H
     have Oz : decide (dm < (l0.length : Int)) = false := decide_eq_false c9
     clear c9
     simp only [Option.some.injEq, Prod.mk.injEq] at H
     obtain ⟨rfl, rfl⟩ := H
     go_wp2
     go_ret2
     exact ⟨by first | rfl | (simp; done) | (simp [*]; done), by repeat (first | exact ak.refl _ | apply ak.step)⟩
def fH.f (k : Nat) (l0 : List ByteArray) (a1 : ByteArray) : Option (Int) := (ag.f k l0 a1).bind fun Uh => (some Uh.1)
theorem fH.mono : ∀ a0 a1 k, ku (fH.f k a0 a1) (fH.f (k + 1) a0 a1) := by
 intro a0 a1 k
 unfold fH.f
 repeat' (with_reducible first | exact ag.mono _ _ _ | exact ku.refl _ | exact ku.none _ | refine ku.ite ?_ ?_ | refine ku.bind ?_ (fun _ => ?_))
theorem fH.calls (k : Nat) (A0 : Option Addr) (c0 : Nat) (l0 : List ByteArray) (a1 : ByteArray) (r : Int) (w : World) (hr0 : Kd.C Kd.string w A0 l0.length l0) (hc0 : l0.length <= c0) (h : fH.f k l0 a1 = some r) :
  Calls Try.prog 73 #[.slice A0 l0.length c0, .string a1] w fun e w' => e = .returned (.int .i64 r) /\ ak w w' := by
 have jf := A_ hr0
 have nQ := A_ hc0
 clear hr0 hc0
 have H : ((ag.f k l0 a1).bind fun Uh => (some Uh.1)) = some r := h
 clear h
 replace H := Option.bind_eq_some_iff.mp H
 obtain ⟨⟨t245, t246⟩, tN, H⟩ := H
 replace H : (some t245) = some r := H
 have A3 := A_ tN
 clear tN
 obtain rfl := Option.some.inj H
 go_enter Try.func73, Try.ntmps73
 go_wp2_with (first | ((with_reducible refine aI (f := 103) rfl ?_); refine bV (some 10) rfl rfl Try.func103 (by kernel_rfl) rfl #[.slice A0 l0.length c0, .string a1] rfl (mY) ?_; (with_reducible refine (ag.calls k _ _ l0 a1 t245 t246 _ ?aj ?aU A3.out).mono ?_); (case aj => refine lH ?_; exact jf.out); (case aU => exact nQ.out); rintro e w' ⟨rfl, ⟨nd, rfl⟩⟩; refine ⟨_, rfl, ?_⟩))
 go_ret
 exact ⟨by first | rfl | (simp; done) | (simp [*]; done), by repeat (first | exact ak.refl _ | apply ak.step)⟩
def gZ.f (l0 : List ByteArray) (a1 : Int) (a2 : ByteArray) : Option (Bool) := if a1 < (l0.length : Int) then (if 0 <= a1 then (some ((cK ByteArray.empty l0 a1).toList == a2.toList)) else (none)) else (some false)
theorem gZ.calls (A0 : Option Addr) (c0 : Nat) (l0 : List ByteArray) (a1 : Int) (a2 : ByteArray) (r : Bool) (w : World) (hr0 : Kd.C Kd.string w A0 l0.length l0) (hc0 : l0.length <= c0) (h : gZ.f l0 a1 a2 = some r) :
  Calls Try.prog 101 #[.slice A0 l0.length c0, .int .i64 a1, .string a2] w fun e w' => e = .returned (.bool r) /\ ak w w' := by
 have jf := A_ hr0
 have nQ := A_ hc0
 clear hr0 hc0
 have H : (if a1 < (l0.length : Int) then (if 0 <= a1 then (some ((cK ByteArray.empty l0 a1).toList == a2.toList)) else (none)) else (some false)) = some r := h
 clear h
 by_cases c4 : a1 < (l0.length : Int)
 ·rw [if_pos c4] at H
  have mq : decide (a1 < (l0.length : Int)) = true := decide_eq_true c4
  clear c4
  by_cases c5 : 0 <= a1
  ·rw [if_pos c5] at H
   have CS : decide (0 <= a1) = true := decide_eq_true c5
   clear c5
   obtain rfl := Option.some.inj H
   have YP : 0 <= (a1 : Int) := of_decide_eq_true eP
   have YQ : a1 < (l0.length : Int) := of_decide_eq_true eP
   obtain ⟨ad247, e247, hx247_0⟩ := Kd.cO jf.out a1 YP YQ
   cases e247
   replace YP := eq_true YP
   replace YQ := eq_true YQ
   go_enter Try.func101, Try.ntmps101
   go_wp2
   go_ret
   exact ⟨by first | rfl | (simp; done) | (simp [*]; done), by repeat (first | exact ak.refl _ | apply ak.step)⟩
  ·rw [if_neg c5] at H
   exact absurd H (by simp)
 ·rw [if_neg c4] at H
  have mq : decide (a1 < (l0.length : Int)) = false := decide_eq_false c4
  clear c4
  obtain rfl := Option.some.inj H
  go_enter Try.func101, Try.ntmps101
  go_wp2
  go_ret
  exact ⟨by first | rfl | (simp; done) | (simp [*]; done), by repeat (first | exact ak.refl _ | apply ak.step)⟩
end Go.Proofs.Ytoddejmlcnbdmaa.Fn
namespace Go.Proofs.Ytoddejmlcnbdmaa.Tree
open Go.Proofs.Ytoddejmlcnbdmaa.Fn
def Cq (a b : ByteArray) : Bool := Op.bytesLess a.toList b.toList
def dV (key : ByteArray) : List ByteArray -> Nat
 | [] => 0
 | k :: ks => if Cq k key then dV key ks + 1 else 0
def jI (keys : List ByteArray) (i : Nat) (key : ByteArray) : Bool := match keys[i]? with
 | some k => k.toList == key.toList
 | none => false
theorem XG {key k : ByteArray} {l : List ByteArray} {i x : Nat} (hk : l[i]? = some k) (h : x = i + dV key (l.drop i)) (hlt : Cq k key = true) : x = (i + 1) + dV key (l.drop (i + 1)) := by
 rw [fF hk, dV, if_pos hlt] at h
 omega
theorem VG {key k : ByteArray} {l : List ByteArray} {i x : Nat} (hk : l[i]? = some k) (h : x = i + dV key (l.drop i)) (hlt : Cq k key = false) : x = i := by
 rw [fF hk, dV, if_neg (by rw [hlt]; decide)] at h
 omega
theorem VH {key : ByteArray} {l : List ByteArray} {i x : Nat} (hi : l.length <= i) (h : x = i + dV key (l.drop i)) : x = i := by
 rw [List.drop_eq_nil_of_le hi, dV] at h
 omega
theorem nJ (key : ByteArray) : ∀ l : List ByteArray, dV key l <= l.length
 | [] => Nat.le_refl _
 | k :: ks => by
  rw [dV]
  have := nJ key ks
  split
  ·simp only [List.length_cons]; omega
  ·exact Nat.zero_le _
theorem lJ {keys : List ByteArray} {i : Nat} {key : ByteArray} (h : jI keys i key = true) : i < keys.length := by
 unfold jI at h
 rcases Nat.lt_or_ge i keys.length with hi | hi
 ·exact hi
 ·rw [List.getElem?_eq_none hi] at h
  cases h
def CO : Nat -> PT -> ByteArray -> ByteArray × Bool
 | 0, _, _ => (ByteArray.empty, false)
 | n + 1, t, key => if jI t.keys (dV key t.keys) key then (cK ByteArray.empty t.vals (dV key t.keys : Int), true) else if t.kids.length = 0 then (ByteArray.empty, false) else match t.kids[dV key t.keys]? with
  | some s => CO n s key
  | none => (ByteArray.empty, false)
def yf (k : Nat) : Nat -> PT -> ByteArray -> Option (ByteArray × Bool)
 | 0, _, _ => none
 | n + 1, t, key => (fH.f k t.keys key).bind fun a => (gZ.f t.keys a key).bind fun h =>
  if h = true then (if 0 <= a /\ a < (t.vals.length : Int) then some (cK ByteArray.empty t.vals a, true) else none)
  else if t.kids.length = 0 then some (ByteArray.empty, false)
  else if 0 <= a then (match t.kids[a.toNat]? with
   | some s => yf k n s key
   | none => none) else none
end Go.Proofs.Ytoddejmlcnbdmaa.Tree
namespace Go.Proofs.Ytoddejmlcnbdmaa.Fn
def eZ.f (a0 : ByteArray) : Option (Bool) := some (decide ((a0.size : Int) <= 12))
theorem eZ.calls (a0 : ByteArray) (r : Bool) (w : World) (h : eZ.f a0 = some r) :
  Calls Try.prog 104 #[.string a0] w fun e w' => e = .returned (.bool r) /\ ak w w' := by
 have H : (some (decide ((a0.size : Int) <= 12))) = some r := h
 clear h
 obtain rfl := Option.some.inj H
 go_enter Try.func104, Try.ntmps104
 go_wp2
 go_ret
 exact ⟨by first | rfl | (simp; done) | (simp [*]; done), by repeat (first | exact ak.refl _ | apply ak.step)⟩
def gT.f (a0 : ByteArray) (a1 : ByteArray) : Option (Bool) := (eZ.f a0).bind fun t167 => (if t167 = true then ((eZ.f a1).bind fun t168 => (if t168 = true then (some (a0.toList != ([] : List UInt8))) else (some false))) else (some false))
theorem gT.calls (a0 : ByteArray) (a1 : ByteArray) (r : Bool) (w : World) (h : gT.f a0 a1 = some r) :
  Calls Try.prog 75 #[.string a0, .string a1] w fun e w' => e = .returned (.bool r) /\ ak w w' := by
 have H : ((eZ.f a0).bind fun t167 => (if t167 = true then ((eZ.f a1).bind fun t168 => (if t168 = true then (some (a0.toList != ([] : List UInt8))) else (some false))) else (some false))) = some r := h
 clear h
 replace H := Option.bind_eq_some_iff.mp H
 obtain ⟨t167, tN, H⟩ := H
 replace H : (if t167 = true then ((eZ.f a1).bind fun t168 => (if t168 = true then (some (a0.toList != ([] : List UInt8))) else (some false))) else (some false)) = some r := H
 have A3 := A_ tN
 clear tN
 by_cases c4 : t167 = true
 ·subst c4
  have H1 : ((eZ.f a1).bind fun t168 => (if t168 = true then (some (a0.toList != ([] : List UInt8))) else (some false))) = some r := by rw [if_pos rfl] at H; exact H
  clear H
  have H := H1
  clear H1
  replace H := Option.bind_eq_some_iff.mp H
  obtain ⟨t168, IB, H⟩ := H
  replace H : (if t168 = true then (some (a0.toList != ([] : List UInt8))) else (some false)) = some r := H
  have A5 := A_ IB
  clear IB
  by_cases c6 : t168 = true
  ·subst c6
   have H1 : (some (a0.toList != ([] : List UInt8))) = some r := by rw [if_pos rfl] at H; exact H
   clear H
   have H := H1
   clear H1
   obtain rfl := Option.some.inj H
   go_enter Try.func75, Try.ntmps75
   go_wp2_with (first | ((with_reducible refine aI (f := 104) rfl ?_); refine bV (some 6) rfl rfl Try.func104 (by kernel_rfl) rfl #[.string a0] rfl (mY) ?_; (with_reducible refine (eZ.calls a0 true _ A3.out).mono ?_); rintro e w' ⟨rfl, ⟨nd, rfl⟩⟩; refine ⟨_, rfl, ?_⟩) | (go_at_call 104; (with_reducible refine (eZ.calls a1 true _ A5.out).mono ?_); rintro e w' ⟨rfl, ⟨nd, rfl⟩⟩))
   go_ret
   exact ⟨by first | rfl | (simp only [Go.Proofs.Ytoddejmlcnbdmaa.Gen.qC, Go.Proofs.Ytoddejmlcnbdmaa.Gen.uK]; first | done | rfl | (simp; done)) | (simp; done) | (simp [*]; done), by repeat (first | exact ak.refl _ | apply ak.step)⟩
  ·replace c6 := Bool.eq_false_iff.mpr c6
   subst c6
   have H1 : (some false) = some r := by rw [if_neg (show ¬ (false = true) by decide)] at H; exact H
   clear H
   have H := H1
   clear H1
   obtain rfl := Option.some.inj H
   go_enter Try.func75, Try.ntmps75
   go_wp2_with (first | ((with_reducible refine aI (f := 104) rfl ?_); refine bV (some 6) rfl rfl Try.func104 (by kernel_rfl) rfl #[.string a0] rfl (mY) ?_; (with_reducible refine (eZ.calls a0 true _ A3.out).mono ?_); rintro e w' ⟨rfl, ⟨nd, rfl⟩⟩; refine ⟨_, rfl, ?_⟩) | (go_at_call 104; (with_reducible refine (eZ.calls a1 false _ A5.out).mono ?_); rintro e w' ⟨rfl, ⟨nd, rfl⟩⟩))
   go_ret
   exact ⟨by first | rfl | (simp only [Go.Proofs.Ytoddejmlcnbdmaa.Gen.qC, Go.Proofs.Ytoddejmlcnbdmaa.Gen.uK]; first | done | rfl | (simp; done)) | (simp; done) | (simp [*]; done), by repeat (first | exact ak.refl _ | apply ak.step)⟩
 ·replace c4 := Bool.eq_false_iff.mpr c4
  subst c4
  have H1 : (some false) = some r := by rw [if_neg (show ¬ (false = true) by decide)] at H; exact H
  clear H
  have H := H1
  clear H1
  obtain rfl := Option.some.inj H
  go_enter Try.func75, Try.ntmps75
  go_wp2_with (first | ((with_reducible refine aI (f := 104) rfl ?_); refine bV (some 6) rfl rfl Try.func104 (by kernel_rfl) rfl #[.string a0] rfl (mY) ?_; (with_reducible refine (eZ.calls a0 false _ A3.out).mono ?_); rintro e w' ⟨rfl, ⟨nd, rfl⟩⟩; refine ⟨_, rfl, ?_⟩))
  go_ret
  exact ⟨by first | rfl | (simp only [Go.Proofs.Ytoddejmlcnbdmaa.Gen.qC, Go.Proofs.Ytoddejmlcnbdmaa.Gen.uK]; first | done | rfl | (simp; done)) | (simp; done) | (simp [*]; done), by repeat (first | exact ak.refl _ | apply ak.step)⟩
def kX.f (a0 : Int) (a1 : Int) (a2 : Int) : Option (Bool) := if a0 ≥ a1 then (some (decide (a0 <= a2))) else (some false)
theorem kX.calls (a0 : Int) (a1 : Int) (a2 : Int) (r : Bool) (w : World) (h : kX.f a0 a1 a2 = some r) :
  Calls Try.prog 69 #[.int .i64 a0, .int .i64 a1, .int .i64 a2] w fun e w' => e = .returned (.bool r) /\ ak w w' := by
 have H : (if a0 ≥ a1 then (some (decide (a0 <= a2))) else (some false)) = some r := h
 clear h
 by_cases c4 : a0 ≥ a1
 ·rw [if_pos c4] at H
  have mq : decide (a1 <= a0) = true := decide_eq_true c4
  clear c4
  obtain rfl := Option.some.inj H
  go_enter Try.func69, Try.ntmps69
  go_wp2
  go_ret
  exact ⟨by first | rfl | (simp; done) | (simp [*]; done), by repeat (first | exact ak.refl _ | apply ak.step)⟩
 ·rw [if_neg c4] at H
  have mq : decide (a1 <= a0) = false := decide_eq_false c4
  clear c4
  obtain rfl := Option.some.inj H
  go_enter Try.func69, Try.ntmps69
  go_wp2
  go_ret
  exact ⟨by first | rfl | (simp; done) | (simp [*]; done), by repeat (first | exact ak.refl _ | apply ak.step)⟩
def jU.f (a0 : ByteArray) : Option (Bool) := (kX.f (a0.size : Int) 1 12).bind fun t169 => (some t169)
theorem jU.calls (a0 : ByteArray) (r : Bool) (w : World) (h : jU.f a0 = some r) :
  Calls Try.prog 78 #[.string a0] w fun e w' => e = .returned (.bool r) /\ ak w w' := by
 have H : ((kX.f (a0.size : Int) 1 12).bind fun t169 => (some t169)) = some r := h
 clear h
 replace H := Option.bind_eq_some_iff.mp H
 obtain ⟨t169, zW, H⟩ := H
 replace H : (some t169) = some r := H
 have A2 := A_ zW
 clear zW
 obtain rfl := Option.some.inj H
 go_enter Try.func78, Try.ntmps78
 go_wp2_with (first | ((with_reducible refine aI (f := 69) rfl ?_); refine bV (some 5) rfl rfl Try.func69 (by kernel_rfl) rfl #[.int .i64 (a0.size : Int), .int .i64 1, .int .i64 12] rfl (mY) ?_; (with_reducible refine (kX.calls (a0.size : Int) 1 12 t169 _ A2.out).mono ?_); rintro e w' ⟨rfl, ⟨nd, rfl⟩⟩; refine ⟨_, rfl, ?_⟩))
 go_ret
 exact ⟨by first | rfl | (simp; done) | (simp [*]; done), by repeat (first | exact ak.refl _ | apply ak.step)⟩
def aW.l0 : Nat -> List ByteArray -> List ByteArray -> Int -> Int -> Option (Bool)
 | 0, _, _, _, _ => none
 | k + 1, x0, x5, x6, x7 => if x7 < x6 then (if 0 <= x7 then (if x7 < (x5.length : Int) then ((jU.f (cK ByteArray.empty x5 x7)).bind fun t171 => (if t171 = true then (if x7 > 0 then (if 0 <= (wrap64 (x7 - 1)) then (if (wrap64 (x7 - 1)) < (x0.length : Int) then (if ((Op.bytesLess ((cK ByteArray.empty x0 (wrap64 (x7 - 1))).toList) ((cK ByteArray.empty x5 x7).toList)) = true) then (aW.l0 k x0 x5 x6 (wrap64 (x7 + 1))) else (some false)) else (none)) else (none)) else (aW.l0 k x0 x5 x6 (wrap64 (x7 + 1)))) else (some false))) else (none)) else (none)) else (some true)
def aW.f (k : Nat) (l0 : List ByteArray) : Option (Bool) := aW.l0 k l0 l0 (l0.length : Int) 0
theorem aW.wB : ∀ k, (∀ y0 y1 y2 y3, ku (aW.l0 k y0 y1 y2 y3) (aW.l0 (k + 1) y0 y1 y2 y3))
 | 0 => fun _ _ _ _ r h => by simp [aW.l0] at h
 | k + 1 => by
  have Ue := aW.wB k
  ·intro y0 y1 y2 y3
   unfold aW.l0
   repeat' (with_reducible first | exact Ue _ _ _ _ | exact ku.refl _ | exact ku.none _ | refine ku.ite ?_ ?_ | refine ku.bind ?_ (fun _ => ?_))
theorem aW.mono : ∀ a0 k, ku (aW.f k a0) (aW.f (k + 1) a0) := by
 intro a0 k
 have Ue := aW.wB k
 unfold aW.f
 repeat' (with_reducible first | exact Ue _ _ _ _ | exact ku.refl _ | exact ku.none _ | refine ku.ite ?_ ?_ | refine ku.bind ?_ (fun _ => ?_))
theorem aW.calls (k : Nat) (A0 : Option Addr) (c0 : Nat) (l0 : List ByteArray) (r : Bool) (w : World) (hr0 : Kd.C Kd.string w A0 l0.length l0) (hc0 : l0.length <= c0) (h : aW.f k l0 = some r) :
  Calls Try.prog 115 #[.slice A0 l0.length c0] w fun e w' => e = .returned (.bool r) /\ ak w w' := by
 have jf := A_ hr0
 have nQ := A_ hc0
 clear hr0 hc0
 have H : (aW.l0 k l0 l0 (l0.length : Int) 0) = some r := h
 clear h
 have H' := A_ H
 clear H
 go_enter Try.func115, Try.ntmps115
 go_wp2
 go_loopg [7] k (fun kq v7 w' => ∃ (dm : Int), v7 = .int .i64 dm /\ ae (aW.l0 kq l0 l0 (l0.length : Int) dm = some r) /\ ae (kq <= k) /\ ak w w')
 case atStart => exact ⟨(0), (by first | rfl | (simp; done) | (simp [*]; done)), H', ⟨Nat.le_refl _⟩, by repeat (first | exact ak.refl _ | apply ak.step)⟩
 case round =>
  clear H'
  (try clear c1)
  obtain ⟨dm, rfl, HA, ni, ⟨m1, rfl⟩⟩ := hrel
  cases gk with
  | zero => exact absurd HA.out (by simp [aW.l0])
  | succ k1 =>
   have H := HA.out
   clear HA
   simp only [aW.l0] at H
   by_cases c2 : dm < (l0.length : Int)
   ·rw [if_pos c2] at H
    have Gg : decide (dm < (l0.length : Int)) = true := decide_eq_true c2
    clear c2
    by_cases c3 : 0 <= dm
    ·rw [if_pos c3] at H
     have jv : decide (0 <= dm) = true := decide_eq_true c3
     clear c3
     by_cases c4 : dm < (l0.length : Int)
     ·rw [if_pos c4] at H
      have mq : decide (dm < (l0.length : Int)) = true := decide_eq_true c4
      clear c4
      replace H := Option.bind_eq_some_iff.mp H
      obtain ⟨t171, IB, H⟩ := H
      replace H : (if t171 = true then (if dm > 0 then (if 0 <= (wrap64 (dm - 1)) then (if (wrap64 (dm - 1)) < (l0.length : Int) then (if ((Op.bytesLess ((cK ByteArray.empty l0 (wrap64 (dm - 1))).toList) ((cK ByteArray.empty l0 dm).toList)) = true) then (aW.l0 k1 l0 l0 (l0.length : Int) (wrap64 (dm + 1))) else (some false)) else (none)) else (none)) else (aW.l0 k1 l0 l0 (l0.length : Int) (wrap64 (dm + 1)))) else (some false)) = some r := H
      have A5 := A_ IB
      clear IB
      by_cases c6 : t171 = true
      ·subst c6
       have H1 : (if dm > 0 then (if 0 <= (wrap64 (dm - 1)) then (if (wrap64 (dm - 1)) < (l0.length : Int) then (if ((Op.bytesLess ((cK ByteArray.empty l0 (wrap64 (dm - 1))).toList) ((cK ByteArray.empty l0 dm).toList)) = true) then (aW.l0 k1 l0 l0 (l0.length : Int) (wrap64 (dm + 1))) else (some false)) else (none)) else (none)) else (aW.l0 k1 l0 l0 (l0.length : Int) (wrap64 (dm + 1)))) = some r := by rw [if_pos rfl] at H; exact H
       clear H
       have H := H1
       clear H1
       by_cases c7 : dm > 0
       ·rw [if_pos c7] at H
        have CU : decide (0 < dm) = true := decide_eq_true c7
        clear c7
        obtain ⟨Mo, Ui⟩ : ∃ j_ : Int, (wrap64 (dm - 1)) = j_ := ⟨_, rfl⟩
        replace H : (if 0 <= (Mo) then (if (Mo) < (l0.length : Int) then (if ((Op.bytesLess ((cK ByteArray.empty l0 (Mo)).toList) ((cK ByteArray.empty l0 dm).toList)) = true) then (aW.l0 k1 l0 l0 (l0.length : Int) (wrap64 (dm + 1))) else (some false)) else (none)) else (none)) = some r := by first | (rw [Ui] at H; exact H) | (simp only [Ui] at H ⊢; exact H)
        (try rw [Ui] at A5)
        have hji8w : (IntKind.i64.wrap (dm - 1)) = Mo := (xO _).trans Ui
        by_cases c9 : 0 <= (Mo)
        ·rw [if_pos c9] at H
         have Oz : decide (0 <= (Mo)) = true := decide_eq_true c9
         clear c9
         by_cases c10 : (Mo) < (l0.length : Int)
         ·rw [if_pos c10] at H
          have c10b0 : decide ((Mo) < (l0.length : Int)) = true := decide_eq_true c10
          clear c10
          by_cases c11 : ((Op.bytesLess ((cK ByteArray.empty l0 (Mo)).toList) ((cK ByteArray.empty l0 dm).toList)) = true)
          ·rw [if_pos c11] at H
           have c11b0 : (Op.bytesLess ((cK ByteArray.empty l0 (Mo)).toList) ((cK ByteArray.empty l0 dm).toList)) = true := c11
           clear c11
           have H' := A_ H
           clear H
           have yI : 0 <= (dm : Int) := of_decide_eq_true eP
           have yJ : dm < (l0.length : Int) := of_decide_eq_true eP
           obtain ⟨Mq, e170, J7⟩ := Kd.cO jf.out dm yI yJ
           cases e170
           replace yI := eq_true yI
           replace yJ := eq_true yJ
           go_wp2_with (first | ((with_reducible refine aI (f := 78) rfl ?_); refine bV (some 13) rfl rfl Try.func78 (by kernel_rfl) rfl #[.string (cK ByteArray.empty l0 dm)] rfl (mY) ?_; (with_reducible refine (jU.calls (cK ByteArray.empty l0 dm) true _ A5.out).mono ?_); rintro e w' ⟨rfl, ⟨nd, rfl⟩⟩; refine ⟨_, rfl, ?_⟩; have OX : 0 <= ((Mo) : Int) := of_decide_eq_true eP; have OY : (Mo) < (l0.length : Int) := of_decide_eq_true eP; obtain ⟨Uj, YR, hx172_0⟩ := Kd.cO jf.out (Mo) OX OY; obtain rfl : Mq = Uj := (by injection YR); replace OX := eq_true OX; replace OY := eq_true OY))
           go_roundg k1
           case measure => have := ni.out; omega
           case rel => exact ⟨(wrap64 (dm + 1)), (by first | rfl | (simp; done) | (simp [*]; done)), H', ⟨by have := ni.out; omega⟩, by repeat (first | exact ak.refl _ | apply ak.step)⟩
          ·rw [if_neg c11] at H
           have c11b0 : (Op.bytesLess ((cK ByteArray.empty l0 (Mo)).toList) ((cK ByteArray.empty l0 dm).toList)) = false := by simpa using c11
           clear c11
           obtain rfl := Option.some.inj H
           have yI : 0 <= (dm : Int) := of_decide_eq_true eP
           have yJ : dm < (l0.length : Int) := of_decide_eq_true eP
           obtain ⟨Mq, e170, J7⟩ := Kd.cO jf.out dm yI yJ
           cases e170
           replace yI := eq_true yI
           replace yJ := eq_true yJ
           go_wp2_with (first | ((with_reducible refine aI (f := 78) rfl ?_); refine bV (some 13) rfl rfl Try.func78 (by kernel_rfl) rfl #[.string (cK ByteArray.empty l0 dm)] rfl (mY) ?_; (with_reducible refine (jU.calls (cK ByteArray.empty l0 dm) true _ A5.out).mono ?_); rintro e w' ⟨rfl, ⟨nd, rfl⟩⟩; refine ⟨_, rfl, ?_⟩; have OX : 0 <= ((Mo) : Int) := of_decide_eq_true eP; have OY : (Mo) < (l0.length : Int) := of_decide_eq_true eP; obtain ⟨Uj, YR, hx172_0⟩ := Kd.cO jf.out (Mo) OX OY; obtain rfl : Mq = Uj := (by injection YR); replace OX := eq_true OX; replace OY := eq_true OY))
           go_ret
           exact ⟨by first | rfl | (simp only [Go.Proofs.Ytoddejmlcnbdmaa.Gen.qC, Go.Proofs.Ytoddejmlcnbdmaa.Gen.uK]; first | done | rfl | (simp; done)) | (simp; done) | (simp only [<- Ui] <;> (first | rfl | simp)) | (simp [*]; done), by repeat (first | exact ak.refl _ | apply ak.step)⟩
         ·rw [if_neg c10] at H
          exact absurd H (by simp)
        ·rw [if_neg c9] at H
         exact absurd H (by simp)
       ·rw [if_neg c7] at H
        have CU : decide (0 < dm) = false := decide_eq_false c7
        clear c7
        have H' := A_ H
        clear H
        have yI : 0 <= (dm : Int) := of_decide_eq_true eP
        have yJ : dm < (l0.length : Int) := of_decide_eq_true eP
        obtain ⟨Mq, e170, J7⟩ := Kd.cO jf.out dm yI yJ
        cases e170
        replace yI := eq_true yI
        replace yJ := eq_true yJ
        go_wp2_with (first | ((with_reducible refine aI (f := 78) rfl ?_); refine bV (some 13) rfl rfl Try.func78 (by kernel_rfl) rfl #[.string (cK ByteArray.empty l0 dm)] rfl (mY) ?_; (with_reducible refine (jU.calls (cK ByteArray.empty l0 dm) true _ A5.out).mono ?_); rintro e w' ⟨rfl, ⟨nd, rfl⟩⟩; refine ⟨_, rfl, ?_⟩))
        go_roundg k1
        case measure => have := ni.out; omega
        case rel => exact ⟨(wrap64 (dm + 1)), (by first | rfl | (simp; done) | (simp [*]; done)), H', ⟨by have := ni.out; omega⟩, by repeat (first | exact ak.refl _ | apply ak.step)⟩
      ·replace c6 := Bool.eq_false_iff.mpr c6
       subst c6
       have H1 : (some false) = some r := by rw [if_neg (show ¬ (false = true) by decide)] at H; exact H
       clear H
       have H := H1
       clear H1
       obtain rfl := Option.some.inj H
       have yI : 0 <= (dm : Int) := of_decide_eq_true eP
       have yJ : dm < (l0.length : Int) := of_decide_eq_true eP
       obtain ⟨Mq, e170, J7⟩ := Kd.cO jf.out dm yI yJ
       cases e170
       replace yI := eq_true yI
       replace yJ := eq_true yJ
       go_wp2_with (first | ((with_reducible refine aI (f := 78) rfl ?_); refine bV (some 13) rfl rfl Try.func78 (by kernel_rfl) rfl #[.string (cK ByteArray.empty l0 dm)] rfl (mY) ?_; (with_reducible refine (jU.calls (cK ByteArray.empty l0 dm) false _ A5.out).mono ?_); rintro e w' ⟨rfl, ⟨nd, rfl⟩⟩; refine ⟨_, rfl, ?_⟩))
       go_ret
       exact ⟨by first | rfl | (simp only [Go.Proofs.Ytoddejmlcnbdmaa.Gen.qC, Go.Proofs.Ytoddejmlcnbdmaa.Gen.uK]; first | done | rfl | (simp; done)) | (simp; done) | (simp [*]; done), by repeat (first | exact ak.refl _ | apply ak.step)⟩
     ·rw [if_neg c4] at H
      exact absurd H (by simp)
    ·rw [if_neg c3] at H
     exact absurd H (by simp)
   ·rw [if_neg c2] at H
    have Gg : decide (dm < (l0.length : Int)) = false := decide_eq_false c2
    clear c2
    obtain rfl := Option.some.inj H
    go_wp2
    go_ret
    exact ⟨by first | rfl | (simp only [Go.Proofs.Ytoddejmlcnbdmaa.Gen.qC, Go.Proofs.Ytoddejmlcnbdmaa.Gen.uK]; first | done | rfl | (simp; done)) | (simp; done) | (simp [*]; done), by repeat (first | exact ak.refl _ | apply ak.step)⟩
def mK.f (a0 : ByteArray) : Option (Bool) := some (decide ((a0.size : Int) <= 12))
theorem mK.calls (a0 : ByteArray) (r : Bool) (w : World) (h : mK.f a0 = some r) :
  Calls Try.prog 79 #[.string a0] w fun e w' => e = .returned (.bool r) /\ ak w w' := by
 have H : (some (decide ((a0.size : Int) <= 12))) = some r := h
 clear h
 obtain rfl := Option.some.inj H
 go_enter Try.func79, Try.ntmps79
 go_wp2
 go_ret
 exact ⟨by first | rfl | (simp; done) | (simp [*]; done), by repeat (first | exact ak.refl _ | apply ak.step)⟩
def ic.f (a0 : ByteArray) : Option (Bool) := (mK.f a0).bind fun t173 => (some (!t173))
theorem ic.calls (a0 : ByteArray) (r : Bool) (w : World) (h : ic.f a0 = some r) :
  Calls Try.prog 117 #[.string a0] w fun e w' => e = .returned (.bool r) /\ ak w w' := by
 have H : ((mK.f a0).bind fun t173 => (some (!t173))) = some r := h
 clear h
 replace H := Option.bind_eq_some_iff.mp H
 obtain ⟨t173, zW, H⟩ := H
 replace H : (some (!t173)) = some r := H
 have A2 := A_ zW
 clear zW
 obtain rfl := Option.some.inj H
 go_enter Try.func117, Try.ntmps117
 go_wp2_with (first | ((with_reducible refine aI (f := 79) rfl ?_); refine bV (some 4) rfl rfl Try.func79 (by kernel_rfl) rfl #[.string a0] rfl (mY) ?_; (with_reducible refine (mK.calls a0 t173 _ A2.out).mono ?_); rintro e w' ⟨rfl, ⟨nd, rfl⟩⟩; refine ⟨_, rfl, ?_⟩))
 go_ret
 exact ⟨by first | rfl | (simp; done) | (simp [*]; done), by repeat (first | exact ak.refl _ | apply ak.step)⟩
def aC.l0 : Nat -> List ByteArray -> Int -> Int -> Option (Int)
 | 0, _, _, _ => none
 | k + 1, x0, x7, x8 => if x8 < x7 then (if 0 <= x8 then (if x8 < (x0.length : Int) then ((ic.f (cK ByteArray.empty x0 x8)).bind fun t175 => (if t175 = true then (some x8) else (aC.l0 k x0 x7 (wrap64 (x8 + 1))))) else (none)) else (none)) else (some (-1))
def aC.f (k : Nat) (l0 : List ByteArray)  : Option (Int) := aC.l0 k l0 (l0.length : Int) 0
theorem aC.wB : ∀ k, (∀ y0 y1 y2, ku (aC.l0 k y0 y1 y2) (aC.l0 (k + 1) y0 y1 y2))
 | 0 => fun _ _ _ r h => by simp [aC.l0] at h
 | k + 1 => by
  have Ue := aC.wB k
  ·intro y0 y1 y2
   unfold aC.l0
   repeat' (with_reducible first | exact Ue _ _ _ | exact ku.refl _ | exact ku.none _ | refine ku.ite ?_ ?_ | refine ku.bind ?_ (fun _ => ?_))
theorem aC.mono : ∀ a0 k, ku (aC.f k a0) (aC.f (k + 1) a0) := by
 intro a0 k
 have Ue := aC.wB k
 unfold aC.f
 repeat' (with_reducible first | exact Ue _ _ _ | exact ku.refl _ | exact ku.none _ | refine ku.ite ?_ ?_ | refine ku.bind ?_ (fun _ => ?_))
theorem aC.calls (k : Nat) (A0 : Option Addr) (c0 : Nat) (l0 : List ByteArray)  (r : Int) (w : World) (hr0 : Kd.C Kd.string w A0 l0.length l0) (hc0 : l0.length <= c0) (h : aC.f k l0 = some r) :
  Calls Try.prog 134 #[.slice A0 l0.length c0, .func (.func 117) #[] #[]] w fun e w' => e = .returned (.int .i64 r) /\ ak w w' := by
 have jf := A_ hr0
 have nQ := A_ hc0
 clear hr0 hc0
 have H : (aC.l0 k l0 (l0.length : Int) 0) = some r := h
 clear h
 have H' := A_ H
 clear H
 go_enter Try.func134, Try.ntmps134
 go_wp2
 go_loopg [8] k (fun kq v8 w' => ∃ (kF : Int), v8 = .int .i64 kF /\ ae (aC.l0 kq l0 (l0.length : Int) kF = some r) /\ ae (kq <= k) /\ ak w w')
 case atStart => exact ⟨(0), (by first | rfl | (simp; done) | (simp [*]; done)), H', ⟨Nat.le_refl _⟩, by repeat (first | exact ak.refl _ | apply ak.step)⟩
 case round =>
  clear H'
  (try clear c1); (try clear p2)
  obtain ⟨kF, rfl, HA, ni, ⟨m1, rfl⟩⟩ := hrel
  cases gk with
  | zero => exact absurd HA.out (by simp [aC.l0])
  | succ k1 =>
   have H := HA.out
   clear HA
   simp only [aC.l0] at H
   by_cases c3 : kF < (l0.length : Int)
   ·rw [if_pos c3] at H
    have jv : decide (kF < (l0.length : Int)) = true := decide_eq_true c3
    clear c3
    by_cases c4 : 0 <= kF
    ·rw [if_pos c4] at H
     have mq : decide (0 <= kF) = true := decide_eq_true c4
     clear c4
     by_cases c5 : kF < (l0.length : Int)
     ·rw [if_pos c5] at H
      have CS : decide (kF < (l0.length : Int)) = true := decide_eq_true c5
      clear c5
      replace H := Option.bind_eq_some_iff.mp H
      obtain ⟨t175, A60, H⟩ := H
      replace H : (if t175 = true then (some kF) else (aC.l0 k1 l0 (l0.length : Int) (wrap64 (kF + 1)))) = some r := H
      have A6 := A_ A60
      clear A60
      by_cases c7 : t175 = true
      ·subst c7
       have H1 : (some kF) = some r := by rw [if_pos rfl] at H; exact H
       clear H
       have H := H1
       clear H1
       obtain rfl := Option.some.inj H
       have OZ : 0 <= (kF : Int) := of_decide_eq_true eP
       have O0 : kF < (l0.length : Int) := of_decide_eq_true eP
       obtain ⟨ad174, YS, hx174_0⟩ := Kd.cO jf.out kF OZ O0
       cases YS
       replace OZ := eq_true OZ
       replace O0 := eq_true O0
       go_wp2_with (first | ((with_reducible refine Go.Proofs.Ytoddejmlcnbdmaa.Gen.WU rfl ?_); refine Go.Proofs.Ytoddejmlcnbdmaa.Gen.Sv (some 16) rfl rfl Try.func117 (by kernel_rfl) rfl #[.string (cK ByteArray.empty l0 kF)] rfl (mY) ?_; (with_reducible refine (ic.calls (cK ByteArray.empty l0 kF) true _ A6.out).mono ?_); rintro e w' ⟨rfl, ⟨nd, rfl⟩⟩; refine ⟨_, rfl, ?_⟩))
       go_ret
       exact ⟨by first | rfl | (simp; done) | (simp [*]; done), by repeat (first | exact ak.refl _ | apply ak.step)⟩
      ·replace c7 := Bool.eq_false_iff.mpr c7
       subst c7
       have H1 : (aC.l0 k1 l0 (l0.length : Int) (wrap64 (kF + 1))) = some r := by rw [if_neg (show ¬ (false = true) by decide)] at H; exact H
       clear H
       have H := H1
       clear H1
       have H' := A_ H
       clear H
       have OZ : 0 <= (kF : Int) := of_decide_eq_true eP
       have O0 : kF < (l0.length : Int) := of_decide_eq_true eP
       obtain ⟨ad174, YS, hx174_0⟩ := Kd.cO jf.out kF OZ O0
       cases YS
       replace OZ := eq_true OZ
       replace O0 := eq_true O0
       go_wp2_with (first | ((with_reducible refine Go.Proofs.Ytoddejmlcnbdmaa.Gen.WU rfl ?_); refine Go.Proofs.Ytoddejmlcnbdmaa.Gen.Sv (some 16) rfl rfl Try.func117 (by kernel_rfl) rfl #[.string (cK ByteArray.empty l0 kF)] rfl (mY) ?_; (with_reducible refine (ic.calls (cK ByteArray.empty l0 kF) false _ A6.out).mono ?_); rintro e w' ⟨rfl, ⟨nd, rfl⟩⟩; refine ⟨_, rfl, ?_⟩))
       go_roundg k1
       case measure => have := ni.out; omega
       case rel => exact ⟨(wrap64 (kF + 1)), (by first | rfl | (simp; done) | (simp [*]; done)), H', ⟨by have := ni.out; omega⟩, by repeat (first | exact ak.refl _ | apply ak.step)⟩
     ·rw [if_neg c5] at H
      exact absurd H (by simp)
    ·rw [if_neg c4] at H
     exact absurd H (by simp)
   ·rw [if_neg c3] at H
    have jv : decide (kF < (l0.length : Int)) = false := decide_eq_false c3
    clear c3
    obtain rfl := Option.some.inj H
    go_wp2
    go_ret
    exact ⟨by first | rfl | (simp; done) | (simp [*]; done), by repeat (first | exact ak.refl _ | apply ak.step)⟩
def bu.f (k : Nat) (l0 : List ByteArray)  : Option (Bool) := (aC.f k l0).bind fun R3 => (some (decide (R3 ≥ 0)))
theorem bu.mono : ∀ a0 k, ku (bu.f k a0) (bu.f (k + 1) a0) := by
 intro a0 k
 unfold bu.f
 repeat' (with_reducible first | exact aC.mono _ _ | exact ku.refl _ | exact ku.none _ | refine ku.ite ?_ ?_ | refine ku.bind ?_ (fun _ => ?_))
theorem bu.calls (k : Nat) (A0 : Option Addr) (c0 : Nat) (l0 : List ByteArray)  (r : Bool) (w : World) (hr0 : Kd.C Kd.string w A0 l0.length l0) (hc0 : l0.length <= c0) (h : bu.f k l0 = some r) :
  Calls Try.prog 116 #[.slice A0 l0.length c0, .func (.func 117) #[] #[]] w fun e w' => e = .returned (.bool r) /\ ak w w' := by
 have jf := A_ hr0
 have nQ := A_ hc0
 clear hr0 hc0
 have H : ((aC.f k l0).bind fun R3 => (some (decide (R3 ≥ 0)))) = some r := h
 clear h
 replace H := Option.bind_eq_some_iff.mp H
 obtain ⟨R3, tN, H⟩ := H
 replace H : (some (decide (R3 ≥ 0))) = some r := H
 have A3 := A_ tN
 clear tN
 obtain rfl := Option.some.inj H
 go_enter Try.func116, Try.ntmps116
 go_wp2_with (first | ((with_reducible refine aI (f := 134) rfl ?_); refine bV (some 7) rfl rfl Try.func134 (by kernel_rfl) rfl #[.slice A0 l0.length c0, .func (.func 117) #[] #[]] rfl (mY) ?_; (with_reducible refine (aC.calls k _ _ l0  R3 _ ?aj ?aU A3.out).mono ?_); (case aj => refine lH ?_; exact jf.out); (case aU => exact nQ.out); rintro e w' ⟨rfl, ⟨nd, rfl⟩⟩; refine ⟨_, rfl, ?_⟩))
 go_ret
 exact ⟨by first | rfl | (simp; done) | (simp [*]; done), by repeat (first | exact ak.refl _ | apply ak.step)⟩
def fq.f (k : Nat) (l0 : List ByteArray) (l1 : List ByteArray) : Option (Bool) := if (l0.length : Int) <= 40 then (if (l0.length : Int) = (l1.length : Int) then ((aW.f k l0).bind fun R4 => (if R4 = true then ((bu.f k l1).bind fun Gn => (some (!Gn))) else (some false))) else (some false)) else (some false)
theorem fq.mono : ∀ a0 a1 k, ku (fq.f k a0 a1) (fq.f (k + 1) a0 a1) := by
 intro a0 a1 k
 unfold fq.f
 repeat' (with_reducible first | exact aW.mono _ _ | exact bu.mono _ _ | exact ku.refl _ | exact ku.none _ | refine ku.ite ?_ ?_ | refine ku.bind ?_ (fun _ => ?_))
theorem fq.calls (k : Nat) (A0 : Option Addr) (c0 : Nat) (l0 : List ByteArray) (A1 : Option Addr) (c1 : Nat) (l1 : List ByteArray) (r : Bool) (w : World) (hr0 : Kd.C Kd.string w A0 l0.length l0) (hc0 : l0.length <= c0) (hr1 : Kd.C Kd.string w A1 l1.length l1) (hc1 : l1.length <= c1) (h : fq.f k l0 l1 = some r) :
  Calls Try.prog 86 #[.slice A0 l0.length c0, .slice A1 l1.length c1] w fun e w' => e = .returned (.bool r) /\ ak w w' := by
 have jf := A_ hr0
 have nQ := A_ hc0
 clear hr0 hc0
 have HR1 := A_ hr1
 have J6 := A_ hc1
 clear hr1 hc1
 have H : (if (l0.length : Int) <= 40 then (if (l0.length : Int) = (l1.length : Int) then ((aW.f k l0).bind fun R4 => (if R4 = true then ((bu.f k l1).bind fun Gn => (some (!Gn))) else (some false))) else (some false)) else (some false)) = some r := h
 clear h
 by_cases c3 : (l0.length : Int) <= 40
 ·rw [if_pos c3] at H
  have jv : decide ((l0.length : Int) <= 40) = true := decide_eq_true c3
  have vV := pF (l0.length <= 40)
  clear c3
  by_cases c4 : (l0.length : Int) = (l1.length : Int)
  ·rw [if_pos c4] at H
   have mq : ((l0.length : Int) == (l1.length : Int)) = true := beq_iff_eq.mpr c4
   have RL : ((l0.length : Int) != (l1.length : Int)) = false := bne_eq_false_iff_eq.mpr c4
   have c4b2 : (l0.length == l1.length) = true := by first | simpa using c4 | (simp at c4 ⊢; omega)
   clear c4
   replace H := Option.bind_eq_some_iff.mp H
   obtain ⟨R4, IB, H⟩ := H
   replace H : (if R4 = true then ((bu.f k l1).bind fun Gn => (some (!Gn))) else (some false)) = some r := H
   have A5 := A_ IB
   clear IB
   by_cases c6 : R4 = true
   ·subst c6
    have H1 : ((bu.f k l1).bind fun Gn => (some (!Gn))) = some r := by rw [if_pos rfl] at H; exact H
    clear H
    have H := H1
    clear H1
    replace H := Option.bind_eq_some_iff.mp H
    obtain ⟨Gn, QL, H⟩ := H
    replace H : (some (!Gn)) = some r := H
    have A7 := A_ QL
    clear QL
    obtain rfl := Option.some.inj H
    go_enter Try.func86, Try.ntmps86
    go_wp2_with (first | (go_at_call 115; (with_reducible refine (aW.calls k _ _ l0 true _ ?aj ?aU A5.out).mono ?_); (case aj => refine lH ?_; exact jf.out); (case aU => exact nQ.out); rintro e w' ⟨rfl, ⟨nd, rfl⟩⟩) | (go_at_call 116; (with_reducible refine (bu.calls k _ _ l1  Gn _ ?aj ?aU A7.out).mono ?_); (case aj => refine lH ?_; exact HR1.out); (case aU => exact J6.out); rintro e w' ⟨rfl, ⟨nd, rfl⟩⟩))
    go_ret
    exact ⟨by first | rfl | (simp; done) | (simp [*]; done), by repeat (first | exact ak.refl _ | apply ak.step)⟩
   ·replace c6 := Bool.eq_false_iff.mpr c6
    subst c6
    have H1 : (some false) = some r := by rw [if_neg (show ¬ (false = true) by decide)] at H; exact H
    clear H
    have H := H1
    clear H1
    obtain rfl := Option.some.inj H
    go_enter Try.func86, Try.ntmps86
    go_wp2_with (first | (go_at_call 115; (with_reducible refine (aW.calls k _ _ l0 false _ ?aj ?aU A5.out).mono ?_); (case aj => refine lH ?_; exact jf.out); (case aU => exact nQ.out); rintro e w' ⟨rfl, ⟨nd, rfl⟩⟩))
    go_ret
    exact ⟨by first | rfl | (simp; done) | (simp [*]; done), by repeat (first | exact ak.refl _ | apply ak.step)⟩
  ·rw [if_neg c4] at H
   have mq : ((l0.length : Int) == (l1.length : Int)) = false := beq_eq_false_iff_ne.mpr c4
   have RL : ((l0.length : Int) != (l1.length : Int)) = true := bne_iff_ne.mpr c4
   have c4b2 : (l0.length == l1.length) = false := by first | simpa using c4 | (simp at c4 ⊢; omega)
   obtain rfl := Option.some.inj H
   go_enter Try.func86, Try.ntmps86
   go_wp2
   go_ret
   exact ⟨by first | rfl | (simp; done) | (simp [*]; done), by repeat (first | exact ak.refl _ | apply ak.step)⟩
 ·rw [if_neg c3] at H
  have jv : decide ((l0.length : Int) <= 40) = false := decide_eq_false c3
  have vV := mZ (l0.length <= 40)
  clear c3
  obtain rfl := Option.some.inj H
  go_enter Try.func86, Try.ntmps86
  go_wp2
  go_ret
  exact ⟨by first | rfl | (simp; done) | (simp [*]; done), by repeat (first | exact ak.refl _ | apply ak.step)⟩
end Go.Proofs.Ytoddejmlcnbdmaa.Fn
namespace Go.Proofs.Ytoddejmlcnbdmaa.Tree
open Go.Proofs.Ytoddejmlcnbdmaa.Fn
def DX (k v : ByteArray) : Bool := (gT.f k v).getD false
theorem Je (k v : ByteArray) : gT.f k v = some (DX k v) := by
 unfold DX gT.f eZ.f
 simp only [Option.bind_some]
 split
 ·split <;> rfl
 ·rfl
def yg : Option ByteArray -> ByteArray -> Bool
 | none, _ => true
 | some p, k => Cq p k
def rX : List ByteArray -> List ByteArray -> Option ByteArray -> Bool
 | [], _, _ => true
 | k :: ks, vs, prev => DX k (vs.headD ByteArray.empty) && yg prev k && rX ks (vs.drop 1) (some k)
def mM (keys : List ByteArray) : Nat -> Option ByteArray
 | 0 => none
 | j + 1 => keys[j]?
theorem SH {keys vals : List ByteArray} {i : Nat} {k v : ByteArray} {B : Bool} (h : B = rX (keys.drop i) (vals.drop i) (mM keys i)) (hk : keys[i]? = some k) (hv : vals[i]? = some v) (hp : DX k v = true) (ho : ∀ p, mM keys i = some p -> Cq p k = true) :
  B = rX (keys.drop (i + 1)) (vals.drop (i + 1)) (mM keys (i + 1)) := by
 rw [fF hk, fF hv, rX, List.headD_cons, hp, List.drop_succ_cons, List.drop_zero, Bool.true_and] at h
 rw [h]
 show _ = rX _ _ (keys[i]?)
 rw [hk]
 cases hpr : mM keys i with
 | none => rfl
 | some p => simp only [yg, ho p hpr, Bool.true_and]
theorem SI {keys vals : List ByteArray} {i : Nat} {k v : ByteArray} {B : Bool} (h : B = rX (keys.drop i) (vals.drop i) (mM keys i)) (hk : keys[i]? = some k) (hv : vals[i]? = some v) (hp : DX k v = false) : B = false := by
 rw [fF hk, fF hv, rX, List.headD_cons, hp, Bool.false_and, Bool.false_and] at h
 exact h
theorem SK {keys vals : List ByteArray} {i : Nat} {k p : ByteArray} {B : Bool} (h : B = rX (keys.drop i) (vals.drop i) (mM keys i)) (hk : keys[i]? = some k) (hpr : mM keys i = some p) (ho : Cq p k = false) : B = false := by
 rw [fF hk, rX, hpr] at h
 rw [h]
 simp only [yg, ho, Bool.and_false, Bool.false_and]
theorem VI {keys vals : List ByteArray} {i : Nat} {B : Bool} (h : B = rX (keys.drop i) (vals.drop i) (mM keys i)) (hi : keys.length <= i) : B = true := by
 rw [List.drop_eq_nil_of_le hi, rX] at h
 exact h
def FQ (P : List bE) : Option PT := match dJ P 10 0 with
 | none => none
 | some r => if r.2 ≠ P.length then none else if rX (bY r.1) (fT r.1) none = false then none else if iH r.1 < 0 ∨ (r.1.kids.length ≠ 0 /\ r.1.keys.length = 0) ∨ 40 < (bY r.1).length then none else some r.1
def vG (k : Nat) (P : List bE) : Option (Option PT) := match dJ P (P.length + 1) 0 with
 | none => some none
 | some r => if r.2 ≠ P.length then some none else if (jo r.1).2 = false then some none else (fq.f k (bY r.1) (fT r.1)).bind fun b => some (if b = true then some r.1 else none)
theorem DY {α : Type} : ∀ (cs : List (List α)) (ks : List α), (bX cs ks).length <= (cs.map List.length).sum + ks.length
 | [], ks => by simp [bX]
 | c :: cs, [] => by simp [bX]
 | c :: cs, k :: ks => by
  have := DY cs ks
  simp only [bX, List.length_append, List.length_cons, List.map_cons, List.sum_cons]
  omega
structure Fits (t : PT) (m : Nat) : Prop where
 F3 : qB t
 four : t.keys.length <= 4
 k : (bY t).length <= 4 * m
 v : (fT t).length <= 4 * m
theorem DZ {rd : Nat -> Option (PT × Nat)} (hrd : ∀ a t n, rd a = some (t, n) -> a < n /\ Fits t (n - a)) : ∀ (l : List Int) (next : Nat) (acc ts : List PT) (n s : Nat),
  (∀ t ∈ acc, qB t) -> ((acc.map bY).map List.length).sum <= 4 * s -> ((acc.map fT).map List.length).sum <= 4 * s -> fG rd l next acc = some (ts, n) ->
  next <= n /\ ts.length = acc.length + l.length /\ (∀ t ∈ ts, qB t) /\ ((ts.map bY).map List.length).sum <= 4 * (s + (n - next)) /\ ((ts.map fT).map List.length).sum <= 4 * (s + (n - next))
 | [], next, acc, ts, n, s, h1, h2, h3, h => by
  rw [fG] at h
  injection h with h
  injection h with e1 e2
  subst e1; subst e2
  refine ⟨Nat.le_refl _, by simp, h1, by omega, by omega⟩
 | k :: ks, next, acc, ts, n, s, h1, h2, h3, h => by
  rw [fG] at h
  split at h
  ·cases h
  ·cases hr : rd next with
   | none => rw [hr] at h; cases h
   | some r =>
    rw [hr] at h
    obtain ⟨t, m⟩ := r
    obtain ⟨hlt, hf⟩ := hrd next t m hr
    have hk := hf.k
    have hv := hf.v
    have := DZ hrd ks m (acc ++ [t]) ts n (s + (m - next)) (fun x hx => by
     rcases List.mem_append.1 hx with hx | hx
     ·exact h1 x hx
     ·rw [List.mem_singleton.1 hx]; exact hf.F3) (by simp only [List.map_append, List.map_cons, List.map_nil, List.sum_append, List.sum_cons, List.sum_nil]; omega) (by simp only [List.map_append, List.map_cons, List.map_nil, List.sum_append, List.sum_cons, List.sum_nil]; omega) h
    obtain ⟨g1, g2, g3, g4, g5⟩ := this
    rw [List.length_append] at g2
    simp only [List.length_cons, List.length_nil] at g2 ⊢
    exact ⟨by omega, by omega, g3, by omega, by omega⟩
theorem ry {P : List bE} : ∀ (f a : Nat) (t : PT) (n : Nat), dJ P f a = some (t, n) -> a < n /\ Fits t (n - a)
 | 0, a, t, n, h => by cases h
 | f + 1, a, t, n, h => by
  rw [dJ] at h
  split at h
  ·cases h
  ·split at h
   ·cases h
   ·rename_i hl hb
    generalize P.getD a jG = p at h hb
    unfold fin at h
    obtain ⟨r, hr, e⟩ := Option.map_eq_some_iff.1 h
    obtain ⟨ts, m⟩ := r
    injection e with e1 e2
    have e2 : m = n := e2
    subst e2
    have := DZ (fun a t n h => ry f a t n h) p.f2 (a + 1) [] ts m 0 (fun t h => by cases h) (by simp) (by simp) hr
    obtain ⟨g1, g2, g3, g4, g5⟩ := this
    have hb' : ug p = false := by cases hbb : ug p <;> simp_all
    unfold ug at hb'
    simp only [Bool.or_eq_false_iff, Bool.and_eq_false_iff, decide_eq_false_iff_not, bne_eq_false_iff_eq] at hb'
    have e1 : PT.mk p.f0 p.f1 ts = t := e1
    subst e1
    simp only [List.length_nil] at g2
    have s1 : xZ (.mk p.f0 p.f1 ts) := by
     unfold xZ
     simp only [PT.keys, PT.vals, PT.kids]
     omega
    refine ⟨by omega, qB.mk' s1 (fun i s hs => g3 s (List.mem_of_getElem? hs)), by show p.f0.length <= 4; omega, ?_, ?_⟩
    ·rw [qD]
     have := DY (ts.map bY) p.f0
     show (bX (ts.map bY) p.f0).length <= _
     omega
    ·rw [C9]
     have := DY (ts.map fT) p.f1
     show (bX (ts.map fT) p.f1).length <= _
     omega
theorem GU {α β : Type} : ∀ (cs : List (List α)) (ds : List (List β)) (ks : List α) (vs : List β), cs.map List.length = ds.map List.length -> ks.length = vs.length -> (bX cs ks).length = (bX ds vs).length
 | [], [], ks, vs, _, h => by simpa [bX] using h
 | [], d :: ds, ks, vs, h, _ => by simp at h
 | c :: cs, [], ks, vs, h, _ => by simp at h
 | c :: cs, d :: ds, [], [], h, _ => by simp at h; simp [bX, h.1]
 | c :: cs, d :: ds, [], v :: vs, _, h => by simp at h
 | c :: cs, d :: ds, k :: ks, [], _, h => by simp at h
 | c :: cs, d :: ds, k :: ks, v :: vs, h1, h2 => by
  simp only [List.map_cons, List.cons.injEq] at h1
  have := GU cs ds ks vs h1.2 (by simpa using h2)
  simp only [bX, List.length_append, List.length_cons]
  omega
theorem GV : ∀ (n : Nat) {t : PT}, SizeOf.sizeOf t <= n -> qB t -> (fT t).length = (bY t).length
 | 0, t, h, _ => by cases t; simp at h
 | n + 1, t, h, hs => by
  have h1 := hs.one
  unfold xZ at h1
  rw [C9, qD]
  refine GU _ _ _ _ ?_ h1.1.symm
  rw [List.map_map, List.map_map]
  refine List.map_congr_left fun s hm => ?_
  obtain ⟨i, hi⟩ := List.getElem?_of_mem hm
  have := PT.iL hi
  exact GV n (by omega) (hs.kid hi)
theorem wC {t : PT} (h : qB t) : (fT t).length = (bY t).length := GV _ (Nat.le_refl _) h
theorem nK {p0 q : Prop} (h0 : p0) (h : p0 -> q := by intro Dl; repeat (first | exact Dl | (with_reducible refine Rd.drewN ?_ _) | (with_reducible refine Rd.drew ?_))) : q := h h0
set_option maxHeartbeats 8000000
set_option maxRecDepth 100000
theorem qB.Jf {t : PT} (h : qB t) : Nu t := qB.few (n := SizeOf.sizeOf t) (Nat.le_refl _) h
def OfR (T E : Nat) (w : World) (r : Option PT) (e : Ending) (w' : World) : Prop :=
 Below w.heap.size w w' /\ ((r = none /\ e = .returned (.tuple #[.pointer none, .bool false])) ∨
  ∃ nt : NT, r = some nt.erase /\ e = .returned (.tuple #[bO nt.p, .bool true]) /\ Sat w' w.heap.size (nt.fB T E))
theorem Xc (v : Value) : vF (.slice none 0 0) v := fun k hk => by cases hk
theorem DW.nL (t : PT) (hs : qB t) {p : Nat} (w : World) (h : Rd 96 w p t) (hb1 : (bY t).length <= 8796093022208) (hb2 : (fT t).length <= 8796093022208) : Calls Try.prog 65 #[bO p, .slice none 0 0, .slice none 0 0] w (VF w (bY t) (fT t)) :=
 DW.calls _ t (Nat.le_refl _) hs w w (.slice none 0 0) (.slice none 0 0) [] [] h (Below.refl _ _) (SR.nil _ _) (SR.nil _ _) (Xc _) hb1 hb2
theorem pM.nL (P : List bE) (hN : P.length <= 1000000000000) (A : Option Addr) (c : Nat) (w : World) (hp : Kd.C oP w A P.length P) (hm : ∀ p ∈ P, p.f0.length <= 1000000000000 /\ p.f1.length <= 1000000000000 /\ p.f2.length <= 1000000000000) :
  Calls Try.prog 95 #[.agg #[.slice A P.length c], .int .i64 0, .int .i64 1] w (Xa 96 70 w (dJ P 10 0)) :=
 pM.calls P hN 10 1 (by omega) (by omega) 0 A c w hp hm (Nat.zero_le _)
theorem Bo.calls (P : List bE) (hN : P.length <= 1000000000000) (A : Option Addr) (c : Nat) (w : World) (hp : Kd.C oP w A P.length P) (hm : ∀ p ∈ P, p.f0.length <= 1000000000000 /\ p.f1.length <= 1000000000000 /\ p.f2.length <= 1000000000000) :
  Calls Try.prog 57 #[.agg #[.slice A P.length c]] w (OfR 96 70 w (FQ P)) := by
 have HP := A_ hp
 have HM := A_ hm
 have Mr := A_ hN
 have YC : P.length <= 1000000000000 := hN
 obtain ⟨R, hR⟩ : ∃ R, R = FQ P := ⟨_, rfl⟩
 rw [<- hR]
 unfold FQ at hR
 cases hrs : dJ P 10 0 with
 | none =>
  rw [hrs] at hR
  have HE := A_ hR
  have uB := A_ hrs
  have tn : ((-1 : Int) != (P.length : Int)) = true := by rw [bne_iff_ne]; omega
  clear hp hm hN hR hrs
  go_enter Try.func57, Try.ntmps57
  go_wp2_with (first | (refine lY 1 #[.slice A P.length c] 29 ?_; intro b3 hg w1 aM hb; have xH := A_ aM; have HB := A_ hb; have hz3 : w1.cell? ⟨b3, 0, none⟩ = some (.slice A P.length c) := (af aM 0).trans rfl; clear hg aM hb) | (go_at_call 95; (with_reducible refine (pM.nL P Mr.out A c _ (Kd.aA HP.out HB.out) HM.out).mono ?_); rintro e w2 ⟨hb, hr⟩; rw [uB.out] at hr; obtain ⟨-, rfl⟩ := hr.resolve_right (by rintro ⟨_, _, h, _⟩; cases h); have hz3b : w2.cell? ⟨b3, 0, none⟩ = some (.slice A P.length c) := (af (av xH.out hb) 0).trans rfl; have az := A_ (bA HB.out hb); clear HB; have HB := az; clear az hb hr))
  go_ret2
  exact ⟨HB.out, .inl ⟨HE.out, rfl⟩⟩
 | some tn =>
  obtain ⟨t, n⟩ := tn
  rw [hrs] at hR
  simp only at hR
  have uB := A_ hrs
  have J8 := A_ (ry 10 0 t n hrs).2
  have Gl := A_ (lZ 10 0 t n hrs)
  have hn0 := mZ ((n : Int) < 0)
  by_cases hn : n = P.length
  ·rw [if_neg (by simp [hn])] at hR
   have tn1 : ((n : Int) != (P.length : Int)) = false := Q4 hn
   have tn2 : (n != P.length) = false := yZ hn
   have HZ1 := A_ (show (bY t).length <= 8796093022208 by have := J8.out.k; omega)
   have HZ2 := A_ (show (fT t).length <= 8796093022208 by have := J8.out.v; omega)
   have O1 := A_ (show (bY t).length <= 4000000000000 by have := J8.out.k; omega)
   have HRR := A_ hR
   clear hp hm hN hR hrs hn
   go_enter Try.func57, Try.ntmps57
   go_upto_region 6 with (first | (refine lY 1 #[.slice A P.length c] 29 ?_; intro b3 hg w1 aM hb; have xH := A_ aM; have HB := A_ hb; have hz3 : w1.cell? ⟨b3, 0, none⟩ = some (.slice A P.length c) := (af aM 0).trans rfl; clear hg aM hb) | (go_at_call 95; (with_reducible refine (pM.nL P Mr.out A c _ (Kd.aA HP.out HB.out) HM.out).mono ?_); rintro e w2 ⟨hb, hr⟩; rw [uB.out] at hr; obtain ⟨nt, n9, h9, rfl, hs⟩ := hr.resolve_left (by rintro ⟨h, _⟩; cases h); injection h9 with h9; injection h9 with h9 h8; subst h9; subst h8; have hz3b : w2.cell? ⟨b3, 0, none⟩ = some (.slice A P.length c) := (af (av xH.out hb) 0).trans rfl; have HS2 := A_ (hs.lower HB.out.size); have az := A_ (bA HB.out hb); clear HB; have HB := az; clear az hb hr hs) | (go_at_call 65; (with_reducible refine (DW.nL nt.erase J8.out.F3 w2 (pK HS2.out) HZ1.out HZ2.out).mono ?_); rintro e w3 ⟨u1, u2, rfl, ho1, ho2, hne, hb⟩; obtain ⟨B1, d1, rfl, hl1, hc1⟩ := Kd.nE ho1; obtain ⟨B2, d2, rfl, hl2, hc2⟩ := Kd.nE ho2; have J6 := A_ hc1; have CV := A_ hc2; have az := A_ (bA HB.out hb); have HR3 := A_ ((pK HS2.out).under hb); have J9 := A_ (HS2.out.under hb); clear HB; have HB := az; clear az hb ho1 ho2 hne hl1 hl2 hc1 hc2 HS2))
   have hkb : (bY nt.erase).length <= 4000000000000 := O1.out
   obtain ⟨B, hB⟩ : ∃ B, B = rX (bY nt.erase) (fT nt.erase) none := ⟨_, rfl⟩
   have Gp := A_ hB
   have R5 := A_ (wC J8.out.F3)
   have Xp := A_ (show B = rX ((bY nt.erase).drop 0) ((fT nt.erase).drop 0) (mM (bY nt.erase) 0) from hB)
   clear hz3 hz3b hB
   go_loopg [31] (bY nt.erase).length (fun kq u31 w' => ∃ (i m : Nat), u31 = .int .i64 (i : Int) /\ ae (i <= (bY nt.erase).length /\ kq + i = (bY nt.erase).length) /\ ae (B = rX ((bY nt.erase).drop i) ((fT nt.erase).drop i) (mM (bY nt.erase) i)) /\ w' = w3.drewN m)
   case atStart => exact ⟨0, 0, by first | rfl | (simp; done), ⟨by omega⟩, Xp, rfl⟩
   case round =>
    clear Xp
    obtain ⟨i, m, rfl, HK, Xp, rfl⟩ := hrel
    have ci := dN (0 <= (i : Int))
    by_cases hi : i < (bY nt.erase).length
    ·have ce := pF ((i : Int) < ((bY nt.erase).length : Int))
     have BU : (i < (bY nt.erase).length) = True := eq_true hi
     have hil : i < 4000000000000 := by omega
     have hiv : i < (fT nt.erase).length := by rw [R5.out]; exact hi
     have cva := dN ((i : Int) < ((fT nt.erase).length : Int))
     have cvb : (i < (fT nt.erase).length) = True := eq_true hiv
     have HI := A_ hi
     obtain ⟨adk, hA1, hk0⟩ := Kd.cO J6.out (i : Int) (by omega) (by omega)
     obtain ⟨RU, hA2, hv0⟩ := Kd.cO CV.out (i : Int) (by omega) (by omega)
     subst hA1
     subst hA2
     rw [Int.toNat_natCast] at hk0 hv0
     have hks : (bY nt.erase)[i]? = some (cK ByteArray.empty (bY nt.erase) (i : Int)) := by unfold cK; rw [Int.toNat_natCast, List.getD_eq_getElem?_getD, List.getElem?_eq_getElem hi]; rfl
     have hvs : (fT nt.erase)[i]? = some (cK ByteArray.empty (fT nt.erase) (i : Int)) := by unfold cK; rw [Int.toNat_natCast, List.getD_eq_getElem?_getD, List.getElem?_eq_getElem hiv]; rfl
     generalize cK ByteArray.empty (bY nt.erase) (i : Int) = kx at hk0 hks
     generalize cK ByteArray.empty (fT nt.erase) (i : Int) = vx at hv0 hvs
     have jl := A_ hks
     have HVS := A_ hvs
     clear hks hvs hi hiv
     cases hpr : DX kx vx with
     | false =>
      have HPR := A_ ((Je kx vx).trans (by rw [hpr]))
      have hbf := SI Xp.out jl.out HVS.out hpr
      have HE := A_ (show R = none by have := HRR.out; rw [if_pos (by rw [<- Gp.out]; exact hbf)] at this; exact this)
      clear hpr hbf
      go_wp2_with (go_at_call 75; (with_reducible refine (gT.calls kx vx false _ HPR.out).mono ?_); rintro e w' ⟨rfl, ⟨nd, rfl⟩⟩)
      go_ret2
      exact ⟨ah HB.out _, .inl ⟨HE.out, rfl⟩⟩
     | true =>
      have HPR := A_ ((Je kx vx).trans (by rw [hpr]))
      have HPRT := A_ hpr
      clear hpr
      by_cases hi0 : 0 < i
      ·have t0 := pF (0 < (i : Int))
       have t0b : (0 < i) = True := eq_true hi0
       obtain ⟨ji, hji⟩ : ∃ j : Int, j = (i : Int) - 1 := ⟨_, rfl⟩
       have hjw : IntKind.i64.wrap ((i : Int) - 1) = ji := by rw [IntWalk.i64_in _ (by omega)]; exact hji.symm
       obtain ⟨adp, hA3, hp0⟩ := Kd.cO J6.out ji (by omega) (by have := HI.out; omega)
       obtain rfl : adk = adp := Option.some.inj hA3
       have hps : mM (bY nt.erase) i = some (cK ByteArray.empty (bY nt.erase) ji) := by
        obtain ⟨j, rfl⟩ : ∃ j, i = j + 1 := ⟨i - 1, by omega⟩
        have e : ji.toNat = j := by omega
        show (bY nt.erase)[j]? = _
        unfold cK
        rw [e, List.getD_eq_getElem?_getD, List.getElem?_eq_getElem (by have := HI.out; omega)]
        rfl
       generalize cK ByteArray.empty (bY nt.erase) ji = px at hp0 hps
       have cj0 := dN (0 <= ji)
       have cj1 : (ji < ((bY nt.erase).length : Int)) = True := eq_true (by have := HI.out; omega)
       have cj2 := pF (0 <= ji)
       have cj3 : decide (ji < ((bY nt.erase).length : Int)) = true := decide_eq_true (by have := HI.out; omega)
       have HPS := A_ hps
       clear hps hi0 hji
       cases hlt : Cq px kx with
       | true =>
        have HC' := A_ (SH Xp.out jl.out HVS.out HPRT.out (fun p hp => by rw [HPS.out] at hp; injection hp with hp; rw [<- hp]; exact hlt))
        have hl' : Op.bytesLess px.toList kx.toList = true := hlt
        clear hlt
        go_wp2_with (go_at_call 75; (with_reducible refine (gT.calls kx vx true _ HPR.out).mono ?_); rintro e w' ⟨rfl, ⟨nd, rfl⟩⟩)
        go_roundg ((bY nt.erase).length - (i + 1))
        case measure => have := HK.out; have := HI.out; omega
        case rel => exact ⟨i + 1, _, by first | rfl | go_num | (simp; done), ⟨by have := HK.out; have := HI.out; omega⟩, HC', rfl⟩
       | false =>
        have hbf := SK Xp.out jl.out HPS.out hlt
        have HE := A_ (show R = none by have := HRR.out; rw [if_pos (by rw [<- Gp.out]; exact hbf)] at this; exact this)
        have hl' : Op.bytesLess px.toList kx.toList = false := hlt
        clear hlt hbf
        go_wp2_with (go_at_call 75; (with_reducible refine (gT.calls kx vx true _ HPR.out).mono ?_); rintro e w' ⟨rfl, ⟨nd, rfl⟩⟩)
        go_ret2
        exact ⟨ah HB.out _, .inl ⟨HE.out, rfl⟩⟩
      ·have t0 := mZ (0 < (i : Int))
       have t0b : (0 < i) = False := eq_false hi0
       have HC' := A_ (SH Xp.out jl.out HVS.out HPRT.out (fun p hp => by have h_ : i = 0 := (by omega); rw [h_] at hp; cases hp))
       clear hi0
       go_wp2_with (go_at_call 75; (with_reducible refine (gT.calls kx vx true _ HPR.out).mono ?_); rintro e w' ⟨rfl, ⟨nd, rfl⟩⟩)
       go_roundg ((bY nt.erase).length - (i + 1))
       case measure => have := HK.out; have := HI.out; omega
       case rel => exact ⟨i + 1, _, by first | rfl | go_num | (simp; done), ⟨by have := HK.out; have := HI.out; omega⟩, HC', rfl⟩
    ·have ce := mZ ((i : Int) < ((bY nt.erase).length : Int))
     have BU : (i < (bY nt.erase).length) = False := eq_false hi
     have hbt := VI Xp.out (by omega)
     have hrr := HRR.out
     rw [if_neg (by rw [<- Gp.out, hbt]; decide)] at hrr
     obtain ⟨Ak, ck, Av, cv, Ac, cc, ps, HN3⟩ := HR3.out.open
     have hzn := HN3.z0
     clear hi hbt HN3
     by_cases h1 : iH nt.erase < 0
     ·have HE := A_ (show R = none by rw [hrr, if_pos (.inl h1)])
      have t1 : decide (iH nt.erase < 0) = true := decide_eq_true h1
      clear h1 hrr
      go_wp2_with (go_at_call 61; (with_reducible refine (qV.calls _ nt.erase (Nat.le_refl _) J8.out.F3.Jf _ ?aj).mono ?_); (case aj => exact nK HR3.out); rintro e w' ⟨rfl, ⟨nd, rfl⟩⟩)
      go_ret2
      exact ⟨ah HB.out _, .inl ⟨HE.out, rfl⟩⟩
     ·have t1 : decide (iH nt.erase < 0) = false := decide_eq_false h1
      by_cases h2 : nt.erase.kids.length = 0
      ·have hbl := A_ (show decide ((nt.erase.kids.length : Int) = 0) = true from decide_eq_true (by omega))
       by_cases h4 : 40 < (bY nt.erase).length
       ·have HE := A_ (show R = none by rw [hrr, if_pos (.inr (.inr h4))])
        have t4 := pF (40 < ((bY nt.erase).length : Int))
        have YI : (40 < (bY nt.erase).length) = True := eq_true h4
        clear h1 h2 h4 hrr
        go_wp2_with (first | (go_at_call 61; (with_reducible refine (qV.calls _ nt.erase (Nat.le_refl _) J8.out.F3.Jf _ ?aj).mono ?_); (case aj => exact nK HR3.out); rintro e w' ⟨rfl, ⟨nd, rfl⟩⟩) | (go_at_call 84; (with_reducible refine (dZ.dQ true hbl.out _ ?aj).mono ?_); (case aj => exact nK HR3.out); rintro e w' ⟨rfl, ⟨nd, rfl⟩⟩))
        go_ret2
        exact ⟨ah HB.out _, .inl ⟨HE.out, rfl⟩⟩
       ·have HE := A_ (show R = some nt.erase by rw [hrr, if_neg (by omega)])
        have t4 := mZ (40 < ((bY nt.erase).length : Int))
        have YI : (40 < (bY nt.erase).length) = False := eq_false h4
        clear h1 h2 h4 hrr
        go_wp2_with (first | (go_at_call 61; (with_reducible refine (qV.calls _ nt.erase (Nat.le_refl _) J8.out.F3.Jf _ ?aj).mono ?_); (case aj => exact nK HR3.out); rintro e w' ⟨rfl, ⟨nd, rfl⟩⟩) | (go_at_call 84; (with_reducible refine (dZ.dQ true hbl.out _ ?aj).mono ?_); (case aj => exact nK HR3.out); rintro e w' ⟨rfl, ⟨nd, rfl⟩⟩))
        go_ret2
        exact ⟨ah HB.out _, .inr ⟨nt, HE.out, rfl, (J9.out.drewN _).lower (Nat.le_refl _)⟩⟩
      ·have hbl := A_ (show decide ((nt.erase.kids.length : Int) = 0) = false from decide_eq_false (by omega))
       by_cases h3 : nt.erase.keys.length = 0
       ·have HE := A_ (show R = none by rw [hrr, if_pos (.inr (.inl ⟨h2, h3⟩))])
        have t3 : ((nt.erase.keys.length : Int) == 0) = true := by rw [beq_iff_eq]; omega
        have Z4 := dN ((nt.erase.keys.length : Int) = 0)
        have t3c := pF ((nt.erase.keys.length : Int) = 0)
        clear h1 h2 h3 hrr
        go_wp2_with (first | (go_at_call 61; (with_reducible refine (qV.calls _ nt.erase (Nat.le_refl _) J8.out.F3.Jf _ ?aj).mono ?_); (case aj => exact nK HR3.out); rintro e w' ⟨rfl, ⟨nd, rfl⟩⟩) | (go_at_call 84; (with_reducible refine (dZ.dQ false hbl.out _ ?aj).mono ?_); (case aj => exact nK HR3.out); rintro e w' ⟨rfl, ⟨nd, rfl⟩⟩))
        go_ret2
        exact ⟨ah HB.out _, .inl ⟨HE.out, rfl⟩⟩
       ·have t3 : ((nt.erase.keys.length : Int) == 0) = false := by rw [beq_eq_false_iff_ne]; omega
        have t3c := mZ ((nt.erase.keys.length : Int) = 0)
        by_cases h4 : 40 < (bY nt.erase).length
        ·have HE := A_ (show R = none by rw [hrr, if_pos (.inr (.inr h4))])
         have t4 := pF (40 < ((bY nt.erase).length : Int))
         have YI : (40 < (bY nt.erase).length) = True := eq_true h4
         clear h1 h2 h3 h4 hrr
         go_wp2_with (first | (go_at_call 61; (with_reducible refine (qV.calls _ nt.erase (Nat.le_refl _) J8.out.F3.Jf _ ?aj).mono ?_); (case aj => exact nK HR3.out); rintro e w' ⟨rfl, ⟨nd, rfl⟩⟩) | (go_at_call 84; (with_reducible refine (dZ.dQ false hbl.out _ ?aj).mono ?_); (case aj => exact nK HR3.out); rintro e w' ⟨rfl, ⟨nd, rfl⟩⟩))
         go_ret2
         exact ⟨ah HB.out _, .inl ⟨HE.out, rfl⟩⟩
        ·have HE := A_ (show R = some nt.erase by rw [hrr, if_neg (by omega)])
         have t4 := mZ (40 < ((bY nt.erase).length : Int))
         have YI : (40 < (bY nt.erase).length) = False := eq_false h4
         clear h1 h2 h3 h4 hrr
         go_wp2_with (first | (go_at_call 61; (with_reducible refine (qV.calls _ nt.erase (Nat.le_refl _) J8.out.F3.Jf _ ?aj).mono ?_); (case aj => exact nK HR3.out); rintro e w' ⟨rfl, ⟨nd, rfl⟩⟩) | (go_at_call 84; (with_reducible refine (dZ.dQ false hbl.out _ ?aj).mono ?_); (case aj => exact nK HR3.out); rintro e w' ⟨rfl, ⟨nd, rfl⟩⟩))
         go_ret2
         exact ⟨ah HB.out _, .inr ⟨nt, HE.out, rfl, (J9.out.drewN _).lower (Nat.le_refl _)⟩⟩
  ·rw [if_pos (by simpa using hn)] at hR
   have HE := A_ hR
   have tn1 : ((n : Int) != (P.length : Int)) = true := VE hn
   have tn2 : (n != P.length) = true := Co hn
   clear hp hm hN hR hrs hn
   go_enter Try.func57, Try.ntmps57
   go_wp2_with (first | (refine lY 1 #[.slice A P.length c] 29 ?_; intro b3 hg w1 aM hb; have xH := A_ aM; have HB := A_ hb; have hz3 : w1.cell? ⟨b3, 0, none⟩ = some (.slice A P.length c) := (af aM 0).trans rfl; clear hg aM hb) | (go_at_call 95; (with_reducible refine (pM.nL P Mr.out A c _ (Kd.aA HP.out HB.out) HM.out).mono ?_); rintro e w2 ⟨hb, hr⟩; rw [uB.out] at hr; obtain ⟨nt, n9, h9, rfl, hs⟩ := hr.resolve_left (by rintro ⟨h, _⟩; cases h); injection h9 with h9; injection h9 with h9 h8; subst h9; subst h8; have hz3b : w2.cell? ⟨b3, 0, none⟩ = some (.slice A P.length c) := (af (av xH.out hb) 0).trans rfl; have HS2 := A_ (hs.lower HB.out.size); have az := A_ (bA HB.out hb); clear HB; have HB := az; clear az hb hr hs))
   go_ret2
   exact ⟨HB.out, .inl ⟨HE.out, rfl⟩⟩
theorem Jg {p0 q : Prop} (h0 : p0) (h : p0 -> q := by intro Dl; repeat (first | exact Dl | (with_reducible refine Rd.drewN ?_ _) | (with_reducible refine Rd.drew ?_))) : q := h h0
set_option maxHeartbeats 8000000
set_option maxRecDepth 100000
theorem zb.nL (t : PT) (hs : qB t) {p : Nat} (w : World) (h : Rd 101 w p t) (hb1 : (bY t).length <= 8796093022208) (hb2 : (fT t).length <= 8796093022208) : Calls Try.prog 66 #[bO p, .slice none 0 0, .slice none 0 0] w (VF w (bY t) (fT t)) :=
 zb.calls _ t (Nat.le_refl _) hs w w (.slice none 0 0) (.slice none 0 0) [] [] h (Below.refl _ _) (SR.nil _ _) (SR.nil _ _) (Xc _) hb1 hb2
theorem oU.nL (P : List bE) (hN : P.length <= 1000000000000) (w0 : World) (A : Option Addr) (c : Nat) (hp : Kd.C oP w0 A P.length P) (hm : ∀ p ∈ P, p.f0.length <= 1000000000000 /\ p.f1.length <= 1000000000000 /\ p.f2.length <= 1000000000000) (gb : Nat) (w : World) (hb : Below w0.heap.size w0 w) (hgb : w0.heap.size <= gb) (hg : w.heap[gb]? = some (.cells #[.slice A P.length c, .int .i64 0] 121 (0, 0))) :
  Calls Try.prog 97 #[bO gb] w (Xb w0 w gb (.slice A P.length c) (dJ P (P.length + 1) 0)) :=
 oU.calls P hN w0 A c hp hm (P.length + 1) 0 (by omega) (Nat.zero_le _) gb w hb hgb hg
theorem Bp.calls (k : Nat) (P : List bE) (hN : P.length <= 1000000000000) (A : Option Addr) (c : Nat) (w : World) (hp : Kd.C oP w A P.length P) (hm : ∀ p ∈ P, p.f0.length <= 1000000000000 /\ p.f1.length <= 1000000000000 /\ p.f2.length <= 1000000000000) (r : Option PT) (h : vG k P = some r) :
  Calls Try.prog 59 #[.agg #[.slice A P.length c]] w (OfR 101 74 w r) := by
 have HP := A_ hp
 have HM := A_ hm
 have Mr := A_ hN
 have YC : P.length <= 1000000000000 := hN
 unfold vG at h
 cases hrs : dJ P (P.length + 1) 0 with
 | none =>
  rw [hrs] at h
  have HE := A_ (Option.some.inj h)
  have uB := A_ hrs
  clear hp hm hN h hrs
  go_enter Try.func59, Try.ntmps59
  go_wp2_with (first | (refine lY 1 #[.slice A P.length c] 29 ?_; intro b3 hg w1 aM hb; have xH := A_ aM; have HB := A_ hb; have hz3 : w1.cell? ⟨b3, 0, none⟩ = some (.slice A P.length c) := (af aM 0).trans rfl; clear hg aM hb) | (refine lY 12 #[.slice A P.length c, .int .i64 0] 121 ?_; intro gb hg w2 aM hb; have IE := A_ (show w.heap.size <= gb by rw [hg]; exact HB.out.size); have Sm := A_ (show b3 ≠ gb by have := dh xH.out; omega); have HG := A_ aM; have aG := A_ (av xH.out hb); have az := A_ (bA HB.out hb); clear HB; clear xH; have HB := az; have xH := aG; clear az aG hg aM hb) | (go_at_call 97; (with_reducible refine (oU.nL P Mr.out w A c HP.out HM.out gb _ HB.out IE.out HG.out).mono ?_); rintro e w3 ⟨hb, hr⟩; rw [uB.out] at hr; obtain ⟨-, rfl⟩ := hr.resolve_right (by rintro ⟨_, _, h, _⟩; cases h); clear HB; have HB := A_ hb; clear hb hr))
  go_quiet (fail)
  go_wp2
  go_ret2
  exact ⟨ah HB.out _, .inl ⟨HE.out.symm, rfl⟩⟩
 | some tn =>
  obtain ⟨t, n⟩ := tn
  rw [hrs] at h
  simp only at h
  have uB := A_ hrs
  have J8 := A_ (ry _ 0 t n hrs).2
  have Gl := A_ (lZ _ 0 t n hrs)
  by_cases hn : n = P.length
  ·rw [if_neg (by simp [hn])] at h
   have tn1 : ((n : Int) != (P.length : Int)) = false := Q4 hn
   have tn2 : (n != P.length) = false := yZ hn
   have HZ1 := A_ (show (bY t).length <= 8796093022208 by have := J8.out.k; omega)
   have HZ2 := A_ (show (fT t).length <= 8796093022208 by have := J8.out.v; omega)
   obtain ⟨dd, bb, hdp⟩ : ∃ d b, jo t = (d, b) := ⟨_, _, rfl⟩
   have HDP := A_ hdp
   rw [hdp] at h
   cases bb with
   | false =>
    have HE := A_ (Option.some.inj h)
    clear hp hm hN h hrs hn hdp
    go_enter Try.func59, Try.ntmps59
    go_wp2_with (first | (refine lY 1 #[.slice A P.length c] 29 ?_; intro b3 hg w1 aM hb; have xH := A_ aM; have HB := A_ hb; have hz3 : w1.cell? ⟨b3, 0, none⟩ = some (.slice A P.length c) := (af aM 0).trans rfl; clear hg aM hb) | (refine lY 12 #[.slice A P.length c, .int .i64 0] 121 ?_; intro gb hg w2 aM hb; have IE := A_ (show w.heap.size <= gb by rw [hg]; exact HB.out.size); have Sm := A_ (show b3 ≠ gb by have := dh xH.out; omega); have HG := A_ aM; have aG := A_ (av xH.out hb); have az := A_ (bA HB.out hb); clear HB; clear xH; have HB := az; have xH := aG; clear az aG hg aM hb) | (go_at_call 97; (with_reducible refine (oU.nL P Mr.out w A c HP.out HM.out gb _ HB.out IE.out HG.out).mono ?_); rintro e w3 ⟨hb, hr⟩; rw [uB.out] at hr; obtain ⟨nt, n9, h9, rfl, hs, hk, hg⟩ := hr.resolve_left (by rintro ⟨h, _⟩; cases h); injection h9 with h9; injection h9 with h9 h8; subst h9; subst h8; have hz3b : w3.cell? ⟨b3, 0, none⟩ = some (.slice A P.length c) := (af (l9 xH.out hk Sm.out) 0).trans rfl; have hzg : w3.cell? ⟨gb, 1, none⟩ = some (.int .i64 (n : Int)) := (af hg 1).trans rfl; have HS2 := A_ (hs.lower HB.out.size); clear HB; have HB := A_ hb; have HR3 := A_ (pK HS2.out); clear hb hr hs hk hg))
    go_quiet (fail)
    go_wp2_with (go_at_call 62; (with_reducible refine (yc.calls _ nt.erase (Nat.le_refl _) J8.out.F3.Jf dd false HDP.out _ ?aj).mono ?_); (case aj => exact Jg HR3.out); rintro e w' ⟨rfl, ⟨nd, rfl⟩⟩)
    go_ret2
    exact ⟨ah HB.out _, .inl ⟨HE.out.symm, rfl⟩⟩
   | true =>
    rw [if_neg (by simp)] at h
    obtain ⟨b, hap, h⟩ := Option.bind_eq_some_iff.mp h
    have HAP := A_ hap
    cases b with
    | false =>
     have HE := A_ (Option.some.inj h)
     clear hp hm hN h hrs hn hdp hap
     go_enter Try.func59, Try.ntmps59
     go_wp2_with (first | (refine lY 1 #[.slice A P.length c] 29 ?_; intro b3 hg w1 aM hb; have xH := A_ aM; have HB := A_ hb; have hz3 : w1.cell? ⟨b3, 0, none⟩ = some (.slice A P.length c) := (af aM 0).trans rfl; clear hg aM hb) | (refine lY 12 #[.slice A P.length c, .int .i64 0] 121 ?_; intro gb hg w2 aM hb; have IE := A_ (show w.heap.size <= gb by rw [hg]; exact HB.out.size); have Sm := A_ (show b3 ≠ gb by have := dh xH.out; omega); have HG := A_ aM; have aG := A_ (av xH.out hb); have az := A_ (bA HB.out hb); clear HB; clear xH; have HB := az; have xH := aG; clear az aG hg aM hb) | (go_at_call 97; (with_reducible refine (oU.nL P Mr.out w A c HP.out HM.out gb _ HB.out IE.out HG.out).mono ?_); rintro e w3 ⟨hb, hr⟩; rw [uB.out] at hr; obtain ⟨nt, n9, h9, rfl, hs, hk, hg⟩ := hr.resolve_left (by rintro ⟨h, _⟩; cases h); injection h9 with h9; injection h9 with h9 h8; subst h9; subst h8; have hz3b : w3.cell? ⟨b3, 0, none⟩ = some (.slice A P.length c) := (af (l9 xH.out hk Sm.out) 0).trans rfl; have hzg : w3.cell? ⟨gb, 1, none⟩ = some (.int .i64 (n : Int)) := (af hg 1).trans rfl; have HS2 := A_ (hs.lower HB.out.size); clear HB; have HB := A_ hb; have HR3 := A_ (pK HS2.out); clear hb hr hs hk hg))
     have HRN := fun m => HR3.out.drewN m
     go_quiet (fail)
     go_wp2_with (first | (go_at_call 62; (with_reducible refine (yc.calls _ nt.erase (Nat.le_refl _) J8.out.F3.Jf dd true HDP.out _ ?aj).mono ?_); (case aj => exact Jg HR3.out); rintro e w' ⟨rfl, ⟨nd, rfl⟩⟩) | (go_at_call 66; (with_reducible refine (zb.nL nt.erase J8.out.F3 _ (HRN _) HZ1.out HZ2.out).mono ?_); rintro e w5 ⟨u1, u2, rfl, ho1, ho2, hne, hb⟩; obtain ⟨B1, d1, rfl, hl1, hc1⟩ := Kd.nE ho1; obtain ⟨B2, d2, rfl, hl2, hc2⟩ := Kd.nE ho2; have J6 := A_ hc1; have CV := A_ hc2; have HD1 := A_ hl1; have HD2 := A_ hl2; have az := A_ (bA (ah HB.out _) hb); have J9 := A_ ((HS2.out.drewN _).under hb); clear HB; have HB := az; clear az hb ho1 ho2 hne hl1 hl2 hc1 hc2 HS2) | (go_at_call 86; (with_reducible refine (fq.calls k _ _ (bY nt.erase) _ _ (fT nt.erase) false _ J6.out HD1.out CV.out HD2.out HAP.out).mono ?_); rintro e w' ⟨rfl, ⟨nd, rfl⟩⟩))
     go_ret2
     exact ⟨ah HB.out _, .inl ⟨HE.out.symm, rfl⟩⟩
    | true =>
     have HE := A_ (Option.some.inj h)
     clear hp hm hN h hrs hn hdp hap
     go_enter Try.func59, Try.ntmps59
     go_wp2_with (first | (refine lY 1 #[.slice A P.length c] 29 ?_; intro b3 hg w1 aM hb; have xH := A_ aM; have HB := A_ hb; have hz3 : w1.cell? ⟨b3, 0, none⟩ = some (.slice A P.length c) := (af aM 0).trans rfl; clear hg aM hb) | (refine lY 12 #[.slice A P.length c, .int .i64 0] 121 ?_; intro gb hg w2 aM hb; have IE := A_ (show w.heap.size <= gb by rw [hg]; exact HB.out.size); have Sm := A_ (show b3 ≠ gb by have := dh xH.out; omega); have HG := A_ aM; have aG := A_ (av xH.out hb); have az := A_ (bA HB.out hb); clear HB; clear xH; have HB := az; have xH := aG; clear az aG hg aM hb) | (go_at_call 97; (with_reducible refine (oU.nL P Mr.out w A c HP.out HM.out gb _ HB.out IE.out HG.out).mono ?_); rintro e w3 ⟨hb, hr⟩; rw [uB.out] at hr; obtain ⟨nt, n9, h9, rfl, hs, hk, hg⟩ := hr.resolve_left (by rintro ⟨h, _⟩; cases h); injection h9 with h9; injection h9 with h9 h8; subst h9; subst h8; have hz3b : w3.cell? ⟨b3, 0, none⟩ = some (.slice A P.length c) := (af (l9 xH.out hk Sm.out) 0).trans rfl; have hzg : w3.cell? ⟨gb, 1, none⟩ = some (.int .i64 (n : Int)) := (af hg 1).trans rfl; have HS2 := A_ (hs.lower HB.out.size); clear HB; have HB := A_ hb; have HR3 := A_ (pK HS2.out); clear hb hr hs hk hg))
     have HRN := fun m => HR3.out.drewN m
     go_quiet (fail)
     go_wp2_with (first | (go_at_call 62; (with_reducible refine (yc.calls _ nt.erase (Nat.le_refl _) J8.out.F3.Jf dd true HDP.out _ ?aj).mono ?_); (case aj => exact Jg HR3.out); rintro e w' ⟨rfl, ⟨nd, rfl⟩⟩) | (go_at_call 66; (with_reducible refine (zb.nL nt.erase J8.out.F3 _ (HRN _) HZ1.out HZ2.out).mono ?_); rintro e w5 ⟨u1, u2, rfl, ho1, ho2, hne, hb⟩; obtain ⟨B1, d1, rfl, hl1, hc1⟩ := Kd.nE ho1; obtain ⟨B2, d2, rfl, hl2, hc2⟩ := Kd.nE ho2; have J6 := A_ hc1; have CV := A_ hc2; have HD1 := A_ hl1; have HD2 := A_ hl2; have az := A_ (bA (ah HB.out _) hb); have J9 := A_ ((HS2.out.drewN _).under hb); clear HB; have HB := az; clear az hb ho1 ho2 hne hl1 hl2 hc1 hc2 HS2) | (go_at_call 86; (with_reducible refine (fq.calls k _ _ (bY nt.erase) _ _ (fT nt.erase) true _ J6.out HD1.out CV.out HD2.out HAP.out).mono ?_); rintro e w' ⟨rfl, ⟨nd, rfl⟩⟩))
     go_ret2
     exact ⟨ah HB.out _, .inr ⟨nt, by rw [<- HE.out]; rfl, rfl, J9.out.drewN _⟩⟩
  ·rw [if_pos (by simpa using hn)] at h
   have HE := A_ (Option.some.inj h)
   have tn1 : ((n : Int) != (P.length : Int)) = true := VE hn
   have tn2 : (n != P.length) = true := Co hn
   clear hp hm hN h hrs hn
   go_enter Try.func59, Try.ntmps59
   go_wp2_with (first | (refine lY 1 #[.slice A P.length c] 29 ?_; intro b3 hg w1 aM hb; have xH := A_ aM; have HB := A_ hb; have hz3 : w1.cell? ⟨b3, 0, none⟩ = some (.slice A P.length c) := (af aM 0).trans rfl; clear hg aM hb) | (refine lY 12 #[.slice A P.length c, .int .i64 0] 121 ?_; intro gb hg w2 aM hb; have IE := A_ (show w.heap.size <= gb by rw [hg]; exact HB.out.size); have Sm := A_ (show b3 ≠ gb by have := dh xH.out; omega); have HG := A_ aM; have aG := A_ (av xH.out hb); have az := A_ (bA HB.out hb); clear HB; clear xH; have HB := az; have xH := aG; clear az aG hg aM hb) | (go_at_call 97; (with_reducible refine (oU.nL P Mr.out w A c HP.out HM.out gb _ HB.out IE.out HG.out).mono ?_); rintro e w3 ⟨hb, hr⟩; rw [uB.out] at hr; obtain ⟨nt, n9, h9, rfl, hs, hk, hg⟩ := hr.resolve_left (by rintro ⟨h, _⟩; cases h); injection h9 with h9; injection h9 with h9 h8; subst h9; subst h8; have hz3b : w3.cell? ⟨b3, 0, none⟩ = some (.slice A P.length c) := (af (l9 xH.out hk Sm.out) 0).trans rfl; have hzg : w3.cell? ⟨gb, 1, none⟩ = some (.int .i64 (n : Int)) := (af hg 1).trans rfl; have HS2 := A_ (hs.lower HB.out.size); clear HB; have HB := A_ hb; have HR3 := A_ (pK HS2.out); clear hb hr hs hk hg))
   go_quiet (fail)
   go_wp2
   go_ret2
   exact ⟨ah HB.out _, .inl ⟨HE.out.symm, rfl⟩⟩
theorem qE {p0 q : Prop} (h0 : p0) (h : p0 -> q := by intro Dl; repeat (first | exact Dl | (with_reducible refine Rd.drewN ?_ _) | (with_reducible refine Rd.drew ?_))) : q := h h0
theorem xk {p0 q : Prop} (h0 : p0) (h : p0 -> q := by intro Dl; repeat (first | exact Dl.hk | (with_reducible refine Kd.dx ?_ _) | (with_reducible refine Kd.eD ?_))) : q := h h0
set_option maxHeartbeats 8000000
set_option maxRecDepth 100000
theorem ze.calls (t : PT) (hm : t.keys.length <= 1000000000000) (key : ByteArray) (i0 : Nat) (b : Bool) (hi0 : dV key t.keys = i0) (hb : jI t.keys i0 key = b) {p : Nat} (w : World) (h : Rd 96 w p t) :
  Calls Try.prog 100 #[bO p, .string key] w fun e w' => e = .returned (.tuple #[.int .i64 (i0 : Int), .bool b]) /\ ak w w' := by
 obtain ⟨Ak, ck, Av, cv, Ac, cc, ps, Ab⟩ := h.open
 have HN := A_ Ab
 have hz0 := Ab.z0
 have HE := A_ (show i0 = 0 + dV key (t.keys.drop 0) by rw [List.drop_zero, Nat.zero_add]; exact hi0.symm)
 have Gp := A_ hb
 clear h Ab hi0 hb
 go_enter Try.func100, Try.ntmps100
 go_wp2
 go_loopg [6] t.keys.length (fun kq u6 w' => ∃ (i m : Nat), u6 = .int .i64 (i : Int) /\ ae (i <= t.keys.length /\ kq + i = t.keys.length) /\ ae (i0 = i + dV key (t.keys.drop i)) /\ w' = w.drewN m)
 case atStart => exact ⟨0, 0, by first | rfl | (simp; done), ⟨by omega⟩, HE, rfl⟩
 case round =>
  clear HE
  obtain ⟨i, m, rfl, HK, HE, rfl⟩ := hrel
  have ci := dN (0 <= (i : Int))
  by_cases hi : i < t.keys.length
  ·have ce := pF ((i : Int) < (t.keys.length : Int))
   have BU : (i < t.keys.length) = True := eq_true hi
   have hil : i < 1000000000000 := by omega
   have HI := A_ hi
   obtain ⟨adk, rfl, hk0⟩ := HN.out.key i (by omega) (by omega)
   rw [Int.toNat_natCast] at hk0
   have hks : t.keys[i]? = some (cK ByteArray.empty t.keys (i : Int)) := by unfold cK; rw [Int.toNat_natCast, List.getD_eq_getElem?_getD, List.getElem?_eq_getElem hi]; rfl
   generalize cK ByteArray.empty t.keys (i : Int) = k at hk0 hks
   have jl := A_ hks
   clear hks hi
   cases hlt : Cq k key with
   | true =>
    have qa := A_ (XG jl.out HE.out hlt)
    have hlt' : Op.bytesLess k.toList key.toList = true := hlt
    clear hlt
    go_wp2
    go_roundg (t.keys.length - (i + 1))
    case measure => have := HK.out; have := HI.out; omega
    case rel => exact ⟨i + 1, _, by first | rfl | go_num | (simp; done), ⟨by have := HK.out; have := HI.out; omega⟩, qa, rfl⟩
   | false =>
    have he := VG jl.out HE.out hlt
    subst he
    have hlt' : Op.bytesLess k.toList key.toList = false := hlt
    have hbb : (k.toList == key.toList) = b := by have := Gp.out; unfold jI at this; rw [jl.out] at this; exact this
    clear hlt
    go_wp2
    go_quiet (fail)
    go_wp2
    go_ret2
    exact ⟨rfl, by repeat (first | exact ak.refl _ | apply ak.step | exact ⟨_, rfl⟩)⟩
  ·have ce := mZ ((i : Int) < (t.keys.length : Int))
   have BU : (i < t.keys.length) = False := eq_false hi
   have he := VH (by omega) HE.out
   subst he
   obtain rfl : b = false := by
    cases b with
    | false => rfl
    | true => exact absurd (lJ Gp.out) hi
   clear hi
   go_wp2
   go_quiet (fail)
   go_wp2
   go_ret2
   exact ⟨rfl, by repeat (first | exact ak.refl _ | apply ak.step | exact ⟨_, rfl⟩)⟩
theorem KW.calls : ∀ (n : Nat) (t : PT), t.big <= n -> qB t -> ∀ (key v : ByteArray) (b : Bool), CO n t key = (v, b) -> ∀ {p : Nat} (w : World), Rd 96 w p t ->
  Calls Try.prog 63 #[bO p, .string key] w fun e w' => e = .returned (.tuple #[.string v, .bool b]) /\ ak w w' := by
 intro n
 induction n with
 | zero =>
  intro t hs
  exact absurd (PT.fZ t) (by omega)
 | succ n ih =>
  intro t hs hf key v b hr p w h
  obtain ⟨Ak, ck, Av, cv, Ac, cc, ps, Ab⟩ := h.open
  have h1 := hf.one
  unfold xZ at h1
  have hle := nJ key t.keys
  have HN := A_ Ab
  have HO := A_ h
  have HF := A_ hf
  have KG := A_ hs
  have hz1 := Ab.z1
  have hz2 := Ab.z2
  obtain ⟨i, hi⟩ : ∃ i, dV key t.keys = i := ⟨_, rfl⟩
  rw [CO, hi] at hr
  rw [hi] at hle
  have HI := A_ hi
  have ci := dN (0 <= (i : Int))
  cases hh : jI t.keys i key with
  | true =>
   have hlt := lJ hh
   rw [hh, if_pos rfl] at hr
   injection hr with e1 e2
   subst e2
   obtain ⟨RU, rfl, hv0⟩ := Ab.val i (by omega) (by omega)
   rw [Int.toNat_natCast] at hv0
   rw [e1] at hv0
   have cvb := dN (i < t.vals.length)
   have cva := dN ((i : Int) < (t.vals.length : Int))
   have HH := A_ hh
   have HM := A_ (show t.keys.length <= 1000000000000 by omega)
   clear h1 hle hlt hh hi h hf hs Ab e1
   go_enter Try.func63, Try.ntmps63
   go_wp2_with (go_at_call 100; (with_reducible refine (ze.calls t HM.out key i true HI.out HH.out _ ?aj).mono ?_); (case aj => exact qE HO.out); rintro e w' ⟨rfl, ⟨nd, rfl⟩⟩)
   go_ret2
   exact ⟨rfl, by repeat (first | exact ak.refl _ | apply ak.step | exact ⟨_, rfl⟩)⟩
  | false =>
   rw [hh, if_neg (by decide)] at hr
   have HH := A_ hh
   have HM := A_ (show t.keys.length <= 1000000000000 by omega)
   by_cases h0 : t.kids.length = 0
   ·rw [if_pos h0] at hr
    injection hr with e1 e2
    subst e1; subst e2
    have hb0 := A_ (show decide ((t.kids.length : Int) = 0) = true from decide_eq_true (by omega))
    clear h1 hle hh hi h hf hs Ab h0
    go_enter Try.func63, Try.ntmps63
    go_wp2_with (first | (go_at_call 100; (with_reducible refine (ze.calls t HM.out key i false HI.out HH.out _ ?aj).mono ?_); (case aj => exact qE HO.out); rintro e w' ⟨rfl, ⟨nd, rfl⟩⟩) | (go_at_call 84; (with_reducible refine (dZ.dQ true hb0.out _ ?aj).mono ?_); (case aj => exact qE HO.out); rintro e w' ⟨rfl, ⟨nd, rfl⟩⟩))
    go_ret2
    exact ⟨by first | rfl | (simp; done), by repeat (first | exact ak.refl _ | apply ak.step | exact ⟨_, rfl⟩)⟩
   ·rw [if_neg h0] at hr
    have hb0 := A_ (show decide ((t.kids.length : Int) = 0) = false from decide_eq_false (by omega))
    have hkl : t.kids.length = t.keys.length + 1 := h1.2.2.resolve_left h0
    obtain ⟨adc, q, s, rfl, hc0, hs', hrs⟩ := Ab.kid i (by omega) (by omega)
    rw [Int.toNat_natCast] at hc0 hs'
    rw [hs'] at hr
    have HS := A_ hs'
    have Vk := A_ hrs
    have HR := A_ (show CO n s key = (v, b) from hr)
    have hca := dN ((i : Int) < (t.kids.length : Int))
    have hcb := dN (i < t.kids.length)
    clear h1 hle hh hi h hf hs Ab h0 hr hkl hs' hrs
    go_enter Try.func63, Try.ntmps63
    go_wp2_with (first | (go_at_call 100; (with_reducible refine (ze.calls t HM.out key i false HI.out HH.out _ ?aj).mono ?_); (case aj => exact qE HO.out); rintro e w' ⟨rfl, ⟨nd, rfl⟩⟩) | (go_at_call 84; (with_reducible refine (dZ.dQ false hb0.out _ ?aj).mono ?_); (case aj => exact qE HO.out); rintro e w' ⟨rfl, ⟨nd, rfl⟩⟩) | (go_at_call 63; (with_reducible refine (ih s (by have := PT.gK HS.out; have := KG.out; omega) (HF.out.kid HS.out) key v b HR.out _ ?aj).mono ?_); (case aj => exact qE Vk.out); rintro e w' ⟨rfl, ⟨nd, rfl⟩⟩))
    go_ret2
    exact ⟨by first | rfl | (simp; done), by repeat (first | exact ak.refl _ | apply ak.step | exact ⟨_, rfl⟩)⟩
theorem KX.calls (k : Nat) : ∀ (n : Nat) (t : PT) (key v : ByteArray) (b : Bool), yf k n t key = some (v, b) -> ∀ {p : Nat} (w : World), Rd 101 w p t ->
  Calls Try.prog 64 #[bO p, .string key] w fun e w' => e = .returned (.tuple #[.string v, .bool b]) /\ ak w w' := by
 intro n
 induction n with
 | zero =>
  intro t key v b hr
  cases hr
 | succ n ih =>
  intro t key v b hr p w h
  obtain ⟨Ak, ck, Av, cv, Ac, cc, ps, Ab⟩ := h.open
  have HN := A_ Ab
  have HO := A_ h
  have hz0 := Ab.z0
  have hz1 := Ab.z1
  have hz2 := Ab.z2
  rw [yf] at hr
  obtain ⟨a, hl, hr⟩ := Option.bind_eq_some_iff.mp hr
  obtain ⟨hh, hha, hr⟩ := Option.bind_eq_some_iff.mp hr
  have Gl := A_ hl
  have Uk := A_ hha
  clear hl hha
  cases hh with
  | true =>
   rw [if_pos rfl] at hr
   by_cases ha : 0 <= a /\ a < (t.vals.length : Int)
   ·rw [if_pos ha] at hr
    injection hr with hr
    injection hr with e1 e2
    subst e2
    obtain ⟨RU, rfl, hv0⟩ := Ab.val a ha.1 ha.2
    rw [e1] at hv0
    have cva : (a < (t.vals.length : Int)) = True := eq_true ha.2
    have ci : (0 <= a) = True := eq_true ha.1
    clear ha h Ab e1
    go_enter Try.func64, Try.ntmps64
    go_wp2_with (first | (go_at_call 73; (with_reducible refine (fH.calls k _ _ t.keys key a _ ?aj ?aU Gl.out).mono ?_); (case aj => exact xk HN.out); (case aU => exact HN.out.h1); rintro e w' ⟨rfl, ⟨nd, rfl⟩⟩) | (go_at_call 101; (with_reducible refine (gZ.calls _ _ t.keys a key true _ ?aj ?aU Uk.out).mono ?_); (case aj => exact xk HN.out); (case aU => exact HN.out.h1); rintro e w' ⟨rfl, ⟨nd, rfl⟩⟩))
    go_ret2
    exact ⟨rfl, by repeat (first | exact ak.refl _ | apply ak.step | exact ⟨_, rfl⟩)⟩
   ·rw [if_neg ha] at hr
    cases hr
  | false =>
   rw [if_neg (by decide)] at hr
   by_cases h0 : t.kids.length = 0
   ·rw [if_pos h0] at hr
    injection hr with hr
    injection hr with e1 e2
    subst e1; subst e2
    have hb0 := A_ (show decide ((t.kids.length : Int) = 0) = true from decide_eq_true (by omega))
    clear h Ab h0
    go_enter Try.func64, Try.ntmps64
    go_wp2_with (first | (go_at_call 73; (with_reducible refine (fH.calls k _ _ t.keys key a _ ?aj ?aU Gl.out).mono ?_); (case aj => exact xk HN.out); (case aU => exact HN.out.h1); rintro e w' ⟨rfl, ⟨nd, rfl⟩⟩) | (go_at_call 101; (with_reducible refine (gZ.calls _ _ t.keys a key false _ ?aj ?aU Uk.out).mono ?_); (case aj => exact xk HN.out); (case aU => exact HN.out.h1); rintro e w' ⟨rfl, ⟨nd, rfl⟩⟩) | (go_at_call 99; (with_reducible refine (dU.dQ true hb0.out _ ?aj).mono ?_); (case aj => exact qE HO.out); rintro e w' ⟨rfl, ⟨nd, rfl⟩⟩))
    go_ret2
    exact ⟨by first | rfl | (simp; done), by repeat (first | exact ak.refl _ | apply ak.step | exact ⟨_, rfl⟩)⟩
   ·rw [if_neg h0] at hr
    by_cases ha : 0 <= a
    ·rw [if_pos ha] at hr
     have hb0 := A_ (show decide ((t.kids.length : Int) = 0) = false from decide_eq_false (by omega))
     rcases Nat.lt_or_ge a.toNat t.kids.length with hlt | hge
     ·obtain ⟨adc, q, s, rfl, hc0, hs', hrs⟩ := Ab.kid a ha (by omega)
      rw [hs'] at hr
      have Vk := A_ hrs
      have HR := A_ (show yf k n s key = some (v, b) from hr)
      have hca := dN (a < (t.kids.length : Int))
      have ci : (0 <= a) = True := eq_true ha
      clear ha h Ab h0 hr hs' hrs hlt
      go_enter Try.func64, Try.ntmps64
      go_wp2_with (first | (go_at_call 73; (with_reducible refine (fH.calls k _ _ t.keys key a _ ?aj ?aU Gl.out).mono ?_); (case aj => exact xk HN.out); (case aU => exact HN.out.h1); rintro e w' ⟨rfl, ⟨nd, rfl⟩⟩) | (go_at_call 101; (with_reducible refine (gZ.calls _ _ t.keys a key false _ ?aj ?aU Uk.out).mono ?_); (case aj => exact xk HN.out); (case aU => exact HN.out.h1); rintro e w' ⟨rfl, ⟨nd, rfl⟩⟩) | (go_at_call 99; (with_reducible refine (dU.dQ false hb0.out _ ?aj).mono ?_); (case aj => exact qE HO.out); rintro e w' ⟨rfl, ⟨nd, rfl⟩⟩) | (go_at_call 64; (with_reducible refine (ih s key v b HR.out _ ?aj).mono ?_); (case aj => exact qE Vk.out); rintro e w' ⟨rfl, ⟨nd, rfl⟩⟩))
      go_ret2
      exact ⟨by first | rfl | (simp; done), by repeat (first | exact ak.refl _ | apply ak.step | exact ⟨_, rfl⟩)⟩
     ·rw [List.getElem?_eq_none hge] at hr
      cases hr
    ·rw [if_neg ha] at hr
     cases hr
end Go.Proofs.Ytoddejmlcnbdmaa.Tree
namespace Go.Proofs.Ytoddejmlcnbdmaa.Fn
open Go.Proofs.Ytoddejmlcnbdmaa.Tree
set_option maxHeartbeats 8000000
set_option maxRecDepth 100000
def ZV (P : List bE) : Bool := decide (P.length <= 1000000000000) && P.all fun p => decide (p.f0.length <= 1000000000000) && decide (p.f1.length <= 1000000000000) && decide (p.f2.length <= 1000000000000)
theorem xm {P : List bE} (h : ZV P = true) : P.length <= 1000000000000 /\ ∀ p ∈ P, p.f0.length <= 1000000000000 /\ p.f1.length <= 1000000000000 /\ p.f2.length <= 1000000000000 := by
 unfold ZV at h
 simp only [Bool.and_eq_true, decide_eq_true_eq, List.all_eq_true] at h
 exact ⟨h.1, fun p hp => ⟨(h.2 p hp).1.1, (h.2 p hp).1.2, (h.2 p hp).2⟩⟩
theorem Nz (P : List bE) (k : Nat) : ku (vG k P) (vG (k + 1) P) := by
 unfold vG
 cases dJ P (P.length + 1) 0 with
 | none => exact ku.refl _
 | some r =>
  refine ku.ite (ku.refl _) (ku.ite (ku.refl _) (ku.bind (fq.mono _ _ _) fun _ => ku.refl _))
theorem GX : ∀ (k n : Nat) (t : PT) (key : ByteArray), ku (yf k n t key) (yf (k + 1) (n + 1) t key)
 | k, 0, t, key => ku.none _
 | k, n + 1, t, key => by
  rw [yf, yf]
  refine ku.bind (fH.mono _ _ _) fun a => ku.bind (ku.refl _) fun h => ku.ite (ku.refl _) (ku.ite (ku.refl _) (ku.ite ?_ (ku.refl _)))
  cases t.kids[a.toNat]? with
  | none => exact ku.refl _
  | some s => exact GX k n s key
open Go.Proofs.Ytoddejmlcnbdmaa.Tree
set_option maxHeartbeats 8000000
set_option maxRecDepth 100000
end Go.Proofs.Ytoddejmlcnbdmaa.Fn
namespace Go.Proofs.Ytoddejmlcnbdmaa.Tree
def NT.head (T E : Nat) (t : NT) : List Ck := [.box T t.p #[t.kv, t.vv, t.cv], txt t.kv t.keys, txt t.vv t.vals, .kT E t.cv (ptrs t.kids)]
theorem NT.kK (T E : Nat) (t : NT) : t.fB T E = t.head T E ++ NT.bI T E t.kids := by
 cases t
 rw [NT.fB]
 rfl
def NT.hole (T E : Nat) (t : NT) (i : Nat) (L : List Ck) : List Ck := t.head T E ++ (NT.bI T E (t.kids.take i) ++ (NT.bI T E (t.kids.drop (i + 1)) ++ L))
def NT.jq (t : NT) (i : Nat) (s : NT) : NT := .mk t.p t.kv t.vv t.cv t.keys t.vals (t.kids.set i s)
theorem SL {l : List NT} {i : Nat} {s : NT} (h : l[i]? = some s) : l = l.take i ++ s :: l.drop (i + 1) := by
 rw [<- fF h, List.take_append_drop]
theorem ma (T E : Nat) {l : List NT} {i : Nat} {s : NT} (h : l[i]? = some s) : NT.bI T E l = NT.bI T E (l.take i) ++ (s.fB T E ++ NT.bI T E (l.drop (i + 1))) := by
 conv => lhs; rw [SL h]
 rw [jP, NT.bI]
theorem zf {T E : Nat} {t s : NT} {i : Nat} (L : List Ck) (h : t.kids[i]? = some s) : (t.fB T E ++ L).Perm (s.fB T E ++ t.hole T E i L) := by
 rw [NT.kK, ma T E h]
 unfold NT.hole
 simp only [List.append_assoc]
 refine (List.Perm.append_left _ (List.perm_append_comm_assoc _ _ _)).trans ?_
 exact List.perm_append_comm_assoc _ _ _
theorem Dc {l : List NT} {i : Nat} {s s' : NT} (h : l[i]? = some s) : (l.set i s')[i]? = some s' /\ (l.set i s').take i = l.take i /\ (l.set i s').drop (i + 1) = l.drop (i + 1) := by
 have hl : i < l.length := (List.getElem?_eq_some_iff.1 h).1
 refine ⟨by rw [List.getElem?_set_self hl], ?_, ?_⟩
 ·rw [List.take_set_of_le (Nat.le_refl _)]
 ·rw [List.drop_set_of_lt (Nat.lt_succ_self _)]
theorem SN {l : List NT} {i : Nat} {s s' : NT} (h : l[i]? = some s) (hp : s'.p = s.p) : ptrs (l.set i s') = ptrs l := by
 unfold ptrs
 rw [List.map_set]
 refine List.ext_getElem? fun j => ?_
 rw [List.getElem?_set]
 by_cases hj : i = j
 ·subst hj
  have hl : i < l.length := (List.getElem?_eq_some_iff.1 h).1
  rw [if_pos rfl, if_pos (by rw [List.length_map]; exact hl), List.getElem?_map, h, hp]
  rfl
 ·rw [if_neg hj]
theorem NA {T E : Nat} {t s s' : NT} {i : Nat} (L : List Ck) (h : t.kids[i]? = some s) (hp : s'.p = s.p) : (s'.fB T E ++ t.hole T E i L).Perm ((t.jq i s').fB T E ++ L) := by
 obtain ⟨h1, h2, h3⟩ := Dc (s' := s') h
 have hh : (t.jq i s').hole T E i L = t.hole T E i L := by
  unfold NT.hole NT.head NT.jq NT.p NT.kv NT.vv NT.cv NT.keys NT.vals NT.kids
  cases t with | mk p kv vv cv keys vals kids =>
  simp only [NT.kids] at h h1 h2 h3
  simp only
  rw [SN h hp, h2, h3]
 rw [<- hh]
 refine (zf L ?_).symm
 cases t
 exact h1
theorem uQ {t s' : NT} {i : Nat} : (t.jq i s').erase = .mk t.keys t.vals (t.erase.kids.set i s'.erase) := by
 cases t with | mk p kv vv cv keys vals kids =>
 show PT.mk keys vals (NT.aD (kids.set i s')) = PT.mk keys vals ((NT.aD kids).set i s'.erase)
 rw [aN, aN, List.map_set]
section
variable {w w1 W : World} {base : Nat} {L : List Ck}
theorem Sat.NB {g c : Nat} {l : List ByteArray} (h : Sat w base (txt (.slice (some ⟨g, 0, none⟩) l.length c) l :: L)) (i : Nat) (x : ByteArray) :
  Sat (w.setCell ⟨g, i, none⟩ (.string x)) base (txt (.slice (some ⟨g, 0, none⟩) (l.set i x).length c) (l.set i x) :: L) := by
 have h1 := P9 (h.ok _ List.mem_cons_self)
 obtain ⟨h2, hg⟩ := Kd.Xd (enc := Value.string) (h1 := fun _ => rfl) h1 (i : Int) x
 rw [Int.toNat_natCast] at h2 hg
 have hl : (l.set i x).length = l.length := List.length_set
 rw [hl]
 refine Sat.frame (A := [txt (.slice (some ⟨g, 0, none⟩) l.length c) l]) (A' := [txt (.slice (some ⟨g, 0, none⟩) l.length c) (l.set i x)]) (R := L) (w := w) h (Sat.one (yU h2)) ⟨hg.size, fun k hk hnot => hg.block k hk fun he => hnot ⟨_, List.mem_singleton_self _, ?_⟩⟩ ?_
 ·exact he.symm
 ·rintro k ⟨c', hc, hb⟩
  rw [List.mem_singleton.1 hc] at hb
  exact .inl ⟨_, List.mem_singleton_self _, hb⟩
end
def aa (w : World) (base : Nat) (gs : List (List Ck)) : Prop := Sat w base gs.flatten
section
variable {w w1 W : World} {base : Nat} {gs gs' : List (List Ck)} {A B : List Ck} {c c' : Ck}
theorem aa.drew (h : aa w base gs) : aa w.drew base gs := Sat.drew h
theorem aa.drewN (h : aa w base gs) (m : Nat) : aa (w.drewN m) base gs := Sat.drewN h m
theorem rz {i : Nat} (hi : gs[i]? = some A) (B : List Ck) : gs.flatten.Perm (A ++ (gs.eraseIdx i).flatten) /\ (gs.set i B).flatten.Perm (B ++ (gs.eraseIdx i).flatten) := by
 obtain ⟨h1, h2⟩ := set_perm (y := B) hi
 exact ⟨h1.flatten, h2.flatten⟩
theorem aa.at (h : aa w base gs) (i : Nat) (hi : gs[i]? = some A) : Sat w base A :=
 Sat.left (Sat.perm h (rz hi A).1)
theorem aa.z (h : aa w base gs) (i : Nat) {T p : Nat} {cs : Array Value} (hi : gs[i]? = some [.box T p cs]) (j : Nat) : w.cell? ⟨p, j, none⟩ = cs[j]? := (h.at i hi).z 0 rfl j
theorem aa.f (h : aa w base gs) (i : Nat) {T p : Nat} {cs : Array Value} (hi : gs[i]? = some [.box T p cs]) (j : Nat) : w.frozen? ⟨p, j, none⟩ = false := (h.at i hi).f 0 rfl j
theorem aa.ge (h : aa w base gs) (i : Nat) {T p : Nat} {cs : Array Value} (hi : gs[i]? = some [.box T p cs]) : base <= p := ((h.at i hi).ok _ List.mem_cons_self).1
theorem aa.sr (h : aa w base gs) (i : Nat) {v : Value} {l : List ByteArray} (hi : gs[i]? = some [txt v l]) : SR w base v l := (h.at i hi).sr 0 rfl
theorem aa.row (h : aa w base gs) (i : Nat) {Ad : Option Addr} {n c : Nat} {l : List ByteArray} (hi : gs[i]? = some [txt (.slice Ad n c) l]) : n = l.length /\ n <= c /\ Kd.C Kd.string w Ad l.length l := Kd.gm (h.sr i hi)
theorem aa.q (h : aa w base gs) (i : Nat) {E : Nat} {v : Value} {l : List NT} (hi : gs[i]? = some [.kT E v (ptrs l)]) : PQ E w base v (l.map NT.p) := by
 have := (h.at i hi).ok _ List.mem_cons_self
 rw [fu] at this
 exact DU this
theorem aa.gX (h : aa w base gs) (i : Nat) {E : Nat} {Ad : Option Addr} {n c : Nat} {l : List NT} (hi : gs[i]? = some [.kT E (.slice Ad n c) (ptrs l)]) : n = l.length /\ n <= c /\ gL.C w Ad n (l.map NT.p) := by
 obtain ⟨h1, h2, h3⟩ := Kd.wD (h.q i hi)
 rw [List.length_map] at h1 h3
 subst h1
 exact ⟨rfl, h2, h3⟩
theorem aa.turn (h : aa w base gs) (i : Nat) (hi : gs[i]? = some A) (ha : Sat w1 base B) (hk : Kept w w1 (xI A)) (hb : ∀ k, xI B k -> xI A k ∨ w.heap.size <= k) : aa w1 base (gs.set i B) :=
 Sat.perm (Sat.frame (Sat.perm h (rz hi B).1) ha hk hb) (rz hi B).2.symm
theorem aa.put (h : aa w base gs) (i : Nat) {T p : Nat} {cs cs' : Array Value} (hi : gs[i]? = some [.box T p cs]) (j : Nat) (u : Value) (e : cs.setIfInBounds j u = cs') : aa (w.setCell ⟨p, j, none⟩ u) base (gs.set i [.box T p cs']) := by
 obtain ⟨h1, h2⟩ := rz hi [.box T p cs']
 exact Sat.perm (Sat.put (Sat.perm h h1) j u e) h2.symm
theorem aa.NB (h : aa w base gs) (i : Nat) {g c : Nat} {l : List ByteArray} (hi : gs[i]? = some [txt (.slice (some ⟨g, 0, none⟩) l.length c) l]) (j : Nat) (x : ByteArray) :
  aa (w.setCell ⟨g, j, none⟩ (.string x)) base (gs.set i [txt (.slice (some ⟨g, 0, none⟩) (l.set j x).length c) (l.set j x)]) := by
 obtain ⟨h1, h2⟩ := rz hi [txt (.slice (some ⟨g, 0, none⟩) (l.set j x).length c) (l.set j x)]
 exact Sat.perm (Sat.NB (Sat.perm h h1) j x) h2.symm
theorem aa.new (h : aa w base gs) (hb : Below w.heap.size w w1) (hbase : base <= w.heap.size) (hn : Sat w1 w.heap.size A) : aa w1 base (gs ++ [A]) := by
 have := Sat.behind h hb hbase hn
 unfold aa
 rw [List.flatten_append, List.flatten_singleton]
 exact this
theorem aa.gQ {v : Value} {l : List ByteArray} (h : aa w base gs) (hb : Below w.heap.size w w1) (hbase : base <= w.heap.size) (ho : Kd.string.R 9 w1 w.heap.size (fun _ => True) v l) : aa w1 base (gs ++ [[txt v l]]) :=
 h.new hb hbase (Sat.one (yU ho))
theorem aa.oQ {T g : Nat} {cs : Array Value} (h : aa W base gs) (hg : g = W.heap.size) (aM : w1.heap[g]? = some (.cells cs T (0, 0))) (hb : Below W.heap.size W w1) (hbase : base <= W.heap.size) : aa w1 base (gs ++ [[.box T g cs]]) :=
 h.new hb hbase (Sat.one ⟨by omega, aM⟩)
theorem aa.VJ {Ad : Option Addr} {c : Nat} {l : List ByteArray} (h : aa w base gs) (i : Nat) (hi : gs[i]? = some [txt (.slice Ad l.length c) l]) (m : Nat) (hm : m <= l.length) : aa w base (gs.set i [txt (.slice Ad m c) (l.take m)]) := by
 have h1 := h.sr i hi
 have h2 : SR w base (.slice Ad m c) (l.take m) := Kd.XH h1 hm
 refine h.turn i hi (Sat.one (yU h2)) (Kept.refl _ _) ?_
 rintro k ⟨d, hd, hb⟩
 rw [List.mem_singleton.1 hd] at hb
 exact .inl ⟨_, List.mem_singleton_self _, by cases Ad <;> exact hb⟩
theorem aa.lit {xs : List ByteArray} {vb : Value} (h : aa W base gs) (ho : Kd.string.R 9 w1 base (fun _ => True) vb xs) (hg : W.grownBy w1 none) (hn : ∃ b, vb.ownBlock = some b /\ W.heap.size <= b) : aa w1 base (gs ++ [[txt vb xs]]) := by
 have := Sat.lit h ho hg hn
 unfold aa
 rw [List.flatten_append, List.flatten_singleton]
 exact this
theorem si {c c' : Ck} (hat : c'.blk = c.blk ∨ ∃ b, c'.blk = some b /\ W.heap.size <= b) : ∀ k, xI [c'] k -> xI [c] k ∨ W.heap.size <= k := by
 rintro k ⟨d, hd, hb⟩
 rw [List.mem_singleton.1 hd] at hb
 rcases hat with h | ⟨b, h1, h2⟩
 ·exact .inl ⟨_, List.mem_singleton_self _, by rw [<- h]; exact hb⟩
 ·rw [h1] at hb
  injection hb with hb
  exact .inr (by omega)
theorem aa.app {x y : List ByteArray} {u u1 : Value} (i : Nat) (h : aa W base gs) (hi : gs[i]? = some [txt u x]) (ho : Kd.string.R 9 w1 base (fun _ => True) u1 y) (hg : W.grownBy w1 u.ownBlock) (hat : u1.ownBlock = u.ownBlock ∨ ∃ b, u1.ownBlock = some b /\ W.heap.size <= b) : aa w1 base (gs.set i [txt u1 y]) :=
 h.turn i hi (Sat.one (yU ho)) ⟨hg.size, fun k hk hnot => hg.block k hk fun he => hnot ⟨_, List.mem_singleton_self _, he.symm⟩⟩ (si hat)
theorem aa.aak {E : Nat} {Ad : Option Addr} {n c : Nat} {l : List NT} (h : aa w base gs) (i : Nat) (hi : gs[i]? = some [.kT E (.slice Ad n c) (ptrs l)]) (m : Nat) (hm : m <= l.length) : aa w base (gs.set i [.kT E (.slice Ad m c) (ptrs (l.take m))]) := by
 have h1 := h.q i hi
 have h2 : PQ E w base (.slice Ad m c) ((l.map NT.p).take m) := Kd.XI h1 (by rw [List.length_map]; exact hm)
 rw [<- List.map_take] at h2
 have h3 := GI h2
 rw [<- fu] at h3
 refine h.turn i hi (Sat.one h3) (Kept.refl _ _) ?_
 rintro k ⟨d, hd, hb⟩
 rw [List.mem_singleton.1 hd] at hb
 exact .inl ⟨_, List.mem_singleton_self _, by cases Ad <;> exact hb⟩
theorem aa.Jh {E : Nat} {v : Value} {l : List NT} (h : aa w base gs) (hb : Below w.heap.size w w1) (hbase : base <= w.heap.size) (ho : gL.R E w1 w.heap.size (fun _ => True) v (l.map NT.p)) : aa w1 base (gs ++ [[.kT E v (ptrs l)]]) := by
 have h2 : PQ E w1 w.heap.size v (l.map NT.p) := Kd.SQ ho
 have h3 := GI h2
 rw [<- fu] at h3
 exact h.new hb hbase (Sat.one h3)
theorem aa.rA {c : Ck} (h : aa W base gs) (hc : c.ok w1 base) (hg : W.grownBy w1 none) (hn : ∃ b, c.blk = some b /\ W.heap.size <= b) : aa w1 base (gs ++ [[c]]) := by
 have hk : Kept W w1 (fun _ => False) := ⟨hg.size, fun i hi _ => hg.block i hi (by simp)⟩
 have h2 := Sat.perm (Sat.add h hk (Sat.one hc) (by
  rintro k ⟨d, hd, hb⟩
  rw [List.mem_singleton.1 hd] at hb
  obtain ⟨b, h1, h2⟩ := hn
  rw [h1] at hb
  injection hb with hb
  omega)) List.perm_append_comm
 unfold aa
 rw [List.flatten_append, List.flatten_singleton]
 exact h2
theorem Ji {E : Nat} {v : Value} {l : List Nat} (h : gL.R E w base (fun _ => True) v l) : Ck.ok w base (.own E v (encs bO l)) := by
 have h2 := Kd.tV (enc := bO) (h1 := fun _ => rfl) h
 show w.ownsRow base E 1 v (encs bO l).length (encs bO l)
 rw [dD]
 exact h2
theorem VK {E : Nat} {v : Value} {l : List Nat} (h : Ck.ok w base (.own E v (encs bO l))) : gL.R E w base (fun _ => True) v l :=
 Kd.pJ (enc := bO) (h1 := fun _ => rfl) (by have h2 : w.ownsRow base E 1 v (encs bO l).length (encs bO l) := h; rw [dD] at h2; exact h2) (fun _ _ => trivial)
theorem aa.abZ (h : aa w base gs) (i : Nat) {E : Nat} {v : Value} {l : List Nat} (hi : gs[i]? = some [.own E v (encs bO l)]) : gL.R E w base (fun _ => True) v l := VK ((h.at i hi).ok _ List.mem_cons_self)
theorem aa.cut (h : aa w base gs) (i : Nat) (hi : gs[i]? = some (A ++ B)) : aa w base (gs.set i A ++ [B]) := by
 obtain ⟨h1, h2⟩ := rz hi A
 unfold aa
 rw [List.flatten_append, List.flatten_singleton]
 have h3 := Sat.perm h h1
 rw [List.append_assoc] at h3
 refine Sat.perm h3 ?_
 refine (List.Perm.append_left A List.perm_append_comm).trans ?_
 rw [<- List.append_assoc]
 exact h2.symm.append_right B
theorem aa.Xe (h : aa w base gs) : aa w base (gs ++ [[]]) := by
 unfold aa
 rw [List.flatten_append, List.flatten_singleton, List.append_nil]
 exact h
theorem aa.Xf {T E p : Nat} {kv vv cv : Value} {keys vals : List ByteArray} {kids : List NT} (h : aa w base [[.box T p #[kv, vv, cv]], [txt kv keys], [txt vv vals], [.kT E cv (ptrs kids)], NT.bI T E kids]) : Rd T w p (NT.mk p kv vv cv keys vals kids).erase := by
 refine pK (base := base) (E := E) (t := NT.mk p kv vv cv keys vals kids) ?_
 rw [NT.fB]
 unfold aa at h
 simp only [List.flatten_cons, List.flatten_nil, List.cons_append, List.nil_append, List.append_nil] at h
 exact h
def ky (gs : List (List Ck)) (is : List Nat) : List (List Ck) := is.map fun i => gs.getD i []
theorem aa.ND (h : aa w base gs) {i j : Nat} (hij : i ≠ j) (hi : gs[i]? = some A) (hj : gs[j]? = some B) : ∀ a ∈ A, ∀ b ∈ B, Apart a b := by
 intro a ha b hb
 have key : ∀ {i j : Nat} {A B : List Ck}, i < j -> gs[i]? = some A -> gs[j]? = some B -> ∀ a ∈ A, ∀ b ∈ B, Apart a b := by
  intro i j A B hij hi hj a ha b hb
  have hp : gs.Pairwise fun l m => ∀ x ∈ l, ∀ y ∈ m, Apart x y := (List.pairwise_flatten.1 h.ap).2
  obtain ⟨h1, h2⟩ := List.getElem?_eq_some_iff.1 hi
  obtain ⟨h3, h4⟩ := List.getElem?_eq_some_iff.1 hj
  subst h2
  subst h4
  exact List.pairwise_iff_getElem.1 hp i j h1 h3 hij a ha b hb
 rcases Nat.lt_or_gt_of_ne hij with hlt | hlt
 ·exact key hlt hi hj a ha b hb
 ·exact Apart.symm (key hlt hj hi b hb a ha)
theorem getD_at {i : Nat} {c : Ck} (h : c ∈ gs.getD i []) : ∃ g, gs[i]? = some g /\ c ∈ g := by
 rw [List.getD_eq_getElem?_getD] at h
 cases hg : gs[i]? with
 | none => rw [hg] at h; cases h
 | some g => rw [hg] at h; exact ⟨g, rfl, h⟩
theorem aa.ky (h : aa w base gs) (is : List Nat) (hn : is.Nodup) : aa w base (ky gs is) := by
 refine ⟨fun c hc => ?_, List.pairwise_flatten.2 ⟨fun g hg => ?_, ?_⟩⟩
 ·obtain ⟨g, hg, hcg⟩ := List.mem_flatten.1 hc
  obtain ⟨i, _, rfl⟩ := List.mem_map.1 hg
  obtain ⟨g, hi, hcg⟩ := getD_at hcg
  exact (h.at i hi).ok c hcg
 ·obtain ⟨i, _, rfl⟩ := List.mem_map.1 hg
  cases hi : gs[i]? with
  | none =>
   rw [List.getD_eq_getElem?_getD, hi]
   exact .nil
  | some g =>
   rw [List.getD_eq_getElem?_getD, hi]
   exact (h.at i hi).ap
 ·unfold Tree.ky
  rw [List.pairwise_map]
  refine hn.imp fun {i j} hij a ha b hb => ?_
  obtain ⟨g, hi, hag⟩ := getD_at ha
  obtain ⟨g', hj, hbg⟩ := getD_at hb
  exact h.ND hij hi hj a hag b hbg
end
abbrev mF (g : Nat) : Option Addr := some ⟨g, 0, none⟩
abbrev lW (A : Option Addr) (c : Nat) (l : List ByteArray) : List Ck := [txt (.slice A l.length c) l]
abbrev yM (A : Option Addr) (n c : Nat) (l : List ByteArray) : List Ck := [txt (.slice A n c) l]
abbrev rY (t : Nat) (A : Option Addr) (c : Nat) (l : List NT) : List Ck := [.kT t (.slice A l.length c) (ptrs l)]
abbrev qy_ (t : Nat) (A : Option Addr) (n c : Nat) (l : List NT) : List Ck := [.kT t (.slice A n c) (ptrs l)]
abbrev qW (t p : Nat) (A : Option Addr) (a c : Nat) (B : Option Addr) (b d : Nat) (C : Option Addr) (e f : Nat) : List Ck := [.box t p #[.slice A a c, .slice B b d, .slice C e f]]
theorem FR {w : World} {base : Nat} {gs gs' : List (List Ck)} (h : aa w base gs) (e : gs = gs' := by (try simp only [ky, List.map_cons, List.map_nil, List.getElem?_cons_succ, List.getElem?_cons_zero, List.getD_cons_succ, List.getD_cons_zero, Option.getD_some, List.set_cons_zero, List.set_cons_succ, List.cons_append, List.nil_append]); rfl) : aa w base gs' := e ▸ h
theorem adA (w : World) {base : Nat} {gs gs' : List (List Ck)} (h : aa w base gs) (e : gs = gs' := by (try simp only [ky, List.map_cons, List.map_nil, List.getElem?_cons_succ, List.getElem?_cons_zero, List.getD_cons_succ, List.getD_cons_zero, Option.getD_some, List.set_cons_zero, List.set_cons_succ, List.cons_append, List.nil_append]); rfl) : aa w base gs' := e ▸ h
theorem oK {w : World} {base : Nat} {gs gs' : List (List Ck)} (h : aa w base gs) (e : gs = gs' := by (try simp only [ky, List.map_cons, List.map_nil, List.getElem?_cons_succ, List.getElem?_cons_zero, List.getD_cons_succ, List.getD_cons_zero, Option.getD_some, List.set_cons_zero, List.set_cons_succ, List.cons_append, List.nil_append]); rfl) : ae (aa w base gs') := ⟨e ▸ h⟩
theorem jr (w : World) {base : Nat} {gs gs' : List (List Ck)} (h : aa w base gs) (e : gs = gs' := by (try simp only [ky, List.map_cons, List.map_nil, List.getElem?_cons_succ, List.getElem?_cons_zero, List.getD_cons_succ, List.getD_cons_zero, Option.getD_some, List.set_cons_zero, List.set_cons_succ, List.cons_append, List.nil_append]); rfl) : ae (aa w base gs') := ⟨e ▸ h⟩
end Go.Proofs.Ytoddejmlcnbdmaa.Tree
namespace Go.Proofs.Ytoddejmlcnbdmaa.Fn
def mf.f (l0 : List ByteArray) (a1 : Int) (a2 : ByteArray) : Option (List ByteArray) := (some (([] : List ByteArray) : List ByteArray)).bind fun rT => (if 0 <= a1 then (if a1 <= (l0.length : Int) then (if rT.length + (l0.take (a1 : Int).toNat).length < 8796093022208 then ((some (rT ++ (l0.take (a1 : Int).toNat) : List ByteArray)).bind fun om => (if om.length < 8796093022208 then ((some (om ++ [a2] : List ByteArray)).bind fun lC => (if lC.length + (l0.drop (a1 : Int).toNat).length < 8796093022208 then (some (lC ++ (l0.drop (a1 : Int).toNat))) else (none))) else (none))) else (none)) else (none)) else (none))
theorem mf.calls (A0 : Option Addr) (c0 : Nat) (l0 : List ByteArray) (a1 : Int) (a2 : ByteArray) (r : List ByteArray) (w : World) (hr0 : Kd.C Kd.string w A0 l0.length l0) (hc0 : l0.length <= c0) (h : mf.f l0 a1 a2 = some r) :
  Calls Try.prog 124 #[.slice A0 l0.length c0, .int .i64 a1, .string a2] w fun e w' => ∃ kI : Value, e = .returned (kI) /\ Kd.R Kd.string 9 w' w.heap.size (fun _ => True) kI r /\ Below w.heap.size w w' := by
 have jf := A_ hr0
 have nQ := A_ hc0
 clear hr0 hc0
 have HB := A_ (Below.refl w.heap.size w)
 have H : ((some (([] : List ByteArray) : List ByteArray)).bind fun rT => (if 0 <= a1 then (if a1 <= (l0.length : Int) then (if rT.length + (l0.take (a1 : Int).toNat).length < 8796093022208 then ((some (rT ++ (l0.take (a1 : Int).toNat) : List ByteArray)).bind fun om => (if om.length < 8796093022208 then ((some (om ++ [a2] : List ByteArray)).bind fun lC => (if lC.length + (l0.drop (a1 : Int).toNat).length < 8796093022208 then (some (lC ++ (l0.drop (a1 : Int).toNat))) else (none))) else (none))) else (none)) else (none)) else (none))) = some r := h
 clear h
 obtain ⟨rT, wO⟩ : ∃ y_ : List ByteArray, y_ = (([] : List ByteArray)) := ⟨_, rfl⟩
 replace H : (if 0 <= a1 then (if a1 <= (l0.length : Int) then (if rT.length + (l0.take (a1 : Int).toNat).length < 8796093022208 then ((some (rT ++ (l0.take (a1 : Int).toNat) : List ByteArray)).bind fun om => (if om.length < 8796093022208 then ((some (om ++ [a2] : List ByteArray)).bind fun lC => (if lC.length + (l0.drop (a1 : Int).toNat).length < 8796093022208 then (some (lC ++ (l0.drop (a1 : Int).toNat))) else (none))) else (none))) else (none)) else (none)) else (none)) = some r := by first | (rw [wO]; with_reducible exact H) | (have iE := (Option.bind_some _ _).symm.trans H; rw [wO]; with_reducible exact iE) | (have iE := (Option.bind_some _ _).symm.trans H; with_reducible exact iE) | with_reducible exact H | (rw [wO]; exact H) | exact H
 have Ms := A_ wO
 clear wO
 by_cases c4 : 0 <= a1
 ·rw [if_pos c4] at H
  have mq := eq_true c4
  have RL : decide (0 <= a1) = true := decide_eq_true c4
  clear c4
  by_cases c5 : a1 <= (l0.length : Int)
  ·rw [if_pos c5] at H
   have CS := eq_true c5
   have Ym : decide (a1 <= (l0.length : Int)) = true := decide_eq_true c5
   clear c5
   by_cases c6 : rT.length + (l0.take (a1 : Int).toNat).length < 8796093022208
   ·rw [if_pos c6] at H
    have YT := A_ c6
    clear c6
    obtain ⟨om, wP⟩ : ∃ y_ : List ByteArray, y_ = (rT ++ (l0.take (a1 : Int).toNat)) := ⟨_, rfl⟩
    replace H : (if om.length < 8796093022208 then ((some (om ++ [a2] : List ByteArray)).bind fun lC => (if lC.length + (l0.drop (a1 : Int).toNat).length < 8796093022208 then (some (lC ++ (l0.drop (a1 : Int).toNat))) else (none))) else (none)) = some r := by first | (rw [wP]; with_reducible exact H) | (have iE := (Option.bind_some _ _).symm.trans H; rw [wP]; with_reducible exact iE) | (have iE := (Option.bind_some _ _).symm.trans H; with_reducible exact iE) | with_reducible exact H | (rw [wP]; exact H) | exact H
    have Ul := A_ wP
    clear wP
    by_cases c7 : om.length < 8796093022208
    ·rw [if_pos c7] at H
     have YU := A_ c7
     clear c7
     obtain ⟨lC, wQ⟩ : ∃ y_ : List ByteArray, y_ = (om ++ [a2]) := ⟨_, rfl⟩
     replace H : (if lC.length + (l0.drop (a1 : Int).toNat).length < 8796093022208 then (some (lC ++ (l0.drop (a1 : Int).toNat))) else (none)) = some r := by first | (rw [wQ]; with_reducible exact H) | (have iE := (Option.bind_some _ _).symm.trans H; rw [wQ]; with_reducible exact iE) | (have iE := (Option.bind_some _ _).symm.trans H; with_reducible exact iE) | with_reducible exact H | (rw [wQ]; exact H) | exact H
     have Um := A_ wQ
     clear wQ
     have LZ := eq_true (of_decide_eq_true eP : 0 <= a1)
     have Oz := eq_true (of_decide_eq_true eP : a1 <= (l0.length : Int))
     by_cases c10 : lC.length + (l0.drop (a1 : Int).toNat).length < 8796093022208
     ·rw [if_pos c10] at H
      have Un := A_ c10
      clear c10
      obtain ⟨YV, wR⟩ : ∃ y_ : List ByteArray, y_ = (lC ++ (l0.drop (a1 : Int).toNat)) := ⟨_, rfl⟩
      replace H : (some YV) = some r := by first | (rw [wR]; with_reducible exact H) | (have iE := (Option.bind_some _ _).symm.trans H; rw [wR]; with_reducible exact iE) | (have iE := (Option.bind_some _ _).symm.trans H; with_reducible exact iE) | with_reducible exact H | (rw [wR]; exact H) | exact H
      have Uo := A_ wR
      clear wR
      obtain rfl := Option.some.inj H
      go_enter Try.func124, Try.ntmps124
      go_wp2_with (first | ((with_reducible refine kV (N := 8) rfl ?_); refine Kd.Ch Kd.string _ 9 ?hg (N := 8) ?hd (xs := ([] : List ByteArray)) (inner := []) (ok := fun _ => True) (okp := fun _ => True) ?hr ?hp (fun _ hk => hk) trivial (Below.refl _ _) (Nat.le_refl _) (by simp) ?_; (case hd => rfl); (case hg => rfl); (case hr => first | (go_simp; done) | (go_simp; rfl)); (case hp => exact (gP.none _ _)); intro YW sP EY hb LY pW; clear LY pW; (first | rw [<- Ms.out] at EY | (simp only [Int.reduceToNat] at EY; rw [<- Ms.out] at EY)); have Mt := A_ (Kd.iC EY (iU HB.out)); replace HB := A_ (jO HB.out hb); clear hb EY; obtain ⟨i013, Mv, _, Mw, _⟩ := info_parts eU; obtain ⟨hcut13, Uq, Ur⟩ := pz (P := Try.prog) Value.string (⟨#[]⟩ : ByteArray) 38 9 .i64 Try.underlying38 Mv Mw A0 c0 l0 a1 (of_decide_eq_true eP) (of_decide_eq_true eP) nQ.out; have EZ := A_ (Kd.kY (h1 := fun _ => rfl) (Uq _ (Kd.iM jf.out))); have HC226 := A_ Ur; clear Uq Ur Mv Mw) | ((with_reducible refine di (b := .append) (xs := #[.tmp 8, .tmp 11]) rfl ?_); at_builtin; refine Kd.fU Kd.string (w0 := w) w.heap.size rfl (.tmp 8) (.tmp 11) 38 9 (.string ⟨#[]⟩) 16 rfl Try.underlying38 eU rfl (by decide) (by omega) YW rT (l0.take (a1 : Int).toNat) _ _ _ (fun _ => True) (fun _ => False) rfl rfl ?aO ?aR (fun _ _ h => h) (fun _ h => h.elim) ?aF ?aB ?aS ?aL ?_; (case aR => first | (have YX := (show (l0.take (a1 : Int).toNat).length = a1.toNat from (by rw [List.length_take]; have h_ : (a1 : Int) <= (l0.length : Int) := of_decide_eq_true eP; omega)); have Us := (Kd.aA EZ.out HB.out); rw [YX] at Us; exact Us) | (rw [<- show (l0.take (a1 : Int).toNat).length = a1.toNat from (by rw [List.length_take]; have h_ : (a1 : Int) <= (l0.length : Int) := of_decide_eq_true eP; omega)]; repeat (first | exact (Kd.aA EZ.out HB.out) | (with_reducible refine Kd.ed ?_ _) | (with_reducible refine Kd.dx ?_ _) | (with_reducible refine Kd.eD ?_))) | (repeat (first | exact (Kd.aA EZ.out HB.out) | (with_reducible refine Kd.ed ?_ _) | (with_reducible refine Kd.dx ?_ _) | (with_reducible refine Kd.eD ?_)))); (case aB => exact (ko HB.out)); (case aF => exact (fun _ _ => trivial)); (case aO => exact (qU Mt.out)); (case aS => exact (iU HB.out)); (case aL => have := YT.out; have O3 := (show (l0.take (a1 : Int).toNat).length = a1.toNat from (by rw [List.length_take]; have h_ : (a1 : Int) <= (l0.length : Int) := of_decide_eq_true eP; omega)); omega); intro v228 IC ho hb hg hat; rw [<- Ul.out] at ho; have ES := A_ (hb); have az := A_ (ho); clear HB; clear Mt; have HB := ES; have Mx := az; clear ES az; clear ho hb hg hat) | ((with_reducible refine di (b := .append) (xs := #[.tmp 13, .tmp 15]) rfl ?_); at_builtin; refine Kd.uh Kd.string (w0 := w) w.heap.size rfl (.tmp 13) (.tmp 15) 38 9 (.string ⟨#[]⟩) 16 rfl Try.underlying38 eU rfl (by decide) (by omega) v228 om a2 [.string a2] (fun _ => True) (fun _ => False) rfl rfl ?aP (fun _ hk => hk.elim) ?aF ?aO ?aB ?aS ?aL ?_; (case aP => exact rfl); (case aB => exact (ko HB.out)); (case aF => exact (fun _ _ => trivial)); (case aO => exact (qU Mx.out)); (case aS => exact (iU HB.out)); (case aL => have := YU.out; omega); intro YY EN ho hb hg hat; rw [<- Um.out] at ho; have ES := A_ (hb); have az := A_ (ho); clear HB; clear Mx; have HB := ES; have MB := az; clear ES az; clear ho hb hg hat; obtain ⟨i016, MC, _, ME, _⟩ := info_parts eU; obtain ⟨A16, hcut16, Ut, Uu⟩ := pE (P := Try.prog) Value.string (⟨#[]⟩ : ByteArray) 38 9 .i64 Try.underlying38 MC ME A0 c0 l0 a1 (of_decide_eq_true eP) (of_decide_eq_true eP) nQ.out; have MF := A_ (Kd.kY (h1 := fun _ => rfl) (Ut _ (Kd.iM jf.out))); have HC233 := A_ Uu; clear Ut Uu MC ME) | ((with_reducible refine di (b := .append) (xs := #[.tmp 17, .tmp 20]) rfl ?_); at_builtin; refine Kd.fU Kd.string (w0 := w) w.heap.size rfl (.tmp 17) (.tmp 20) 38 9 (.string ⟨#[]⟩) 16 rfl Try.underlying38 eU rfl (by decide) (by omega) YY lC (l0.drop (a1 : Int).toNat) _ _ _ (fun _ => True) (fun _ => False) rfl rfl ?aO ?aR (fun _ _ h => h) (fun _ h => h.elim) ?aF ?aB ?aS ?aL ?_; (case aR => first | (rw [<- show (l0.drop (a1 : Int).toNat).length = (l0.length - a1.toNat) from List.length_drop]; repeat (first | exact (Kd.aA MF.out HB.out) | (with_reducible refine Kd.ed ?_ _) | (with_reducible refine Kd.dx ?_ _) | (with_reducible refine Kd.eD ?_))) | (repeat (first | exact (Kd.aA MF.out HB.out) | (with_reducible refine Kd.ed ?_ _) | (with_reducible refine Kd.dx ?_ _) | (with_reducible refine Kd.eD ?_)))); (case aB => exact (ko HB.out)); (case aF => exact (fun _ _ => trivial)); (case aO => exact (qU MB.out)); (case aS => exact (iU HB.out)); (case aL => have := Un.out; have O3 := (show (l0.drop (a1 : Int).toNat).length = (l0.length - a1.toNat) from List.length_drop); omega); intro v235 ZY ho hb hg hat; rw [<- Uo.out] at ho; have ES := A_ (hb); have az := A_ (ho); clear HB; clear MB; have HB := ES; have Uv := az; clear ES az; clear ho hb hg hat))
      go_ret
      exact ⟨_, vE, by (with_reducible repeat (first | apply Kd.jR | apply Kd.jS | apply Kd.mI)); exact Uv.out, by repeat (first | (with_reducible first | exact HB.out | apply aK | apply ah | apply aT) | exact HB.out)⟩
     ·rw [if_neg c10] at H
      exact absurd H (by simp)
    ·rw [if_neg c7] at H
     exact absurd H (by simp)
   ·rw [if_neg c6] at H
    exact absurd H (by simp)
  ·rw [if_neg c5] at H
   exact absurd H (by simp)
 ·rw [if_neg c4] at H
  exact absurd H (by simp)
def dM.f (l0 : List ByteArray) (a1 : Int) : Option (List ByteArray) := (some (([] : List ByteArray) : List ByteArray)).bind fun E9 => (if 0 <= a1 then (if a1 <= (l0.length : Int) then (if E9.length + (l0.take (a1 : Int).toNat).length < 8796093022208 then ((some (E9 ++ (l0.take (a1 : Int).toNat) : List ByteArray)).bind fun xJ => (if 0 <= (wrap64 (a1 + 1)) then (if (wrap64 (a1 + 1)) <= (l0.length : Int) then (if xJ.length + (l0.drop ((wrap64 (a1 + 1)) : Int).toNat).length < 8796093022208 then (some (xJ ++ (l0.drop ((wrap64 (a1 + 1)) : Int).toNat))) else (none)) else (none)) else (none))) else (none)) else (none)) else (none))
def dM.T1 : Bool × List (List Nat × List Nat) := (true, [([], []), ([], []), ([], []), ([1, 2], [1, 2]), ([0, 3], [0, 3]), ([], []), ([], []), ([6], [6]), ([5, 7], [5, 7]), ([4, 8, 4], [4, 8]), ([9, 9, 0, 1, 2, 3, 4, 5, 6, 7, 8, 9], [9])])
def dM.B1 : List Nat := [0, 0, 0, 6, 15, 0, 0, 64, 224, 511, 1023]
theorem dM.XJ : rC .any (opsOf Try.f112 1) = dM.T1 := by kernel_rfl
theorem dM.SS : uR dM.T1.2 dM.B1 = true := by kernel_rfl
theorem dM.calls (A0 : Option Addr) (c0 : Nat) (l0 : List ByteArray) (a1 : Int) (r : List ByteArray) (w : World) (hr0 : Kd.C Kd.string w A0 l0.length l0) (hc0 : l0.length <= c0) (h : dM.f l0 a1 = some r) :
  Calls Try.prog 112 #[.slice A0 l0.length c0, .int .i64 a1] w fun e w' => ∃ kI : Value, e = .returned (kI) /\ Kd.R Kd.string 9 w' w.heap.size (fun _ => True) kI r /\ Below w.heap.size w w' := by
 have jf := A_ hr0
 have nQ := A_ hc0
 clear hr0 hc0
 have HB := A_ (Below.refl w.heap.size w)
 have H : ((some (([] : List ByteArray) : List ByteArray)).bind fun E9 => (if 0 <= a1 then (if a1 <= (l0.length : Int) then (if E9.length + (l0.take (a1 : Int).toNat).length < 8796093022208 then ((some (E9 ++ (l0.take (a1 : Int).toNat) : List ByteArray)).bind fun xJ => (if 0 <= (wrap64 (a1 + 1)) then (if (wrap64 (a1 + 1)) <= (l0.length : Int) then (if xJ.length + (l0.drop ((wrap64 (a1 + 1)) : Int).toNat).length < 8796093022208 then (some (xJ ++ (l0.drop ((wrap64 (a1 + 1)) : Int).toNat))) else (none)) else (none)) else (none))) else (none)) else (none)) else (none))) = some r := h
 clear h
 obtain ⟨E9, MG⟩ : ∃ y_ : List ByteArray, y_ = (([] : List ByteArray)) := ⟨_, rfl⟩
 replace H : (if 0 <= a1 then (if a1 <= (l0.length : Int) then (if E9.length + (l0.take (a1 : Int).toNat).length < 8796093022208 then ((some (E9 ++ (l0.take (a1 : Int).toNat) : List ByteArray)).bind fun xJ => (if 0 <= (wrap64 (a1 + 1)) then (if (wrap64 (a1 + 1)) <= (l0.length : Int) then (if xJ.length + (l0.drop ((wrap64 (a1 + 1)) : Int).toNat).length < 8796093022208 then (some (xJ ++ (l0.drop ((wrap64 (a1 + 1)) : Int).toNat))) else (none)) else (none)) else (none))) else (none)) else (none)) else (none)) = some r := by first | (rw [MG]; with_reducible exact H) | (have iE := (Option.bind_some _ _).symm.trans H; rw [MG]; with_reducible exact iE) | (have iE := (Option.bind_some _ _).symm.trans H; with_reducible exact iE) | with_reducible exact H | (rw [MG]; exact H) | exact H
 have Ny317 := A_ MG
 clear MG
 by_cases c3 : 0 <= a1
 ·rw [if_pos c3] at H
  have jv := eq_true c3
  have vV : decide (0 <= a1) = true := decide_eq_true c3
  clear c3
  by_cases c4 : a1 <= (l0.length : Int)
  ·rw [if_pos c4] at H
   have mq := eq_true c4
   have RL : decide (a1 <= (l0.length : Int)) = true := decide_eq_true c4
   clear c4
   by_cases c5 : E9.length + (l0.take (a1 : Int).toNat).length < 8796093022208
   ·rw [if_pos c5] at H
    have YZ := A_ c5
    clear c5
    obtain ⟨xJ, MH⟩ : ∃ y_ : List ByteArray, y_ = (E9 ++ (l0.take (a1 : Int).toNat)) := ⟨_, rfl⟩
    replace H : (if 0 <= (wrap64 (a1 + 1)) then (if (wrap64 (a1 + 1)) <= (l0.length : Int) then (if xJ.length + (l0.drop ((wrap64 (a1 + 1)) : Int).toNat).length < 8796093022208 then (some (xJ ++ (l0.drop ((wrap64 (a1 + 1)) : Int).toNat))) else (none)) else (none)) else (none)) = some r := by first | (rw [MH]; with_reducible exact H) | (have iE := (Option.bind_some _ _).symm.trans H; rw [MH]; with_reducible exact iE) | (have iE := (Option.bind_some _ _).symm.trans H; with_reducible exact iE) | with_reducible exact H | (rw [MH]; exact H) | exact H
    have Ny321 := A_ MH
    clear MH
    obtain ⟨wS, Ka⟩ : ∃ j_ : Int, (wrap64 (a1 + 1)) = j_ := ⟨_, rfl⟩
    replace H : (if 0 <= (wS) then (if (wS) <= (l0.length : Int) then (if xJ.length + (l0.drop ((wS) : Int).toNat).length < 8796093022208 then (some (xJ ++ (l0.drop ((wS) : Int).toNat))) else (none)) else (none)) else (none)) = some r := by first | (rw [Ka] at H; exact H) | (simp only [Ka] at H ⊢; exact H)
    have hji6w : (IntKind.i64.wrap (a1 + 1)) = wS := (xO _).trans Ka
    by_cases c7 : 0 <= (wS)
    ·rw [if_pos c7] at H
     have CU := eq_true c7
     have Uw : decide (0 <= (wS)) = true := decide_eq_true c7
     clear c7
     by_cases c8 : (wS) <= (l0.length : Int)
     ·rw [if_pos c8] at H
      have LZ := eq_true c8
      have c8b1 : decide ((wS) <= (l0.length : Int)) = true := decide_eq_true c8
      clear c8
      by_cases c9 : xJ.length + (l0.drop ((wS) : Int).toNat).length < 8796093022208
      ·rw [if_pos c9] at H
       have Y0 := A_ c9
       clear c9
       obtain ⟨y325, MI⟩ : ∃ y_ : List ByteArray, y_ = (xJ ++ (l0.drop ((wS) : Int).toNat)) := ⟨_, rfl⟩
       replace H : (some y325) = some r := by first | (rw [MI]; with_reducible exact H) | (have iE := (Option.bind_some _ _).symm.trans H; rw [MI]; with_reducible exact iE) | (have iE := (Option.bind_some _ _).symm.trans H; with_reducible exact iE) | with_reducible exact H | (rw [MI]; exact H) | exact H
       have Ny325 := A_ MI
       clear MI
       obtain rfl := Option.some.inj H
       go_enter Try.func112, Try.ntmps112
       try go_wp2
       replace HB := A_ (aT HB.out)
       obtain ⟨i011, MJ, _, MK, _⟩ := info_parts eU
       obtain ⟨hcut11, Ux, Uy⟩ := pz (P := Try.prog) Value.string (⟨#[]⟩ : ByteArray) 38 9 .i64 Try.underlying38 MJ MK A0 c0 l0 a1 (of_decide_eq_true eP) (of_decide_eq_true eP) nQ.out
       have QN := A_ (Kd.kY (h1 := fun _ => rfl) (Ux _ (Kd.iM jf.out)))
       have HC320 := A_ Uy
       clear Ux Uy MJ MK
       obtain ⟨i012, ML, _, MM, _⟩ := info_parts eU
       obtain ⟨A12, hcut12, Uz, UA⟩ := pE (P := Try.prog) Value.string (⟨#[]⟩ : ByteArray) 38 9 .i64 Try.underlying38 ML MM A0 c0 l0 (wS) (of_decide_eq_true eP) (of_decide_eq_true eP) nQ.out
       have UB := A_ (Kd.kY (h1 := fun _ => rfl) (Uz _ (Kd.iM jf.out)))
       have HC324 := A_ UA
       clear Uz UA ML MM
       refine dL (n := 11) (S := fun w' => True) (ds := []) (bt 11 0) (by kernel_rfl) rfl rfl trivial (fun hHeld => ?_); refine xn dM.XJ dM.SS (fun O4 HW_ => ?_)
       generalize w.drew = vN at HB QN UB hHeld ⊢
       refine aQ 1 6 2 ?_
       refine aQ 2 7 6 ?_
       refine aQ 3 8 14 ?_
       refine aQ 5 10 46 ?_
       refine aQ 6 11 110 ?_
       refine aQ 7 12 238 ?_
       refine aQ 8 13 494 ?_
       refine IW (i := 0) (N := some 5) (bt 11 495) rfl rfl (wE O4.out (by kernel_rfl)) (by decide) (fun K hK => ?_)
       refine Kd.bB Kd.string _ 9 ?hg (N := 5) ?hd (xs := ([] : List ByteArray)) (inner := []) (ok := fun _ => True) (okp := fun _ => True) ?hr ?hp (fun _ hk => hk) trivial (Below.refl _ _) (Nat.le_refl _) (by simp) ?_; (case hd => rfl); (case hg => rfl); (case hr => first | (go_simp; done) | (go_simp; rfl)); (case hp => exact (gP.none _ _))
       intro v318 Gh Fa hb LY pW
       clear LY pW
       (first | rw [<- Ny317.out] at Fa | (simp only [Int.reduceToNat] at Fa; rw [<- Ny317.out] at Fa))
       have HO319 := A_ (Kd.iC Fa (iU HB.out))
       replace HB := A_ (jO HB.out hb)
       clear hb Fa
       refine hK.out _ _ trivial (fun hHeld => ?_)
       clear hK K
       refine fw 5 ?_
       refine IW (i := 4) (N := some 9) (bt 11 511) rfl rfl (wE O4.out (by kernel_rfl)) (by decide) (fun K hK => ?_)
       refine Kd.aV Kd.string (w0 := w) w.heap.size (by rfl) (.tmp 5) (.tmp 8) 38 9 (.string ⟨#[]⟩) 16 rfl Try.underlying38 eU rfl (by decide) (by omega) v318 E9 (l0.take (a1 : Int).toNat) _ _ _ (fun _ => True) (fun _ => False) rfl rfl ?aO ?aR (fun _ _ h => h) (fun _ h => h.elim) ?aF ?aB ?aS ?aL ?_
       (case aR => first | (have YX := (show (l0.take (a1 : Int).toNat).length = a1.toNat from (by rw [List.length_take]; have h_ : (a1 : Int) <= (l0.length : Int) := of_decide_eq_true eP; omega)); have Us := (Kd.aA QN.out HB.out); rw [YX] at Us; exact Us) | (rw [<- show (l0.take (a1 : Int).toNat).length = a1.toNat from (by rw [List.length_take]; have h_ : (a1 : Int) <= (l0.length : Int) := of_decide_eq_true eP; omega)]; repeat (first | exact (Kd.aA QN.out HB.out) | (with_reducible refine Kd.ed ?_ _) | (with_reducible refine Kd.dx ?_ _) | (with_reducible refine Kd.eD ?_))) | (repeat (first | exact (Kd.aA QN.out HB.out) | (with_reducible refine Kd.ed ?_ _) | (with_reducible refine Kd.dx ?_ _) | (with_reducible refine Kd.eD ?_))))
       (case aB => exact (ko HB.out))
       (case aF => exact (fun _ _ => trivial))
       (case aO => exact (qU HO319.out))
       (case aS => exact (iU HB.out))
       (case aL => have := YZ.out; have O3 := (show (l0.take (a1 : Int).toNat).length = a1.toNat from (by rw [List.length_take]; have h_ : (a1 : Int) <= (l0.length : Int) := of_decide_eq_true eP; omega)); omega)
       intro v322 EN ho hb hg hat
       rw [<- Ny321.out] at ho
       replace HB := A_ (hb)
       have HO323 := A_ (ho)
       clear HO319
       clear ho hb hg hat
       refine hK.out _ _ trivial (fun hHeld => ?_)
       clear hK K
       refine fw 9 ?_
       refine IW (i := 9) (N := some 14) (bt 11 1023) rfl rfl (wE O4.out (by kernel_rfl)) (by decide) (fun K hK => ?_)
       refine Kd.aV Kd.string (w0 := w) w.heap.size (by rfl) (.tmp 9) (.tmp 13) 38 9 (.string ⟨#[]⟩) 16 rfl Try.underlying38 eU rfl (by decide) (by omega) v322 xJ (l0.drop ((wS) : Int).toNat) _ _ _ (fun _ => True) (fun _ => False) rfl rfl ?aO ?aR (fun _ _ h => h) (fun _ h => h.elim) ?aF ?aB ?aS ?aL ?_
       (case aR => first | (rw [<- show (l0.drop ((wS) : Int).toNat).length = (l0.length - (wS).toNat) from List.length_drop]; repeat (first | exact (Kd.aA UB.out HB.out) | (with_reducible refine Kd.ed ?_ _) | (with_reducible refine Kd.dx ?_ _) | (with_reducible refine Kd.eD ?_))) | (repeat (first | exact (Kd.aA UB.out HB.out) | (with_reducible refine Kd.ed ?_ _) | (with_reducible refine Kd.dx ?_ _) | (with_reducible refine Kd.eD ?_))))
       (case aB => exact (ko HB.out))
       (case aF => exact (fun _ _ => trivial))
       (case aO => exact (qU HO323.out))
       (case aS => exact (iU HB.out))
       (case aL => have := Y0.out; have O3 := (show (l0.drop ((wS) : Int).toNat).length = (l0.length - (wS).toNat) from List.length_drop); omega)
       intro v326 w16 ho hb hg hat
       rw [<- Ny325.out] at ho
       replace HB := A_ (hb)
       have HO327 := A_ (ho)
       clear HO323
       clear ho hb hg hat
       refine hK.out _ _ trivial (fun hHeld => ?_)
       clear hK K
       refine fw 14 ?_
       refine aQ 10 4 2047 ?_
       refine fA (De O4.out (by kernel_rfl)) ?_
       try go_wp2
       go_ret
       exact ⟨_, by first | rfl | (simp [mQ, mR] <;> rfl) | (simp only [<- Ka]; first | rfl | (simp [mQ, mR] <;> rfl)) | (simp [*, mQ, mR] <;> rfl), by (with_reducible repeat (first | apply Kd.jR | apply Kd.jS | apply Kd.mI)); exact HO327.out, by repeat (first | (with_reducible first | exact HB.out | apply aK | apply ah | apply aT) | exact HB.out)⟩
      ·rw [if_neg c9] at H
       exact absurd H (by simp)
     ·rw [if_neg c8] at H
      exact absurd H (by simp)
    ·rw [if_neg c7] at H
     exact absurd H (by simp)
   ·rw [if_neg c5] at H
    exact absurd H (by simp)
  ·rw [if_neg c4] at H
   exact absurd H (by simp)
 ·rw [if_neg c3] at H
  exact absurd H (by simp)
end Go.Proofs.Ytoddejmlcnbdmaa.Fn
namespace Go.Proofs.Ytoddejmlcnbdmaa.Tree
def jJ.f (l0 : List Nat) (a1 : Int) (a2 : Nat) : Option (List Nat) := (some (([] : List Nat) : List Nat)).bind fun rT => (if 0 <= a1 then (if a1 <= (l0.length : Int) then (if rT.length + (l0.take (a1 : Int).toNat).length < 8796093022208 then ((some (rT ++ (l0.take (a1 : Int).toNat) : List Nat)).bind fun om => (if om.length < 8796093022208 then ((some (om ++ [a2] : List Nat)).bind fun lC => (if lC.length + (l0.drop (a1 : Int).toNat).length < 8796093022208 then (some (lC ++ (l0.drop (a1 : Int).toNat))) else (none))) else (none))) else (none)) else (none)) else (none))
theorem jJ.calls (A0 : Option Addr) (c0 : Nat) (l0 : List Nat) (a1 : Int) (a2 : Nat) (r : List Nat) (w : World) (hr0 : Kd.C gL w A0 l0.length l0) (hc0 : l0.length <= c0) (h : jJ.f l0 a1 a2 = some r) :
  Calls Try.prog 125 #[.slice A0 l0.length c0, .int .i64 a1, bO a2] w fun e w' => ∃ kI : Value, e = .returned (kI) /\ Kd.R gL 70 w' w.heap.size (fun _ => True) kI r /\ Below w.heap.size w w' := by
 have jf := A_ hr0
 have nQ := A_ hc0
 clear hr0 hc0
 have HB := A_ (Below.refl w.heap.size w)
 have H : ((some (([] : List Nat) : List Nat)).bind fun rT => (if 0 <= a1 then (if a1 <= (l0.length : Int) then (if rT.length + (l0.take (a1 : Int).toNat).length < 8796093022208 then ((some (rT ++ (l0.take (a1 : Int).toNat) : List Nat)).bind fun om => (if om.length < 8796093022208 then ((some (om ++ [a2] : List Nat)).bind fun lC => (if lC.length + (l0.drop (a1 : Int).toNat).length < 8796093022208 then (some (lC ++ (l0.drop (a1 : Int).toNat))) else (none))) else (none))) else (none)) else (none)) else (none))) = some r := h
 clear h
 obtain ⟨rT, wO⟩ : ∃ y_ : List Nat, y_ = (([] : List Nat)) := ⟨_, rfl⟩
 replace H : (if 0 <= a1 then (if a1 <= (l0.length : Int) then (if rT.length + (l0.take (a1 : Int).toNat).length < 8796093022208 then ((some (rT ++ (l0.take (a1 : Int).toNat) : List Nat)).bind fun om => (if om.length < 8796093022208 then ((some (om ++ [a2] : List Nat)).bind fun lC => (if lC.length + (l0.drop (a1 : Int).toNat).length < 8796093022208 then (some (lC ++ (l0.drop (a1 : Int).toNat))) else (none))) else (none))) else (none)) else (none)) else (none)) = some r := by first | (rw [wO]; with_reducible exact H) | (have iE := (Option.bind_some _ _).symm.trans H; rw [wO]; with_reducible exact iE) | (have iE := (Option.bind_some _ _).symm.trans H; with_reducible exact iE) | with_reducible exact H | (rw [wO]; exact H) | exact H
 have Ms := A_ wO
 clear wO
 by_cases c4 : 0 <= a1
 ·rw [if_pos c4] at H
  have mq := eq_true c4
  have RL : decide (0 <= a1) = true := decide_eq_true c4
  clear c4
  by_cases c5 : a1 <= (l0.length : Int)
  ·rw [if_pos c5] at H
   have CS := eq_true c5
   have Ym : decide (a1 <= (l0.length : Int)) = true := decide_eq_true c5
   clear c5
   by_cases c6 : rT.length + (l0.take (a1 : Int).toNat).length < 8796093022208
   ·rw [if_pos c6] at H
    have YT := A_ c6
    clear c6
    obtain ⟨om, wP⟩ : ∃ y_ : List Nat, y_ = (rT ++ (l0.take (a1 : Int).toNat)) := ⟨_, rfl⟩
    replace H : (if om.length < 8796093022208 then ((some (om ++ [a2] : List Nat)).bind fun lC => (if lC.length + (l0.drop (a1 : Int).toNat).length < 8796093022208 then (some (lC ++ (l0.drop (a1 : Int).toNat))) else (none))) else (none)) = some r := by first | (rw [wP]; with_reducible exact H) | (have iE := (Option.bind_some _ _).symm.trans H; rw [wP]; with_reducible exact iE) | (have iE := (Option.bind_some _ _).symm.trans H; with_reducible exact iE) | with_reducible exact H | (rw [wP]; exact H) | exact H
    have Ul := A_ wP
    clear wP
    by_cases c7 : om.length < 8796093022208
    ·rw [if_pos c7] at H
     have YU := A_ c7
     clear c7
     obtain ⟨lC, wQ⟩ : ∃ y_ : List Nat, y_ = (om ++ [a2]) := ⟨_, rfl⟩
     replace H : (if lC.length + (l0.drop (a1 : Int).toNat).length < 8796093022208 then (some (lC ++ (l0.drop (a1 : Int).toNat))) else (none)) = some r := by first | (rw [wQ]; with_reducible exact H) | (have iE := (Option.bind_some _ _).symm.trans H; rw [wQ]; with_reducible exact iE) | (have iE := (Option.bind_some _ _).symm.trans H; with_reducible exact iE) | with_reducible exact H | (rw [wQ]; exact H) | exact H
     have Um := A_ wQ
     clear wQ
     have LZ := eq_true (of_decide_eq_true eP : 0 <= a1)
     have Oz := eq_true (of_decide_eq_true eP : a1 <= (l0.length : Int))
     by_cases c10 : lC.length + (l0.drop (a1 : Int).toNat).length < 8796093022208
     ·rw [if_pos c10] at H
      have Un := A_ c10
      clear c10
      obtain ⟨YV, wR⟩ : ∃ y_ : List Nat, y_ = (lC ++ (l0.drop (a1 : Int).toNat)) := ⟨_, rfl⟩
      replace H : (some YV) = some r := by first | (rw [wR]; with_reducible exact H) | (have iE := (Option.bind_some _ _).symm.trans H; rw [wR]; with_reducible exact iE) | (have iE := (Option.bind_some _ _).symm.trans H; with_reducible exact iE) | with_reducible exact H | (rw [wR]; exact H) | exact H
      have Uo := A_ wR
      clear wR
      obtain rfl := Option.some.inj H
      go_enter Try.func125, Try.ntmps125
      go_wp2_with (first | ((with_reducible refine kV (N := 8) rfl ?_); refine Kd.Ch gL _ 70 ?hg (N := 8) ?hd (xs := ([] : List Nat)) (inner := []) (ok := fun _ => True) (okp := fun _ => True) ?hr ?hp (fun _ hk => hk) trivial (Below.refl _ _) (Nat.le_refl _) (by simp) ?_; (case hd => rfl); (case hg => rfl); (case hr => first | (go_simp; done) | (go_simp; rfl)); (case hp => exact (gP.none _ _)); intro YW sP EY hb LY pW; clear LY pW; (first | rw [<- Ms.out] at EY | (simp only [Int.reduceToNat] at EY; rw [<- Ms.out] at EY)); have Mt := A_ (Kd.iC EY (iU HB.out)); replace HB := A_ (jO HB.out hb); clear hb EY; obtain ⟨i013, Mv, _, Mw, _⟩ := info_parts nG; obtain ⟨hcut13, Uq, Ur⟩ := pz (P := Try.prog) bO (0 : Nat) 94 70 .i64 kN Mv Mw A0 c0 l0 a1 (of_decide_eq_true eP) (of_decide_eq_true eP) nQ.out; have EZ := A_ (Kd.kY (h1 := fun _ => rfl) (Uq _ (Kd.iM jf.out))); have HC226 := A_ Ur; clear Uq Ur Mv Mw) | ((with_reducible refine di (b := .append) (xs := #[.tmp 8, .tmp 11]) rfl ?_); at_builtin; refine Kd.fU gL (w0 := w) w.heap.size rfl (.tmp 8) (.tmp 11) 94 70 (.pointer none) 8 rfl kN nG rfl (by decide) (by omega) YW rT (l0.take (a1 : Int).toNat) _ _ _ (fun _ => True) (fun _ => False) rfl rfl ?aO ?aR (fun _ _ h => h) (fun _ h => h.elim) ?aF ?aB ?aS ?aL ?_; (case aR => first | (have YX := (show (l0.take (a1 : Int).toNat).length = a1.toNat from (by rw [List.length_take]; have h_ : (a1 : Int) <= (l0.length : Int) := of_decide_eq_true eP; omega)); have Us := (Kd.aA EZ.out HB.out); rw [YX] at Us; exact Us) | (rw [<- show (l0.take (a1 : Int).toNat).length = a1.toNat from (by rw [List.length_take]; have h_ : (a1 : Int) <= (l0.length : Int) := of_decide_eq_true eP; omega)]; repeat (first | exact (Kd.aA EZ.out HB.out) | (with_reducible refine Kd.ed ?_ _) | (with_reducible refine Kd.dx ?_ _) | (with_reducible refine Kd.eD ?_))) | (repeat (first | exact (Kd.aA EZ.out HB.out) | (with_reducible refine Kd.ed ?_ _) | (with_reducible refine Kd.dx ?_ _) | (with_reducible refine Kd.eD ?_)))); (case aB => exact (ko HB.out)); (case aF => exact (fun _ _ => trivial)); (case aO => exact (qU Mt.out)); (case aS => exact (iU HB.out)); (case aL => have := YT.out; have O3 := (show (l0.take (a1 : Int).toNat).length = a1.toNat from (by rw [List.length_take]; have h_ : (a1 : Int) <= (l0.length : Int) := of_decide_eq_true eP; omega)); omega); intro v228 IC ho hb hg hat; rw [<- Ul.out] at ho; have ES := A_ (hb); have az := A_ (ho); clear HB; clear Mt; have HB := ES; have Mx := az; clear ES az; clear ho hb hg hat) | ((with_reducible refine di (b := .append) (xs := #[.tmp 13, .tmp 15]) rfl ?_); at_builtin; refine Kd.uh gL (w0 := w) w.heap.size rfl (.tmp 13) (.tmp 15) 94 70 (.pointer none) 8 rfl kN nG rfl (by decide) (by omega) v228 om a2 [bO a2] (fun _ => True) (fun _ => False) rfl rfl ?aP (fun _ hk => hk.elim) ?aF ?aO ?aB ?aS ?aL ?_; (case aP => exact rfl); (case aB => exact (ko HB.out)); (case aF => exact (fun _ _ => trivial)); (case aO => exact (qU Mx.out)); (case aS => exact (iU HB.out)); (case aL => have := YU.out; omega); intro YY EN ho hb hg hat; rw [<- Um.out] at ho; have ES := A_ (hb); have az := A_ (ho); clear HB; clear Mx; have HB := ES; have MB := az; clear ES az; clear ho hb hg hat; obtain ⟨i016, MC, _, ME, _⟩ := info_parts nG; obtain ⟨A16, hcut16, Ut, Uu⟩ := pE (P := Try.prog) bO (0 : Nat) 94 70 .i64 kN MC ME A0 c0 l0 a1 (of_decide_eq_true eP) (of_decide_eq_true eP) nQ.out; have MF := A_ (Kd.kY (h1 := fun _ => rfl) (Ut _ (Kd.iM jf.out))); have HC233 := A_ Uu; clear Ut Uu MC ME) | ((with_reducible refine di (b := .append) (xs := #[.tmp 17, .tmp 20]) rfl ?_); at_builtin; refine Kd.fU gL (w0 := w) w.heap.size rfl (.tmp 17) (.tmp 20) 94 70 (.pointer none) 8 rfl kN nG rfl (by decide) (by omega) YY lC (l0.drop (a1 : Int).toNat) _ _ _ (fun _ => True) (fun _ => False) rfl rfl ?aO ?aR (fun _ _ h => h) (fun _ h => h.elim) ?aF ?aB ?aS ?aL ?_; (case aR => first | (rw [<- show (l0.drop (a1 : Int).toNat).length = (l0.length - a1.toNat) from List.length_drop]; repeat (first | exact (Kd.aA MF.out HB.out) | (with_reducible refine Kd.ed ?_ _) | (with_reducible refine Kd.dx ?_ _) | (with_reducible refine Kd.eD ?_))) | (repeat (first | exact (Kd.aA MF.out HB.out) | (with_reducible refine Kd.ed ?_ _) | (with_reducible refine Kd.dx ?_ _) | (with_reducible refine Kd.eD ?_)))); (case aB => exact (ko HB.out)); (case aF => exact (fun _ _ => trivial)); (case aO => exact (qU MB.out)); (case aS => exact (iU HB.out)); (case aL => have := Un.out; have O3 := (show (l0.drop (a1 : Int).toNat).length = (l0.length - a1.toNat) from List.length_drop); omega); intro v235 ZY ho hb hg hat; rw [<- Uo.out] at ho; have ES := A_ (hb); have az := A_ (ho); clear HB; clear MB; have HB := ES; have Uv := az; clear ES az; clear ho hb hg hat))
      go_ret
      exact ⟨_, vE, by (with_reducible repeat (first | apply Kd.jR | apply Kd.jS | apply Kd.mI)); exact Uv.out, by repeat (first | (with_reducible first | exact HB.out | apply aK | apply ah | apply aT) | exact HB.out)⟩
     ·rw [if_neg c10] at H
      exact absurd H (by simp)
    ·rw [if_neg c7] at H
     exact absurd H (by simp)
   ·rw [if_neg c6] at H
    exact absurd H (by simp)
  ·rw [if_neg c5] at H
   exact absurd H (by simp)
 ·rw [if_neg c4] at H
  exact absurd H (by simp)
def cu.f (l0 : List Nat) (a1 : Int) : Option (List Nat) := (some (([] : List Nat) : List Nat)).bind fun Fb => (if 0 <= a1 then (if a1 <= (l0.length : Int) then (if Fb.length + (l0.take (a1 : Int).toNat).length < 8796093022208 then ((some (Fb ++ (l0.take (a1 : Int).toNat) : List Nat)).bind fun xK => (if 0 <= (wrap64 (a1 + 1)) then (if (wrap64 (a1 + 1)) <= (l0.length : Int) then (if xK.length + (l0.drop ((wrap64 (a1 + 1)) : Int).toNat).length < 8796093022208 then (some (xK ++ (l0.drop ((wrap64 (a1 + 1)) : Int).toNat))) else (none)) else (none)) else (none))) else (none)) else (none)) else (none))
def cu.T1 : Bool × List (List Nat × List Nat) := (true, [([], []), ([], []), ([], []), ([1, 2], [1, 2]), ([0, 3], [0, 3]), ([], []), ([], []), ([6], [6]), ([5, 7], [5, 7]), ([4, 8, 4], [4, 8]), ([9, 9, 0, 1, 2, 3, 4, 5, 6, 7, 8, 9], [9])])
def cu.B1 : List Nat := [0, 0, 0, 6, 15, 0, 0, 64, 224, 511, 1023]
theorem cu.XJ : rC .any (opsOf Try.f129 1) = cu.T1 := by kernel_rfl
theorem cu.SS : uR cu.T1.2 cu.B1 = true := by kernel_rfl
theorem cu.calls (A0 : Option Addr) (c0 : Nat) (l0 : List Nat) (a1 : Int) (r : List Nat) (w : World) (hr0 : Kd.C gL w A0 l0.length l0) (hc0 : l0.length <= c0) (h : cu.f l0 a1 = some r) :
  Calls Try.prog 129 #[.slice A0 l0.length c0, .int .i64 a1] w fun e w' => ∃ kI : Value, e = .returned (kI) /\ Kd.R gL 70 w' w.heap.size (fun _ => True) kI r /\ Below w.heap.size w w' := by
 have jf := A_ hr0
 have nQ := A_ hc0
 clear hr0 hc0
 have HB := A_ (Below.refl w.heap.size w)
 have H : ((some (([] : List Nat) : List Nat)).bind fun Fb => (if 0 <= a1 then (if a1 <= (l0.length : Int) then (if Fb.length + (l0.take (a1 : Int).toNat).length < 8796093022208 then ((some (Fb ++ (l0.take (a1 : Int).toNat) : List Nat)).bind fun xK => (if 0 <= (wrap64 (a1 + 1)) then (if (wrap64 (a1 + 1)) <= (l0.length : Int) then (if xK.length + (l0.drop ((wrap64 (a1 + 1)) : Int).toNat).length < 8796093022208 then (some (xK ++ (l0.drop ((wrap64 (a1 + 1)) : Int).toNat))) else (none)) else (none)) else (none))) else (none)) else (none)) else (none))) = some r := h
 clear h
 obtain ⟨Fb, MN⟩ : ∃ y_ : List Nat, y_ = (([] : List Nat)) := ⟨_, rfl⟩
 replace H : (if 0 <= a1 then (if a1 <= (l0.length : Int) then (if Fb.length + (l0.take (a1 : Int).toNat).length < 8796093022208 then ((some (Fb ++ (l0.take (a1 : Int).toNat) : List Nat)).bind fun xK => (if 0 <= (wrap64 (a1 + 1)) then (if (wrap64 (a1 + 1)) <= (l0.length : Int) then (if xK.length + (l0.drop ((wrap64 (a1 + 1)) : Int).toNat).length < 8796093022208 then (some (xK ++ (l0.drop ((wrap64 (a1 + 1)) : Int).toNat))) else (none)) else (none)) else (none))) else (none)) else (none)) else (none)) = some r := by first | (rw [MN]; with_reducible exact H) | (have iE := (Option.bind_some _ _).symm.trans H; rw [MN]; with_reducible exact iE) | (have iE := (Option.bind_some _ _).symm.trans H; with_reducible exact iE) | with_reducible exact H | (rw [MN]; exact H) | exact H
 have Ny328 := A_ MN
 clear MN
 by_cases c3 : 0 <= a1
 ·rw [if_pos c3] at H
  have jv := eq_true c3
  have vV : decide (0 <= a1) = true := decide_eq_true c3
  clear c3
  by_cases c4 : a1 <= (l0.length : Int)
  ·rw [if_pos c4] at H
   have mq := eq_true c4
   have RL : decide (a1 <= (l0.length : Int)) = true := decide_eq_true c4
   clear c4
   by_cases c5 : Fb.length + (l0.take (a1 : Int).toNat).length < 8796093022208
   ·rw [if_pos c5] at H
    have YZ := A_ c5
    clear c5
    obtain ⟨xK, MO⟩ : ∃ y_ : List Nat, y_ = (Fb ++ (l0.take (a1 : Int).toNat)) := ⟨_, rfl⟩
    replace H : (if 0 <= (wrap64 (a1 + 1)) then (if (wrap64 (a1 + 1)) <= (l0.length : Int) then (if xK.length + (l0.drop ((wrap64 (a1 + 1)) : Int).toNat).length < 8796093022208 then (some (xK ++ (l0.drop ((wrap64 (a1 + 1)) : Int).toNat))) else (none)) else (none)) else (none)) = some r := by first | (rw [MO]; with_reducible exact H) | (have iE := (Option.bind_some _ _).symm.trans H; rw [MO]; with_reducible exact iE) | (have iE := (Option.bind_some _ _).symm.trans H; with_reducible exact iE) | with_reducible exact H | (rw [MO]; exact H) | exact H
    have Ny332 := A_ MO
    clear MO
    obtain ⟨wS, Ka⟩ : ∃ j_ : Int, (wrap64 (a1 + 1)) = j_ := ⟨_, rfl⟩
    replace H : (if 0 <= (wS) then (if (wS) <= (l0.length : Int) then (if xK.length + (l0.drop ((wS) : Int).toNat).length < 8796093022208 then (some (xK ++ (l0.drop ((wS) : Int).toNat))) else (none)) else (none)) else (none)) = some r := by first | (rw [Ka] at H; exact H) | (simp only [Ka] at H ⊢; exact H)
    have hji6w : (IntKind.i64.wrap (a1 + 1)) = wS := (xO _).trans Ka
    by_cases c7 : 0 <= (wS)
    ·rw [if_pos c7] at H
     have CU := eq_true c7
     have Uw : decide (0 <= (wS)) = true := decide_eq_true c7
     clear c7
     by_cases c8 : (wS) <= (l0.length : Int)
     ·rw [if_pos c8] at H
      have LZ := eq_true c8
      have c8b1 : decide ((wS) <= (l0.length : Int)) = true := decide_eq_true c8
      clear c8
      by_cases c9 : xK.length + (l0.drop ((wS) : Int).toNat).length < 8796093022208
      ·rw [if_pos c9] at H
       have Y0 := A_ c9
       clear c9
       obtain ⟨y336, MP⟩ : ∃ y_ : List Nat, y_ = (xK ++ (l0.drop ((wS) : Int).toNat)) := ⟨_, rfl⟩
       replace H : (some y336) = some r := by first | (rw [MP]; with_reducible exact H) | (have iE := (Option.bind_some _ _).symm.trans H; rw [MP]; with_reducible exact iE) | (have iE := (Option.bind_some _ _).symm.trans H; with_reducible exact iE) | with_reducible exact H | (rw [MP]; exact H) | exact H
       have Ny336 := A_ MP
       clear MP
       obtain rfl := Option.some.inj H
       go_enter Try.func129, Try.ntmps129
       try go_wp2
       replace HB := A_ (aT HB.out)
       obtain ⟨i011, MJ, _, MK, _⟩ := info_parts nG
       obtain ⟨hcut11, Ux, Uy⟩ := pz (P := Try.prog) bO (0 : Nat) 94 70 .i64 kN MJ MK A0 c0 l0 a1 (of_decide_eq_true eP) (of_decide_eq_true eP) nQ.out
       have QO := A_ (Kd.kY (h1 := fun _ => rfl) (Ux _ (Kd.iM jf.out)))
       have HC331 := A_ Uy
       clear Ux Uy MJ MK
       obtain ⟨i012, ML, _, MM, _⟩ := info_parts nG
       obtain ⟨A12, hcut12, Uz, UA⟩ := pE (P := Try.prog) bO (0 : Nat) 94 70 .i64 kN ML MM A0 c0 l0 (wS) (of_decide_eq_true eP) (of_decide_eq_true eP) nQ.out
       have UC := A_ (Kd.kY (h1 := fun _ => rfl) (Uz _ (Kd.iM jf.out)))
       have HC335 := A_ UA
       clear Uz UA ML MM
       refine dL (n := 11) (S := fun w' => True) (ds := []) (bt 11 0) (by kernel_rfl) rfl rfl trivial (fun hHeld => ?_); refine xn cu.XJ cu.SS (fun O4 HW_ => ?_)
       generalize w.drew = vN at HB QO UC hHeld ⊢
       refine aQ 1 6 2 ?_
       refine aQ 2 7 6 ?_
       refine aQ 3 8 14 ?_
       refine aQ 5 10 46 ?_
       refine aQ 6 11 110 ?_
       refine aQ 7 12 238 ?_
       refine aQ 8 13 494 ?_
       refine IW (i := 0) (N := some 5) (bt 11 495) rfl rfl (wE O4.out (by kernel_rfl)) (by decide) (fun K hK => ?_)
       refine Kd.bB gL _ 70 ?hg (N := 5) ?hd (xs := ([] : List Nat)) (inner := []) (ok := fun _ => True) (okp := fun _ => True) ?hr ?hp (fun _ hk => hk) trivial (Below.refl _ _) (Nat.le_refl _) (by simp) ?_; (case hd => rfl); (case hg => rfl); (case hr => first | (go_simp; done) | (go_simp; rfl)); (case hp => exact (gP.none _ _))
       intro v329 Gh Fa hb LY pW
       clear LY pW
       (first | rw [<- Ny328.out] at Fa | (simp only [Int.reduceToNat] at Fa; rw [<- Ny328.out] at Fa))
       have HO330 := A_ (Kd.iC Fa (iU HB.out))
       replace HB := A_ (jO HB.out hb)
       clear hb Fa
       refine hK.out _ _ trivial (fun hHeld => ?_)
       clear hK K
       refine fw 5 ?_
       refine IW (i := 4) (N := some 9) (bt 11 511) rfl rfl (wE O4.out (by kernel_rfl)) (by decide) (fun K hK => ?_)
       refine Kd.aV gL (w0 := w) w.heap.size (by rfl) (.tmp 5) (.tmp 8) 94 70 (.pointer none) 8 rfl kN nG rfl (by decide) (by omega) v329 Fb (l0.take (a1 : Int).toNat) _ _ _ (fun _ => True) (fun _ => False) rfl rfl ?aO ?aR (fun _ _ h => h) (fun _ h => h.elim) ?aF ?aB ?aS ?aL ?_
       (case aR => first | (have YX := (show (l0.take (a1 : Int).toNat).length = a1.toNat from (by rw [List.length_take]; have h_ : (a1 : Int) <= (l0.length : Int) := of_decide_eq_true eP; omega)); have Us := (Kd.aA QO.out HB.out); rw [YX] at Us; exact Us) | (rw [<- show (l0.take (a1 : Int).toNat).length = a1.toNat from (by rw [List.length_take]; have h_ : (a1 : Int) <= (l0.length : Int) := of_decide_eq_true eP; omega)]; repeat (first | exact (Kd.aA QO.out HB.out) | (with_reducible refine Kd.ed ?_ _) | (with_reducible refine Kd.dx ?_ _) | (with_reducible refine Kd.eD ?_))) | (repeat (first | exact (Kd.aA QO.out HB.out) | (with_reducible refine Kd.ed ?_ _) | (with_reducible refine Kd.dx ?_ _) | (with_reducible refine Kd.eD ?_))))
       (case aB => exact (ko HB.out))
       (case aF => exact (fun _ _ => trivial))
       (case aO => exact (qU HO330.out))
       (case aS => exact (iU HB.out))
       (case aL => have := YZ.out; have O3 := (show (l0.take (a1 : Int).toNat).length = a1.toNat from (by rw [List.length_take]; have h_ : (a1 : Int) <= (l0.length : Int) := of_decide_eq_true eP; omega)); omega)
       intro v333 EN ho hb hg hat
       rw [<- Ny332.out] at ho
       replace HB := A_ (hb)
       have HO334 := A_ (ho)
       clear HO330
       clear ho hb hg hat
       refine hK.out _ _ trivial (fun hHeld => ?_)
       clear hK K
       refine fw 9 ?_
       refine IW (i := 9) (N := some 14) (bt 11 1023) rfl rfl (wE O4.out (by kernel_rfl)) (by decide) (fun K hK => ?_)
       refine Kd.aV gL (w0 := w) w.heap.size (by rfl) (.tmp 9) (.tmp 13) 94 70 (.pointer none) 8 rfl kN nG rfl (by decide) (by omega) v333 xK (l0.drop ((wS) : Int).toNat) _ _ _ (fun _ => True) (fun _ => False) rfl rfl ?aO ?aR (fun _ _ h => h) (fun _ h => h.elim) ?aF ?aB ?aS ?aL ?_
       (case aR => first | (rw [<- show (l0.drop ((wS) : Int).toNat).length = (l0.length - (wS).toNat) from List.length_drop]; repeat (first | exact (Kd.aA UC.out HB.out) | (with_reducible refine Kd.ed ?_ _) | (with_reducible refine Kd.dx ?_ _) | (with_reducible refine Kd.eD ?_))) | (repeat (first | exact (Kd.aA UC.out HB.out) | (with_reducible refine Kd.ed ?_ _) | (with_reducible refine Kd.dx ?_ _) | (with_reducible refine Kd.eD ?_))))
       (case aB => exact (ko HB.out))
       (case aF => exact (fun _ _ => trivial))
       (case aO => exact (qU HO334.out))
       (case aS => exact (iU HB.out))
       (case aL => have := Y0.out; have O3 := (show (l0.drop ((wS) : Int).toNat).length = (l0.length - (wS).toNat) from List.length_drop); omega)
       intro v337 w16 ho hb hg hat
       rw [<- Ny336.out] at ho
       replace HB := A_ (hb)
       have HO338 := A_ (ho)
       clear HO334
       clear ho hb hg hat
       refine hK.out _ _ trivial (fun hHeld => ?_)
       clear hK K
       refine fw 14 ?_
       refine aQ 10 4 2047 ?_
       refine fA (De O4.out (by kernel_rfl)) ?_
       try go_wp2
       go_ret
       exact ⟨_, by first | rfl | (simp [mQ, mR] <;> rfl) | (simp only [<- Ka]; first | rfl | (simp [mQ, mR] <;> rfl)) | (simp [*, mQ, mR] <;> rfl), by (with_reducible repeat (first | apply Kd.jR | apply Kd.jS | apply Kd.mI)); exact HO338.out, by repeat (first | (with_reducible first | exact HB.out | apply aK | apply ah | apply aT) | exact HB.out)⟩
      ·rw [if_neg c9] at H
       exact absurd H (by simp)
     ·rw [if_neg c8] at H
      exact absurd H (by simp)
    ·rw [if_neg c7] at H
     exact absurd H (by simp)
   ·rw [if_neg c5] at H
    exact absurd H (by simp)
  ·rw [if_neg c4] at H
   exact absurd H (by simp)
 ·rw [if_neg c3] at H
  exact absurd H (by simp)
def bz {α : Type} (l : List α) (i : Nat) (x : α) : List α := l.take i ++ x :: l.drop i
theorem fI {α : Type} {l : List α} {i : Nat} (x : α) (h : i <= l.length) : (bz l i x).length = l.length + 1 := by
 unfold bz
 rw [List.length_append, List.length_cons, List.length_take, List.length_drop]
 omega
theorem qX {α β : Type} (f : α -> β) (l : List α) (i : Nat) (x : α) : (bz l i x).map f = bz (l.map f) i (f x) := by
 unfold bz
 rw [List.map_append, List.map_cons, List.map_take, List.map_drop]
theorem NF {l : List ByteArray} {i : Nat} (x : ByteArray) (h : i <= l.length) (hl : l.length <= 1000000000000) : mf.f l (i : Int) x = some (bz l i x) := by
 unfold mf.f bz
 simp only [Option.bind_some, Int.toNat_natCast, List.length_nil, List.nil_append, List.length_take, List.length_drop, List.length_append, List.length_singleton, List.length_cons]
 rw [if_pos (by omega), if_pos (by omega), if_pos (by omega), if_pos (by omega), if_pos (by omega)]
 simp
theorem F4 {l : List Nat} {i : Nat} (x : Nat) (h : i <= l.length) (hl : l.length <= 1000000000000) : jJ.f l (i : Int) x = some (bz l i x) := by
 unfold jJ.f bz
 simp only [Option.bind_some, Int.toNat_natCast, List.length_nil, List.nil_append, List.length_take, List.length_drop, List.length_append, List.length_singleton, List.length_cons]
 rw [if_pos (by omega), if_pos (by omega), if_pos (by omega), if_pos (by omega), if_pos (by omega)]
 simp
def splitK (t k : PT) (i : Nat) : PT :=
 .mk (bz t.keys i (k.keys.getD 2 ByteArray.empty)) (bz t.vals i (k.vals.getD 2 ByteArray.empty)) (bz (t.kids.set i (.mk (k.keys.take 2) (k.vals.take 2) (k.kids.take 3))) (i + 1) (.mk (k.keys.drop 3) (k.vals.drop 3) (k.kids.drop 3)))
theorem VL {α : Type} {l : List α} {i : Nat} {x x' y : α} (h : l[i]? = some x) : bz (l.set i x') (i + 1) y = l.take i ++ (x' :: (y :: l.drop (i + 1))) := by
 have hl : i < l.length := (List.getElem?_eq_some_iff.1 h).1
 unfold bz
 rw [List.take_add_one, List.getElem?_set_self hl, List.take_set_of_le (Nat.le_refl _), List.drop_set_of_lt (Nat.lt_succ_self _)]
 simp
section
variable {w : World} {base T E : Nat} {L : List Ck}
def Qc (T E : Nat) (t k : NT) (i : Nat) (L : List Ck) : List (List Ck) :=
 [[.box T t.p #[t.kv, t.vv, t.cv]], [txt t.kv t.keys], [txt t.vv t.vals], [.kT E t.cv (ptrs t.kids)], NT.bI T E (t.kids.take i),
   [.box T k.p #[k.kv, k.vv, k.cv]], [txt k.kv k.keys], [txt k.vv k.vals], [.kT E k.cv (ptrs k.kids)], NT.bI T E k.kids, NT.bI T E (t.kids.drop (i + 1)), L]
theorem NG {t k : NT} {i : Nat} (h : t.kids[i]? = some k) : (Qc T E t k i L).flatten = t.fB T E ++ L := by
 rw [NT.kK, ma T E h, NT.kK T E k]
 unfold Qc NT.head
 simp only [List.flatten_cons, List.flatten_nil, List.append_assoc, List.cons_append, List.nil_append, List.append_nil]
theorem SV {t k : NT} {i : Nat} (h : t.kids[i]? = some k) (hs : Sat w base (t.fB T E ++ L)) : aa w base (Qc T E t k i L) := by
 unfold aa
 rw [NG h]
 exact hs
end
open Go.Proofs.Ytoddejmlcnbdmaa.Fn
def One (m : Nat) (t : PT) : Prop := t.vals.length = t.keys.length /\ t.keys.length <= m /\ (t.kids.length = 0 ∨ t.kids.length = t.keys.length + 1)
mutual
def mG : PT -> Prop
 | .mk keys vals kids => One 4 (.mk keys vals kids) /\ SX kids
def SX : List PT -> Prop
 | [] => True
 | c :: cs => mG c /\ SX cs
end
theorem KY : ∀ {l : List PT}, SX l ↔ ∀ c ∈ l, mG c
 | [] => by simp [SX]
 | c :: cs => by simp only [SX, List.forall_mem_cons, KY (l := cs)]
theorem cz {t : PT} : mG t ↔ One 4 t /\ ∀ c ∈ t.kids, mG c := by
 cases t with | mk keys vals kids =>
 rw [mG, KY]
 rfl
def KZ (t : PT) : Prop := One 5 t /\ ∀ c ∈ t.kids, mG c
theorem One.mono {a b : Nat} {t : PT} (h : One a t) (hab : a <= b) : One b t := ⟨h.1, Nat.le_trans h.2.1 hab, h.2.2⟩
theorem mG.five {t : PT} (h : mG t) : KZ t := ⟨(cz.1 h).1.mono (by omega), (cz.1 h).2⟩
theorem GY {α : Type} {l : List α} {i : Nat} {x y : α} (h : y ∈ bz l i x) : y = x ∨ y ∈ l := by
 unfold bz at h
 rcases List.mem_append.1 h with h | h
 ·exact .inr (List.mem_of_mem_take h)
 ·rcases List.mem_cons.1 h with h | h
  ·exact .inl h
  ·exact .inr (List.mem_of_mem_drop h)
theorem GZ {t k : PT} {i : Nat} (ht : t.vals.length = t.keys.length /\ t.keys.length <= 4 /\ t.kids.length = t.keys.length + 1) (hi : i <= t.keys.length) (hk : t.kids.length = t.kids.length) (hc : ∀ (j : Nat) (c : PT), j ≠ i -> t.kids[j]? = some c -> mG c) (h5 : KZ k) (hk5 : k.keys.length = 5) : KZ (splitK t k i) := by
 obtain ⟨⟨k1, k2, k3⟩, k4⟩ := h5
 cases k with | mk kk kv kc =>
 simp only [PT.keys, PT.vals, PT.kids] at k1 k2 k3 k4 hk5
 have l : mG (.mk (kk.take 2) (kv.take 2) (kc.take 3)) := by
  refine cz.2 ⟨⟨?_, ?_, ?_⟩, fun c hc => k4 c (List.mem_of_mem_take hc)⟩
  ·simp only [PT.keys, PT.vals, List.length_take]; omega
  ·simp only [PT.keys, List.length_take]; omega
  ·simp only [PT.keys, PT.kids, List.length_take]; omega
 have r : mG (.mk (kk.drop 3) (kv.drop 3) (kc.drop 3)) := by
  refine cz.2 ⟨⟨?_, ?_, ?_⟩, fun c hc => k4 c (List.mem_of_mem_drop hc)⟩
  ·simp only [PT.keys, PT.vals, List.length_drop]; omega
  ·simp only [PT.keys, List.length_drop]; omega
  ·simp only [PT.keys, PT.kids, List.length_drop]; omega
 refine ⟨⟨?_, ?_, ?_⟩, ?_⟩
 ·show (bz _ _ _).length = (bz _ _ _).length
  rw [fI _ (by omega), fI _ hi]
  omega
 ·show (bz _ _ _).length <= 5
  rw [fI _ hi]
  omega
 ·right
  show (bz _ _ _).length = (bz _ _ _).length + 1
  rw [fI _ (by rw [List.length_set]; omega), fI _ hi, List.length_set]
  omega
 ·intro c hm
  have hm : c ∈ bz (t.kids.set i _) (i + 1) _ := hm
  rcases GY hm with rfl | hm
  ·exact r
  ·obtain ⟨j, hj⟩ := List.getElem?_of_mem hm
   rw [List.getElem?_set] at hj
   split at hj
   ·split at hj
    ·obtain rfl := Option.some.inj hj
     exact l
    ·cases hj
   ·rename_i hne
    exact hc j c (fun e => hne e.symm) hj
def qf : Nat -> PT -> ByteArray -> ByteArray -> PT
 | 0, t, _, _ => t
 | n + 1, t, key, val =>
  if jI t.keys (dV key t.keys) key = true then .mk t.keys (t.vals.set (dV key t.keys) val) t.kids
  else if t.kids.length = 0 then .mk (bz t.keys (dV key t.keys) key) (bz t.vals (dV key t.keys) val) t.kids
  else match t.kids[dV key t.keys]? with
   | none => t
   | some s => if 4 < (qf n s key val).keys.length then splitK t (qf n s key val) (dV key t.keys) else .mk t.keys t.vals (t.kids.set (dV key t.keys) (qf n s key val))
theorem wF : ∀ (n : Nat) (t : PT) (key val : ByteArray), mG t -> KZ (qf n t key val)
 | 0, t, key, val, h => h.five
 | n + 1, t, key, val, h => by
  obtain ⟨⟨h1, h2, h3⟩, h4⟩ := cz.1 h
  have hle := nJ key t.keys
  rw [qf]
  split
  ·exact ⟨⟨by show (t.vals.set _ _).length = _; rw [List.length_set]; exact h1, by show t.keys.length <= 5; omega, h3⟩, h4⟩
  ·split
   ·rename_i h0
    refine ⟨⟨?_, ?_, .inl h0⟩, h4⟩
    ·show (bz _ _ _).length = (bz _ _ _).length
     rw [fI _ (by omega), fI _ hle]
     omega
    ·show (bz _ _ _).length <= 5
     rw [fI _ hle]
     omega
   ·rename_i h0
    cases hs : t.kids[dV key t.keys]? with
    | none => exact h.five
    | some s =>
     have ih := wF n s key val (h4 s (List.mem_of_getElem? hs))
     simp only
     split
     ·rename_i h5
      exact GZ ⟨h1, h2, by omega⟩ hle rfl (fun j c _ hj => h4 c (List.mem_of_getElem? hj)) ih (by have := ih.1.2.1; omega)
     ·rename_i h5
      refine ⟨⟨h1, by show t.keys.length <= 5; omega, by show (t.kids.set _ _).length = 0 ∨ (t.kids.set _ _).length = _; rw [List.length_set]; exact h3⟩, fun c hm => ?_⟩
      rcases List.mem_or_eq_of_mem_set hm with hm | rfl
      ·exact h4 c hm
      ·exact cz.2 ⟨⟨ih.1.1, by omega, ih.1.2.2⟩, ih.2⟩
end Go.Proofs.Ytoddejmlcnbdmaa.Tree
namespace Go.Proofs.Ytoddejmlcnbdmaa.Pure
def nm (s : ByteArray) : List Int := s.data.toList.map fun b => (b.toNat : Int)
theorem xq (s : ByteArray) : (nm s).length = s.size := by
 rw [nm, List.length_map, Array.length_toList]; rfl
theorem toList_nil {s : ByteArray} : s.toList = ([] : List UInt8) ↔ nm s = [] := by
 rw [Lib.toList_data, nm]
 simp
theorem Q5 (s t : ByteArray) : nm (s ++ t) = nm s ++ nm t := by
 simp [nm]
theorem zg {α γ : Type} (L : Nat -> List α -> γ -> Int -> Option (γ × List α)) (cn : Nat -> γ) (e : Nat -> α -> α) (l : List α)
  (hend : ∀ k x, x.length = l.length -> L (k + 1) x (cn l.length) (l.length : Int) = some (cn l.length, x))
  (hstep : ∀ (i : Nat) (y : α), l[i]? = some y -> ∃ K, ∀ k (x : List α), K <= k -> x.length = l.length -> x[i]? = some y -> L (k + 1) x (cn i) (i : Int) = L k (x.set i (e i y)) (cn (i + 1)) ((i + 1 : Nat) : Int)) :
  Ev (fun k => L k l (cn 0) 0) (cn l.length, l.mapIdx e) := by
 have := IY l.length (fun i => Ev (fun k => L k ((l.mapIdx e).take i ++ l.drop i) (cn i) (i : Int)) (cn l.length, l.mapIdx e)) ?_ ?_
 ·simpa using this
 ·refine ⟨1, fun k hk => ?_⟩
  obtain ⟨m, rfl⟩ : ∃ m, k = m + 1 := ⟨k - 1, by omega⟩
  dsimp only
  rw [hend _ _ (by simp)]
  simp only [List.drop_length, List.append_nil]
  rw [List.take_of_length_le (by simp)]
 ·intro i hi ih
  have hx : l[i]? = some l[i] := List.getElem?_eq_getElem hi
  have hm : i = ((l.mapIdx e).take i).length := by simp; omega
  obtain ⟨K, hK⟩ := hstep i _ hx
  refine Ev.next (K := K) (fun k hk => ?_) ih
  have hd : l.drop i = l[i] :: l.drop (i + 1) := List.drop_eq_getElem_cons hi
  have hat : ((l.mapIdx e).take i ++ l.drop i)[i]? = some l[i] := by
   rw [List.getElem?_append_right (by omega), hd]
   have h0 : i - ((l.mapIdx e).take i).length = 0 := by omega
   rw [h0]; rfl
  rw [hK k _ hk (by simp; omega) hat]
  congr 1
  rw [List.set_append_right _ _ (by omega)]
  have h1 : i - ((l.mapIdx e).take i).length = 0 := by omega
  rw [h1, hd, List.set_cons_zero, List.take_succ_eq_append_getElem (by simpa using hi)]
  simp
open Go.Proofs.Ytoddejmlcnbdmaa.Fn Go.Proofs.Ytoddejmlcnbdmaa.Tree
theorem Q6 (a b c : Int) : kX.f a b c = some (decide (b <= a /\ a <= c)) := by
 unfold kX.f
 by_cases h : b <= a
 ·rw [if_pos h]; simp [h]
 ·rw [if_neg h]; simp [h]
def rD (s : ByteArray) : Bool := decide (1 <= s.size /\ s.size <= 12)
def oO (s : ByteArray) : Bool := decide (s.size <= 12)
theorem SY (s : ByteArray) : jU.f s = some (rD s) := by
 simp only [jU.f, Q6, Option.bind_some, rD, Option.some.injEq, decide_eq_decide]
 omega
theorem D5 (s : ByteArray) : mK.f s = some (oO s) := by
 simp only [mK.f, oO, Option.some.injEq, decide_eq_decide]
 omega
theorem VM (s : ByteArray) : eZ.f s = some (oO s) := D5 s
theorem S9 (s : ByteArray) : (s.toList != ([] : List UInt8)) = decide (1 <= s.size) := by
 rw [Bool.eq_iff_iff]
 simp only [bne_iff_ne, ne_eq, toList_nil, decide_eq_true_eq]
 rw [<- xq]
 cases h : nm s with
 | nil => simp
 | cons x t => simp
theorem VN (a b : ByteArray) : gT.f a b = some (rD a && oO b) := by
 simp only [gT.f, VM, Option.bind_some, S9]
 cases ha : oO a with
 | false =>
  have : rD a = false := by
   simp only [oO, decide_eq_false_iff_not] at ha
   simp only [rD, decide_eq_false_iff_not]
   omega
  simp [this]
 | true =>
  have : rD a = decide (1 <= a.size) := by
   simp only [oO, decide_eq_true_eq] at ha
   simp only [rD, decide_eq_decide]
   omega
  cases hb : oO b <;> simp [this]
theorem Ta (a b : ByteArray) : DX a b = (rD a && oO b) := by
 have := (Je a b).symm.trans (VN a b)
 exact Option.some.inj this
def vH : List ByteArray -> Option ByteArray -> Bool
 | [], _ => true
 | k :: ks, prev => rD k && (yg prev k && vH ks (some k))
theorem Bq : ∀ (ks vs : List ByteArray) (prev : Option ByteArray), ks.length = vs.length -> rX ks vs prev = (vH ks prev && vs.all oO)
 | [], [], _, _ => rfl
 | [], v :: vs, _, h => by simp at h
 | k :: ks, [], _, h => by simp at h
 | k :: ks, v :: vs, prev, h => by
  have := Bq ks vs (some k) (by simpa using h)
  rw [rX, List.headD_cons, List.drop_succ_cons, List.drop_zero, this, Ta, vH, List.all_cons]
  cases rD k <;> cases oO v <;> cases yg prev k <;> simp
theorem Q7 (K : List ByteArray) (hK : K.length <= 1048576000) : Ev (fun k => aW.f k K) (vH K none) := by
 have key : ∀ (t : List ByteArray) (i : Nat), K.drop i = t -> i <= K.length -> Ev (fun k => aW.l0 k K K K.length i) (vH t (mM K i)) := by
  intro t
  induction t with
  | nil =>
   intro i h hi
   have := drop_nil h
   (refine Ev.up ?_; simp only [aW.l0, qd])
   (repeat (first | with_reducible refine Ev.dw ?_ | (with_reducible refine Ev.kU ?_ ?_; (· exact bS)) | (with_reducible refine Ev.lF ?_ ?_; (· exact bS))))
   exact Ev.val rfl
  | cons x t ih =>
   intro i h hi
   obtain ⟨p1, p2, p3⟩ := drop_cons h
   have ih := ih (i + 1) p3 (by omega)
   have hn : mM K (i + 1) = some x := p2
   rw [hn] at ih
   (refine Ev.up ?_; simp only [aW.l0, qd])
   rw [iB p2, eT (by omega), SY]
   simp only [vH]
   cases hp : rD x with
   | false =>
    (repeat (first | with_reducible refine Ev.dw ?_ | (with_reducible refine Ev.kU ?_ ?_; (· exact bS)) | (with_reducible refine Ev.lF ?_ ?_; (· exact bS))))
    exact Ev.val (by simp)
   | true =>
    rw [Bool.true_and]
    (repeat (first | with_reducible refine Ev.dw ?_ | (with_reducible refine Ev.kU ?_ ?_; (· exact bS)) | (with_reducible refine Ev.lF ?_ ?_; (· exact bS))))
    rcases Nat.eq_zero_or_pos i with h0 | h0
    ·subst h0
     simp only [mM, yg, Bool.true_and]
     (repeat (first | with_reducible refine Ev.dw ?_ | (with_reducible refine Ev.kU ?_ ?_; (· exact bS)) | (with_reducible refine Ev.lF ?_ ?_; (· exact bS))))
     exact ih
    ·obtain ⟨j, rfl⟩ : ∃ j, i = j + 1 := ⟨i - 1, by omega⟩
     have e : wrap64 (((j + 1 : Nat) : Int) - 1) = (j : Int) := by rw [jD (by omega) (by omega)]; omega
     have hj : j < K.length := by omega
     have hj2 : K[j]? = some K[j] := List.getElem?_eq_getElem hj
     simp only [mM, hj2, yg]
     rw [e, iB hj2]
     (repeat (first | with_reducible refine Ev.dw ?_ | (with_reducible refine Ev.kU ?_ ?_; (· exact bS)) | (with_reducible refine Ev.lF ?_ ?_; (· exact bS))))
     cases hb : Cq K[j] x with
     | true =>
      have hb' : Op.bytesLess K[j].toList x.toList = true := hb
      rw [Bool.true_and]
      (repeat (first | with_reducible refine Ev.dw ?_ | (with_reducible refine Ev.kU ?_ ?_; (· exact bS)) | (with_reducible refine Ev.lF ?_ ?_; (· exact bS))))
      exact ih
     | false =>
      have hb' : ¬ Op.bytesLess K[j].toList x.toList = true := by
       have : Op.bytesLess K[j].toList x.toList = false := hb
       rw [this]; simp
      (repeat (first | with_reducible refine Ev.dw ?_ | (with_reducible refine Ev.kU ?_ ?_; (· exact bS)) | (with_reducible refine Ev.lF ?_ ?_; (· exact bS))))
      exact Ev.val (by simp)
 exact key K 0 rfl (by omega)
theorem VO (l : List ByteArray) (hl : l.length <= 1048576000) : Ev (fun k => bu.f k l) (!(l.all oO)) := by
 have key : ∀ (t : List ByteArray) (i : Nat), l.drop i = t -> i <= l.length -> ∃ r : Int, Ev (fun k => aC.l0 k l l.length i) r /\ decide (r ≥ 0) = !(t.all oO) := by
  intro t
  induction t with
  | nil =>
   intro i h hi
   have := drop_nil h
   refine ⟨-1, ?_, by simp⟩
   (refine Ev.up ?_; simp only [aC.l0, qd])
   (repeat (first | with_reducible refine Ev.dw ?_ | (with_reducible refine Ev.kU ?_ ?_; (· exact bS)) | (with_reducible refine Ev.lF ?_ ?_; (· exact bS))))
   exact Ev.val rfl
  | cons x t ih =>
   intro i h hi
   obtain ⟨p1, p2, p3⟩ := drop_cons h
   obtain ⟨r, ih, hr⟩ := ih (i + 1) p3 (by omega)
   cases hx : oO x with
   | true =>
    refine ⟨r, ?_, by rw [List.all_cons, hx, hr]; simp⟩
    (refine Ev.up ?_; simp only [aC.l0, qd])
    simp only [iB p2, eT (i := i) (by omega), ic.f, D5, hx, Option.bind_some]
    (repeat (first | with_reducible refine Ev.dw ?_ | (with_reducible refine Ev.kU ?_ ?_; (· exact bS)) | (with_reducible refine Ev.lF ?_ ?_; (· exact bS))))
    exact ih
   | false =>
    refine ⟨i, ?_, by rw [List.all_cons, hx]; simp⟩
    (refine Ev.up ?_; simp only [aC.l0, qd])
    simp only [iB p2, eT (i := i) (by omega), ic.f, D5, hx, Option.bind_some]
    (repeat (first | with_reducible refine Ev.dw ?_ | (with_reducible refine Ev.kU ?_ ?_; (· exact bS)) | (with_reducible refine Ev.lF ?_ ?_; (· exact bS))))
    exact Ev.val rfl
 obtain ⟨r, h1, h2⟩ := key l 0 rfl (by omega)
 simp only [bu.f]
 refine Ev.bind (g := fun k => aC.f k l) h1 ?_
 exact Ev.val h2
def zh (K V : List ByteArray) : Bool := decide (K.length <= 40) && (decide (V.length = K.length) && (vH K none && V.all oO))
theorem K9 (K V : List ByteArray) (hK : K.length <= 1048576000) (hV : V.length <= 1048576000) : Ev (fun k => fq.f k K V) (zh K V) := by
 simp only [fq.f, zh]
 by_cases h : K.length <= 40
 ·rw [decide_eq_true h, Bool.true_and]
  (repeat (first | with_reducible refine Ev.dw ?_ | (with_reducible refine Ev.kU ?_ ?_; (· exact bS)) | (with_reducible refine Ev.lF ?_ ?_; (· exact bS))))
  by_cases h2 : V.length = K.length
  ·rw [decide_eq_true h2, Bool.true_and]
   (repeat (first | with_reducible refine Ev.dw ?_ | (with_reducible refine Ev.kU ?_ ?_; (· exact bS)) | (with_reducible refine Ev.lF ?_ ?_; (· exact bS))))
   refine Ev.bind (Q7 K hK) ?_
   cases vH K none with
   | false => (repeat (first | with_reducible refine Ev.dw ?_ | (with_reducible refine Ev.kU ?_ ?_; (· exact bS)) | (with_reducible refine Ev.lF ?_ ?_; (· exact bS)))); exact Ev.val (by simp)
   | true =>
    (repeat (first | with_reducible refine Ev.dw ?_ | (with_reducible refine Ev.kU ?_ ?_; (· exact bS)) | (with_reducible refine Ev.lF ?_ ?_; (· exact bS))))
    refine Ev.bind (VO V hV) ?_
    exact Ev.val (by simp)
  ·rw [decide_eq_false h2]
   (repeat (first | with_reducible refine Ev.dw ?_ | (with_reducible refine Ev.kU ?_ ?_; (· exact bS)) | (with_reducible refine Ev.lF ?_ ?_; (· exact bS))))
   exact Ev.val (by simp)
 ·rw [decide_eq_false h]
  (repeat (first | with_reducible refine Ev.dw ?_ | (with_reducible refine Ev.kU ?_ ?_; (· exact bS)) | (with_reducible refine Ev.lF ?_ ?_; (· exact bS))))
  exact Ev.val (by simp)
theorem Q8 (K V : List ByteArray) (h : V.length = K.length) : zh K V = (decide (K.length <= 40) && rX K V none) := by
 rw [zh, Bq K V none h.symm, decide_eq_true h, Bool.true_and]
end Go.Proofs.Ytoddejmlcnbdmaa.Pure

