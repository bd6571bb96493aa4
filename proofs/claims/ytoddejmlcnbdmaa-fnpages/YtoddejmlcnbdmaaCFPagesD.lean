/- The law FnPages holds of the given program: at every input it answers true and leaves its arguments as they were; no condition. This text: part 4 of what its proof reaches. -/
import Derived.Deep.QuietTactic
import Derived.BigQuiet
import Derived.Test.YtoddejmlcnbdmaaCFPagesA
import Derived.Test.YtoddejmlcnbdmaaCFPagesB
import Derived.Test.YtoddejmlcnbdmaaCFPagesC
set_option maxHeartbeats 8000000
set_option maxRecDepth 100000
set_option linter.unusedVariables false
set_option linter.unusedSimpArgs false
open Go.RowKit Go.Proofs.YtoddejmlcnbdmaaW.PrintWords Go.Proofs.YtoddejmlcnbdmaaW.PrintLast Go.Proofs.YtoddejmlcnbdmaaW.PrintMore Go.Proofs.Ytoddejmlcnbdmaa.Gen Go.Proofs.Ytoddejmlcnbdmaa.Fn Go.Proofs.Ytoddejmlcnbdmaa.Tree
namespace Go.Proofs.Ytoddejmlcnbdmaa.Tree
theorem IE.calls {p : Nat} {Ak Av : Option Addr} {ck cv : Nat} {ks vs : List ByteArray} {Ow : Value} {i : Nat} (hks : i < ks.length) (hvs : i < vs.length) (hk1 : ks.length <= 1000000000000) (hv1 : vs.length <= 1000000000000) (base : Nat) (R : List (List Ck)) (w : World)
  (hs : aa w base ([.box 101 p #[.slice Ak ks.length ck, .slice Av vs.length cv, Ow]] :: [txt (.slice Ak ks.length ck) ks] :: [txt (.slice Av vs.length cv) vs] :: R)) (hbs : base <= w.heap.size) :
  Calls Try.prog 131 #[bu p, .int .i64 (i : Int)] w fun e w' => e = .returned (.tuple #[.string (bq ks i), .string (bq vs i)]) /\ ∃ QP Jy QQ cv', aa w' base ([.box 101 p #[.slice QP (ks.eraseIdx i).length Jy, .slice QQ (vs.eraseIdx i).length cv', Ow]] :: [txt (.slice QP (ks.eraseIdx i).length Jy) (ks.eraseIdx i)] :: [txt (.slice QQ (vs.eraseIdx i).length cv') (vs.eraseIdx i)] :: R) /\ Below base w w' := by
 have h0 := aa.pack hs;obtain ⟨gk, rfl⟩ := dA (h0.sr 1 rfl) (by omega);obtain ⟨gv, rfl⟩ := dA (h0.sr 2 rfl) (by omega)
 obtain ⟨GR, Vi⟩ : ∃ G, G = R.flatten := ⟨_, rfl⟩
 rw [<- Vi] at h0;have HS := A_ h0;have HB := A_ (Below.refl base w);have bQ := A_ hbs;have ZA := A_ Vi;clear hs h0 hbs Vi
 obtain ⟨x, hx⟩ : ∃ x, bq ks i = x := ⟨_, rfl⟩
 have Hx : af (i < ks.length /\ bq ks i = x) := ⟨by omega, hx⟩
 clear hx
 obtain ⟨y, hy⟩ : ∃ x, bq vs i = x := ⟨_, rfl⟩
 have Hy : af (i < vs.length /\ bq vs i = y) := ⟨by omega, hy⟩
 clear hy;obtain ⟨l1, mF⟩ := lL (ks.eraseIdx i);obtain ⟨l2, qa⟩ := lL (vs.eraseIdx i);go_enter Try.func131, Try.ntmps131
 go_upto_region 1 with fail
 have b3 := bV (0 <= (i : Int));have b4 := bV ((i : Int) < (ks.length : Int));have b5 := bV (i < ks.length);have b6 := bV ((i : Int) < (vs.length : Int));have b7 := bV (i < vs.length);refine bS (n := 16) (S := fun w' => w'.cell? ⟨p, 0, none⟩ = some (.slice (some ⟨gk, 0, none⟩) ks.length ck) /\ w'.cell? ⟨gk, i, none⟩ = some (.string x) /\ w'.cell? ⟨p, 1, none⟩ = some (.slice (some ⟨gv, 0, none⟩) vs.length cv) /\ w'.cell? ⟨gv, i, none⟩ = some (.string y)) (ds := []) (bt 16 0) (by kernel_rfl) rfl rfl ⟨(aa.z0 (aa.drew HS.out) 0 rfl), (iH (aa.sr (aa.drew HS.out) 1 rfl) Hx.out), (aa.z1 (aa.drew HS.out) 0 rfl), (iH (aa.sr (aa.drew HS.out) 2 rfl) Hy.out)⟩ (fun hHeld => ?_);refine aH 0 8 1 ?_;refine aH 1 9 3 ?_;refine aH 2 10 7 ?_;refine aH 4 12 23 ?_;refine aH 7 15 151 ?_;refine aH 8 16 407 ?_;refine aH 9 17 919 ?_;refine aH 11 19 2967 ?_;refine fq 3 11 2975 hHeld ?_;refine aH 5 13 3007 ?_;refine fq 6 14 3071 hHeld ?_;refine aH 14 6 19455 ?_;refine fq 10 18 20479 hHeld ?_;refine aH 12 20 24575 ?_;refine fq 13 21 32767 hHeld ?_;refine aH 15 7 65535 ?_;refine dL (by kernel_rfl) ?_;have ah := gq (World.drew w) ((aa.drew HS.out))
 replace HB : af (Below base w (World.drew w)) := ⟨(aG HB.out)⟩
 generalize World.drew w = w2 at ah HB ⊢;replace HS := ah; clear ah
 go_upto_region 2 with fail
 have q8 : wrap64 ((i : Int) + 1) = ((i : Int) + 1) := jW (by omega);refine bS (n := 24) (S := fun w' => w'.cell? ⟨p, 0, none⟩ = some (.slice (some ⟨gk, 0, none⟩) ks.length ck) /\ w'.cell? ⟨p, 1, none⟩ = some (.slice (some ⟨gv, 0, none⟩) vs.length cv)) (ds := [20, 23]) (bt 24 0) (by kernel_rfl) rfl rfl ⟨(aa.z0 (aa.drew HS.out) 0 rfl), (aa.z1 (aa.drew HS.out) 0 rfl)⟩ (fun hHeld => ?_);refine aH 0 22 1 ?_;refine aH 1 23 3 ?_;refine aH 2 24 7 ?_;refine aH 3 25 15 ?_;refine aH 4 26 31 ?_;refine aH 6 28 95 ?_;refine aH 7 29 223 ?_;refine aH 8 30 479 ?_;refine aH 10 32 1503 ?_;refine aH 11 33 3551 ?_;refine aH 12 34 7647 ?_;refine aH 14 36 24031 ?_;refine aH 15 37 56799 ?_;refine aH 16 38 122335 ?_;refine fq 5 27 122367 hHeld ?_;refine fq 13 35 130559 hHeld ?_;refine gG 9 (some 31) 131071 (fun K hK => ?_);refine lI Try.func139 #[.slice (some ⟨gk, 0, none⟩) ks.length ck, .int .i64 (i : Int), .int .i64 (wrap64 ((i : Int) + 1))] ?_;rw [show wrap64 ((i : Int) + 1) = (i : Int) + 1 from jW (by omega)]
 with_reducible refine (Ps (ia := 1) (i := i) (aa.drew HS.out) rfl hks (cO bQ HB) (aG HB.out)).mono ?_
 rintro e w3 ⟨rfl, hs_, nD⟩;refine ⟨_, rfl, ?_⟩;rw [<- mF.out] at hs_ ⊢;have ah := jN hs_
 replace HB : af (Below base w w3) := ⟨nD⟩
 replace HS := ah; clear ah hs_ nD;refine dh 31 hK ⟨(aa.z0 HS.out 0 rfl), (aa.z1 HS.out 0 rfl)⟩ (fun hHeld => ?_);refine gG 17 (some 39) 262143 (fun K hK => ?_);refine lI Try.func139 #[.slice (some ⟨gv, 0, none⟩) vs.length cv, .int .i64 (i : Int), .int .i64 ((i : Int) + 1)] ?_
 skip
 with_reducible refine (Ps (ia := 2) (i := i) HS.out rfl hvs (cO bQ HB) HB.out).mono ?_
 rintro e w4 ⟨rfl, hs_, nD⟩;refine ⟨_, rfl, ?_⟩;rw [<- qa.out] at hs_ ⊢;have ah := jN hs_
 replace HB : af (Below base w w4) := ⟨nD⟩
 replace HS := ah; clear ah hs_ nD;have zs0 := aa.z0 HS.out 0 rfl;have jE := aa.f HS.out 0 rfl 0;have Ox := aa.z1 HS.out 0 rfl;have Oy := aa.f HS.out 0 rfl 1;refine dh 39 hK ⟨(aa.z0 HS.out 0 rfl), (aa.z1 HS.out 0 rfl)⟩ (fun hHeld => ?_);refine aH 18 40 524287 ?_;refine aH 19 41 1048575 ?_;refine qz 20 none 2097151 (fun K hK => ?_);refine fA (w1 := ?_) (by rfl) rfl ?_ ?_;rotate_left
 ·go_simp
  rfl
 refine hK.out _ _ ?_;clear hK K;refine aH 21 42 4194303 ?_;refine aH 22 43 8388607 ?_;refine qz 23 none 16777215 (fun K hK => ?_);refine fA (w1 := ?_) (by rfl) rfl ?_ ?_;rotate_left
 ·go_simp
  rfl
 refine hK.out _ _ ?_;clear hK K;refine dL (by kernel_rfl) ?_;clear q8;have ah := gq (World.setCell (World.setCell w4 ⟨p, 0, none⟩ (.slice (some ⟨gk, 0, none⟩) l1.length ck)) ⟨p, 1, none⟩ (.slice (some ⟨gv, 0, none⟩) l2.length cv)) (aa.xU (aa.xS HS.out 0 rfl (.slice (some ⟨gk, 0, none⟩) l1.length ck)) 0 rfl (.slice (some ⟨gv, 0, none⟩) l2.length cv))
 replace HB : af (Below base w (World.setCell (World.setCell w4 ⟨p, 0, none⟩ (.slice (some ⟨gk, 0, none⟩) l1.length ck)) ⟨p, 1, none⟩ (.slice (some ⟨gv, 0, none⟩) l2.length cv))) := ⟨((HB.out).setCell (p := ⟨p, 0, none⟩) (aa.ge HS.out 0 rfl) _).setCell (p := ⟨p, 1, none⟩) (aa.ge HS.out 0 rfl) _⟩
 generalize World.setCell (World.setCell w4 ⟨p, 0, none⟩ (.slice (some ⟨gk, 0, none⟩) l1.length ck)) ⟨p, 1, none⟩ (.slice (some ⟨gv, 0, none⟩) l2.length cv) = w5 at ah HB ⊢;replace HS := ah; clear ah zs0 jE Ox Oy
 go_upto_region 3 with fail
 go_wp2_with fail
 go_ret2
 exact ⟨by rw [Hx.out.2, Hy.out.2]; rfl, _, ck, _, cv, by rw [<- mF.out, <- qa.out]; exact aa.unpack (by rw [<- ZA.out]; exact HS.out), HB.out⟩
section
variable {w w0 : World} {base : Nat} {gs : List (List Ck)}
theorem Pw {A A' : Option Addr} {n c c' n' : Nat} {l l' : List ByteArray} (hs : aa w base gs) (k : Nat) (hk : gs[k]? = some [txt (.slice A n c) l]) (m : Nat) (hm : m <= l.length) (hA : A' = if c = m then A else A.map (·.add (m * 1))) (hc : c' = c - m) (hl : l' = l.drop m) (hn : n' = n - m) (hb : l.length <= 1000000000000) :
  Calls Try.prog 74 #[.slice A' n' c'] w fun e w' => ∃ ja : Value, e = .returned (ja) /\ Kd.string.R 9 w' w.heap.size (fun _ => True) ja l' /\ Below w.heap.size w w' := by
 obtain ⟨h1, h2, _⟩ := hs.row k hk;subst h1;have h3 := J3 (hs.sr k hk) hm;subst hA hc hl hn;refine xc _ _ _ _ _ (by rw [List.length_drop]) ?_ (by omega) (by rw [List.length_drop]; omega);rw [List.length_drop] at h3;exact h3
theorem Ud {A A' : Option Addr} {n c c' n' : Nat} {l l' : List NT} (hs : aa w base gs) (k : Nat) (hk : gs[k]? = some [.jL 74 (.slice A n c) (ptrs l)]) (m : Nat) (hm : m <= l.length) (hA : A' = if c = m then A else A.map (·.add (m * 1))) (hc : c' = c - m) (hl : l' = l.drop m) (hn : n' = n - m) (hb : l.length <= 1000000000000) :
  Calls Try.prog 127 #[.slice A' n' c'] w fun e w' => ∃ ja : Value, e = .returned (ja) /\ dZ.R 74 w' w.heap.size (fun _ => True) ja (l'.map NT.p) /\ Below w.heap.size w w' := by
 obtain ⟨h1, h2, h3⟩ := hs.fH k hk;subst h1;have h3' : dZ.C w A (l.map NT.p).length (l.map NT.p) := by rw [List.length_map]; exact h3
 have h4 := Kd.J4 (c := c) h3' (m := m) (by rw [List.length_map]; exact hm) (by rw [List.length_map]; omega);subst hA hc hl hn;refine Kb _ _ _ _ _ (by rw [List.length_map, List.length_drop]) ?_ (by omega) (by rw [List.length_map, List.length_drop]; omega);rw [List.length_drop, List.length_map] at h4;rw [List.map_drop];exact h4
theorem Gf {ia ib i c n xp : Nat} {ai : Int} {A : Option Addr} {l : List NT} {lv : Value} {r : NT} (HS : aa w base gs) (hai : ai = (i : Int) /\ n = l.length) (hia : gs[ia]? = some [.jL 74 (.slice A n c) (ptrs l)]) (hib : gs[ib]? = some [.own 74 lv (encs bu [xp])]) (hp : r.p = xp) (hne : ia ≠ ib) (hi : i <= l.length) (hbase : base <= w.heap.size) (hbig : l.length <= 1000000000000) (HB : Below base w0 w) :
  Calls Try.prog 128 #[.slice A n c, .int .i64 ai, lv] w fun e w' => ∃ A' c', e = .returned (.slice A' (aI l i r).length c') /\ aa w' base (gs.set ia [.jL 74 (.slice A' (aI l i r).length c') (ptrs (aI l i r))]) /\ Below base w0 w' := by
 obtain ⟨rfl, rfl⟩ := hai;subst hp;exact Ub HS hia hib hne hi hbase hbig HB
end
section
variable {w w0 : World} {base : Nat} {gs : List (List Ck)}
theorem yg {α : Type} {l : List α} {n : Nat} (h : l.length <= n + 1) : l.eraseIdx n = l.take n := by
 rw [List.eraseIdx_eq_take_drop_succ, List.drop_eq_nil_of_le h, List.append_nil]
theorem Mh {p n m i : Nat} {ai : Int} {Ak Av : Option Addr} {ck cv : Nat} {ks vs ks' vs' : List ByteArray} {Ow : Value} {x y : ByteArray} {R : List (List Ck)}
  (hs : aa w base ([.box 101 p #[.slice Ak n ck, .slice Av m cv, Ow]] :: [txt (.slice Ak n ck) ks] :: [txt (.slice Av m cv) vs] :: R)) (hk : ks' = aI ks i x) (hv : vs' = aI vs i y) (hb : ai = (i : Int) /\ i <= n /\ i <= m /\ n <= 1000000 /\ m <= 1000000) (hbs : base <= w.heap.size) :
  Calls Try.prog 126 #[bu p, .int .i64 ai, .string x, .string y] w fun e w' => e = .returned (.tuple #[]) /\ ∃ QP Jy QQ cv', aa w' base ([.box 101 p #[.slice QP ks'.length Jy, .slice QQ vs'.length cv', Ow]] :: [txt (.slice QP ks'.length Jy) ks'] :: [txt (.slice QQ vs'.length cv') vs'] :: R) /\ Below base w w' := by
 obtain ⟨rfl, h1, h2, h3, h4⟩ := hb;obtain ⟨e1, _⟩ := aa.row hs 1 rfl;obtain ⟨e2, _⟩ := aa.row hs 2 rfl;subst e1 e2 hk hv;exact uM.calls h1 h2 (by omega) (by omega) base R w hs hbs
theorem yh {p n m i : Nat} {ai : Int} {Ak Av : Option Addr} {ck cv : Nat} {ks vs ks' vs' : List ByteArray} {Ow : Value} {x y : ByteArray} {R : List (List Ck)}
  (hs : aa w base ([.box 101 p #[.slice Ak n ck, .slice Av m cv, Ow]] :: [txt (.slice Ak n ck) ks] :: [txt (.slice Av m cv) vs] :: R)) (hx : i < ks.length /\ bq ks i = x) (hy : i < vs.length /\ bq vs i = y) (hk : ks' = ks.eraseIdx i) (hv : vs' = vs.eraseIdx i) (hb : ai = (i : Int) /\ n <= 1000000 /\ m <= 1000000) (hbs : base <= w.heap.size) :
  Calls Try.prog 131 #[bu p, .int .i64 ai] w fun e w' => e = .returned (.tuple #[.string x, .string y]) /\ ∃ QP Jy QQ cv', aa w' base ([.box 101 p #[.slice QP ks'.length Jy, .slice QQ vs'.length cv', Ow]] :: [txt (.slice QP ks'.length Jy) ks'] :: [txt (.slice QQ vs'.length cv') vs'] :: R) /\ Below base w w' := by
 obtain ⟨rfl, h3, h4⟩ := hb;obtain ⟨e1, _⟩ := aa.row hs 1 rfl;obtain ⟨e2, _⟩ := aa.row hs 2 rfl;obtain ⟨hx1, rfl⟩ := hx;obtain ⟨hy1, rfl⟩ := hy;subst e1 e2 hk hv;exact IE.calls hx1 hy1 (by omega) (by omega) base R w hs hbs
theorem Ch {ig i0 i1 i2 cg n0 n1 n2 c0 c1 c2 : Nat} {Ag A0 A1 A2 : Option Addr} {l0 l1 l2 l : List ByteArray} (hs : aa w base gs) (hg : gs[ig]? = some [.own 38 (.slice Ag 3 cg) [.slice A0 n0 c0, .slice A1 n1 c1, .slice A2 n2 c2]]) (h0 : gs[i0]? = some [txt (.slice A0 n0 c0) l0]) (h1 : gs[i1]? = some [txt (.slice A1 n1 c1) l1]) (h2 : gs[i2]? = some [txt (.slice A2 n2 c2) l2]) (hl : l = l0 ++ l1 ++ l2) (hb : n0 + n1 + n2 <= 1000000) :
  Calls Try.prog 140 #[.slice Ag 3 cg] w fun e w' => ∃ v, e = .returned v /\ Kd.R Kd.string 9 w' w.heap.size (fun _ => True) v l /\ Below w.heap.size w w' := by
 obtain ⟨rfl, q0, r0⟩ := hs.row i0 h0;obtain ⟨rfl, q1, r1⟩ := hs.row i1 h1;obtain ⟨rfl, q2, r2⟩ := hs.row i2 h2;subst hl;exact R3 (base := base) ((hs.at ig hg).ok _ List.mem_cons_self) r0 r1 r2 q0 q1 q2 (by omega)
theorem YQ {ig i0 i1 cg n0 n1 c0 c1 : Nat} {Ag A0 A1 : Option Addr} {l0 l1 l : List NT} (hs : aa w base gs) (hg : gs[ig]? = some [.own 99 (.slice Ag 2 cg) [.slice A0 n0 c0, .slice A1 n1 c1]]) (h0 : gs[i0]? = some [.jL 74 (.slice A0 n0 c0) (ptrs l0)]) (h1 : gs[i1]? = some [.jL 74 (.slice A1 n1 c1) (ptrs l1)]) (hl : l = l0 ++ l1) (hb : n0 + n1 <= 1000000) :
  Calls Try.prog 141 #[.slice Ag 2 cg] w fun e w' => ∃ v, e = .returned v /\ Kd.R dZ 74 w' w.heap.size (fun _ => True) v (l.map NT.p) /\ Below w.heap.size w w' := by
 obtain ⟨rfl, q0, r0⟩ := hs.fH i0 h0;obtain ⟨rfl, q1, r1⟩ := hs.fH i1 h1;subst hl;rw [List.map_append];have hk : Ck.ok w base (.own 99 (.slice Ag 2 cg) [.slice A0 (l0.map NT.p).length c0, .slice A1 (l1.map NT.p).length c1]) := by rw [List.length_map, List.length_map]; exact (hs.at ig hg).ok _ List.mem_cons_self
 exact R4 (base := base) hk (by rw [List.length_map]; exact r0) (by rw [List.length_map]; exact r1) (by rw [List.length_map]; exact q0) (by rw [List.length_map]; exact q1) (by rw [List.length_map, List.length_map]; omega)
theorem Nl {E n : Nat} {v : Value} {x : Value} {xs : List Value} (h : Ck.ok w base (.own E v (x :: xs))) : ∃ A c, v = .slice A (xs.length + 1) c := by
 have h : w.ownsRow base E 1 v (xs.length + 1) (x :: xs) := h
 rcases h.2 with ⟨_, h0⟩ | ⟨g, cap, cur, e, _⟩
 ·omega
 ·exact ⟨_, _, e⟩
theorem Xh {ia i n c : Nat} {a1 a2 : Int} {A : Option Addr} {l l' : List NT} (HS : aa w base gs) (hia : gs[ia]? = some [.jL 74 (.slice A n c) (ptrs l)]) (hl : l' = l.eraseIdx i) (hi : a1 = (i : Int) /\ a2 = (i : Int) + 1 /\ i < n) (hbase : base <= w.heap.size) (HB : Below base w0 w) :
  Calls Try.prog 142 #[.slice A n c, .int .i64 a1, .int .i64 a2] w fun e w' => e = .returned (.slice A l'.length c) /\ aa w' base (gs.set ia [.jL 74 (.slice A l'.length c) (ptrs l')]) /\ Below base w0 w' := by
 obtain ⟨rfl, rfl, h3⟩ := hi;obtain ⟨e1, _⟩ := aa.fH HS ia hia;subst e1 hl;exact Uc HS hia h3 hbase HB
end
section
variable {P : Program} {ops : Array Oper} {o : Oper} {a : Act} {Q : Exit -> Act -> World -> Prop} {Kc : Act -> World -> Prop}
theorem gz {w0 W : World} (base e n : Nat) (hw : Region.wanted o (yielded ops a.tmps) = true) {N : Tmp} (WA : o.dst = some N) {xs : List Value} (hn : xs.length = n)
  (hrun : (execOp a.eval o).run P W = .ok (.value (.slice (some ⟨W.heap.size, 0, none⟩) n n)) (W.alloc (.cells xs.toArray e)))
  (HB : Below base w0 W) (hbase : base <= W.heap.size) (hm : n <= 1000)
  (h : ∀ A c w1, Ck.ok w1 base (.own e (.slice A n c) xs) -> Below base w0 w1 -> W.grownBy w1 none -> (∃ b, (Value.slice A n c).ownBlock = some b /\ W.heap.size <= b) -> Kc (a.put o.dst (.slice A n c)) w1) :
  if Region.wanted o (yielded ops a.tmps) = true then Oper.wp P o a W Kc Q else Kc (a.put o.dst undef) W := by
 subst hn;refine tJ hw hrun (h _ _ _ ?_ (HB.alloc hbase _) (World.grownBy_alloc W _ none) ⟨W.heap.size, by simp [Value.ownBlock], Nat.le_refl _⟩);have h2 := World.ownsRow_lit (base := base) (e := e) (size := 1) W xs.toArray xs.length hbase (by unfold maxLen; omega) (by simp);show World.ownsRow _ base e 1 _ xs.length xs;simpa using h2
end
theorem Kh.calls : ∀ (n : Nat) (t : NT), t.erase.big <= n -> kV t.erase -> ∀ (base : Nat) (vo : Value) (pgs : List Pg) (L : List Ck) (w : World), Sat w base (t.dH 101 74 ++ (bK vo pgs ++ L)) -> base <= w.heap.size -> pgs.length + t.erase.big <= 100000 ->
  Calls Try.prog 110 #[bu t.p, vo] w (PGR w base 101 74 t L pgs) := by
 intro n
 induction n with
 | zero =>
  intro t hb;exact absurd t.erase.fB (by omega)
 | succ n ih =>
  intro t hbig hbd base vo pgs L w hs hbs hpl;have h0 := BZ hs;obtain ⟨⟨ho1, ho2, ho3⟩, oO⟩ := bJ.1 hbd
  cases t with | mk tp yC yD yE tks tvs aJ =>
  have e0 : (NT.mk tp yC yD yE tks tvs aJ).erase = .mk tks tvs (NT.ax aJ) := rfl;rw [e0] at hbig ho1 ho2 ho3 oO hpl;simp only [NT.keys, NT.vals, NT.kids, NT.p, NT.kv, NT.vv, NT.cv] at h0 ⊢;simp only [PT.keys, PT.vals, PT.kids] at ho1 ho2 ho3 oO;obtain ⟨jF, fG, rfl⟩ := Kd.ak (h0.sr 1 rfl);obtain ⟨jK, fM, rfl⟩ := Kd.ak (h0.sr 2 rfl);obtain ⟨qB, fK, rfl, _, _⟩ := dz (h0.q 3 rfl);obtain ⟨Ao, co, rfl⟩ := iD (h0.rowOk 5 rfl);have HS := A_ h0;have HB := A_ (Below.refl base w);have bQ := A_ hbs;have Om := A_ hbig;have XI := A_ hpl;have KT := A_ oO;have hnl : (NT.ax aJ).length = aJ.length := by rw [aC, List.length_map]
  have Fv : tvs.length <= 4 /\ aJ.length <= 5 := by omega
  have hpn : pgs.length + 1 <= 100000 := by have := (PT.mk tks tvs (NT.ax aJ)).fB; omega
  clear h0 hs hbs hbig hpl ho1 ho3 oO hbd hnl e0;go_enter Try.func110, Try.ntmps110
  go_upto_region 2 with fail
  refine bS (n := 15) (S := fun w' => w'.cell? ⟨tp, 0, none⟩ = some (.slice jF tks.length fG) /\ w'.cell? ⟨tp, 1, none⟩ = some (.slice jK tvs.length fM)) (ds := []) (bt 15 0) (by kernel_rfl) rfl rfl ⟨(aa.z0 (aa.drew HS.out) 0 rfl), (aa.z1 (aa.drew HS.out) 0 rfl)⟩ (fun hHeld => ?_);refine aH 0 10 1 ?_;refine aH 1 11 3 ?_;refine aH 2 12 7 ?_;refine aH 3 13 15 ?_;refine aH 6 16 79 ?_;refine aH 7 17 207 ?_;refine aH 8 18 463 ?_;refine fq 4 14 479 hHeld ?_;refine fq 9 19 991 hHeld ?_;refine gG 5 (some 15) 1023 (fun K hK => ?_);refine lI Try.func74 #[.slice jF tks.length fG] ?_
  with_reducible refine (xc jF fG tks tks.length _ rfl (aa.row (aa.drew HS.out) 1 rfl).2.2 (aa.row (aa.drew HS.out) 1 rfl).2.1 (by omega)).mono ?_
  rintro e w8 ⟨ja, rfl, ho, hb⟩;refine ⟨_, rfl, ?_⟩;obtain ⟨GM, GN, rfl⟩ := Kd.ak ho;have ah := jN (aa.eG (aa.drew HS.out) hb (cO bQ HB) ho)
  replace HB : af (Below base w w8) := ⟨((aG HB.out)).trans (hb.mono (cO bQ HB))⟩
  replace HS := ah; clear ah ho hb;refine dh 15 hK ⟨(aa.z0 HS.out 0 rfl), (aa.z1 HS.out 0 rfl)⟩ (fun hHeld => ?_);refine gG 10 (some 20) 2047 (fun K hK => ?_);refine lI Try.func74 #[.slice jK tvs.length fM] ?_
  with_reducible refine (xc jK fM tvs tvs.length _ rfl (aa.row HS.out 2 rfl).2.2 (aa.row HS.out 2 rfl).2.1 (by omega)).mono ?_
  rintro e w9 ⟨ja, rfl, ho, hb⟩;refine ⟨_, rfl, ?_⟩;obtain ⟨GU, GV, rfl⟩ := Kd.ak ho;have ah := jN (aa.eG HS.out hb (cO bQ HB) ho)
  replace HB : af (Below base w w9) := ⟨(HB.out).trans (hb.mono (cO bQ HB))⟩
  replace HS := ah; clear ah ho hb;refine dh 20 hK ⟨(aa.z0 HS.out 0 rfl), (aa.z1 HS.out 0 rfl)⟩ (fun hHeld => ?_);refine aH 11 21 4095 ?_;refine gG 12 (some 22) 8191 (fun K hK => ?_);refine xZ 110 3 [.slice GM tks.length GN, .slice GU tvs.length GV, .slice none 0 0] rfl (by rfl) (N := 22) rfl ?hr ?_
  (case hr => first | (go_simp; done) | (go_simp; rfl))
  intro gp yn hg ho hb;have ah := jN (aa.newRow HS.out hb (cO bQ HB) (by rw [<- hg] at *; exact ho))
  replace HB : af (Below base w yn) := ⟨HB.out.trans (hb.mono (cO bQ HB))⟩
  replace HS := ah; clear ah hg ho hb;refine dh 22 hK ⟨(aa.z0 HS.out 0 rfl), (aa.z1 HS.out 0 rfl)⟩ (fun hHeld => ?_);refine gG 13 (some 23) 16383 (fun K hK => ?_);refine ui (w0 := w) (base := base) (by rfl) (.tmp 10) (.tmp 22) 27 110 3 72 _ rfl Try.underlying27 FE rfl (by decide) (by decide) (.slice Ao pgs.length co) pgs.length 1 1 gp (pgs.flatMap Pg.cells) [.slice GM tks.length GN, .slice GU tvs.length GV, .slice none 0 0] rfl rfl (aa.rowOk HS.out 5 rfl) (aa.rowOk HS.out 10 rfl) (by intro u hu; simp only [List.mem_cons, List.not_mem_nil, or_false] at hu; rcases hu with rfl | rfl | rfl <;> rfl) HB.out (cO bQ HB) (by omega) ?_;intro vo1 Ab ho hb hg hat;obtain ⟨A1, c1, rfl⟩ := iD ho;have ah := jN (aa.Pk 5 HS.out rfl ho hg hat)
  replace HB : af (Below base w Ab) := ⟨hb⟩
  replace HS := ah; clear ah ho hb hg hat;refine dh 23 hK ⟨(aa.z0 HS.out 0 rfl), (aa.z1 HS.out 0 rfl)⟩ (fun hHeld => ?_);refine aH 14 1 32767 ?_;refine dL (by kernel_rfl) ?_
  obtain ⟨K, hK⟩ : ∃ K, K = NT.ax aJ := ⟨_, rfl⟩
  have HK := A_ hK;have xu := A_ (show K.length = aJ.length by rw [hK, aC, List.length_map]);obtain ⟨go1, rfl⟩ := si (aa.rowOk HS.out 5 rfl) (by omega)
  have ah : af (aa Ab base (y5 101 74 (NT.mk tp (.slice jF tks.length fG) (.slice jK tvs.length fM) (.slice qB aJ.length fK) tks tvs aJ) (.slice (some ⟨go1, 0, none⟩) (pgs.length + 1) c1) pgs [] ⟨.slice GM tks.length GN, .slice GU tvs.length GV, .slice none 0 0, tks, tvs, []⟩ L)) := ⟨by
   have h1 := (aa.OU (aa.yZ HS.out 3)).gJ [0, 1, 2, 3, 4, 5, 8, 9, 11, 6, 12, 7] (by decide);unfold y5;show aa _ _ [_, _, _, _, _, [.row 110 3 (.slice (some ⟨go1, 0, none⟩) (pgs.length + 1) c1) (pgs ++ [_]).length ((pgs ++ [_]).flatMap Pg.cells)], _, _, _, _, _, _];rw [List.length_append, List.flatMap_append, List.flatMap_cons, List.flatMap_nil, List.append_nil]
   exact h1⟩
  clear HS hK;have HS := ah;clear ah
  obtain ⟨t0, ht0⟩ : ∃ t0, t0 = NT.mk tp (.slice jF tks.length fG) (.slice jK tvs.length fM) (.slice qB aJ.length fK) tks tvs aJ := ⟨_, rfl⟩
  have HT0 := A_ ht0;rw [<- ht0] at HS;clear ht0
  go_upto_region 3 with fail
  have wG : Ab.cell? ⟨tp, 2, none⟩ = some (.slice qB aJ.length fK) := by
   have h1 := HS.out;rw [HT0.out] at h1;exact aa.z2 h1 0 rfl
  go_wp2_with fail
  clear wG
  go_loopg [1, 29] aJ.length (fun kq u1 u29 w' => ∃ (i m go co : Nat) (A B : List Pg) (kv vv cv : Value) (cs : List Int), u1 = .slice (some ⟨go, 0, none⟩) m co /\ u29 = .int .i64 (i : Int) /\ af (kq + i = aJ.length) /\ af (cs = starts (K.take i) (pgs.length + 1)) /\ af (A.map Pg.erase = pgs.map Pg.erase) /\ af (B.map Pg.erase = oM (K.take i) (pgs.length + 1)) /\ af (m = pgs.length + 1 + PT.jA (K.take i)) /\ af (aa w' base (y5 101 74 t0 (.slice (some ⟨go, 0, none⟩) m co) A B ⟨kv, vv, cv, tks, tvs, cs⟩ L)) /\ af (Below base w w'))
  case atStart => exact ⟨0, pgs.length + 1, go1, c1, pgs, [], _, _, _, [], by first | rfl | (simp; done), by first | rfl | (simp; done), ⟨Nat.add_zero _⟩, ⟨rfl⟩, ⟨rfl⟩, ⟨rfl⟩, ⟨rfl⟩, HS, HB⟩
  case round =>
   clear HS HB;obtain ⟨i, m, go, Zp, A, B, kv, vv, cv, cs, rfl, rfl, U8, U9, HA, zK, HM, HS, HB⟩ := hrel;have zZ := A_ (show A.length = pgs.length by have := congrArg List.length HA.out; rw [List.length_map, List.length_map] at this; exact this);have hbt : PT.jA (K.take i) + 1 <= (PT.mk tks tvs (NT.ax aJ)).big := by rw [PT.big, <- HK.out]; have := ni K i; omega
   have hm : pgs.length + 1 <= m /\ m <= 100000 := by have := HM.out; have := XI.out; omega
   have ci := bV (0 <= (i : Int));have hcl0 : cs.length <= 5 := by rw [U9.out, ql, List.length_take, xu.out]; omega
   by_cases hi : i < aJ.length
   ·have ce := lQ ((i : Int) < (aJ.length : Int))
    have zg : (i < aJ.length) = True := eq_true hi
    obtain ⟨s, hsx⟩ : ∃ s, aJ[i]? = some s := ⟨aJ[i], List.getElem?_eq_getElem hi⟩
    have Ou := A_ hsx
    have jw : af (K[i]? = some s.erase) := ⟨by rw [HK.out, aC, List.getElem?_map, hsx]; rfl⟩
    have ah := HS.out;rw [HT0.out] at ah;unfold y5 at ah;simp only [NT.keys, NT.vals, NT.kids, NT.p, NT.kv, NT.vv, NT.cv] at ah;obtain ⟨Ac, cc, rfl⟩ := Kd.ak (aa.ir ah 8 rfl);obtain ⟨zG, ck1, rfl⟩ := Kd.ak (aa.sr ah 6 rfl);obtain ⟨vO, rD, rfl⟩ := Kd.ak (aa.sr ah 7 rfl);clear HS;have HS := A_ ah;clear ah hsx;obtain ⟨iB, rfl⟩ := fJ (aa.q HS.out 3 rfl) (by omega);have qU := ik (aa.fH HS.out 3 rfl) (And.intro Ou.out rfl)
    go_upto_region 6 with fail
    clear qU
    obtain ⟨l1, hl1⟩ : ∃ r : List Int, r = cs ++ [(m : Int)] := ⟨_, rfl⟩
    have mF := A_ hl1;clear hl1;have b2 := bV (0 <= (pgs.length : Int));have b3 := bV ((pgs.length : Int) < (m : Int));have b4 := bV (pgs.length < m);have sd11 : (cs.length + 1) * 8 <= 140737488355328 := by omega
    have eT := (wZ HS.out 5 rfl zZ.out)
    go_upto_region 7 with (first | ((with_reducible refine iK (N := 42) rfl ?_); refine Rt (Kd.int .i64) 3 42 [(m : Int)] [.int .i64 (m : Int)] (Kd.aY (enc := (Value.int .i64)) [(m : Int)]) HB.out (cO bQ HB) ?_; intro v5 Fu ho hb hg hn; obtain ⟨A6, c7, rfl⟩ : ∃ A c, v5 = .slice A 1 c := Kd.ak ho; have ah := jN (aa.nH HS.out (Ma ho) hg hn); replace HB : af (Below base w Fu) := ⟨hb⟩; replace HS := ah; clear ah ho hb hg hn; clear eT; have eT := (wZ HS.out 5 rfl zZ.out)) | ((with_reducible refine bP (b := .append) (xs := #[.tmp 39, .tmp 42]) rfl ?_); at_builtin; refine Kd.eY (Kd.int .i64) (w0 := w) base rfl (.tmp 39) (.tmp 42) 108 3 (.int .i64 0) 8 rfl Try.underlying108 info3 rfl (by decide) (by omega) (.slice Ac cs.length cc) cs [(m : Int)] A6 1 c7 (fun _ => True) (fun _ => False) rfl rfl (aa.ir HS.out 8 rfl) (TY HS.out 12 rfl) (fun _ _ h => h) (fun _ h => h.elim) (fun _ _ => trivial) HB.out (cO bQ HB) sd11 ?_; intro u8 yB ho hb hg hat; rw [<- mF.out] at ho; obtain ⟨A9, c10, rfl⟩ := Kd.ak ho; have ah := jN (aa.TZ 8 HS.out rfl ho hg hat); replace HB : af (Below base w yB) := ⟨hb⟩; replace HS := ah; clear ah ho hb hg hat; clear eT; have eT := (wZ HS.out 5 rfl zZ.out); have Jz := wZ HS.out 5 rfl zZ.out; have JA := aa.RN HS.out 5 rfl (pgs.length * 3 + 2)))
    have ah := gq (World.setCell yB ⟨go, pgs.length * 3 + 2, none⟩ (.slice A9 l1.length c10)) (aa.AP HS.out 5 rfl zZ.out ⟨.slice zG tks.length ck1, .slice vO tvs.length rD, .slice A9 l1.length c10, tks, tvs, l1⟩ 2 (.slice A9 l1.length c10) (by decide) rfl)
    replace HB : af (Below base w (World.setCell yB ⟨go, pgs.length * 3 + 2, none⟩ (.slice A9 l1.length c10))) := ⟨(HB.out).setCell (p := ⟨go, pgs.length * 3 + 2, none⟩) (aa.Mc HS.out 5 rfl) _⟩
    generalize World.setCell yB ⟨go, pgs.length * 3 + 2, none⟩ (.slice A9 l1.length c10) = Ji at ah HB ⊢;replace HS := ah; clear ah eT Jz JA
    obtain ⟨p', hp'⟩ : ∃ p' : Pg, p' = ⟨.slice zG tks.length ck1, .slice vO tvs.length rD, .slice A9 l1.length c10, tks, tvs, l1⟩ := ⟨_, rfl⟩
    have Zq := A_ hp'
    have ah : aa Ji base (y5 101 74 (NT.mk tp (.slice jF tks.length fG) (.slice jK tvs.length fM) (.slice (some iB) aJ.length fK) tks tvs aJ) (.slice (some ⟨go, 0, none⟩) m Zp) A B p' L) := by
     rw [hp'];exact aa.gJ HS.out [0, 1, 2, 3, 4, 5, 6, 7, 8, 9, 10, 11] (by decide)
    have hpl : (A ++ p' :: B).length = m := by
     have h1 := congrArg List.length zK.out;rw [List.length_map, p9] at h1;rw [List.length_append, List.length_cons, h1, zZ.out, HM.out];omega
    have Zr := A_ hpl
    have hbs : s.erase.big <= n /\ m + s.erase.big <= 100000 := by
     have h1 := EM jw.out;have h2 := ni K (i + 1);have h3 := Om.out;have h4 := XI.out;rw [PT.big, <- HK.out] at h3 h4;have := HM.out;omega
    have hC := ih s hbs.1 (KT.out _ (by rw [<- HK.out]; exact List.mem_of_getElem? jw.out)) base _ _ _ Ji (Cb Ou.out ah) (cO bQ HB) (by rw [hpl]; exact hbs.2);have HC := A_ hC;clear hC ah hp' hpl hbs
    go_upto_region 8 with (first | (go_at_call 110; (with_reducible refine HC.out.mono ?_); rintro e Ov ⟨vo2, dY, rfl, he, hs2, hb2⟩))
    clear HC HS;rw [List.map_append, List.map_cons, List.append_assoc, List.cons_append, Zr.out] at he;obtain ⟨A2, p2, B2, rfl, hA2, hp2, hB2⟩ := zA he;have h5 := Cc Ou.out hs2;obtain ⟨Ao2, Zt, rfl⟩ := iD (aa.rowOk h5 5 rfl);obtain ⟨go2, rfl⟩ := si (aa.rowOk h5 5 rfl) (by rw [List.length_append, List.length_cons]; omega)
    cases p2 with | mk XJ XK Ri Va vs2 cs2 =>
    have e6 : (⟨Va, vs2, cs2⟩ : bC) = ⟨tks, tvs, l1⟩ := by rw [show (⟨Va, vs2, cs2⟩ : bC) = p'.erase from hp2, Zq.out]; rfl
    injection e6 with e7 e8 e9
    subst e7;subst e8;subst e9;have HS := A_ h5;have HB3 := A_ (HB.out.trans hb2);have HA2 := A_ (hA2.trans HA.out);have HB2 := A_ (show B2.map Pg.erase = oM (K.take (i + 1)) (pgs.length + 1) by rw [hB2, zK.out, r9 jw.out, wX, HM.out])
    have Sn := A_ (show (A2 ++ ⟨XJ, XK, Ri, Va, vs2, cs2⟩ :: B2).length = pgs.length + 1 + PT.jA (K.take (i + 1)) by
     have h1 := congrArg List.length HB2.out;have h2 := congrArg List.length HA2.out;rw [List.length_map, p9] at h1;rw [List.length_map, List.length_map] at h2;rw [List.length_append, List.length_cons, h1, h2]
     omega)
    have um := A_ (show cs2 = starts (K.take (i + 1)) (pgs.length + 1) by rw [mF.out, r9 jw.out, uL, <- U9.out, HM.out]);clear he hs2 hb2 hA2 hp2 hB2 h5 HB
    go_wp2_with fail
    go_roundg (aJ.length - (i + 1))
    case measure => have := U8.out; omega
    case rel => exact ⟨i + 1, _, go2, Zt, A2, B2, XJ, XK, Ri, cs2, by first | rfl | (simp; done), by first | rfl | go_num | (simp; done), ⟨by have := U8.out; omega⟩, um, HA2, HB2, Sn, ⟨by rw [HT0.out]; exact HS.out⟩, HB3⟩
   ·have ce := kS ((i : Int) < (aJ.length : Int))
    have zg : (i < aJ.length) = False := eq_false hi;have XL : K.take i = K := List.take_of_length_le (by rw [xu.out]; omega);have rE := A_ XL;clear XL hi
    go_wp2_with fail
    go_ret;refine ⟨_, A ++ ⟨kv, vv, cv, tks, tvs, cs⟩ :: B, rfl, ?_, by rw [<- HT0.out]; exact Ca HS.out, HB.out⟩;rw [List.map_append, List.map_cons, HA.out, zK.out, rE.out];show _ = pgs.map Pg.erase ++ iM (.mk tks tvs (NT.ax aJ)) pgs.length;rw [iM, <- HK.out];show _ ++ (⟨tks, tvs, cs⟩ : bC) :: _ = _;rw [U9.out, rE.out]
theorem ET.calls (t : NT) (hbd : kV t.erase) (hbig : t.erase.big <= 100000) (base : Nat) (L : List Ck) (w : World) (hs : Sat w base (t.dH 101 74 ++ L)) (hbs : base <= w.heap.size) :
  Calls Try.prog 81 #[bu t.p] w (TRR w base 101 74 t L) := by
 have NY : af (Sat w base (L ++ t.dH 101 74)) := ⟨hs.perm List.perm_append_comm⟩
 have HB := A_ (Below.refl base w);have bQ := A_ hbs;have XM := A_ hbd;clear hs hbs hbd
 obtain ⟨tp, htp⟩ : ∃ p, t.p = p := ⟨_, rfl⟩
 have SH := A_ htp;rw [htp];clear htp;go_enter Try.func81, Try.ntmps81
 go_upto_region 1 with (first | (refine jl 2 #[.slice none 0 0] 29 ?_; intro g hg w2 aA hb; have ah : af (Sat w2 base (t.dH 101 74 ++ (bK (.slice none 0 0) [] ++ (.box 29 g #[.slice none 0 0] :: L)))) := ⟨Me ((Sat.je NY.out hg aA hb bQ.out).perm ((List.perm_append_comm (l₁ := L)).cons _ |>.trans List.perm_middle.symm))⟩; have bT := A_ (HB.out.trans (hb.mono bQ.out)); clear NY HB hg aA hb; have HS := ah; have HB := bT; clear ah bT))
 have hC := Kh.calls t.erase.big t (Nat.le_refl _) XM.out base _ [] _ w2 HS.out (cO bQ HB) (by rw [List.length_nil]; omega);rw [SH.out] at hC;have HC := A_ hC;clear hC HS
 go_wp2_with (first | (go_at_call 110; (with_reducible refine HC.out.mono ?_); rintro e w3 ⟨vo, pgs, rfl, he, hs3, hb3⟩; obtain ⟨Ao, co, rfl⟩ := iD (hs3.ok (nI vo pgs) (List.mem_append_right _ List.mem_cons_self)); have HZ := A_ (hs3.cell (T := 29) (p := g) (cs := #[.slice none 0 0]) (List.mem_append_right _ (List.mem_append_right _ List.mem_cons_self))); have hz := hs3.cell (T := 29) (p := g) (cs := #[.slice none 0 0]) (List.mem_append_right _ (List.mem_append_right _ List.mem_cons_self)); have hz1 : w3.cell? ⟨g, 0, none⟩ = some (.slice none 0 0) := (au hz 0).trans rfl; have hf1 := aV hz 0; have HE := A_ he; have zJ := A_ hs3; have HB3 := A_ hb3; clear hz he hs3 hb3))
 refine bodyPost_ret (results_cell_row rfl _ _ g 29 #[.slice Ao pgs.length co] (0, 0) _ rfl (dP (cs := #[.slice none 0 0]) HZ.out 0 _ rfl) Try.underlying29 rfl (by kernel_rfl)) rfl ?_
 have hX : Sat (w3.setCell ⟨g, 0, none⟩ (.slice Ao pgs.length co)) base (.box 29 g #[.slice Ao pgs.length co] :: (t.dH 101 74 ++ (bK (.slice Ao pgs.length co) pgs ++ L))) := Sat.put (cs := #[.slice none 0 0]) (zJ.out.perm (by
  rw [<- List.append_assoc];refine List.perm_middle.trans ?_
  rw [List.append_assoc])) 0 _ rfl
 exact ⟨_, pgs, rfl, by rw [HE.out]; rfl, hX.tail, (HB.out.trans HB3.out).setCell (p := ⟨g, 0, none⟩) (zJ.out.ok (.box 29 g #[.slice none 0 0]) (List.mem_append_right _ (List.mem_append_right _ List.mem_cons_self))).1 _⟩
theorem zR.calls (t k : NT) (i : Nat) (hk : t.kids[i]? = some k) (h4 : k.keys.length <= 4) (htk : t.kids.length <= 1001) (base : Nat) (L : List Ck) (w : World) (hs : Sat w base (t.dH 101 74 ++ L)) (hbs : base <= w.heap.size) :
  Calls Try.prog 109 #[bu t.p, .int .i64 (i : Int)] w fun e w' => e = .returned (.tuple #[]) /\ w' = w := by
 have h0 := rO hk hs;clear hs
 cases t with | mk tp yC yD yE tks tvs aJ =>
 cases k with | mk kp kkv Yr Yt nX oN oU =>
 unfold xL at h0;simp only [NT.keys, NT.vals, NT.kids, NT.p, NT.kv, NT.vv, NT.cv] at hk h4 h0 htk ⊢;obtain ⟨qB, fK, rfl, _, _⟩ := dz (h0.q 3 rfl);have hil : i < aJ.length := (List.getElem?_eq_some_iff.1 hk).1;obtain ⟨iB, rfl⟩ := fJ (h0.q 3 rfl) (by omega);obtain ⟨Xy, nG, rfl⟩ := Kd.ak (h0.sr 6 rfl)
 have HK : af (aJ[i]? = some (NT.mk kp (.slice Xy nX.length nG) Yr Yt nX oN oU) /\ (NT.mk kp (.slice Xy nX.length nG) Yr Yt nX oN oU).p = kp) := ⟨hk, rfl⟩
 have qU := aa.z2 h0 0 rfl;have wG := ik (aa.fH h0 3 rfl) HK.out;have NZ := aa.z0 h0 5 rfl;have b1 := bV (0 <= (i : Int));have b2 := bV ((i : Int) < (aJ.length : Int));have b3 := bV (i < aJ.length);have c1 := lQ ((nX.length : Int) <= 4);have c2 := bV (nX.length <= 4);have c3 := bV ((nX.length : Int) <= 4);clear h0 hk HK hil h4;go_enter Try.func109, Try.ntmps109;go_wp2;refine bodyPost_ret (results_none rfl _ _ _) rfl ?_;exact ⟨rfl, rfl⟩
theorem yj {l : List NT} {i : Nat} {k k' r : NT} (h : l[i]? = some k) (hp : k'.p = k.p) : ptrs (aI (l.set i k') (i + 1) r) = ptrs (aI l (i + 1) r) := by
 rw [dM, dM, jI, jI, List.map_set, hp]
 have e : (l.map NT.p).set i k.p = l.map NT.p := by
  apply List.ext_getElem?;intro j;rw [List.getElem?_set]
  split
  ·next hj =>
   subst hj;rw [List.getElem?_map, h]
   split
   ·rfl
   ·next hh => exact absurd (by rw [List.length_map]; exact (List.getElem?_eq_some_iff.1 h).1) hh
  ·rfl
 rw [e]
theorem wB.calls (t k : NT) (i : Nat) (hk : t.kids[i]? = some k) (hk5 : 5 <= k.keys.length) (Zi : k.keys.length <= 1000) (Qy : k.vals.length = k.keys.length) (hkk : k.kids.length = 0 \/ 3 <= k.kids.length) (Sz : k.kids.length <= 1001) (hti : i <= t.keys.length) (Zj : t.keys.length <= 1000) (Fv : t.vals.length = t.keys.length) (htk : t.kids.length <= 1001)
  (base : Nat) (L : List Ck) (w : World) (hs : Sat w base (t.dH 101 74 ++ L)) (hbs : base <= w.heap.size) :
  Calls Try.prog 109 #[bu t.p, .int .i64 (i : Int)] w (WR w base 101 74 t L (splitK t.erase k.erase i)) := by
 have h0 := rO hk hs;clear hs
 obtain ⟨R, hR⟩ : ∃ R, R = splitK t.erase k.erase i := ⟨_, rfl⟩
 rw [<- hR];have HRR := A_ hR;clear hR
 cases t with | mk tp yC yD yE tks tvs aJ =>
 cases k with | mk kp kkv Yr Yt nX oN oU =>
 unfold xL at h0;simp only [NT.keys, NT.vals, NT.kids, NT.p, NT.kv, NT.vv, NT.cv] at hk hk5 Zi Qy hkk Sz hti Zj Fv htk h0 HRR ⊢;obtain ⟨jF, fG, rfl⟩ := Kd.ak (h0.sr 1 rfl);obtain ⟨jK, fM, rfl⟩ := Kd.ak (h0.sr 2 rfl);obtain ⟨qB, fK, rfl, _, _⟩ := dz (h0.q 3 rfl);have hil : i < aJ.length := (List.getElem?_eq_some_iff.1 hk).1;obtain ⟨iB, rfl⟩ := fJ (h0.q 3 rfl) (by omega);obtain ⟨Xy, nG, rfl⟩ := Kd.ak (h0.sr 6 rfl);obtain ⟨Akv, nY, rfl⟩ := Kd.ak (h0.sr 7 rfl);obtain ⟨qQ, qR, rfl, _, _⟩ := dz (h0.q 8 rfl);obtain ⟨Ba, rfl⟩ := dA (h0.sr 6 rfl) (by omega);obtain ⟨Bb, rfl⟩ := dA (h0.sr 7 rfl) (by omega)
 obtain ⟨GA, Qz⟩ : ∃ G, G = NT.aZ 101 74 (aJ.take i) := ⟨_, rfl⟩
 obtain ⟨GD, QA⟩ : ∃ G, G = NT.aZ 101 74 (aJ.drop (i + 1)) := ⟨_, rfl⟩
 rw [<- Qz, <- QA] at h0;have HS := A_ h0;have HB := A_ (Below.refl base w);have bQ := A_ hbs;have UU := A_ Qz;have UW := A_ QA;have rE := A_ hk
 have HK : af (aJ[i]? = some (NT.mk kp (.slice (some ⟨Ba, 0, none⟩) nX.length nG) (.slice (some ⟨Bb, 0, none⟩) oN.length nY) (.slice qQ oU.length qR) nX oN oU) /\ (NT.mk kp (.slice (some ⟨Ba, 0, none⟩) nX.length nG) (.slice (some ⟨Bb, 0, none⟩) oN.length nY) (.slice qQ oU.length qR) nX oN oU).p = kp) := ⟨hk, rfl⟩
 have HKV := A_ Qy;have Zl := A_ Fv;have HKK := A_ (And.intro hkk Sz);have h5 : 5 <= oN.length /\ oN.length <= 1000 := by omega
 have h6 : i <= tvs.length /\ tvs.length <= 1000 := by omega
 clear Qz QA h0 hbs hk Qy Fv hkk
 obtain ⟨x, hx⟩ : ∃ x, bq nX 2 = x := ⟨_, rfl⟩
 have Hx : af (2 < nX.length /\ bq nX 2 = x) := ⟨by omega, hx⟩
 clear hx
 obtain ⟨y, hy⟩ : ∃ x, bq oN 2 = x := ⟨_, rfl⟩
 have Hy : af (2 < oN.length /\ bq oN 2 = y) := ⟨by omega, hy⟩
 clear hy;obtain ⟨l1, mF⟩ := lL (nX.drop 3);obtain ⟨l2, qa⟩ := lL (oN.drop 3);obtain ⟨l3, yF⟩ := lL (nX.take 2);obtain ⟨l4, Ah⟩ := lL (oN.take 2);obtain ⟨l5, zM⟩ := lL (aI tks i x);obtain ⟨l6, zN⟩ := lL (aI tvs i y);go_enter Try.func109, Try.ntmps109;have b7 := bV (0 <= (i : Int));have b8 := bV ((i : Int) < (aJ.length : Int));have b9 := bV (i < aJ.length)
 have eT := (aa.z2 HS.out 0 rfl)
 have qU := (ik (aa.fH HS.out 3 rfl) HK.out)
 go_upto_region 1 with fail
 clear eT qU;have c10 := kS ((nX.length : Int) <= (4 : Int))
 have eT := (aa.z0 HS.out 5 rfl)
 go_upto_region 2 with fail
 clear eT;obtain ⟨QR, lH, _, nZ, _⟩ := info_parts dC;have C8 := qh (P := Try.prog) 38 9 .i64 Try.underlying38 lH 1 nZ (some ⟨Ba, 0, none⟩) nX.length nG 3 (by omega) (by omega);simp only [show ((3 : Int)).toNat = 3 from by omega] at C8
 obtain ⟨Zh, GL⟩ : ∃ A : Option Addr, A = (if nG = 3 then (some ⟨Ba, 0, none⟩) else ((some ⟨Ba, 0, none⟩) : Option Addr).map (·.add (3 * 1))) := ⟨_, rfl⟩
 obtain ⟨c13, Vj⟩ : ∃ c, c = nG - 3 := ⟨_, rfl⟩
 rw [<- GL, <- Vj] at C8;have HA12 := A_ GL;have Hc13 := A_ Vj;clear GL Vj;clear lH nZ;obtain ⟨QR, lH, _, nZ, _⟩ := info_parts dC;have CY := qh (P := Try.prog) 38 9 .i64 Try.underlying38 lH 1 nZ (some ⟨Bb, 0, none⟩) oN.length nY 3 (by omega) (by omega);simp only [show ((3 : Int)).toNat = 3 from by omega] at CY
 obtain ⟨A17, Vk⟩ : ∃ A : Option Addr, A = (if nY = 3 then (some ⟨Bb, 0, none⟩) else ((some ⟨Bb, 0, none⟩) : Option Addr).map (·.add (3 * 1))) := ⟨_, rfl⟩
 obtain ⟨c18, hc18⟩ : ∃ c, c = nY - 3 := ⟨_, rfl⟩
 rw [<- Vk, <- hc18] at CY;have HA17 := A_ Vk;have Hc18 := A_ hc18;clear Vk hc18;clear lH nZ;refine bS (n := 15) (S := fun w' => w'.cell? ⟨kp, 0, none⟩ = some (.slice (some ⟨Ba, 0, none⟩) nX.length nG) /\ w'.cell? ⟨kp, 1, none⟩ = some (.slice (some ⟨Bb, 0, none⟩) oN.length nY)) (ds := []) (bt 15 0) (by kernel_rfl) rfl rfl ⟨(aa.z0 (aa.drew HS.out) 5 rfl), (aa.z1 (aa.drew HS.out) 5 rfl)⟩ (fun hHeld => ?_);refine aH 0 19 1 ?_;refine aH 1 20 3 ?_;refine aH 2 21 7 ?_;refine aH 6 25 71 ?_;refine aH 7 26 199 ?_;refine aH 8 27 455 ?_;refine fq 3 22 463 hHeld ?_;refine aH 4 23 479 ?_;refine fq 9 28 991 hHeld ?_;refine aH 10 29 2015 ?_;refine gG 5 (some 24) 2047 (fun K hK => ?_);refine lI Try.func74 #[.slice Zh (nX.length - 3) c13] ?_
 with_reducible refine (Pw (aa.drew HS.out) 6 rfl 3 (by omega) HA12.out Hc13.out mF.out rfl (by omega)).mono ?_
 rintro e w2 ⟨ja, rfl, ho, hb⟩;refine ⟨_, rfl, ?_⟩;obtain ⟨JN, c15, rfl⟩ := Kd.ak ho;have ah := jN (aa.eG (aa.drew HS.out) hb (cO bQ HB) ho)
 replace HB : af (Below base w w2) := ⟨((aG HB.out)).trans (hb.mono (cO bQ HB))⟩
 replace HS := ah; clear ah ho hb;refine dh 24 hK ⟨(aa.z0 HS.out 5 rfl), (aa.z1 HS.out 5 rfl)⟩ (fun hHeld => ?_);refine gG 11 (some 30) 4095 (fun K hK => ?_);refine lI Try.func74 #[.slice A17 (oN.length - 3) c18] ?_
 with_reducible refine (Pw HS.out 7 rfl 3 (by omega) HA17.out Hc18.out qa.out rfl (by omega)).mono ?_
 rintro e w3 ⟨ja, rfl, ho, hb⟩;refine ⟨_, rfl, ?_⟩;obtain ⟨QS, c20, rfl⟩ := Kd.ak ho;have ah := jN (aa.eG HS.out hb (cO bQ HB) ho)
 replace HB : af (Below base w w3) := ⟨(HB.out).trans (hb.mono (cO bQ HB))⟩
 replace HS := ah; clear ah ho hb;refine dh 30 hK ⟨(aa.z0 HS.out 5 rfl), (aa.z1 HS.out 5 rfl)⟩ (fun hHeld => ?_);refine aH 12 31 8191 ?_;refine gG 13 (some 32) 16383 (fun K hK => ?_);refine wK 32 #[.slice JN l1.length c15, .slice QS l2.length c20, .slice none 0 0] 101 ?_;intro g21 hg w4 aA hb;have ah := jN (aa.je HS.out hg aA hb (cO bQ HB))
 replace HB : af (Below base w w4) := ⟨(HB.out).trans (hb.mono (cO bQ HB))⟩
 replace HS := ah; clear ah hg aA hb;refine dh 32 hK ⟨(aa.z0 HS.out 5 rfl), (aa.z1 HS.out 5 rfl)⟩ (fun hHeld => ?_);refine aH 14 5 32767 ?_;refine dL (by kernel_rfl) ?_;clear C8 CY
 go_upto_region 3 with fail
 have b22 := bV ((2 : Int) < (nX.length : Int));have b23 := bV (2 < nX.length);have b24 := bV ((2 : Int) < (oN.length : Int));have b25 := bV (2 < oN.length);refine bS (n := 15) (S := fun w' => w'.cell? ⟨kp, 0, none⟩ = some (.slice (some ⟨Ba, 0, none⟩) nX.length nG) /\ w'.cell? ⟨Ba, 2, none⟩ = some (.string x) /\ w'.cell? ⟨kp, 1, none⟩ = some (.slice (some ⟨Bb, 0, none⟩) oN.length nY) /\ w'.cell? ⟨Bb, 2, none⟩ = some (.string y)) (ds := []) (bt 15 0) (by kernel_rfl) rfl rfl ⟨(aa.z0 (aa.drew HS.out) 5 rfl), (iH (aa.sr (aa.drew HS.out) 6 rfl) Hx.out), (aa.z1 (aa.drew HS.out) 5 rfl), (iH (aa.sr (aa.drew HS.out) 7 rfl) Hy.out)⟩ (fun hHeld => ?_);refine aH 0 33 1 ?_;refine aH 1 34 3 ?_;refine aH 2 35 7 ?_;refine aH 3 36 15 ?_;refine aH 4 37 31 ?_;refine aH 8 41 287 ?_;refine aH 9 42 799 ?_;refine aH 10 43 1823 ?_;refine fq 5 38 1855 hHeld ?_;refine aH 6 39 1919 ?_;refine fq 7 40 2047 hHeld ?_;refine fq 11 44 4095 hHeld ?_;refine aH 12 45 8191 ?_;refine fq 13 46 16383 hHeld ?_;refine gG 14 (some 47) 32767 (fun K hK => ?_);have zO := yL (aa.gJ (aa.drew HS.out) [0, 1, 2, 3, 4, 5, 6, 7, 8, 9, 10, 11, 12, 13, 14] (by decide));refine lI Try.func126 #[bu tp, .int .i64 (i : Int), .string x, .string y] ?_
 with_reducible refine (uM.calls (i := i) (x := x) (y := y) (by omega) (by omega) (by omega) (by omega) base _ _ zO (cO bQ HB)).mono ?_
 rintro e w5 ⟨rfl, G7, G8, TD, SK, hs_, nD⟩;refine ⟨_, rfl, ?_⟩;rw [<- zM.out, <- zN.out] at hs_;have ah := jN hs_
 replace HB : af (Below base w w5) := ⟨((aG HB.out)).trans nD⟩
 replace HS := ah; clear ah hs_ nD zO;refine dh 47 hK ⟨(aa.z0 HS.out 5 rfl), (iH (aa.sr HS.out 6 rfl) Hx.out), (aa.z1 HS.out 5 rfl), (iH (aa.sr HS.out 7 rfl) Hy.out)⟩ (fun hHeld => ?_);refine dL (by kernel_rfl) ?_
 go_upto_region 4 with fail
 obtain ⟨QR, lH, _, nZ, _⟩ := info_parts dC;have hcut30 := nS (P := Try.prog) 38 9 .i64 Try.underlying38 lH (some ⟨Ba, 0, none⟩) nX.length nG 2 (by omega) (by omega) (aa.row HS.out 6 rfl).2.1;simp only [show ((2 : Int)).toNat = 2 from by omega] at hcut30;clear lH nZ;obtain ⟨QR, lH, _, nZ, _⟩ := info_parts dC;have hcut31 := nS (P := Try.prog) 38 9 .i64 Try.underlying38 lH (some ⟨Bb, 0, none⟩) oN.length nY 2 (by omega) (by omega) (aa.row HS.out 7 rfl).2.1;simp only [show ((2 : Int)).toNat = 2 from by omega] at hcut31;clear lH nZ;have zs0 := aa.z0 (aa.drew HS.out) 5 rfl;have jE := aa.f (aa.drew HS.out) 5 rfl 0;have Ox := aa.z1 (aa.drew HS.out) 5 rfl;have Oy := aa.f (aa.drew HS.out) 5 rfl 1;have zs0x := aa.z0 HS.out 5 rfl;have fs0x := aa.f HS.out 5 rfl 0;have zs1x := aa.z1 HS.out 5 rfl;have fs1x := aa.f HS.out 5 rfl 1;refine bS (n := 18) (S := fun w' => w'.cell? ⟨kp, 0, none⟩ = some (.slice (some ⟨Ba, 0, none⟩) nX.length nG) /\ w'.cell? ⟨kp, 1, none⟩ = some (.slice (some ⟨Bb, 0, none⟩) oN.length nY)) (ds := [14, 17]) (bt 18 0) (by kernel_rfl) rfl rfl ⟨(aa.z0 (aa.drew HS.out) 5 rfl), (aa.z1 (aa.drew HS.out) 5 rfl)⟩ (fun hHeld => ?_);refine aH 0 48 1 ?_;refine aH 1 49 3 ?_;refine aH 2 50 7 ?_;refine aH 3 51 15 ?_;refine aH 4 52 31 ?_;refine aH 7 55 159 ?_;refine aH 8 56 415 ?_;refine aH 9 57 927 ?_;refine fq 5 53 959 hHeld ?_;refine aH 6 54 1023 ?_;refine fq 10 58 2047 hHeld ?_;refine aH 11 59 4095 ?_;refine aH 12 60 8191 ?_;refine aH 13 61 16383 ?_;refine qz 14 none 32767 (fun K hK => ?_);refine fA (w1 := ?_) (by rfl) rfl ?_ ?_;rotate_left
 ·go_simp
  rfl
 refine hK.out _ _ ?_;clear hK K;refine aH 15 62 65535 ?_;refine aH 16 63 131071 ?_;refine qz 17 none 262143 (fun K hK => ?_);refine fA (w1 := ?_) (by rfl) rfl ?_ ?_;rotate_left
 ·go_simp
  rfl
 refine hK.out _ _ ?_;clear hK K;refine dL (by kernel_rfl) ?_;have ah := gq (World.drew (World.setCell (World.setCell w5 ⟨kp, 0, none⟩ (.slice (some ⟨Ba, 0, none⟩) 2 nG)) ⟨kp, 1, none⟩ (.slice (some ⟨Bb, 0, none⟩) 2 nY))) (AJ (aa.xU (AJ (aa.xS (aa.drew HS.out) 5 rfl (.slice (some ⟨Ba, 0, none⟩) 2 nG)) 6 rfl yF.out (by omega)) 5 rfl (.slice (some ⟨Bb, 0, none⟩) 2 nY)) 7 rfl Ah.out (by omega))
 replace HB : af (Below base w (World.drew (World.setCell (World.setCell w5 ⟨kp, 0, none⟩ (.slice (some ⟨Ba, 0, none⟩) 2 nG)) ⟨kp, 1, none⟩ (.slice (some ⟨Bb, 0, none⟩) 2 nY)))) := ⟨(((aG HB.out)).setCell (p := ⟨kp, 0, none⟩) (aa.ge (aa.drew HS.out) 5 rfl) _).setCell (p := ⟨kp, 1, none⟩) (aa.ge (aa.drew HS.out) 5 rfl) _⟩
 generalize World.drew (World.setCell (World.setCell w5 ⟨kp, 0, none⟩ (.slice (some ⟨Ba, 0, none⟩) 2 nG)) ⟨kp, 1, none⟩ (.slice (some ⟨Bb, 0, none⟩) 2 nY)) = w6 at ah HB ⊢;replace HS := ah; clear ah zs0 jE Ox Oy zs0x fs0x zs1x fs1x;clear hcut30 hcut31
 go_upto_region 5 with fail
 by_cases nN : oU.length = 0
 ·skip
  have hl0 : oU = [] := List.length_eq_zero_iff.1 nN;have SL := A_ hl0;clear hl0;have uo := A_ ((aa.gJ HS.out [5, 6, 7, 8, 9] (by decide)).Ol);have hbl := A_ (show decide (((NT.mk kp (.slice (some ⟨Ba, 0, none⟩) 2 nG) (.slice (some ⟨Bb, 0, none⟩) 2 nY) (.slice qQ oU.length qR) l3 l4 oU).erase.kids.length : Int) = 0) = true from decide_eq_true (by show ((NT.ax oU).length : Int) = 0; rw [aC, List.length_map]; omega))
  go_upto_region 8 with (first | (go_at_call 99; (with_reducible refine (cz.cK true hbl.out _ ?az).mono ?_); (case az => repeat (first | exact uo.out | (with_reducible refine Rd.drewN ?_ _) | (with_reducible refine Rd.drew ?_))); rintro e w' ⟨rfl, ⟨nd, rfl⟩⟩))
  generalize hW : World.drewN _ _ = w7
  have ah : af (aa w7 base [jM 101 tp G7 l5.length G8 TD l6.length SK (some iB) aJ.length fK, gK G7 G8 l5, gK TD SK l6, lX 74 (some iB) fK aJ, GA, jM 101 kp (iX Ba) 2 nG (iX Bb) 2 nY qQ oU.length qR, uw (iX Ba) 2 nG l3, uw (iX Bb) 2 nY l4, lX 74 qQ qR oU, (NT.aZ 101 74 oU), GD, L, gK JN c15 l1, gK QS c20 l2, jM 101 g21 JN l1.length c15 QS l2.length c20 none 0 0]) := ⟨by rw [<- hW]; exact aa.drewN HS.out _⟩
  replace HB : af (Below base w w7) := ⟨by rw [<- hW]; exact aj HB.out _⟩
  replace HS := ah; clear ah uo hbl hW
  obtain ⟨rn, hrn⟩ : ∃ r, r = NT.mk g21 (.slice JN l1.length c15) (.slice QS l2.length c20) (.slice none 0 0) l1 l2 [] := ⟨_, rfl⟩
  have Vl := A_ hrn
  have Vm : af (rn.p = g21) := ⟨by rw [hrn]; rfl⟩
  clear hrn;obtain ⟨D5, De⟩ := lL (aI aJ (i + 1) rn)
  have eT := (aa.z2 HS.out 0 rfl)
  go_wp2_with (first | ((with_reducible refine iK (N := 92) rfl ?_); refine Rt dZ 74 92 [g21] [bu g21] (Kd.aY (enc := bu) [g21]) HB.out (cO bQ HB) ?_; intro v33 w8 ho hb hg hn; obtain ⟨A34, c35, rfl⟩ : ∃ A c, v33 = .slice A 1 c := Kd.ak ho; have ah := jN (aa.nH HS.out (qH ho) hg hn); replace HB : af (Below base w w8) := ⟨hb⟩; replace HS := ah; clear ah ho hb hg hn; clear eT; have eT := (aa.z2 HS.out 0 rfl)) | (go_at_call 128; (with_reducible refine (Gf (ia := 3) (ib := 15) (i := (i + 1)) (r := rn) HS.out (by omega) rfl rfl Vm.out (by decide) (by omega) (cO bQ HB) (by omega) HB.out).mono ?_); rintro e w9 ⟨N7, c37, rfl, hs_, nD⟩; rw [<- De.out] at hs_; rw [<- De.out]; have ah := jN hs_; replace HB : af (Below base w w9) := ⟨nD⟩; replace HS := ah; clear ah hs_ nD; clear eT; have eT := (aa.z2 HS.out 0 rfl); have zs0 := aa.z2 HS.out 0 rfl; have jE := aa.f HS.out 0 rfl 2))
  have ah := gq (World.setCell w9 ⟨tp, 2, none⟩ (.slice N7 D5.length c37)) (aa.rW HS.out 0 rfl (.slice N7 D5.length c37))
  replace HB : af (Below base w (World.setCell w9 ⟨tp, 2, none⟩ (.slice N7 D5.length c37))) := ⟨(HB.out).setCell (p := ⟨tp, 2, none⟩) (aa.ge HS.out 0 rfl) _⟩
  generalize World.setCell w9 ⟨tp, 2, none⟩ (.slice N7 D5.length c37) = yn at ah HB ⊢;replace HS := ah; clear ah eT zs0 jE
  go_end0
  have HS2 := A_ (aa.Bz HS.out 74);clear HS;have HS := HS2;clear HS2;have hS := yL (aa.gJ HS.out [0, 1, 2, 3, 4, 5, 6, 7, 8, 9, 14, 12, 13, 16, 10, 11] (by decide))
  obtain ⟨k', hk'⟩ : ∃ k', k' = NT.mk kp (.slice (some ⟨Ba, 0, none⟩) 2 nG) (.slice (some ⟨Bb, 0, none⟩) 2 nY) (.slice qQ oU.length qR) l3 l4 oU := ⟨_, rfl⟩
  have hq := yj (k' := k') (r := rn) HK.out.1 (by rw [hk']; rfl);rw [<- De.out] at hq;refine ⟨rfl, NT.mk tp (.slice G7 l5.length G8) (.slice TD l6.length SK) (.slice N7 D5.length c37) l5 l6 (aI (aJ.set i k') (i + 1) rn), rfl, ?_, ?_, HB.out⟩
  ·rw [HRR.out]
   show PT.mk _ _ (NT.ax (aI (aJ.set i k') (i + 1) rn)) = _;rw [sW, hk', Vl.out];have Df := mF.out;subst Df;have Dh := qa.out;subst Dh;have Di := yF.out;subst Di;have Dj := Ah.out;subst Dj;have Dk := zM.out;subst Dk;have Dl := zN.out;subst Dl;have ex := Hx.out.2;have ey := Hy.out.2;subst ex;subst ey;unfold splitK;simp only [NT.erase, PT.keys, PT.vals, PT.kids, aC, List.map_take, List.map_drop, bq];have e0 := SL.out;subst e0;simp
  ·rw [NT.dH, xK rE.out, hk', Vl.out, NT.dH, NT.dH, <- UU.out, <- UW.out]
   rw [hk', Vl.out] at hq;rw [hq];unfold aa at hS;simp only [List.flatten_cons, List.flatten_nil, List.append_nil, List.cons_append, List.nil_append, List.append_assoc, NT.aZ] at hS ⊢;exact hS
 ·skip
  have hc3 : 3 <= oU.length := by have := HKK.out; omega
  have uo := A_ ((aa.gJ HS.out [5, 6, 7, 8, 9] (by decide)).Ol);have hbl := A_ (show decide (((NT.mk kp (.slice (some ⟨Ba, 0, none⟩) 2 nG) (.slice (some ⟨Bb, 0, none⟩) 2 nY) (.slice qQ oU.length qR) l3 l4 oU).erase.kids.length : Int) = 0) = false from decide_eq_false (by show ((NT.ax oU).length : Int) ≠ 0; rw [aC, List.length_map]; omega))
  go_upto_region 6 with (first | (go_at_call 99; (with_reducible refine (cz.cK false hbl.out _ ?az).mono ?_); (case az => repeat (first | exact uo.out | (with_reducible refine Rd.drewN ?_ _) | (with_reducible refine Rd.drew ?_))); rintro e w' ⟨rfl, ⟨nd, rfl⟩⟩))
  generalize hW : World.drewN _ _ = w7
  have ah : af (aa w7 base [jM 101 tp G7 l5.length G8 TD l6.length SK (some iB) aJ.length fK, gK G7 G8 l5, gK TD SK l6, lX 74 (some iB) fK aJ, GA, jM 101 kp (iX Ba) 2 nG (iX Bb) 2 nY qQ oU.length qR, uw (iX Ba) 2 nG l3, uw (iX Bb) 2 nY l4, lX 74 qQ qR oU, (NT.aZ 101 74 oU), GD, L, gK JN c15 l1, gK QS c20 l2, jM 101 g21 JN l1.length c15 QS l2.length c20 none 0 0]) := ⟨by rw [<- hW]; exact aa.drewN HS.out _⟩
  replace HB : af (Below base w w7) := ⟨by rw [<- hW]; exact aj HB.out _⟩
  replace HS := ah; clear ah uo hbl hW;obtain ⟨D5, De⟩ := lL (oU.drop 3);obtain ⟨Yy, Vn⟩ := lL (oU.take 3);obtain ⟨QR, lH, _, nZ, _⟩ := info_parts kZ;have zh := qh (P := Try.prog) 99 74 .i64 sO lH 1 nZ qQ oU.length qR 3 (by omega) (by omega);simp only [show ((3 : Int)).toNat = 3 from by omega] at zh
  obtain ⟨A35, Vo⟩ : ∃ A : Option Addr, A = (if qR = 3 then qQ else (qQ : Option Addr).map (·.add (3 * 1))) := ⟨_, rfl⟩
  obtain ⟨c36, Vp⟩ : ∃ c, c = qR - 3 := ⟨_, rfl⟩
  rw [<- Vo, <- Vp] at zh;have HA35 := A_ Vo;have Hc36 := A_ Vp;clear Vo Vp;clear lH nZ
  have eT := (aa.z2 HS.out 5 rfl)
  go_upto_region 7 with (first | (go_at_call 127; (with_reducible refine (Ud HS.out 8 rfl 3 (by omega) HA35.out Hc36.out De.out rfl (by omega)).mono ?_); rintro e w8 ⟨ja, rfl, ho, hb⟩; obtain ⟨Rj, Oq, wF⟩ := Kd.ak ho; rw [List.length_map] at wF; subst wF; have ah := jN (aa.wS HS.out hb (cO bQ HB) ho); replace HB : af (Below base w w8) := ⟨(HB.out).trans (hb.mono (cO bQ HB))⟩; replace HS := ah; clear ah ho hb; clear eT; have eT := (aa.z2 HS.out 5 rfl); have zs0 := aa.z2 HS.out 14 rfl; have jE := aa.f HS.out 14 rfl 2))
  have ah := gq (World.setCell w8 ⟨g21, 2, none⟩ (.slice Rj D5.length Oq)) (aa.rW HS.out 14 rfl (.slice Rj D5.length Oq))
  replace HB : af (Below base w (World.setCell w8 ⟨g21, 2, none⟩ (.slice Rj D5.length Oq))) := ⟨(HB.out).setCell (p := ⟨g21, 2, none⟩) (aa.ge HS.out 14 rfl) _⟩
  generalize World.setCell w8 ⟨g21, 2, none⟩ (.slice Rj D5.length Oq) = w9 at ah HB ⊢;replace HS := ah; clear ah eT zs0 jE;clear zh;obtain ⟨QR, lH, _, nZ, _⟩ := info_parts kZ;have zk := nS (P := Try.prog) 99 74 .i64 sO lH qQ oU.length qR 3 (by omega) (by omega) (aa.fH HS.out 8 rfl).2.1;simp only [show ((3 : Int)).toNat = 3 from by omega] at zk;clear lH nZ
  have eT := (aa.z2 HS.out 5 rfl)
  have zs0 := aa.z2 HS.out 5 rfl;have jE := aa.f HS.out 5 rfl 2
  go_upto_region 8 with fail
  have ah := gq (World.setCell w9 ⟨kp, 2, none⟩ (.slice qQ 3 qR)) (FW (aa.rW HS.out 5 rfl (.slice qQ 3 qR)) 8 rfl Vn.out (by omega))
  replace HB : af (Below base w (World.setCell w9 ⟨kp, 2, none⟩ (.slice qQ 3 qR))) := ⟨(HB.out).setCell (p := ⟨kp, 2, none⟩) (aa.ge HS.out 5 rfl) _⟩
  generalize World.setCell w9 ⟨kp, 2, none⟩ (.slice qQ 3 qR) = yn at ah HB ⊢;replace HS := ah; clear ah eT zs0 jE;clear zk
  have QT : af (NT.aZ 101 74 oU = NT.aZ 101 74 Yy ++ NT.aZ 101 74 D5) := ⟨by rw [Vn.out, De.out, <- gZ, List.take_append_drop]⟩
  have ah : af (aa yn base [jM 101 tp G7 l5.length G8 TD l6.length SK (some iB) aJ.length fK, gK G7 G8 l5, gK TD SK l6, lX 74 (some iB) fK aJ, GA, jM 101 kp (iX Ba) 2 nG (iX Bb) 2 nY qQ 3 qR, uw (iX Ba) 2 nG l3, uw (iX Bb) 2 nY l4, WW 74 qQ 3 qR Yy, (NT.aZ 101 74 Yy), GD, L, gK JN c15 l1, gK QS c20 l2, jM 101 g21 JN l1.length c15 QS l2.length c20 Rj D5.length Oq, lX 74 Rj Oq D5, (NT.aZ 101 74 D5)]) := ⟨aa.cut HS.out 9 (congrArg some QT.out)⟩
  replace HB : af (Below base w yn) := ⟨HB.out⟩
  replace HS := ah; clear ah
  obtain ⟨rn, hrn⟩ : ∃ r, r = NT.mk g21 (.slice JN l1.length c15) (.slice QS l2.length c20) (.slice Rj D5.length Oq) l1 l2 D5 := ⟨_, rfl⟩
  have Vl := A_ hrn
  have Vm : af (rn.p = g21) := ⟨by rw [hrn]; rfl⟩
  clear hrn;obtain ⟨XQ, Vq⟩ := lL (aI aJ (i + 1) rn)
  have eT := (aa.z2 HS.out 0 rfl)
  go_wp2_with (first | ((with_reducible refine iK (N := 92) rfl ?_); refine Rt dZ 74 92 [g21] [bu g21] (Kd.aY (enc := bu) [g21]) HB.out (cO bQ HB) ?_; intro v41 Ab ho hb hg hn; obtain ⟨MI, MJ, rfl⟩ : ∃ A c, v41 = .slice A 1 c := Kd.ak ho; have ah := jN (aa.nH HS.out (qH ho) hg hn); replace HB : af (Below base w Ab) := ⟨hb⟩; replace HS := ah; clear ah ho hb hg hn; clear eT; have eT := (aa.z2 HS.out 0 rfl)) | (go_at_call 128; (with_reducible refine (Gf (ia := 3) (ib := 17) (i := (i + 1)) (r := rn) HS.out (by omega) rfl rfl Vm.out (by decide) (by omega) (cO bQ HB) (by omega) HB.out).mono ?_); rintro e Af ⟨XR, WB, rfl, hs_, nD⟩; rw [<- Vq.out] at hs_; rw [<- Vq.out]; have ah := jN hs_; replace HB : af (Below base w Af) := ⟨nD⟩; replace HS := ah; clear ah hs_ nD; clear eT; have eT := (aa.z2 HS.out 0 rfl); have zs0 := aa.z2 HS.out 0 rfl; have jE := aa.f HS.out 0 rfl 2))
  have ah := gq (World.setCell Af ⟨tp, 2, none⟩ (.slice XR XQ.length WB)) (aa.rW HS.out 0 rfl (.slice XR XQ.length WB))
  replace HB : af (Below base w (World.setCell Af ⟨tp, 2, none⟩ (.slice XR XQ.length WB))) := ⟨(HB.out).setCell (p := ⟨tp, 2, none⟩) (aa.ge HS.out 0 rfl) _⟩
  generalize World.setCell Af ⟨tp, 2, none⟩ (.slice XR XQ.length WB) = Fu at ah HB ⊢;replace HS := ah; clear ah eT zs0 jE
  go_end0
  have hS := yL (aa.gJ HS.out [0, 1, 2, 3, 4, 5, 6, 7, 8, 9, 14, 12, 13, 15, 16, 10, 11] (by decide))
  obtain ⟨k', hk'⟩ : ∃ k', k' = NT.mk kp (.slice (some ⟨Ba, 0, none⟩) 2 nG) (.slice (some ⟨Bb, 0, none⟩) 2 nY) (.slice qQ 3 qR) l3 l4 Yy := ⟨_, rfl⟩
  have hq := yj (k' := k') (r := rn) HK.out.1 (by rw [hk']; rfl);rw [<- Vq.out] at hq;refine ⟨rfl, NT.mk tp (.slice G7 l5.length G8) (.slice TD l6.length SK) (.slice XR XQ.length WB) l5 l6 (aI (aJ.set i k') (i + 1) rn), rfl, ?_, ?_, HB.out⟩
  ·rw [HRR.out]
   show PT.mk _ _ (NT.ax (aI (aJ.set i k') (i + 1) rn)) = _;rw [sW, hk', Vl.out];have Df := mF.out;subst Df;have Dh := qa.out;subst Dh;have Di := yF.out;subst Di;have Dj := Ah.out;subst Dj;have Dk := zM.out;subst Dk;have Dl := zN.out;subst Dl;have Vr := De.out;subst Vr;have el33 := Vn.out;subst el33;have ex := Hx.out.2;have ey := Hy.out.2;subst ex;subst ey;unfold splitK;simp only [NT.erase, PT.keys, PT.vals, PT.kids, aC, List.map_take, List.map_drop, bq]
  ·rw [NT.dH, xK rE.out, hk', Vl.out, NT.dH, NT.dH, <- UU.out, <- UW.out]
   rw [hk', Vl.out] at hq;rw [hq];unfold aa at hS;simp only [List.flatten_cons, List.flatten_nil, List.append_nil, List.cons_append, List.nil_append, List.append_assoc, NT.aZ] at hS ⊢;exact hS
open Go.Proofs.Ytoddejmlcnbdmaa.Pure (kK aX)
theorem Mi (K : List ByteArray) (key : ByteArray) (hK : K.length <= 1000) (hs : Pure.DC K) : ∃ k, ed.f k K key = some (dG key K : Int) := by
 obtain ⟨b, h⟩ := Pure.Ie K key (by omega) hs;exact ⟨b, h b (Nat.le_refl _)⟩
theorem Px.calls (key val : ByteArray) : ∀ (n : Nat) (t : NT), t.erase.big <= n -> kV t.erase -> kK (aX t.erase) -> ∀ (base : Nat) (L : List Ck) (w : World), Sat w base (t.dH 101 74 ++ L) -> base <= w.heap.size ->
  Calls Try.prog 108 #[bu t.p, .string key, .string val] w (WR w base 101 74 t L (lT n t.erase key val)) := by
 intro n
 induction n with
 | zero =>
  intro t hb;exact absurd t.erase.fB (by omega)
 | succ n ih =>
  intro t hbig hbd hsrt base L w hs hbs;have hrd := jc hs.left;have hsk : Pure.DC t.erase.keys := Pure.oG ((Pure.ku (Pure.bA hbd)).2 hsrt)
  have hsc : ∀ (s : PT) (j : Nat), t.erase.kids[j]? = some s -> j <= t.erase.keys.length -> kK (aX s) := fun s j hx hj => Pure.lC hbd hsrt hx hj
  clear hsrt;obtain ⟨⟨ho1, ho2, ho3⟩, oO⟩ := bJ.1 hbd;have h0 := fF hs
  obtain ⟨R, hR⟩ : ∃ R, R = lT (n + 1) t.erase key val := ⟨_, rfl⟩
  rw [<- hR]
  cases t with | mk tp yC yD yE tks tvs aJ =>
  have e0 : (NT.mk tp yC yD yE tks tvs aJ).erase = .mk tks tvs (NT.ax aJ) := rfl;rw [e0] at hrd hbig hbd ho1 ho2 ho3 oO hR hsk hsc;replace hrd : Rd 101 w tp (PT.mk tks tvs (NT.ax aJ)) := hrd;unfold jV at h0;simp only [NT.keys, NT.vals, NT.kids, NT.p, NT.kv, NT.vv, NT.cv] at h0 ⊢;simp only [PT.keys, PT.vals, PT.kids] at ho1 ho2 ho3 oO hsk hsc;have ZB := A_ hsc;obtain ⟨kf, Vs⟩ := Mi tks key (by omega) hsk;clear hsk hsc
  obtain ⟨i, hi⟩ : ∃ i, dG key tks = i := ⟨_, rfl⟩
  rw [lT] at hR;simp only [PT.keys, PT.vals, PT.kids] at hR;simp only [hi] at hR;rw [hi] at Vs;have z8 := A_ Vs;clear Vs;have hle : i <= tks.length := by rw [<- hi]; exact lS key tks
  have HM := A_ (show (PT.mk tks tvs (NT.ax aJ)).keys.length <= 1000000000000 by show tks.length <= _; omega);have HI := A_ (show dG key (PT.mk tks tvs (NT.ax aJ)).keys = i from hi);have vQ := A_ hrd;have bQ := A_ hbs;have Fv : tvs.length <= 4 := by omega
  have Dy := A_ ho1;have hi4 : i <= 4 := by omega
  obtain ⟨jF, fG, rfl⟩ := Kd.ak (h0.sr 1 rfl);obtain ⟨jK, fM, rfl⟩ := Kd.ak (h0.sr 2 rfl);obtain ⟨qB, fK, rfl, hlc, hC⟩ := dz (h0.q 3 rfl)
  obtain ⟨GC, U5⟩ : ∃ G, G = NT.aZ 101 74 aJ := ⟨_, rfl⟩
  rw [<- U5] at h0;have HS := A_ h0;have SF := A_ U5;have HRW := A_ (aa.row h0 1 rfl);have hz0_ := aa.z0 h0 0 rfl;clear h0 U5 hrd hs hi hbs
  cases hb : jg tks i key with
  | true =>
   have JM := A_ (show eH.f tks (i : Int) key = some true from by rw [Pure.xN, hb]);rw [if_pos hb] at hR;have HR := A_ hR;have hlt : i < tvs.length := by have := jQ hb; omega
   obtain ⟨gv, _, ev, hgv, _, _⟩ := Kd.rq (HS.out.sr 2 rfl) (by omega);obtain rfl : jK = some ⟨gv, 0, none⟩ := by injection ev
   have Zm := A_ hgv;have hz1 := HS.out.z 0 rfl 1;have hcv := BN (HS.out.sr 2 rfl) i hlt;have hfv := fZ (HS.out.sr 2 rfl) (by omega) i;have QB := bV (0 <= (i : Int));have QC := bV ((i : Int) < (tvs.length : Int));have Rh : (i < tvs.length) = True := eq_true hlt;clear hb hR ev hgv ho1 ho3 oO hlc hC hbig hbd e0;go_enter Try.func108, Try.ntmps108
   go_wp2_with (first | (go_at_call 73; (with_reducible refine (ed.calls kf _ _ tks key (i : Int) _ ?az ?bW z8.out).mono ?_); (case az => repeat (first | exact HRW.out.2.2 | (with_reducible refine Kd.dB ?_ _) | (with_reducible refine Kd.gD ?_))); (case bW => exact HRW.out.2.1); rintro e w1 ⟨rfl, ⟨nd, rfl⟩⟩) | (go_at_call 101; (with_reducible refine (eH.calls _ _ tks (i : Int) key true _ ?az ?bW JM.out).mono ?_); (case az => repeat (first | exact HRW.out.2.2 | (with_reducible refine Kd.dB ?_ _) | (with_reducible refine Kd.gD ?_))); (case bW => exact HRW.out.2.1); rintro e w1 ⟨rfl, ⟨nd, rfl⟩⟩))
   go_end0
   refine ⟨rfl, NT.mk tp (.slice jF tks.length fG) (.slice (some ⟨gv, 0, none⟩) tvs.length fM) (.slice qB aJ.length fK) tks (tvs.set i val) aJ, rfl, ?_, ?_, ?_⟩
   ·rw [HR.out]
    rfl
   ·have hS0 := fun m => aa.BI (aa.drewN HS.out m) 2 rfl i val
    simp only [List.length_set] at hS0;refine gV ?_;unfold jV;simp only [NT.keys, NT.vals, NT.kids, NT.p, NT.kv, NT.vv, NT.cv];rw [<- SF.out];exact hS0 _
   ·exact (aj (Below.refl base w) _).setCell (p := ⟨gv, i, none⟩) Zm.out _
  | false =>
   have JM := A_ (show eH.f tks (i : Int) key = some false from by rw [Pure.xN, hb]);rw [if_neg (by rw [hb]; decide)] at hR
   by_cases h0 : aJ.length = 0
   ·rw [if_pos (by rw [aC, List.length_map]; exact h0)] at hR
    have HR := A_ hR;have hbl := A_ (show decide ((((PT.mk tks tvs (NT.ax aJ)).kids.length : Nat) : Int) = 0) = true from decide_eq_true (by show ((NT.ax aJ).length : Int) = 0; rw [aC, List.length_map]; omega));have DV := A_ (show i <= tks.length /\ tks.length <= 1000000000000 by omega);have HL2 := A_ (show i <= tvs.length /\ tvs.length <= 1000000000000 by omega);clear hb hR ho1 ho3 oO hlc hC hbig hbd e0 h0;go_enter Try.func108, Try.ntmps108
    go_upto_region 6 with (first | (go_at_call 73; (with_reducible refine (ed.calls kf _ _ tks key (i : Int) _ ?az ?bW z8.out).mono ?_); (case az => repeat (first | exact HRW.out.2.2 | (with_reducible refine Kd.dB ?_ _) | (with_reducible refine Kd.gD ?_))); (case bW => exact HRW.out.2.1); rintro e w1 ⟨rfl, ⟨nd, rfl⟩⟩) | (go_at_call 101; (with_reducible refine (eH.calls _ _ tks (i : Int) key false _ ?az ?bW JM.out).mono ?_); (case az => repeat (first | exact HRW.out.2.2 | (with_reducible refine Kd.dB ?_ _) | (with_reducible refine Kd.gD ?_))); (case bW => exact HRW.out.2.1); rintro e w1 ⟨rfl, ⟨nd, rfl⟩⟩) | (go_at_call 99; (with_reducible refine (cz.cK true hbl.out _ ?az).mono ?_); (case az => repeat (first | exact vQ.out | (with_reducible refine Rd.drewN ?_ _) | (with_reducible refine Rd.drew ?_))); rintro e w' ⟨rfl, ⟨nd, rfl⟩⟩))
    generalize hW : World.drewN _ _ = w2
    have ah : af (aa w2 base [jM 101 tp jF tks.length fG jK tvs.length fM qB aJ.length fK, gK jF fG tks, gK jK fM tvs, lX 74 qB fK aJ, GC, L]) := ⟨by rw [<- hW]; exact aa.drewN HS.out _⟩
    have bT : af (Below base w w2) := ⟨by rw [<- hW]; exact aj (Below.refl base w) _⟩
    clear HS hW;have HS := ah;have HB := bT;clear ah bT;have zJ := A_ (show aa w2 base ([.box 101 tp #[.slice jF tks.length fG, .slice jK tvs.length fM, .slice qB aJ.length fK]] :: [txt (.slice jF tks.length fG) tks] :: [txt (.slice jK tvs.length fM) tvs] :: [lX 74 qB fK aJ, GC, L]) from HS.out)
    go_wp2_with (first | (go_at_call 126; (with_reducible refine (uM.calls (i := i) (x := key) (y := val) DV.out.1 HL2.out.1 DV.out.2 HL2.out.2 base _ _ zJ.out (cO bQ HB)).mono ?_); rintro e w3 ⟨rfl, GX, GY, GZ, G5, hs_, nD⟩; clear HS zJ; have bT := A_ (HB.out.trans nD); clear HB; have HB := bT; have HS := A_ hs_; clear hs_ nD bT))
    go_end0
    refine ⟨rfl, NT.mk tp (.slice GX (aI tks i key).length GY) (.slice GZ (aI tvs i val).length G5) (.slice qB aJ.length fK) (aI tks i key) (aI tvs i val) aJ, rfl, ?_, ?_, HB.out⟩
    ·rw [HR.out]
     rfl
    ·refine gV ?_
     unfold jV;simp only [NT.keys, NT.vals, NT.kids, NT.p, NT.kv, NT.vv, NT.cv];rw [<- SF.out];exact HS.out
   ·have hkl : aJ.length = tks.length + 1 := by
     rcases ho3 with h | h
     ·rw [aC, List.length_map] at h; exact absurd h h0
     ·rw [aC, List.length_map] at h; exact h
    obtain ⟨s, hsx⟩ : ∃ s, aJ[i]? = some s := ⟨aJ[i], List.getElem?_eq_getElem (by omega)⟩
    have hse : (NT.ax aJ)[i]? = some s.erase := by rw [aC, List.getElem?_map, hsx]; rfl
    rw [if_neg (by rw [aC, List.length_map]; exact h0)] at hR;simp only [hse] at hR;have hsb : kV s.erase := oO _ (List.mem_of_getElem? hse)
    have hsg : s.erase.big <= n := by
     have := PT.gH (t := PT.mk tks tvs (NT.ax aJ)) hse;omega
    have hbl := A_ (show decide ((((PT.mk tks tvs (NT.ax aJ)).kids.length : Nat) : Int) = 0) = false from decide_eq_false (by show ((NT.ax aJ).length : Int) ≠ 0; rw [aC, List.length_map]; omega));have HR := A_ hR
    obtain ⟨SE, Zn⟩ : ∃ x, x = s.erase := ⟨_, rfl⟩
    have Fx := A_ hsb;have WC := A_ hse;have Zo := A_ hsg;have rE := A_ hsx;have KT := A_ oO;have hil : i < aJ.length := (List.getElem?_eq_some_iff.1 hsx).1;have hcl : aJ.length <= 5 := by omega
    have xu := A_ hkl;have Yx := A_ (show i <= tks.length /\ tks.length <= 4 by omega);clear hb hR ho1 ho3 oO hlc hC hbig hbd e0 h0 hse hsb hsg hkl Zn;go_enter Try.func108, Try.ntmps108
    go_upto_region 1 with (first | (go_at_call 73; (with_reducible refine (ed.calls kf _ _ tks key (i : Int) _ ?az ?bW z8.out).mono ?_); (case az => repeat (first | exact HRW.out.2.2 | (with_reducible refine Kd.dB ?_ _) | (with_reducible refine Kd.gD ?_))); (case bW => exact HRW.out.2.1); rintro e w1 ⟨rfl, ⟨nd, rfl⟩⟩) | (go_at_call 101; (with_reducible refine (eH.calls _ _ tks (i : Int) key false _ ?az ?bW JM.out).mono ?_); (case az => repeat (first | exact HRW.out.2.2 | (with_reducible refine Kd.dB ?_ _) | (with_reducible refine Kd.gD ?_))); (case bW => exact HRW.out.2.1); rintro e w1 ⟨rfl, ⟨nd, rfl⟩⟩) | (go_at_call 99; (with_reducible refine (cz.cK false hbl.out _ ?az).mono ?_); (case az => repeat (first | exact vQ.out | (with_reducible refine Rd.drewN ?_ _) | (with_reducible refine Rd.drew ?_))); rintro e w' ⟨rfl, ⟨nd, rfl⟩⟩))
    generalize hW : World.drewN _ _ = w2
    have ah : af (aa w2 base [jM 101 tp jF tks.length fG jK tvs.length fM qB aJ.length fK, gK jF fG tks, gK jK fM tvs, lX 74 qB fK aJ, GC, L]) := ⟨by rw [<- hW]; exact aa.drewN HS.out _⟩
    have bT : af (Below base w w2) := ⟨by rw [<- hW]; exact aj (Below.refl base w) _⟩
    clear HS hW vQ hbl;have HS := ah;have HB := bT;clear ah bT;obtain ⟨iB, rfl, Rf⟩ := wO (aa.fH HS.out 3 rfl).2.2 (i : Int) (by omega) (by omega);rw [show bO 0 (aJ.map NT.p) (i : Int) = s.p by unfold bO; rw [Int.toNat_natCast, List.getD_eq_getElem?_getD, List.getElem?_map, hsx]; rfl, Int.toNat_natCast] at Rf;have hz2 := HS.out.z 0 rfl 2;have QB := bV (0 <= (i : Int));have QC := bV ((i : Int) < (aJ.length : Int));have Rh : (i < aJ.length) = True := eq_true hil
    have HT : af (Sat w2 base ((NT.mk tp (.slice jF tks.length fG) (.slice jK tvs.length fM) (.slice (some iB) aJ.length fK) tks tvs aJ).dH 101 74 ++ L)) := ⟨by
     refine gV ?_;unfold jV;simp only [NT.keys, NT.vals, NT.kids, NT.p, NT.kv, NT.vv, NT.cv];rw [<- SF.out]
     exact HS.out⟩
    clear HS SF hsx
    obtain ⟨t0, ht0⟩ : ∃ t0, t0 = NT.mk tp (.slice jF tks.length fG) (.slice jK tvs.length fM) (.slice (some iB) aJ.length fK) tks tvs aJ := ⟨_, rfl⟩
    have HT0 := A_ ht0;rw [<- ht0] at HT
    have MH : af (t0.kids[i]? = some s) := ⟨by rw [ht0]; exact rE.out⟩
    clear ht0
    go_upto_region 2 with (first | (go_at_call 108; (with_reducible refine (ih s Zo.out Fx.out (ZB.out _ i WC.out Yx.out.1) base (t0.hole 101 74 i L) _ (HT.out.perm (sU L MH.out)) (cO bQ HB)).mono ?_); rintro e w3 ⟨rfl, s', hsp, o7, hs', hb'⟩))
    have Dc := mY n s.erase key val Fx.out;rw [<- o7] at Dc
    cases s' with | mk sp TC Ww Wx SG Wy Wz =>
    obtain rfl : sp = s.p := hsp
    obtain ⟨s', hs0⟩ : ∃ s', s' = NT.mk s.p TC Ww Wx SG Wy Wz := ⟨_, rfl⟩
    rw [<- hs0] at o7 hs' Dc;have hsp : s'.p = s.p := by rw [hs0]; rfl
    have NY := A_ hs0;have hT1 : Sat w3 base ((t0.eQ i s').dH 101 74 ++ L) := hs'.perm (BH L MH.out hsp);have hK1 : (t0.eQ i s').kids[i]? = some s' := by rw [HT0.out]; exact (qG rE.out).1
    have hE1 : (t0.eQ i s').erase = .mk tks tvs ((NT.ax aJ).set i s'.erase) := by rw [mX, HT0.out]; rfl
    have HB1 := A_ (HB.out.trans hb');have hbs1 : base <= w3.heap.size := Nat.le_trans bQ.out (Below.size HB1.out)
    have XF : Sat w3 base ((NT.mk tp (.slice jF tks.length fG) (.slice jK tvs.length fM) (.slice (some iB) aJ.length fK) tks tvs (aJ.set i s')).dH 101 74 ++ L) := by
     rw [HT0.out] at hT1;exact hT1
    have hG := rO (t := NT.mk tp (.slice jF tks.length fG) (.slice jK tvs.length fM) (.slice (some iB) aJ.length fK) tks tvs (aJ.set i s')) (k := s') (i := i) (qG rE.out).1 XF;rw [hs0] at hG;unfold xL at hG;simp only [NT.keys, NT.vals, NT.kids, NT.p, NT.kv, NT.vv, NT.cv] at hG
    obtain ⟨lk, hlk⟩ : ∃ l, l = SG.length := ⟨_, rfl⟩
    have hl5 : lk <= 5 := by
     have := Dc.1.2.1;rw [hs0] at this;rw [hlk];exact this
    have HE := A_ (And.intro o7 (And.intro hsp (And.intro Dc (And.intro hT1 (And.intro hK1 (And.intro hE1 hlk))))));clear hG hs0 Dc hT1 XF hK1 hE1 o7 hs' hb' hlk HT hz2 Rf
    by_cases h5 : 4 < lk
    ·skip
     have U7 := HE.out.2.2.1.1;unfold One at U7;rw [aU, mD, bE] at U7;have hll := HE.out.2.2.2.2.2.2;have hsl : lk = s'.keys.length := by rw [hll, NY.out]; rfl
     have hC := wB.calls (t0.eQ i s') s' i HE.out.2.2.2.2.1 (by omega) (by omega) U7.1 (by omega) (by omega) (by rw [HT0.out]; exact Yx.out.1) (by rw [HT0.out]; show tks.length <= _; omega) (by rw [HT0.out]; exact Dy.out) (by rw [HT0.out]; show (aJ.set i s').length <= _; rw [List.length_set]; omega) base L w3 HE.out.2.2.2.1 (cO bQ HB1);rw [show (t0.eQ i s').p = tp by rw [HT0.out]; rfl] at hC
     go_wp2_with (first | (go_at_call 109; (with_reducible refine hC.mono ?_); rintro e w4 ⟨rfl, t2, ht1, ht2, ht3, Fy⟩))
     go_end0
     refine ⟨rfl, t2, ?_, ?_, ht3, HB1.out.trans Fy⟩
     ·rw [ht1, HT0.out]
      rfl
     ·rw [ht2, HE.out.2.2.2.2.2.1, BO, HR.out, <- HE.out.1, if_pos (by show 4 < s'.erase.keys.length; rw [aU]; omega)]
    ·skip
     have hll := HE.out.2.2.2.2.2.2;have hsl : lk = s'.keys.length := by rw [hll, NY.out]; rfl
     have hC := zR.calls (t0.eQ i s') s' i HE.out.2.2.2.2.1 (by omega) (by rw [HT0.out]; show (aJ.set i s').length <= _; rw [List.length_set]; omega) base L w3 HE.out.2.2.2.1 (cO bQ HB1);rw [show (t0.eQ i s').p = tp by rw [HT0.out]; rfl] at hC;have HC := A_ hC;clear hC
     go_wp2_with (first | (go_at_call 109; (with_reducible refine HC.out.mono ?_); rintro e w4 ⟨rfl, rfl⟩))
     go_end0
     refine ⟨rfl, t0.eQ i s', by rw [HT0.out]; rfl, ?_, HE.out.2.2.2.1, HB1.out⟩;rw [HE.out.2.2.2.2.2.1, HR.out, <- HE.out.1, if_neg (by show ¬ 4 < s'.erase.keys.length; rw [aU]; omega)]
open Go.Proofs.Ytoddejmlcnbdmaa.Pure (kK aX)
theorem Nn.calls (t : NT) (key val : ByteArray) (hbd : kV t.erase) (XH : kK (aX t.erase)) (base : Nat) (L : List Ck) (w : World) (hs : Sat w base (t.dH 101 74 ++ L)) (hbs : base <= w.heap.size) :
  Calls Try.prog 80 #[bu t.p, .string key, .string val] w (WP w base 101 74 L (pz t.erase key val)) := by
 have bQ := A_ hbs;have XM := A_ hbd;have hC := Px.calls key val t.erase.big t (Nat.le_refl _) hbd XH base L w hs hbs
 obtain ⟨R, hR⟩ : ∃ R, R = pz t.erase key val := ⟨_, rfl⟩
 rw [<- hR];unfold pz at hR;have HR := A_ hR;have QJ := mY t.erase.big t.erase key val hbd;generalize lT t.erase.big t.erase key val = P1 at hC hR QJ HR
 obtain ⟨tp, htp⟩ : ∃ p, t.p = p := ⟨_, rfl⟩
 rw [htp] at hC ⊢;have SH := A_ htp;clear hR hbd hs hbs htp XH;go_enter Try.func80, Try.ntmps80
 go_upto_region 2 with (first | (go_at_call 108; (with_reducible refine hC.mono ?_); rintro e w1 ⟨rfl, t1, ht1, ht2, ht3, Fy⟩))
 rw [SH.out] at ht1
 cases t1 with | mk p1 Vb SI rD uy vs1 cs1 =>
 have ht1 : p1 = tp := ht1;subst ht1;obtain ⟨zG, ck1, Vd⟩ := Kd.ak ((fF ht3).sr 1 rfl);have Vd : Vb = .slice zG uy.length ck1 := Vd;subst Vd
 obtain ⟨lk, hlk⟩ : ∃ n, uy.length = n := ⟨_, rfl⟩
 have eT : w1.cell? ⟨p1, 0, none⟩ = some (.slice zG lk ck1) := by rw [<- hlk]; exact (fF ht3).z0 0 rfl
 obtain ⟨t1, ht0⟩ : ∃ t1, t1 = NT.mk p1 (.slice zG uy.length ck1) SI rD uy vs1 cs1 := ⟨_, rfl⟩
 rw [<- ht0] at ht2 ht3;have hk1 : t1.keys.length = lk := by rw [ht0]; exact hlk
 have QK : t1.p = p1 := by rw [ht0]; rfl
 have HT := A_ (And.intro ht2 (And.intro hk1 QK));rw [<- ht2] at QJ;have Ve := A_ QJ;have hl5 : lk <= 5 := by have := QJ.1.2.1; rw [aU] at this; omega
 have HB := A_ Fy;have HS := A_ (Ce ht3);have JB := A_ ht3;clear ht0 hk1 QK ht2 ht3 Fy hlk QJ hC
 by_cases h4 : 4 < lk
 ·have ct := kS ((lk : Int) <= (4 : Int))
  go_upto_region 4 with fail
  clear eT JB
  go_upto_region 5 with (first | ((with_reducible refine iK (N := 20) rfl ?_); refine Rt dZ 74 20 [p1] [bu p1] (Kd.aY (enc := bu) [p1]) HB.out (cO bQ HB) ?_; intro v1 w2 ho hb hg hn; obtain ⟨A2, c3, rfl⟩ : ∃ A c, v1 = .slice A 1 c := Kd.ak ho; have ah := jN (aa.nH HS.out (qH ho) hg hn); replace HB : af (Below base w w2) := ⟨hb⟩; replace HS := ah; clear ah ho hb hg hn) | (refine jl 22 #[.slice none 0 0, .slice none 0 0, .slice A2 1 c3] 101 ?_; intro g4 hg w3 aA hb; have ah := jN (aa.je HS.out hg aA hb (cO bQ HB)); replace HB : af (Below base w w3) := ⟨(HB.out).trans (hb.mono (cO bQ HB))⟩; replace HS := ah; clear ah hg aA hb))
  have hT : Sat w3 base ((NT.mk g4 (.slice none 0 0) (.slice none 0 0) (.slice A2 1 c3) [] [] [t1]).dH 101 74 ++ L) := Mf (by rw [HT.out.2.2]; exact HS.out);have HT2 := A_ hT;have hC := wB.calls (NT.mk g4 (.slice none 0 0) (.slice none 0 0) (.slice A2 1 c3) [] [] [t1]) t1 0 rfl (by have := HT.out.2.1; omega) (by have := HT.out.2.1; omega) (by have := Ve.out.1.1; rw [aU, mD] at this; exact this) (by have := Ve.out.1.2.2; rw [aU, bE] at this; have := HT.out.2.1; omega) (by have := Ve.out.1.2.2; rw [aU, bE] at this; have := HT.out.2.1; omega) (Nat.le_refl _) (Nat.zero_le _) rfl (show (1 : Nat) <= 1001 by decide) base L w3 hT (cO bQ HB);clear hT;replace hC : Calls Try.prog 109 #[bu g4, .int .i64 0] w3 (WR w3 base 101 74 _ L _) := hC
  go_wp2_with (first | (go_at_call 109; (with_reducible refine hC.mono ?_); rintro e w9 ⟨rfl, t2, hu1, hu2, hu3, Zu⟩))
  have hu1 : t2.p = g4 := hu1;rw [<- hu1];go_ret;refine ⟨t2, rfl, ?_, hu3, HB.out.trans Zu⟩;rw [hu2, HR.out, <- HT.out.1, aU, HT.out.2.1, if_pos h4];rfl
 ·have ct := lQ ((lk : Int) <= (4 : Int))
  go_wp2_with fail
  rw [<- HT.out.2.2];go_ret;refine ⟨t1, rfl, ?_, JB.out, HB.out⟩;rw [HR.out, <- HT.out.1, aU, HT.out.2.1, if_neg h4]
end Go.Proofs.Ytoddejmlcnbdmaa.Tree
namespace Go.Proofs.Ytoddejmlcnbdmaa.Fn
theorem pU {p0 p1 q : Prop} (h0 : p0) (h1 : p1) (h : p0 -> p1 -> q := by intro uu XT; repeat (first | (with_reducible first | exact uu | apply aj | apply bD | refine bF ?_ XT) | exact uu)) : q := h h0 h1
open Go.Proofs.Ytoddejmlcnbdmaa.Pure (EG tH jX aX jJ lM fD nT ko bA)
def kM (P : List bC) : Bool := zP P && decide (P.length <= 1048576)
theorem jo {P : List bC} (h : kM P = true) : zP P = true /\ P.length <= 1048576 := by
 unfold kM at h;simpa using h
theorem Py {P : List bC} {r : Option PT} : ∀ {k m : Nat}, k <= m -> mK k P = some r -> mK m P = some r := by
 intro k m h e;obtain ⟨d, rfl⟩ := Nat.exists_eq_add_of_le h;clear h
 induction d with
 | zero => exact e
 | succ d ih => exact JX P (k + d) r ih
theorem IG {P : List bC} {k : Nat} {r : Option PT} (hP : P.length <= 1048576) (h : mK k P = some r) : mq P = r := by
 obtain ⟨K, hK⟩ := Pure.vJ P hP;have h1 := Py (Nat.le_max_left k K) h;have h2 := hK (max k K) (Nat.le_max_right k K);have h2 : mK (max k K) P = some (mq P) := h2;rw [h1] at h2;exact (Option.some.inj h2).symm
def zS (o : Option PT) (key val : ByteArray) : List bC × Bool := match o with
 | none => ([], false)
 | some t => if oF key val = true then (if 40 < (bB (pz t key val)).length then ([], false) else (iM (pz t key val) 0, true)) else ([], false)
def iZ (w : World) (base : Nat) (v : Value) (r : List bC) : Prop := ∃ A c pgs, v = .slice A (List.length pgs) c /\ List.map Pg.erase pgs = r /\ Sat w base (bK v pgs)
theorem iZ.nil (w : World) (base : Nat) : iZ w base (.slice none 0 0) [] := ⟨none, 0, [], rfl, rfl, Sat.one (c := nI (.slice none 0 0) []) ⟨rfl, .inl ⟨rfl, rfl⟩⟩⟩
theorem nU {w : World} {base g n c : Nat} {A : Option Addr} {X : List Ck} {pgs : List Pg} (h : Sat w base (X ++ (bK (.slice A n c) pgs ++ [.box 29 g #[.slice none 0 0]]))) : Sat (w.setCell ⟨g, 0, none⟩ (.slice A n c)) base (bK (.slice A n c) pgs) := by
 have h1 : Sat w base (.box 29 g #[.slice none 0 0] :: (X ++ bK (.slice A n c) pgs)) := h.perm (by
  rw [<- List.append_assoc]
  exact List.perm_append_comm)
 have h2 : Sat (w.setCell ⟨g, 0, none⟩ (.slice A n c)) base (.box 29 g #[.slice A n c] :: (X ++ bK (.slice A n c) pgs)) := Sat.put (cs := #[.slice none 0 0]) h1 0 _ rfl;exact h2.tail.right
def iN.f (aW : List bC) (a1 a2 : ByteArray) : Option (List bC × Bool) := if kM aW = true then some (zS (mq aW) a1 a2) else none
theorem iN.oZ (bL : Option Addr) (bM : Nat) (aW : List (bC)) (a1 a2 : ByteArray) (r1 : List bC) (r2 : Bool) (w : World) (iO : Kd.C j4 w bL aW.length aW) (mg : aW.length <= bM) (h : iN.f aW a1 a2 = some (r1, r2)) :
  Calls Try.prog 36 #[.agg #[.slice bL aW.length bM], .string a1, .string a2] w fun e w' => ∃ ja : Value, e = .returned (.tuple #[.agg #[ja], .bool r2]) /\ iZ w' w.heap.size ja r1 /\ Below w.heap.size w w' := by
 unfold iN.f at h;have HP := A_ iO;clear iO mg
 by_cases hok : kM aW = true
 ·rw [if_pos hok] at h
  obtain ⟨hok1, hP⟩ := jo hok;have nA := A_ (dN hok1).1;have HM := A_ (dN hok1).2
  obtain ⟨o, hrs⟩ : ∃ o, mq aW = o := ⟨_, rfl⟩
  rw [hrs] at h;have hof := hrs;have h := Option.some.inj h;have jP := A_ hrs;clear hok hok1 hrs
  cases o with
  | none =>
   have h : (([] : List bC), false) = (r1, r2) := h
   injection h with e1 e2
   subst e1;subst e2;clear hof hP;go_enter Try.func36, Try.ntmps36
   go_wp2_with (first | (refine jl 3 #[.slice bL aW.length bM] 29 ?_; intro b3 hg w1 aA hb; have HB := A_ hb; have hz3 : w1.cell? ⟨b3, 0, none⟩ = some (.slice bL aW.length bM) := (au aA 0).trans rfl; clear hg aA hb) | (refine jl 6 #[.slice none 0 0] 29 ?_; intro g6 hg w2 aA hb; have kF := (hb.cell (World.block_lt_of_cell? w1 _ hz3)).trans hz3; clear hz3; have hz3 := kF; clear kF; have qV := A_ (show w.heap.size <= g6 from by rw [hg]; exact Below.size HB.out); have ah := A_ (ay HB.out hb); clear HB; have HB := ah; have fw := A_ aA; clear ah hg aA hb) | (go_at_call 57; (with_reducible refine (gI.calls aW nA.out bL bM _ (Kd.aN HP.out HB.out) HM.out).mono ?_); rintro e w3 ⟨hb, hr⟩; rw [jP.out] at hr; obtain ⟨-, rfl⟩ := hr.resolve_right (by rintro ⟨_, h, _⟩; cases h); have ah := A_ (ay HB.out hb); have bT := A_ (bG fw.out hb); clear HB fw; have HB := ah; have fw := bT; clear ah bT hb hr hz3; have vR := (au fw.out 0).trans rfl; have wH := aV fw.out 0))
   refine bodyPost_ret (df rfl _ _ g6 29 #[.slice none 0 0] (0, 0) _ rfl (by (with_reducible repeat (first | refine di ?_ _ | refine dK ?_ )); refine dP (cs := #[.slice none 0 0]) ?_ 0 _ rfl; (with_reducible repeat (first | refine di ?_ _ | refine dK ?_)); exact fw.out) Try.underlying29 rfl (by kernel_rfl)) rfl ?_;exact ⟨_, rfl, iZ.nil _ _, (pU HB.out qV.out)⟩
  | some t =>
   have yG := A_ (jX hP hof);clear hof hP;have h : (if oF a1 a2 = true then (if 40 < (bB (pz t a1 a2)).length then (([] : List bC), false) else (iM (pz t a1 a2) 0, true)) else ([], false)) = (r1, r2) := h
   cases hpr : oF a1 a2 with
   | false =>
    have NV := A_ ((sQ a1 a2).trans (congrArg some hpr));rw [if_neg (by rw [hpr]; decide)] at h
    injection h with e1 e2
    subst e1;subst e2;clear hpr;go_enter Try.func36, Try.ntmps36
    go_wp2_with (first | (refine jl 3 #[.slice bL aW.length bM] 29 ?_; intro b3 hg w1 aA hb; have HB := A_ hb; have hz3 : w1.cell? ⟨b3, 0, none⟩ = some (.slice bL aW.length bM) := (au aA 0).trans rfl; clear hg aA hb) | (refine jl 6 #[.slice none 0 0] 29 ?_; intro g6 hg w2 aA hb; have kF := (hb.cell (World.block_lt_of_cell? w1 _ hz3)).trans hz3; clear hz3; have hz3 := kF; clear kF; have qV := A_ (show w.heap.size <= g6 from by rw [hg]; exact Below.size HB.out); have ah := A_ (ay HB.out hb); clear HB; have HB := ah; have fw := A_ aA; clear ah hg aA hb) | (go_at_call 57; (with_reducible refine (gI.calls aW nA.out bL bM _ (Kd.aN HP.out HB.out) HM.out).mono ?_); rintro e w3 ⟨hb, hr⟩; rw [jP.out] at hr; obtain ⟨nt, h9, rfl, hs⟩ := hr.resolve_left (by rintro ⟨h, _⟩; cases h); injection h9 with h9; subst h9; have ah := A_ (ay HB.out hb); have bT := A_ (bG fw.out hb); have HS := A_ (((Sat.one (c := .box 29 g6 #[.slice none 0 0]) ⟨qV.out, fw.out⟩).behind hb (Below.size HB.out) hs).perm List.perm_append_comm); clear HB fw; have HB := ah; have fw := bT; clear ah bT hb hr hs hz3; have vR := (au fw.out 0).trans rfl; have wH := aV fw.out 0) | (go_at_call 75; (with_reducible refine (eP.calls a1 a2 false _ NV.out).mono ?_); rintro e w' ⟨rfl, ⟨nd, rfl⟩⟩))
    refine bodyPost_ret (df rfl _ _ g6 29 #[.slice none 0 0] (0, 0) _ rfl (by (with_reducible repeat (first | refine di ?_ _ | refine dK ?_ )); refine dP (cs := #[.slice none 0 0]) ?_ 0 _ rfl; (with_reducible repeat (first | refine di ?_ _ | refine dK ?_)); exact fw.out) Try.underlying29 rfl (by kernel_rfl)) rfl ?_;exact ⟨_, rfl, iZ.nil _ _, (pU HB.out qV.out)⟩
   | true =>
    have NV := A_ ((sQ a1 a2).trans (congrArg some hpr));rw [if_pos hpr] at h;clear hpr;have HH := A_ h;clear h;go_enter Try.func36, Try.ntmps36
    go_upto_region 4 with (first | (refine jl 3 #[.slice bL aW.length bM] 29 ?_; intro b3 hg w1 aA hb; have HB := A_ hb; have hz3 : w1.cell? ⟨b3, 0, none⟩ = some (.slice bL aW.length bM) := (au aA 0).trans rfl; clear hg aA hb) | (refine jl 6 #[.slice none 0 0] 29 ?_; intro g6 hg w2 aA hb; have kF := (hb.cell (World.block_lt_of_cell? w1 _ hz3)).trans hz3; clear hz3; have hz3 := kF; clear kF; have qV := A_ (show w.heap.size <= g6 from by rw [hg]; exact Below.size HB.out); have ah := A_ (ay HB.out hb); clear HB; have HB := ah; have fw := A_ aA; clear ah hg aA hb) | (go_at_call 57; (with_reducible refine (gI.calls aW nA.out bL bM _ (Kd.aN HP.out HB.out) HM.out).mono ?_); rintro e w3 ⟨hb, hr⟩; rw [jP.out] at hr; obtain ⟨nt, h9, rfl, hs⟩ := hr.resolve_left (by rintro ⟨h, _⟩; cases h); injection h9 with h9; subst h9; have ah := A_ (ay HB.out hb); have bT := A_ (bG fw.out hb); have HS := A_ (((Sat.one (c := .box 29 g6 #[.slice none 0 0]) ⟨qV.out, fw.out⟩).behind hb (Below.size HB.out) hs).perm List.perm_append_comm); clear HB fw; have HB := ah; have fw := bT; clear ah bT hb hr hs hz3; have vR := (au fw.out 0).trans rfl; have wH := aV fw.out 0) | (go_at_call 75; (with_reducible refine (eP.calls a1 a2 true _ NV.out).mono ?_); rintro e w' ⟨rfl, ⟨nd, rfl⟩⟩))
    generalize hW : World.drewN w3 _ = w4;have ah := A_ (show Below w.heap.size w w4 by rw [<- hW]; exact aj HB.out _);have bT := A_ (show Sat w4 w.heap.size (nt.dH 96 70 ++ [.box 29 g6 #[.slice none 0 0]]) by rw [<- hW]; exact Sat.drewN HS.out _);clear HB HS fw vR wH hW;have HB := ah;have HS := bT;clear ah bT
    go_upto_region 5 with (first | (go_at_call 76; (with_reducible refine (J9.calls nt a1 a2 yG.out.1.bnd w.heap.size _ w4 HS.out (Below.size HB.out)).mono ?_); rintro e w5 ⟨t1, rfl, ht1, ht2, ht3⟩))
    have hok1 : EG t1.erase /\ (bB t1.erase).length <= 41 := by
     obtain ⟨q1, q2⟩ := tH yG.out.1 a1 a2;rw [ht1];refine ⟨q1, ?_⟩;rw [<- ko (bA q1.bnd), q2];have := nT (k := a1) (v := a2) (aX nt.erase);have := yG.out.2;omega
    have wE := A_ hok1;have HT1 := A_ ht1;have HZ1 := A_ (show (bB t1.erase).length <= 8796093022208 by omega);have HZ2 := A_ (show (eD t1.erase).length <= 8796093022208 by rw [iW (bA hok1.1.bnd)]; omega);have CV := A_ (bA hok1.1.bnd);have Vt : (bB t1.erase).length <= 41 := hok1.2;have HR2 := A_ (jc ht2.left);have ah := A_ (HB.out.trans ht3);clear HB HS hok1 ht1 ht3;have HB := ah;have HS := A_ ht2;clear ah ht2
    go_upto_region 6 with (first | (go_at_call 65; (with_reducible refine (oD.jB t1.erase CV.out _ ?az HZ1.out HZ2.out).mono ?_); (case az => repeat (first | exact HR2.out | (with_reducible refine Rd.drewN ?_ _) | (with_reducible refine Rd.drew ?_))); rintro e w6 ⟨u1, u2, rfl, ho1, ho2, hne, hb⟩; obtain ⟨B1, d1, rfl, hl1, hc1⟩ := Kd.fP ho1; obtain ⟨B2, d2, rfl, hl2, hc2⟩ := Kd.fP ho2; have ah := A_ (ay HB.out hb); have bT := A_ (Sat.under HS.out hb); clear HB HS HR2; have HB := ah; have HS := bT; clear ah bT ho1 ho2 hne hb hl1 hl2 hc1 hc2))
    obtain ⟨nk, hnk⟩ : ∃ n, (bB t1.erase).length = n := ⟨_, rfl⟩
    rw [hnk] at Vt ⊢;have QU := A_ hnk;clear hnk
    by_cases Ot : 40 < nk
    ·have c_ := lQ ((40 : Int) < (nk : Int))
     have h := HH.out;rw [<- HT1.out, QU.out, if_pos Ot] at h
     injection h with e1 e2
     subst e1;subst e2;have fw := A_ (HS.out.cell (T := 29) (p := g6) (cs := #[.slice none 0 0]) (List.mem_append_right _ List.mem_cons_self));have vR := (au fw.out 0).trans rfl; have wH := aV fw.out 0
     go_wp2_with fail
     refine bodyPost_ret (df rfl _ _ g6 29 #[.slice none 0 0] (0, 0) _ rfl (by (with_reducible repeat (first | refine di ?_ _ | refine dK ?_ )); refine dP (cs := #[.slice none 0 0]) ?_ 0 _ rfl; (with_reducible repeat (first | refine di ?_ _ | refine dK ?_)); exact fw.out) Try.underlying29 rfl (by kernel_rfl)) rfl ?_;exact ⟨_, rfl, iZ.nil _ _, (pU HB.out qV.out)⟩
    ·have c_ := kS ((40 : Int) < (nk : Int))
     have h := HH.out;rw [<- HT1.out, QU.out, if_neg Ot] at h
     injection h with e1 e2
     subst e1;subst e2;have um := A_ (qM.calls t1 wE.out.1.bnd (by have := wE.out.1.small; have := wE.out.2; have := ko CV.out; omega) w.heap.size _ w6 HS.out (Below.size HB.out));clear Ot
     go_wp2_with (first | (go_at_call 77; (with_reducible refine (um.out).mono ?_); rintro e w7 ⟨vo, pgs, rfl, he, hs3, hb3⟩; obtain ⟨Ao, co, rfl⟩ := iD (hs3.ok (nI vo pgs) (List.mem_append_right _ List.mem_cons_self)); have fw := A_ (hs3.cell (T := 29) (p := g6) (cs := #[.slice none 0 0]) (List.mem_append_right _ (List.mem_append_right _ List.mem_cons_self))); have zJ := A_ hs3; have HE := A_ he; have ah := A_ (HB.out.trans hb3); clear HB; have HB := ah; clear ah hs3 hb3 he; have vR := (au fw.out 0).trans rfl; have wH := aV fw.out 0))
     refine bodyPost_ret (df rfl _ _ g6 29 #[.slice Ao pgs.length co] (0, 0) _ rfl (dP (cs := #[.slice none 0 0]) fw.out 0 _ rfl) Try.underlying29 rfl (by kernel_rfl)) rfl ?_;refine ⟨_, rfl, ?_, (pU HB.out qV.out)⟩;exact ⟨Ao, co, pgs, rfl, by rw [HE.out], nU zJ.out⟩
 ·rw [if_neg hok] at h
  cases h
def lD.f (k : Nat) (aW : List bC) (a1 a2 : ByteArray) : Option (List bC × Bool) := if kM aW = true then (mK k aW).bind fun o => some (zS o a1 a2) else none
theorem lD.oZ (k : Nat) (bL : Option Addr) (bM : Nat) (aW : List (bC)) (a1 a2 : ByteArray) (r1 : List bC) (r2 : Bool) (w : World) (iO : Kd.C j4 w bL aW.length aW) (mg : aW.length <= bM) (h : lD.f k aW a1 a2 = some (r1, r2)) :
  Calls Try.prog 37 #[.agg #[.slice bL aW.length bM], .string a1, .string a2] w fun e w' => ∃ ja : Value, e = .returned (.tuple #[.agg #[ja], .bool r2]) /\ iZ w' w.heap.size ja r1 /\ Below w.heap.size w w' := by
 unfold lD.f at h;have HP := A_ iO;clear iO mg
 by_cases hok : kM aW = true
 ·rw [if_pos hok] at h
  obtain ⟨hok1, hP⟩ := jo hok;have nA := A_ (dN hok1).1;have HM := A_ (dN hok1).2;obtain ⟨o, hrs, h⟩ := Option.bind_eq_some_iff.mp h;have hof : mq aW = o := IG hP hrs;have h := Option.some.inj h;have jP := A_ hrs;clear hok hok1 hrs
  cases o with
  | none =>
   have h : (([] : List bC), false) = (r1, r2) := h
   injection h with e1 e2
   subst e1;subst e2;clear hof hP;go_enter Try.func37, Try.ntmps37
   go_wp2_with (first | (refine jl 3 #[.slice bL aW.length bM] 29 ?_; intro b3 hg w1 aA hb; have HB := A_ hb; have hz3 : w1.cell? ⟨b3, 0, none⟩ = some (.slice bL aW.length bM) := (au aA 0).trans rfl; clear hg aA hb) | (refine jl 6 #[.slice none 0 0] 29 ?_; intro g6 hg w2 aA hb; have kF := (hb.cell (World.block_lt_of_cell? w1 _ hz3)).trans hz3; clear hz3; have hz3 := kF; clear kF; have qV := A_ (show w.heap.size <= g6 from by rw [hg]; exact Below.size HB.out); have ah := A_ (ay HB.out hb); clear HB; have HB := ah; have fw := A_ aA; clear ah hg aA hb) | (go_at_call 59; (with_reducible refine (iP.calls k aW nA.out bL bM _ (Kd.aN HP.out HB.out) HM.out _ jP.out).mono ?_); rintro e w3 ⟨hb, hr⟩; obtain ⟨-, rfl⟩ := hr.resolve_right (by rintro ⟨_, h, _⟩; cases h); have ah := A_ (ay HB.out hb); have bT := A_ (bG fw.out hb); clear HB fw; have HB := ah; have fw := bT; clear ah bT hb hr hz3; have vR := (au fw.out 0).trans rfl; have wH := aV fw.out 0))
   refine bodyPost_ret (df rfl _ _ g6 29 #[.slice none 0 0] (0, 0) _ rfl (by (with_reducible repeat (first | refine di ?_ _ | refine dK ?_ )); refine dP (cs := #[.slice none 0 0]) ?_ 0 _ rfl; (with_reducible repeat (first | refine di ?_ _ | refine dK ?_)); exact fw.out) Try.underlying29 rfl (by kernel_rfl)) rfl ?_;exact ⟨_, rfl, iZ.nil _ _, (pU HB.out qV.out)⟩
  | some t =>
   have yG := A_ (jX hP hof);clear hof hP;have h : (if oF a1 a2 = true then (if 40 < (bB (pz t a1 a2)).length then (([] : List bC), false) else (iM (pz t a1 a2) 0, true)) else ([], false)) = (r1, r2) := h;have HKO0 := A_ (Pure.H9 a1);have HVO0 := A_ (Pure.xM a2)
   cases hk : jJ a1 with
   | false =>
    have hpr : oF a1 a2 = false := by rw [Pure.rP, hk]; rfl
    have N8 := A_ (HKO0.out.trans (congrArg some hk));clear hk;rw [if_neg (by rw [hpr]; decide)] at h
    injection h with e1 e2
    subst e1;subst e2;clear hpr;go_enter Try.func37, Try.ntmps37
    go_wp2_with (first | (refine jl 3 #[.slice bL aW.length bM] 29 ?_; intro b3 hg w1 aA hb; have HB := A_ hb; have hz3 : w1.cell? ⟨b3, 0, none⟩ = some (.slice bL aW.length bM) := (au aA 0).trans rfl; clear hg aA hb) | (refine jl 6 #[.slice none 0 0] 29 ?_; intro g6 hg w2 aA hb; have kF := (hb.cell (World.block_lt_of_cell? w1 _ hz3)).trans hz3; clear hz3; have hz3 := kF; clear kF; have qV := A_ (show w.heap.size <= g6 from by rw [hg]; exact Below.size HB.out); have ah := A_ (ay HB.out hb); clear HB; have HB := ah; have fw := A_ aA; clear ah hg aA hb) | (go_at_call 59; (with_reducible refine (iP.calls k aW nA.out bL bM _ (Kd.aN HP.out HB.out) HM.out _ jP.out).mono ?_); rintro e w3 ⟨hb, hr⟩; obtain ⟨nt, h9, rfl, hs⟩ := hr.resolve_left (by rintro ⟨h, _⟩; cases h); injection h9 with h9; subst h9; have ah := A_ (ay HB.out hb); have bT := A_ (bG fw.out hb); have HS := A_ (((Sat.one (c := .box 29 g6 #[.slice none 0 0]) ⟨qV.out, fw.out⟩).behind hb (Below.size HB.out) hs).perm List.perm_append_comm); clear HB fw; have HB := ah; have fw := bT; clear ah bT hb hr hs hz3; have vR := (au fw.out 0).trans rfl; have wH := aV fw.out 0) | (go_at_call 78; (with_reducible refine (iF.calls a1 false _ N8.out).mono ?_); rintro e w' ⟨rfl, ⟨nd, rfl⟩⟩))
    refine bodyPost_ret (df rfl _ _ g6 29 #[.slice none 0 0] (0, 0) _ rfl (by (with_reducible repeat (first | refine di ?_ _ | refine dK ?_ )); refine dP (cs := #[.slice none 0 0]) ?_ 0 _ rfl; (with_reducible repeat (first | refine di ?_ _ | refine dK ?_)); exact fw.out) Try.underlying29 rfl (by kernel_rfl)) rfl ?_;exact ⟨_, rfl, iZ.nil _ _, (pU HB.out qV.out)⟩
   | true =>
    have N8 := A_ (HKO0.out.trans (congrArg some hk))
    cases hv : lM a2 with
    | false =>
     have hpr : oF a1 a2 = false := by rw [Pure.rP, hk, hv]; rfl
     have ZC := A_ (HVO0.out.trans (congrArg some hv));clear hk hv;rw [if_neg (by rw [hpr]; decide)] at h
     injection h with e1 e2
     subst e1;subst e2;clear hpr;go_enter Try.func37, Try.ntmps37
     go_wp2_with (first | (refine jl 3 #[.slice bL aW.length bM] 29 ?_; intro b3 hg w1 aA hb; have HB := A_ hb; have hz3 : w1.cell? ⟨b3, 0, none⟩ = some (.slice bL aW.length bM) := (au aA 0).trans rfl; clear hg aA hb) | (refine jl 6 #[.slice none 0 0] 29 ?_; intro g6 hg w2 aA hb; have kF := (hb.cell (World.block_lt_of_cell? w1 _ hz3)).trans hz3; clear hz3; have hz3 := kF; clear kF; have qV := A_ (show w.heap.size <= g6 from by rw [hg]; exact Below.size HB.out); have ah := A_ (ay HB.out hb); clear HB; have HB := ah; have fw := A_ aA; clear ah hg aA hb) | (go_at_call 59; (with_reducible refine (iP.calls k aW nA.out bL bM _ (Kd.aN HP.out HB.out) HM.out _ jP.out).mono ?_); rintro e w3 ⟨hb, hr⟩; obtain ⟨nt, h9, rfl, hs⟩ := hr.resolve_left (by rintro ⟨h, _⟩; cases h); injection h9 with h9; subst h9; have ah := A_ (ay HB.out hb); have bT := A_ (bG fw.out hb); have HS := A_ (((Sat.one (c := .box 29 g6 #[.slice none 0 0]) ⟨qV.out, fw.out⟩).behind hb (Below.size HB.out) hs).perm List.perm_append_comm); clear HB fw; have HB := ah; have fw := bT; clear ah bT hb hr hs hz3; have vR := (au fw.out 0).trans rfl; have wH := aV fw.out 0) | (go_at_call 78; (with_reducible refine (iF.calls a1 true _ N8.out).mono ?_); rintro e w' ⟨rfl, ⟨nd, rfl⟩⟩) | (go_at_call 79; (with_reducible refine (jR.calls a2 false _ ZC.out).mono ?_); rintro e w' ⟨rfl, ⟨nd, rfl⟩⟩))
     refine bodyPost_ret (df rfl _ _ g6 29 #[.slice none 0 0] (0, 0) _ rfl (by (with_reducible repeat (first | refine di ?_ _ | refine dK ?_ )); refine dP (cs := #[.slice none 0 0]) ?_ 0 _ rfl; (with_reducible repeat (first | refine di ?_ _ | refine dK ?_)); exact fw.out) Try.underlying29 rfl (by kernel_rfl)) rfl ?_;exact ⟨_, rfl, iZ.nil _ _, (pU HB.out qV.out)⟩
    | true =>
     have hpr : oF a1 a2 = true := by rw [Pure.rP, hk, hv]; rfl
     have ZC := A_ (HVO0.out.trans (congrArg some hv));clear hk hv;rw [if_pos hpr] at h;clear hpr;have HH := A_ h;clear h;go_enter Try.func37, Try.ntmps37
     go_upto_region 4 with (first | (refine jl 3 #[.slice bL aW.length bM] 29 ?_; intro b3 hg w1 aA hb; have HB := A_ hb; have hz3 : w1.cell? ⟨b3, 0, none⟩ = some (.slice bL aW.length bM) := (au aA 0).trans rfl; clear hg aA hb) | (refine jl 6 #[.slice none 0 0] 29 ?_; intro g6 hg w2 aA hb; have kF := (hb.cell (World.block_lt_of_cell? w1 _ hz3)).trans hz3; clear hz3; have hz3 := kF; clear kF; have qV := A_ (show w.heap.size <= g6 from by rw [hg]; exact Below.size HB.out); have ah := A_ (ay HB.out hb); clear HB; have HB := ah; have fw := A_ aA; clear ah hg aA hb) | (go_at_call 59; (with_reducible refine (iP.calls k aW nA.out bL bM _ (Kd.aN HP.out HB.out) HM.out _ jP.out).mono ?_); rintro e w3 ⟨hb, hr⟩; obtain ⟨nt, h9, rfl, hs⟩ := hr.resolve_left (by rintro ⟨h, _⟩; cases h); injection h9 with h9; subst h9; have ah := A_ (ay HB.out hb); have bT := A_ (bG fw.out hb); have HS := A_ (((Sat.one (c := .box 29 g6 #[.slice none 0 0]) ⟨qV.out, fw.out⟩).behind hb (Below.size HB.out) hs).perm List.perm_append_comm); clear HB fw; have HB := ah; have fw := bT; clear ah bT hb hr hs hz3; have vR := (au fw.out 0).trans rfl; have wH := aV fw.out 0) | (go_at_call 78; (with_reducible refine (iF.calls a1 true _ N8.out).mono ?_); rintro e w' ⟨rfl, ⟨nd, rfl⟩⟩) | (go_at_call 79; (with_reducible refine (jR.calls a2 true _ ZC.out).mono ?_); rintro e w' ⟨rfl, ⟨nd, rfl⟩⟩))
     generalize hW : World.drewN w3 _ = w4;have ah := A_ (show Below w.heap.size w w4 by rw [<- hW]; exact aj HB.out _);have bT := A_ (show Sat w4 w.heap.size (nt.dH 101 74 ++ [.box 29 g6 #[.slice none 0 0]]) by rw [<- hW]; exact Sat.drewN HS.out _);clear HB HS fw vR wH hW;have HB := ah;have HS := bT;clear ah bT
     go_upto_region 5 with (first | (go_at_call 80; (with_reducible refine (Nn.calls nt a1 a2 yG.out.1.bnd yG.out.1.AL w.heap.size _ w4 HS.out (Below.size HB.out)).mono ?_); rintro e w5 ⟨t1, rfl, ht1, ht2, ht3⟩))
     have hok1 : EG t1.erase /\ (bB t1.erase).length <= 41 := by
      obtain ⟨q1, q2⟩ := tH yG.out.1 a1 a2;rw [ht1];refine ⟨q1, ?_⟩;rw [<- ko (bA q1.bnd), q2];have := nT (k := a1) (v := a2) (aX nt.erase);have := yG.out.2;omega
     have wE := A_ hok1;have HT1 := A_ ht1;have HZ1 := A_ (show (bB t1.erase).length <= 8796093022208 by omega);have HZ2 := A_ (show (eD t1.erase).length <= 8796093022208 by rw [iW (bA hok1.1.bnd)]; omega);have CV := A_ (bA hok1.1.bnd);have Vt : (bB t1.erase).length <= 41 := hok1.2;have HR2 := A_ (jc ht2.left);have ah := A_ (HB.out.trans ht3);clear HB HS hok1 ht1 ht3;have HB := ah;have HS := A_ ht2;clear ah ht2
     go_upto_region 6 with (first | (go_at_call 66; (with_reducible refine (rM.jB t1.erase CV.out _ ?az HZ1.out HZ2.out).mono ?_); (case az => repeat (first | exact HR2.out | (with_reducible refine Rd.drewN ?_ _) | (with_reducible refine Rd.drew ?_))); rintro e w6 ⟨u1, u2, rfl, ho1, ho2, hne, hb⟩; obtain ⟨B1, d1, rfl, hl1, hc1⟩ := Kd.fP ho1; obtain ⟨B2, d2, rfl, hl2, hc2⟩ := Kd.fP ho2; have ah := A_ (ay HB.out hb); have bT := A_ (Sat.under HS.out hb); clear HB HS HR2; have HB := ah; have HS := bT; clear ah bT ho1 ho2 hne hb hl1 hl2 hc1 hc2))
     obtain ⟨nk, hnk⟩ : ∃ n, (bB t1.erase).length = n := ⟨_, rfl⟩
     rw [hnk] at Vt ⊢;have QU := A_ hnk;clear hnk
     by_cases Ot : 40 < nk
     ·have c_ := lQ ((40 : Int) < (nk : Int))
      have h := HH.out;rw [<- HT1.out, QU.out, if_pos Ot] at h
      injection h with e1 e2
      subst e1;subst e2;have fw := A_ (HS.out.cell (T := 29) (p := g6) (cs := #[.slice none 0 0]) (List.mem_append_right _ List.mem_cons_self));have vR := (au fw.out 0).trans rfl; have wH := aV fw.out 0
      go_wp2_with fail
      refine bodyPost_ret (df rfl _ _ g6 29 #[.slice none 0 0] (0, 0) _ rfl (by (with_reducible repeat (first | refine di ?_ _ | refine dK ?_ )); refine dP (cs := #[.slice none 0 0]) ?_ 0 _ rfl; (with_reducible repeat (first | refine di ?_ _ | refine dK ?_)); exact fw.out) Try.underlying29 rfl (by kernel_rfl)) rfl ?_;exact ⟨_, rfl, iZ.nil _ _, (pU HB.out qV.out)⟩
     ·have c_ := kS ((40 : Int) < (nk : Int))
      have h := HH.out;rw [<- HT1.out, QU.out, if_neg Ot] at h
      injection h with e1 e2
      subst e1;subst e2;have um := A_ (ET.calls t1 wE.out.1.bnd (by have := wE.out.1.small; have := wE.out.2; have := ko CV.out; omega) w.heap.size _ w6 HS.out (Below.size HB.out));clear Ot
      go_wp2_with (first | (go_at_call 81; (with_reducible refine (um.out).mono ?_); rintro e w7 ⟨vo, pgs, rfl, he, hs3, hb3⟩; obtain ⟨Ao, co, rfl⟩ := iD (hs3.ok (nI vo pgs) (List.mem_append_right _ List.mem_cons_self)); have fw := A_ (hs3.cell (T := 29) (p := g6) (cs := #[.slice none 0 0]) (List.mem_append_right _ (List.mem_append_right _ List.mem_cons_self))); have zJ := A_ hs3; have HE := A_ he; have ah := A_ (HB.out.trans hb3); clear HB; have HB := ah; clear ah hs3 hb3 he; have vR := (au fw.out 0).trans rfl; have wH := aV fw.out 0))
      refine bodyPost_ret (df rfl _ _ g6 29 #[.slice Ao pgs.length co] (0, 0) _ rfl (dP (cs := #[.slice none 0 0]) fw.out 0 _ rfl) Try.underlying29 rfl (by kernel_rfl)) rfl ?_;refine ⟨_, rfl, ?_, (pU HB.out qV.out)⟩;exact ⟨Ao, co, pgs, rfl, by rw [HE.out], nU zJ.out⟩
 ·rw [if_neg hok] at h
  cases h
end Go.Proofs.Ytoddejmlcnbdmaa.Fn
namespace Go.Proofs.Ytoddejmlcnbdmaa.Pure
def dQ (key : ByteArray) (l : List KV) : ByteArray × Bool := match l.find? (fun x => x.1.toList == key.toList) with
 | some x => (x.2, true)
 | none => (ByteArray.empty, false)
theorem xe {key : ByteArray} {A B : List KV} (h : ∀ x ∈ A, (x.1.toList == key.toList) = false) : dQ key (A ++ B) = dQ key B := by
 unfold dQ;rw [List.find?_append, List.find?_eq_none.2 (fun x hx => by rw [h x hx]; decide)];rfl
theorem II {key : ByteArray} {A B : List KV} (h : ∀ x ∈ B, (x.1.toList == key.toList) = false) : dQ key (A ++ B) = dQ key A := by
 have hB : B.find? (fun x => x.1.toList == key.toList) = none := List.find?_eq_none.2 (fun x hx => by rw [h x hx]; decide);unfold dQ;rw [List.find?_append, hB, Option.or_none]
theorem nV {key : ByteArray} {x : KV} {B : List KV} (h : (x.1.toList == key.toList) = true) : dQ key (x :: B) = (x.2, true) := by
 unfold dQ;rw [List.find?_cons, h]
theorem EU {key : ByteArray} {l : List KV} (h : ∀ x ∈ l, (x.1.toList == key.toList) = false) : dQ key l = (ByteArray.empty, false) := by
 unfold dQ;rw [List.find?_eq_none.2 (fun x hx => by rw [h x hx]; decide)]
theorem l9 {key : ByteArray} {l : List KV} : (dQ key l).2 = true ↔ Has key l := by
 unfold dQ Has
 cases h : l.find? (fun x => x.1.toList == key.toList) with
 | none =>
  refine ⟨fun e => (by cases e), ?_⟩;rintro ⟨x, hx, e⟩;have := List.find?_eq_none.1 h x hx;exact absurd e this
 | some x => exact ⟨fun _ => ⟨x, List.mem_of_find?_eq_some h, by have := List.find?_some h; exact this⟩, fun _ => rfl⟩
theorem uN : ∀ (n : Nat) (t : PT) (key : ByteArray), t.big <= n -> kV t -> kK (aX t) -> xH n t key = dQ key (aX t)
 | 0, t, key, hb, _, _ => absurd t.fB (by omega)
 | n + 1, t, key, hb, hbd, hs => by
  obtain ⟨⟨h1, h2, h3⟩, h4⟩ := bJ.1 hbd;have hle := lS key t.keys;rw [xH]
  cases hS : jg t.keys (dG key t.keys) key with
  | true =>
   rw [if_pos rfl];have hlt := jQ hS;have hx : t.keys[dG key t.keys]? = some (bq t.keys (dG key t.keys)) := pQ hlt
   have he : ((bq t.keys (dG key t.keys)).toList == key.toList) = true := by
    unfold jg at hS;rw [hx] at hS;exact hS
   obtain ⟨A, B, Yp⟩ := wU (t.kids.map aX) ((bI t).take (dG key t.keys)) ((bI t).drop (dG key t.keys + 1)) (by
    rw [List.length_map, List.length_take, rT h1]
    rcases h3 with h | h
    ·left
     rw [List.length_eq_zero_iff.1 h];rfl
    ·right
     omega)
   have e : aX t = A ++ (bq t.keys (dG key t.keys), bq t.vals (dG key t.keys)) :: B := by
    rw [dV (bA hbd), <- Yp]
    congr 1
    exact rf hlt h1
   rw [e] at hs ⊢
   rw [xe (fun x hx => by
    have := (List.pairwise_append.1 hs).2.2 x hx _ List.mem_cons_self;rw [<- eq_of_beq he]
    exact xY this), nV he]
   unfold bO bq;rw [Int.toNat_natCast]
  | false =>
   rw [if_neg (by decide)]
   by_cases h0 : t.kids.length = 0
   ·rw [if_pos h0]
    have hsk : DC t.keys := oG ((ku (bA hbd)).2 hs);rw [iR (bA hbd) (List.length_eq_zero_iff.1 h0), <- List.take_append_drop (dG key t.keys) (bI t)];rw [xe (fun x hx => xY (qJ h1 x hx)), EU (fun x hx => xP (pO hsk hS x hx))]
   ·rw [if_neg h0]
    have hkl : t.kids.length = t.keys.length + 1 := h3.resolve_left h0;have hx : t.kids[dG key t.keys]? = some t.kids[dG key t.keys] := List.getElem?_eq_getElem (by omega);generalize t.kids[dG key t.keys] = s at hx;rw [hx];simp only;have hm := List.mem_of_getElem? hx;obtain ⟨hpre, zL, _⟩ := qL hbd hs hS hx;rw [(rY hbd hx hle).1, xe (fun x hx => xY (hpre x hx)), II (fun x hx => xP (zL x hx))];exact uN n s key (by have := PT.gH hx; omega) (h4 s hm) (lC hbd hs hx hle)
theorem R5 {t : PT} {key : ByteArray} {g : ByteArray × Bool} : ∀ {k m : Nat}, k <= m -> vT k k t key = some g -> vT m m t key = some g := by
 intro k m h e;obtain ⟨d, rfl⟩ := Nat.exists_eq_add_of_le h;clear h
 induction d with
 | zero => exact e
 | succ d ih => exact Eg (k + d) (k + d) t key g ih
theorem EW {k : Nat} {t : PT} {key : ByteArray} {g : ByteArray × Bool} (h : EG t) (e : vT k k t key = some g) : g = dQ key (aX t) := by
 obtain ⟨K, hK⟩ := FT t.big t key (Nat.le_refl _) (bA h.bnd) ((ku (bA h.bnd)).2 h.AL);have h1 := R5 (m := max k (max K t.big)) (by omega) e;rw [hK _ (by omega) _ (by omega), uN t.big t key (Nat.le_refl _) h.bnd h.AL] at h1;exact (Option.some.inj h1).symm
end Go.Proofs.Ytoddejmlcnbdmaa.Pure
namespace Go.Proofs.Ytoddejmlcnbdmaa.Tree
theorem Ki.calls (t l r : NT) (P Q : List NT) (i : Nat) (hi : 0 < i) (ht : t.kids = P ++ l :: r :: Q) (hP : P.length = i - 1) (h2 : 2 < l.keys.length) (hl : FX l.keys l.vals l.kids.length) (hr : FX r.keys r.vals r.kids.length) (hj : i - 1 < t.keys.length /\ t.keys.length <= 1000 /\ t.vals.length = t.keys.length /\ t.kids.length = t.keys.length + 1)
  (base : Nat) (L : List Ck) (w : World) (hs : Sat w base (t.dH 96 70 ++ L)) (hbs : base <= w.heap.size) :
  Calls Try.prog 113 #[bu t.p, .int .i64 (i : Int)] w (WR w base 96 70 t L (BK t.erase (i - 1))) := by
 cases t with | mk tp yC yD yE tks tvs aJ =>
 cases l with | mk lp JC JD JE dF kG lcs =>
 cases r with | mk rp JF JG rcv mG lK eU =>
 have h0 := open_pair ht hs;unfold kL at h0;simp only [NT.keys, NT.vals, NT.kids, NT.p, NT.kv, NT.vv, NT.cv] at ht hl hr hj h0 h2 ⊢;clear hs;unfold FX at hl hr;obtain ⟨hl1, hl2, hl3⟩ := hl;obtain ⟨hr1, hr2, hr3⟩ := hr;obtain ⟨hj1, hj2, JH, KU⟩ := hj;have hil : i < aJ.length := by rw [ht, List.length_append, hP]; simp only [List.length_cons]; omega
 have hij : i = (i - 1) + 1 := by omega
 have HP := A_ hP;have HT := A_ ht
 have hkl : aJ[(i - 1)]? = some (NT.mk lp JC JD JE dF kG lcs) /\ (NT.mk lp JC JD JE dF kG lcs).p = lp := ⟨by rw [ht]; exact M9 hP, rfl⟩
 have hkr : aJ[i]? = some (NT.mk rp JF JG rcv mG lK eU) /\ (NT.mk rp JF JG rcv mG lK eU).p = rp := ⟨by rw [ht, hij]; exact Na hP, rfl⟩
 have xu := A_ hkl;have Oz := A_ hkr;clear hkl hkr ht hij
 obtain ⟨R, hR⟩ : ∃ R, R = BK (NT.mk tp yC yD yE tks tvs aJ).erase (i - 1) := ⟨_, rfl⟩
 rw [<- hR];have HRR := A_ hR;clear hR;obtain ⟨jF, fG, rfl⟩ := Kd.ak (h0.sr 1 rfl);obtain ⟨jG, rfl⟩ := dA (h0.sr 1 rfl) (by omega);obtain ⟨jK, fM, rfl⟩ := Kd.ak (h0.sr 2 rfl);obtain ⟨jH, rfl⟩ := dA (h0.sr 2 rfl) (by omega);obtain ⟨qB, fK, rfl, _, _⟩ := dz (h0.q 3 rfl);obtain ⟨iB, rfl⟩ := fJ (h0.q 3 rfl) (by omega);obtain ⟨Fz, uz, rfl⟩ := Kd.ak (h0.sr 5 rfl);obtain ⟨Hg, rfl⟩ := dA (h0.sr 5 rfl) (by omega);obtain ⟨Bc, sH, rfl⟩ := Kd.ak (h0.sr 6 rfl);obtain ⟨Hl, rfl⟩ := dA (h0.sr 6 rfl) (by omega);obtain ⟨vY, nK, rfl, _, _⟩ := dz (h0.q 7 rfl);obtain ⟨G9, FB, rfl⟩ := Kd.ak (h0.sr 10 rfl);obtain ⟨Bd, Ai, rfl⟩ := Kd.ak (h0.sr 11 rfl);obtain ⟨vZ, crc, rfl, _, _⟩ := dz (h0.q 12 rfl)
 obtain ⟨GP, Dm⟩ : ∃ G, G = NT.aZ 96 70 P := ⟨_, rfl⟩
 obtain ⟨GQ, Dn⟩ : ∃ G, G = NT.aZ 96 70 Q ++ L := ⟨_, rfl⟩
 rw [<- Dm, <- Dn] at h0;have HS := A_ h0;have HB := A_ (Below.refl base w);have bQ := A_ hbs;have KW := A_ Dm;have KX := A_ Dn;clear h0 hbs Dm Dn hP;have Rk := A_ (show eU.length <= 1001 by omega);have HV := A_ (show kG.length = dF.length /\ lK.length = mG.length /\ tvs.length = tks.length /\ (lcs.length = 0 \/ lcs.length = dF.length + 1) /\ aJ.length = tks.length + 1 from ⟨hl2, hr2, JH, hl3, KU⟩);have hlv : dF.length <= kG.length /\ kG.length <= 1000 := by omega
 have XU : lK.length <= 1000 := by omega
 have Fv : i - 1 < tvs.length /\ tvs.length <= 1000 := by omega
 have htc : aJ.length <= 1001 := by omega
 have HI0 := A_ hi;clear hl2 hl3 hr2 hr3 JH KU
 obtain ⟨tx, htx⟩ : ∃ x, bq tks (i - 1) = x := ⟨_, rfl⟩
 have oV : af ((i - 1) < tks.length /\ bq tks (i - 1) = tx) := ⟨by omega, htx⟩
 clear htx
 obtain ⟨ty, hty⟩ : ∃ x, bq tvs (i - 1) = x := ⟨_, rfl⟩
 have oh : af ((i - 1) < tvs.length /\ bq tvs (i - 1) = ty) := ⟨by omega, hty⟩
 clear hty
 obtain ⟨lx, hlx⟩ : ∃ x, bq dF (dF.length - 1) = x := ⟨_, rfl⟩
 have KY : af ((dF.length - 1) < dF.length /\ bq dF (dF.length - 1) = lx) := ⟨by omega, hlx⟩
 clear hlx
 obtain ⟨ly, QV⟩ : ∃ x, bq kG (dF.length - 1) = x := ⟨_, rfl⟩
 have KZ : af ((dF.length - 1) < kG.length /\ bq kG (dF.length - 1) = ly) := ⟨by have := HV.out; omega, QV⟩
 clear QV;obtain ⟨l1, mF⟩ := lL (aI mG 0 tx);obtain ⟨l2, qa⟩ := lL (aI lK 0 ty);obtain ⟨l3, yF⟩ := lL (tks.set (i - 1) lx);obtain ⟨l4, Ah⟩ := lL (tvs.set (i - 1) ly);obtain ⟨l5, zM⟩ := lL (dF.take (dF.length - 1));obtain ⟨l6, zN⟩ := lL (kG.take (dF.length - 1));go_enter Try.func113, Try.ntmps113;have b7 := bV (0 <= (i : Int));have b8 := bV ((i : Int) < (aJ.length : Int));have b9 := bV (i < aJ.length)
 have eT := (aa.z2 HS.out 0 rfl)
 have qU := (ik (aa.fH HS.out 3 rfl) Oz.out)
 go_upto_region 2 with fail
 clear eT qU;have c10 := lQ ((0 : Int) < (i : Int));have b11 := bV (1 <= (i : Int));have b12 := bV (((i : Int) - 1) < (aJ.length : Int));have b13 := bV ((i - 1) < aJ.length);have c14 := lQ ((2 : Int) < (dF.length : Int))
 have eT := (aa.z2 HS.out 0 rfl)
 have qU := (ik (aa.fH HS.out 3 rfl) xu.out)
 have wG := (aa.z0 HS.out 4 rfl)
 go_upto_region 3 with fail
 clear eT qU wG
 have eT := (aa.z2 HS.out 0 rfl)
 have qU := (ik (aa.fH HS.out 3 rfl) xu.out)
 go_upto_region 4 with fail
 clear eT qU
 have eT := (aa.z0 HS.out 4 rfl)
 go_upto_region 5 with fail
 clear eT;have b15 := bV (((i : Int) - 1) < (tks.length : Int));have b16 := bV ((i - 1) < tks.length);have sd17 : 0 <= mG.length /\ mG.length <= 1000000 := by omega
 have q20 : wrap64 ((i : Int) - 1) = ((i : Int) - 1) := jW (by omega);refine bS (n := 17) (S := fun w' => w'.cell? ⟨rp, 0, none⟩ = some (.slice G9 mG.length FB) /\ w'.cell? ⟨tp, 0, none⟩ = some (.slice (some ⟨jG, 0, none⟩) tks.length fG) /\ w'.cell? ⟨jG, (i - 1), none⟩ = some (.string tx)) (ds := [16]) (bt 17 0) (by kernel_rfl) rfl rfl ⟨(aa.z0 (aa.drew HS.out) 9 rfl), (aa.z0 (aa.drew HS.out) 0 rfl), (iH (aa.sr (aa.drew HS.out) 1 rfl) oV.out)⟩ (fun hHeld => ?_);refine aH 0 51 1 ?_;refine aH 1 52 3 ?_;refine aH 2 53 7 ?_;refine aH 3 54 15 ?_;refine aH 5 56 47 ?_;refine aH 6 57 111 ?_;refine aH 7 58 239 ?_;refine aH 9 60 751 ?_;refine aH 10 61 1775 ?_;refine fq 4 55 1791 hHeld ?_;refine fq 8 59 2047 hHeld ?_;refine aH 11 62 4095 ?_;refine fq 12 63 8191 hHeld ?_;refine gG 13 (some 64) 16383 (fun K hK => ?_);refine lI Try.func124 #[.slice G9 mG.length FB, .int .i64 0, .string tx] ?_
 with_reducible refine (Tm 0 0 tx rfl mF.out (aa.row (aa.drew HS.out) 10 rfl) sd17).mono ?_
 rintro e w2 ⟨ja, rfl, ho, hb⟩;refine ⟨_, rfl, ?_⟩;obtain ⟨vX, c19, rfl⟩ := Kd.ak ho;have ah := jN (aa.eG (aa.drew HS.out) hb (cO bQ HB) ho)
 replace HB : af (Below base w w2) := ⟨((aG HB.out)).trans (hb.mono (cO bQ HB))⟩
 replace HS := ah; clear ah ho hb;have zs0 := aa.z0 HS.out 9 rfl;have jE := aa.f HS.out 9 rfl 0;refine dh 64 hK ⟨(aa.z0 HS.out 9 rfl), (aa.z0 HS.out 0 rfl), (iH (aa.sr HS.out 1 rfl) oV.out)⟩ (fun hHeld => ?_);refine aH 14 65 32767 ?_;refine aH 15 66 65535 ?_;refine qz 16 none 131071 (fun K hK => ?_);refine fA (w1 := ?_) (by rfl) rfl ?_ ?_;rotate_left
 ·go_simp
  rfl
 refine hK.out _ _ ?_;clear hK K;refine dL (by kernel_rfl) ?_;clear q20;have ah := gq (World.setCell w2 ⟨rp, 0, none⟩ (.slice vX l1.length c19)) (aa.gJ (aa.xS HS.out 9 rfl (.slice vX l1.length c19)) [0, 1, 2, 3, 4, 5, 6, 7, 8, 9, 16, 11, 12, 13, 14, 15] (by decide))
 replace HB : af (Below base w (World.setCell w2 ⟨rp, 0, none⟩ (.slice vX l1.length c19))) := ⟨(HB.out).setCell (p := ⟨rp, 0, none⟩) (aa.ge HS.out 9 rfl) _⟩
 generalize World.setCell w2 ⟨rp, 0, none⟩ (.slice vX l1.length c19) = w3 at ah HB ⊢;replace HS := ah; clear ah zs0 jE
 go_upto_region 6 with fail
 have b21 := bV (((i : Int) - 1) < (tvs.length : Int));have b22 := bV ((i - 1) < tvs.length);have QW : 0 <= lK.length /\ lK.length <= 1000000 := by omega
 have q26 : wrap64 ((i : Int) - 1) = ((i : Int) - 1) := jW (by omega);refine bS (n := 17) (S := fun w' => w'.cell? ⟨rp, 1, none⟩ = some (.slice Bd lK.length Ai) /\ w'.cell? ⟨tp, 1, none⟩ = some (.slice (some ⟨jH, 0, none⟩) tvs.length fM) /\ w'.cell? ⟨jH, (i - 1), none⟩ = some (.string ty)) (ds := [16]) (bt 17 0) (by kernel_rfl) rfl rfl ⟨(aa.z1 (aa.drew HS.out) 9 rfl), (aa.z1 (aa.drew HS.out) 0 rfl), (iH (aa.sr (aa.drew HS.out) 2 rfl) oh.out)⟩ (fun hHeld => ?_);refine aH 0 67 1 ?_;refine aH 1 68 3 ?_;refine aH 2 69 7 ?_;refine aH 3 70 15 ?_;refine aH 5 72 47 ?_;refine aH 6 73 111 ?_;refine aH 7 74 239 ?_;refine aH 9 76 751 ?_;refine aH 10 77 1775 ?_;refine fq 4 71 1791 hHeld ?_;refine fq 8 75 2047 hHeld ?_;refine aH 11 78 4095 ?_;refine fq 12 79 8191 hHeld ?_;refine gG 13 (some 80) 16383 (fun K hK => ?_);refine lI Try.func124 #[.slice Bd lK.length Ai, .int .i64 0, .string ty] ?_
 with_reducible refine (Tm 0 0 ty rfl qa.out (aa.row (aa.drew HS.out) 11 rfl) QW).mono ?_
 rintro e w4 ⟨ja, rfl, ho, hb⟩;refine ⟨_, rfl, ?_⟩;obtain ⟨Dp, Ae, rfl⟩ := Kd.ak ho;have ah := jN (aa.eG (aa.drew HS.out) hb (cO bQ HB) ho)
 replace HB : af (Below base w w4) := ⟨((aG HB.out)).trans (hb.mono (cO bQ HB))⟩
 replace HS := ah; clear ah ho hb;have zs0 := aa.z1 HS.out 9 rfl;have jE := aa.f HS.out 9 rfl 1;refine dh 80 hK ⟨(aa.z1 HS.out 9 rfl), (aa.z1 HS.out 0 rfl), (iH (aa.sr HS.out 2 rfl) oh.out)⟩ (fun hHeld => ?_);refine aH 14 81 32767 ?_;refine aH 15 82 65535 ?_;refine qz 16 none 131071 (fun K hK => ?_);refine fA (w1 := ?_) (by rfl) rfl ?_ ?_;rotate_left
 ·go_simp
  rfl
 refine hK.out _ _ ?_;clear hK K;refine dL (by kernel_rfl) ?_;clear q26;have ah := gq (World.setCell w4 ⟨rp, 1, none⟩ (.slice Dp l2.length Ae)) (aa.gJ (aa.xU HS.out 9 rfl (.slice Dp l2.length Ae)) [0, 1, 2, 3, 4, 5, 6, 7, 8, 9, 10, 16, 12, 13, 14, 15] (by decide))
 replace HB : af (Below base w (World.setCell w4 ⟨rp, 1, none⟩ (.slice Dp l2.length Ae))) := ⟨(HB.out).setCell (p := ⟨rp, 1, none⟩) (aa.ge HS.out 9 rfl) _⟩
 generalize World.setCell w4 ⟨rp, 1, none⟩ (.slice Dp l2.length Ae) = w5 at ah HB ⊢;replace HS := ah; clear ah zs0 jE
 go_upto_region 7 with fail
 have ZE := bV (1 <= (dF.length : Int));have b28 := bV (((dF.length : Int) - 1) < (dF.length : Int));have b29 := bV ((dF.length - 1) < dF.length);have ZF : wrap64 ((i : Int) - 1) = ((i : Int) - 1) := jW (by omega);have zs0 := iH (aa.sr (aa.drew HS.out) 1 rfl) oV.out;have jE := fZ (aa.sr (aa.drew HS.out) 1 rfl) (Nat.lt_of_le_of_lt (Nat.zero_le _) oV.out.1) (i - 1);refine bS (n := 15) (S := fun w' => w'.cell? ⟨tp, 0, none⟩ = some (.slice (some ⟨jG, 0, none⟩) tks.length fG) /\ w'.cell? ⟨lp, 0, none⟩ = some (.slice (some ⟨Hg, 0, none⟩) dF.length uz) /\ w'.cell? ⟨Hg, (dF.length - 1), none⟩ = some (.string lx)) (ds := [14]) (bt 15 0) (by kernel_rfl) rfl rfl ⟨(aa.z0 (aa.drew HS.out) 0 rfl), (aa.z0 (aa.drew HS.out) 4 rfl), (iH (aa.sr (aa.drew HS.out) 5 rfl) KY.out)⟩ (fun hHeld => ?_);refine aH 0 83 1 ?_;refine aH 1 84 3 ?_;refine aH 2 85 7 ?_;refine aH 4 87 23 ?_;refine aH 5 88 55 ?_;refine aH 6 89 119 ?_;refine aH 7 90 247 ?_;refine aH 8 91 503 ?_;refine aH 10 93 1527 ?_;refine fq 3 86 1535 hHeld ?_;refine fq 9 92 2047 hHeld ?_;refine aH 11 94 4095 ?_;refine fq 12 95 8191 hHeld ?_;refine aH 13 96 16383 ?_;refine qz 14 none 32767 (fun K hK => ?_);refine fA (w1 := ?_) (by rfl) rfl ?_ ?_;rotate_left
 ·go_simp
  rfl
 refine hK.out _ _ ?_;clear hK K;refine dL (by kernel_rfl) ?_;clear ZF;have ah := gq (World.drew (World.setCell w5 ⟨jG, (i - 1), none⟩ (.string lx))) (aa.nM (aa.drew HS.out) 1 rfl (i - 1) lx yF.out)
 replace HB : af (Below base w (World.drew (World.setCell w5 ⟨jG, (i - 1), none⟩ (.string lx)))) := ⟨((aG HB.out)).setCell (p := ⟨jG, (i - 1), none⟩) (rX (aa.drew HS.out) 1 rfl oV.out) _⟩
 generalize World.drew (World.setCell w5 ⟨jG, (i - 1), none⟩ (.string lx)) = w6 at ah HB ⊢;replace HS := ah; clear ah zs0 jE
 go_upto_region 8 with fail
 have b31 := bV (((dF.length : Int) - 1) < (kG.length : Int));have b32 := bV ((dF.length - 1) < kG.length);have q33 : wrap64 ((i : Int) - 1) = ((i : Int) - 1) := jW (by omega);have zs0 := iH (aa.sr (aa.drew HS.out) 2 rfl) oh.out;have jE := fZ (aa.sr (aa.drew HS.out) 2 rfl) (Nat.lt_of_le_of_lt (Nat.zero_le _) oh.out.1) (i - 1);refine bS (n := 15) (S := fun w' => w'.cell? ⟨tp, 1, none⟩ = some (.slice (some ⟨jH, 0, none⟩) tvs.length fM) /\ w'.cell? ⟨lp, 1, none⟩ = some (.slice (some ⟨Hl, 0, none⟩) kG.length sH) /\ w'.cell? ⟨Hl, (dF.length - 1), none⟩ = some (.string ly)) (ds := [14]) (bt 15 0) (by kernel_rfl) rfl rfl ⟨(aa.z1 (aa.drew HS.out) 0 rfl), (aa.z1 (aa.drew HS.out) 4 rfl), (iH (aa.sr (aa.drew HS.out) 6 rfl) KZ.out)⟩ (fun hHeld => ?_);refine aH 0 97 1 ?_;refine aH 1 98 3 ?_;refine aH 2 99 7 ?_;refine aH 4 101 23 ?_;refine aH 5 102 55 ?_;refine aH 6 103 119 ?_;refine aH 7 104 247 ?_;refine aH 8 105 503 ?_;refine aH 10 107 1527 ?_;refine fq 3 100 1535 hHeld ?_;refine fq 9 106 2047 hHeld ?_;refine aH 11 108 4095 ?_;refine fq 12 109 8191 hHeld ?_;refine aH 13 110 16383 ?_;refine qz 14 none 32767 (fun K hK => ?_);refine fA (w1 := ?_) (by rfl) rfl ?_ ?_;rotate_left
 ·go_simp
  rfl
 refine hK.out _ _ ?_;clear hK K;refine dL (by kernel_rfl) ?_;clear q33;have ah := gq (World.drew (World.setCell w6 ⟨jH, (i - 1), none⟩ (.string ly))) (aa.nM (aa.drew HS.out) 2 rfl (i - 1) ly Ah.out)
 replace HB : af (Below base w (World.drew (World.setCell w6 ⟨jH, (i - 1), none⟩ (.string ly)))) := ⟨((aG HB.out)).setCell (p := ⟨jH, (i - 1), none⟩) (rX (aa.drew HS.out) 2 rfl oh.out) _⟩
 generalize World.drew (World.setCell w6 ⟨jH, (i - 1), none⟩ (.string ly)) = w7 at ah HB ⊢;replace HS := ah; clear ah zs0 jE
 go_upto_region 9 with fail
 obtain ⟨QR, lH, _, nZ, _⟩ := info_parts dC;have zh := nS (P := Try.prog) 38 9 .i64 Try.underlying38 lH (some ⟨Hg, 0, none⟩) dF.length uz ((dF.length : Int) - 1) (by omega) (by omega) (aa.row HS.out 5 rfl).2.1;simp only [show (((dF.length : Int) - 1)).toNat = (dF.length - 1) from by omega] at zh;clear lH nZ
 have eT := (aa.z0 HS.out 4 rfl)
 have zs0 := aa.z0 HS.out 4 rfl;have jE := aa.f HS.out 4 rfl 0
 go_upto_region 10 with fail
 have ah := gq (World.setCell w7 ⟨lp, 0, none⟩ (.slice (some ⟨Hg, 0, none⟩) (dF.length - 1) uz)) (AJ (aa.xS HS.out 4 rfl (.slice (some ⟨Hg, 0, none⟩) (dF.length - 1) uz)) 5 rfl zM.out (by omega))
 replace HB : af (Below base w (World.setCell w7 ⟨lp, 0, none⟩ (.slice (some ⟨Hg, 0, none⟩) (dF.length - 1) uz))) := ⟨(HB.out).setCell (p := ⟨lp, 0, none⟩) (aa.ge HS.out 4 rfl) _⟩
 generalize World.setCell w7 ⟨lp, 0, none⟩ (.slice (some ⟨Hg, 0, none⟩) (dF.length - 1) uz) = w8 at ah HB ⊢;replace HS := ah; clear ah eT zs0 jE;clear zh;obtain ⟨QR, lH, _, nZ, _⟩ := info_parts dC;have hcut35 := nS (P := Try.prog) 38 9 .i64 Try.underlying38 lH (some ⟨Hl, 0, none⟩) kG.length sH ((dF.length : Int) - 1) (by omega) (by omega) (aa.row HS.out 6 rfl).2.1;simp only [show (((dF.length : Int) - 1)).toNat = (dF.length - 1) from by omega] at hcut35;clear lH nZ
 have eT := (aa.z1 HS.out 4 rfl)
 have zs0 := aa.z1 HS.out 4 rfl;have jE := aa.f HS.out 4 rfl 1
 go_upto_region 11 with fail
 have ah := gq (World.setCell w8 ⟨lp, 1, none⟩ (.slice (some ⟨Hl, 0, none⟩) (dF.length - 1) sH)) (AJ (aa.xU HS.out 4 rfl (.slice (some ⟨Hl, 0, none⟩) (dF.length - 1) sH)) 6 rfl zN.out (by omega))
 replace HB : af (Below base w (World.setCell w8 ⟨lp, 1, none⟩ (.slice (some ⟨Hl, 0, none⟩) (dF.length - 1) sH))) := ⟨(HB.out).setCell (p := ⟨lp, 1, none⟩) (aa.ge HS.out 4 rfl) _⟩
 generalize World.setCell w8 ⟨lp, 1, none⟩ (.slice (some ⟨Hl, 0, none⟩) (dF.length - 1) sH) = w9 at ah HB ⊢;replace HS := ah; clear ah eT zs0 jE;clear hcut35
 by_cases nN : lcs.length = 0
 ·skip
  have hl0 : lcs = [] := List.length_eq_zero_iff.1 nN;have SL := A_ hl0;have uo := A_ ((aa.gJ HS.out [4, 5, 6, 7, 8] (by decide)).Ol);have hbl := A_ (show decide (((NT.mk lp (.slice (some ⟨Hg, 0, none⟩) (dF.length - 1) uz) (.slice (some ⟨Hl, 0, none⟩) (dF.length - 1) sH) (.slice vY lcs.length nK) l5 l6 lcs).erase.kids.length : Int) = 0) = true from decide_eq_true (by show ((NT.ax lcs).length : Int) = 0; rw [aC, List.length_map]; omega))
  go_wp2_with (first | (go_at_call 84; (with_reducible refine (dm.cK true hbl.out _ ?az).mono ?_); (case az => repeat (first | exact uo.out | (with_reducible refine Rd.drewN ?_ _) | (with_reducible refine Rd.drew ?_))); rintro e w' ⟨rfl, ⟨nd, rfl⟩⟩))
  generalize hW : World.drewN _ _ = yn
  have ah : af (aa yn base [jM 96 tp (iX jG) tks.length fG (iX jH) tvs.length fM (some iB) aJ.length fK, uw (iX jG) tks.length fG l3, uw (iX jH) tvs.length fM l4, lX 70 (some iB) fK aJ, jM 96 lp (iX Hg) (dF.length - 1) uz (iX Hl) (dF.length - 1) sH vY lcs.length nK, uw (iX Hg) (dF.length - 1) uz l5, uw (iX Hl) (dF.length - 1) sH l6, lX 70 vY nK lcs, (NT.aZ 96 70 lcs), jM 96 rp vX l1.length c19 Dp l2.length Ae vZ eU.length crc, gK vX c19 l1, gK Dp Ae l2, lX 70 vZ crc eU, (NT.aZ 96 70 eU), GP, GQ]) := ⟨by rw [<- hW]; exact aa.drewN HS.out _⟩
  replace HB : af (Below base w yn) := ⟨by rw [<- hW]; exact aj HB.out _⟩
  replace HS := ah; clear ah uo hbl hW
  go_end0
  have hS := yL (aa.gJ HS.out [0, 1, 2, 3, 4, 5, 6, 7, 8, 9, 10, 11, 12, 13, 14, 15] (by decide));refine ⟨rfl, NT.mk tp (.slice (some ⟨jG, 0, none⟩) tks.length fG) (.slice (some ⟨jH, 0, none⟩) tvs.length fM) (.slice (some iB) aJ.length fK) l3 l4 (P ++ NT.mk lp (.slice (some ⟨Hg, 0, none⟩) (dF.length - 1) uz) (.slice (some ⟨Hl, 0, none⟩) (dF.length - 1) sH) (.slice vY lcs.length nK) l5 l6 lcs :: NT.mk rp (.slice vX l1.length c19) (.slice Dp l2.length Ae) (.slice vZ eU.length crc) l1 l2 eU :: Q), rfl, ?_, shut_pair rfl ?_, HB.out⟩
  ·have e0 := HRR.out
   rw [HT.out] at e0;rw [e0];show PT.mk l3 l4 (NT.ax (P ++ _ :: _ :: Q)) = BK (PT.mk tks tvs (NT.ax (P ++ _ :: _ :: Q))) (i - 1);simp only [aC, List.map_append, List.map_cons];rw [xV (by rw [List.length_map]; exact HP.out)];have Df := mF.out;subst Df;have Dh := qa.out;subst Dh;have Di := yF.out;subst Di;have Dj := Ah.out;subst Dj;have Dk := zM.out;subst Dk;have Dl := zN.out;subst Dl;have ex := oV.out.2;subst ex;have ey := oh.out.2;subst ey;have ez := KY.out.2;subst ez;have eu := KZ.out.2;subst eu;have ec := SL.out;subst ec;simp [uf, ug, NT.erase, NT.ax, PT.keys, PT.vals, PT.kids]
  ·unfold kL
   simp only [NT.keys, NT.vals, NT.kids, NT.p, NT.kv, NT.vv, NT.cv]
   have hq : ∀ a b : NT, a.p = lp -> b.p = rp -> ptrs (P ++ a :: b :: Q) = ptrs aJ := fun a b ha hb => by rw [HT.out]; simp only [ptrs, List.map_append, List.map_cons, ha, hb]; rfl
   rw [hq _ _ rfl rfl, <- KW.out, <- KX.out];exact hS
 ·skip
  have hlc : dF.length < lcs.length /\ lcs.length <= 1001 := by have := HV.out; omega
  have hrc : eU.length <= 1001 := by have := Rk.out; omega
  obtain ⟨s, hs0⟩ : ∃ s, lcs[dF.length]? = some s := ⟨lcs[dF.length], List.getElem?_eq_getElem hlc.1⟩
  obtain ⟨sp, hsp⟩ : ∃ p, s.p = p := ⟨_, rfl⟩
  have jw : af (lcs[dF.length]? = some s /\ s.p = sp) := ⟨hs0, hsp⟩
  clear hs0 hsp;obtain ⟨zm, rfl⟩ := fJ (aa.q HS.out 7 rfl) (by omega);obtain ⟨Rl, Vu⟩ := lL (aI eU 0 s);obtain ⟨Yz, Vv⟩ := lL (lcs.take dF.length)
  have Vw : af (Rl.map NT.p = aI (eU.map NT.p) 0 sp) := ⟨by rw [Vu.out, jI, jw.out.2]⟩
  have uo := A_ ((aa.gJ HS.out [4, 5, 6, 7, 8] (by decide)).Ol);have hbl := A_ (show decide (((NT.mk lp (.slice (some ⟨Hg, 0, none⟩) (dF.length - 1) uz) (.slice (some ⟨Hl, 0, none⟩) (dF.length - 1) sH) (.slice (some zm) lcs.length nK) l5 l6 lcs).erase.kids.length : Int) = 0) = false from decide_eq_false (by show ((NT.ax lcs).length : Int) ≠ 0; rw [aC, List.length_map]; omega))
  go_upto_region 12 with (first | (go_at_call 84; (with_reducible refine (dm.cK false hbl.out _ ?az).mono ?_); (case az => repeat (first | exact uo.out | (with_reducible refine Rd.drewN ?_ _) | (with_reducible refine Rd.drew ?_))); rintro e w' ⟨rfl, ⟨nd, rfl⟩⟩))
  generalize hW : World.drewN _ _ = yn
  have ah : af (aa yn base [jM 96 tp (iX jG) tks.length fG (iX jH) tvs.length fM (some iB) aJ.length fK, uw (iX jG) tks.length fG l3, uw (iX jH) tvs.length fM l4, lX 70 (some iB) fK aJ, jM 96 lp (iX Hg) (dF.length - 1) uz (iX Hl) (dF.length - 1) sH (some zm) lcs.length nK, uw (iX Hg) (dF.length - 1) uz l5, uw (iX Hl) (dF.length - 1) sH l6, lX 70 (some zm) nK lcs, (NT.aZ 96 70 lcs), jM 96 rp vX l1.length c19 Dp l2.length Ae vZ eU.length crc, gK vX c19 l1, gK Dp Ae l2, lX 70 vZ crc eU, (NT.aZ 96 70 eU), GP, GQ]) := ⟨by rw [<- hW]; exact aa.drewN HS.out _⟩
  replace HB : af (Below base w yn) := ⟨by rw [<- hW]; exact aj HB.out _⟩
  replace HS := ah; clear ah uo hbl hW;have b38 := bV (0 <= (dF.length : Int));have YA := bV ((dF.length : Int) < (lcs.length : Int));have b40 := bV (dF.length < lcs.length);have sd41 : 0 <= eU.length /\ eU.length <= 1000000 := by omega
  obtain ⟨q44, q45⟩ : (wrap64 (((dF.length : Int) - 1) + 1) = (dF.length : Int)) /\ (wrap64 (dF.length : Int) = (dF.length : Int)) := ⟨jW (by omega), jW (by omega)⟩
  refine bS (n := 17) (S := fun w' => w'.cell? ⟨rp, 2, none⟩ = some (.slice vZ eU.length crc) /\ w'.cell? ⟨lp, 2, none⟩ = some (.slice (some zm) lcs.length nK) /\ w'.cell? (zm.add dF.length) = some (bu sp)) (ds := [16]) (bt 17 0) (by kernel_rfl) rfl rfl ⟨(aa.z2 (aa.drew HS.out) 9 rfl), (aa.z2 (aa.drew HS.out) 4 rfl), (ik (aa.fH (aa.drew HS.out) 7 rfl) jw.out)⟩ (fun hHeld => ?_);refine aH 0 132 1 ?_;refine aH 1 133 3 ?_;refine aH 2 134 7 ?_;refine aH 3 135 15 ?_;refine aH 5 137 47 ?_;refine aH 6 138 111 ?_;refine aH 7 139 239 ?_;refine aH 9 141 751 ?_;refine aH 10 142 1775 ?_;refine fq 4 136 1791 hHeld ?_;refine fq 8 140 2047 hHeld ?_;refine aH 11 143 4095 ?_;refine fq 12 144 8191 hHeld ?_;refine gG 13 (some 145) 16383 (fun K hK => ?_);refine lI Try.func125 #[.slice vZ eU.length crc, .int .i64 0, bu sp] ?_
  with_reducible refine (Xe 0 0 s sp jw.out.2 rfl Vw.out (aa.fH (aa.drew HS.out) 12 rfl) sd41).mono ?_
  rintro e Ab ⟨ja, rfl, ho, hb⟩;refine ⟨_, rfl, ?_⟩;obtain ⟨MI, MJ, wF⟩ := Kd.ak ho;rw [List.length_map] at wF;subst wF;have ah := jN (aa.wS (aa.drew HS.out) hb (cO bQ HB) ho)
  replace HB : af (Below base w Ab) := ⟨((aG HB.out)).trans (hb.mono (cO bQ HB))⟩
  replace HS := ah; clear ah ho hb;have zs0 := aa.z2 HS.out 9 rfl;have jE := aa.f HS.out 9 rfl 2;refine dh 145 hK ⟨(aa.z2 HS.out 9 rfl), (aa.z2 HS.out 4 rfl), (ik (aa.fH HS.out 7 rfl) jw.out)⟩ (fun hHeld => ?_);refine aH 14 146 32767 ?_;refine aH 15 147 65535 ?_;refine qz 16 none 131071 (fun K hK => ?_);refine fA (w1 := ?_) (by rfl) rfl ?_ ?_;rotate_left
  ·go_simp
   rfl
  refine hK.out _ _ ?_;clear hK K;refine dL (by kernel_rfl) ?_;clear q44 q45;have ah := gq (World.setCell Ab ⟨rp, 2, none⟩ (.slice MI Rl.length MJ)) (aa.gJ (aa.rW HS.out 9 rfl (.slice MI Rl.length MJ)) [0, 1, 2, 3, 4, 5, 6, 7, 8, 9, 10, 11, 16, 13, 14, 15] (by decide))
  replace HB : af (Below base w (World.setCell Ab ⟨rp, 2, none⟩ (.slice MI Rl.length MJ))) := ⟨(HB.out).setCell (p := ⟨rp, 2, none⟩) (aa.ge HS.out 9 rfl) _⟩
  generalize World.setCell Ab ⟨rp, 2, none⟩ (.slice MI Rl.length MJ) = Af at ah HB ⊢;replace HS := ah; clear ah zs0 jE
  go_upto_region 13 with fail
  obtain ⟨QR, lH, _, nZ, _⟩ := info_parts kY;have hcut46 := nS (P := Try.prog) 94 70 .i64 jm lH (some zm) lcs.length nK (dF.length : Int) (by omega) (by omega) (aa.fH HS.out 7 rfl).2.1;simp only [show ((dF.length : Int)).toNat = dF.length from by omega] at hcut46;clear lH nZ
  have eT := (aa.z2 HS.out 4 rfl)
  have zs0 := aa.z2 HS.out 4 rfl;have jE := aa.f HS.out 4 rfl 2
  go_wp2_with fail
  have ah := gq (World.setCell Af ⟨lp, 2, none⟩ (.slice (some zm) dF.length nK)) (FW (aa.rW HS.out 4 rfl (.slice (some zm) dF.length nK)) 7 rfl Vv.out (by omega))
  replace HB : af (Below base w (World.setCell Af ⟨lp, 2, none⟩ (.slice (some zm) dF.length nK))) := ⟨(HB.out).setCell (p := ⟨lp, 2, none⟩) (aa.ge HS.out 4 rfl) _⟩
  generalize World.setCell Af ⟨lp, 2, none⟩ (.slice (some zm) dF.length nK) = Fu at ah HB ⊢;replace HS := ah; clear ah eT zs0 jE;clear hcut46
  have QT : af (NT.aZ 96 70 lcs = NT.aZ 96 70 Yz ++ s.dH 96 70) := ⟨by rw [Vv.out, lW 96 70 jw.out.1, List.drop_eq_nil_of_le (by have := HV.out; omega), NT.aZ, List.append_nil]⟩
  have ah : af (aa Fu base [jM 96 tp (iX jG) tks.length fG (iX jH) tvs.length fM (some iB) aJ.length fK, uw (iX jG) tks.length fG l3, uw (iX jH) tvs.length fM l4, lX 70 (some iB) fK aJ, jM 96 lp (iX Hg) (dF.length - 1) uz (iX Hl) (dF.length - 1) sH (some zm) dF.length nK, uw (iX Hg) (dF.length - 1) uz l5, uw (iX Hl) (dF.length - 1) sH l6, WW 70 (some zm) dF.length nK Yz, (NT.aZ 96 70 Yz), jM 96 rp vX l1.length c19 Dp l2.length Ae MI Rl.length MJ, gK vX c19 l1, gK Dp Ae l2, lX 70 MI MJ Rl, (NT.aZ 96 70 eU), GP, GQ, (s.dH 96 70)]) := ⟨aa.cut HS.out 8 (congrArg some QT.out)⟩
  replace HB : af (Below base w Fu) := ⟨HB.out⟩
  replace HS := ah; clear ah
  go_end0
  have hS := yL (aa.gJ HS.out [0, 1, 2, 3, 4, 5, 6, 7, 8, 9, 10, 11, 12, 16, 13, 14, 15] (by decide));refine ⟨rfl, NT.mk tp (.slice (some ⟨jG, 0, none⟩) tks.length fG) (.slice (some ⟨jH, 0, none⟩) tvs.length fM) (.slice (some iB) aJ.length fK) l3 l4 (P ++ NT.mk lp (.slice (some ⟨Hg, 0, none⟩) (dF.length - 1) uz) (.slice (some ⟨Hl, 0, none⟩) (dF.length - 1) sH) (.slice (some zm) dF.length nK) l5 l6 Yz :: NT.mk rp (.slice vX l1.length c19) (.slice Dp l2.length Ae) (.slice MI Rl.length MJ) l1 l2 Rl :: Q), rfl, ?_, shut_pair rfl ?_, HB.out⟩
  ·have e0 := HRR.out
   rw [HT.out] at e0;rw [e0];show PT.mk l3 l4 (NT.ax (P ++ _ :: _ :: Q)) = BK (PT.mk tks tvs (NT.ax (P ++ _ :: _ :: Q))) (i - 1);simp only [aC, List.map_append, List.map_cons];rw [xV (by rw [List.length_map]; exact HP.out)];have Df := mF.out;subst Df;have Dh := qa.out;subst Dh;have Di := yF.out;subst Di;have Dj := Ah.out;subst Dj;have Dk := zM.out;subst Dk;have Dl := zN.out;subst Dl;have ex := oV.out.2;subst ex;have ey := oh.out.2;subst ey;have ez := KY.out.2;subst ez;have eu := KZ.out.2;subst eu;have el37 := Vv.out;subst el37;have el36 := Vu.out;subst el36
   have hn : ¬ lcs = [] := fun h => nN (by rw [h]; rfl)
   simp [uf, ug, NT.erase, aC, PT.keys, PT.vals, PT.kids, gy, hn, jI, List.map_take];rw [jw.out.1];rfl
  ·unfold kL
   simp only [NT.keys, NT.vals, NT.kids, NT.p, NT.kv, NT.vv, NT.cv]
   have hq : ∀ a b : NT, a.p = lp -> b.p = rp -> ptrs (P ++ a :: b :: Q) = ptrs aJ := fun a b ha hb => by rw [HT.out]; simp only [ptrs, List.map_append, List.map_cons, ha, hb]; rfl
   have hc : NT.aZ 96 70 Rl = s.dH 96 70 ++ NT.aZ 96 70 eU := by rw [Vu.out]; show NT.aZ 96 70 ([] ++ s :: eU.drop 0) = _; rw [List.nil_append, List.drop_zero, NT.aZ]
   rw [hq _ _ rfl rfl, <- KW.out, <- KX.out, hc];unfold aa at hS ⊢;simp only [List.flatten_cons, List.append_assoc] at hS ⊢;exact hS
theorem Kj.calls (t l r : NT) (P Q : List NT) (i : Nat) (hno : i = 0 \/ 0 < i /\ ∃ s : NT, t.kids[i - 1]? = some s /\ s.keys.length <= 2) (ht : t.kids = P ++ l :: r :: Q) (hP : P.length = i) (h2 : 2 < r.keys.length) (hl : FX l.keys l.vals l.kids.length) (hr : FX r.keys r.vals r.kids.length) (hj : i < t.keys.length /\ t.keys.length <= 1000 /\ t.vals.length = t.keys.length /\ t.kids.length = t.keys.length + 1)
  (base : Nat) (L : List Ck) (w : World) (hs : Sat w base (t.dH 96 70 ++ L)) (hbs : base <= w.heap.size) :
  Calls Try.prog 113 #[bu t.p, .int .i64 (i : Int)] w (WR w base 96 70 t L (BL t.erase i)) := by
 have OA : af (i = 0 \/ 0 < i /\ ∃ (sp n : Nat) (A : Option Addr) (c : Nat), Iq t.kids (i - 1) sp /\ n <= 2 /\ w.cell? ⟨sp, 0, none⟩ = some (.slice A n c)) := ⟨by
  rcases hno with h | ⟨h, s, h1, h2⟩
  ·exact .inl h
  ·obtain ⟨A, c, h3⟩ := oJ hs h1
   exact .inr ⟨h, s.p, s.keys.length, A, c, ⟨s, h1, rfl⟩, h2, h3⟩⟩
 clear hno
 cases t with | mk tp yC yD yE tks tvs aJ =>
 cases l with | mk lp JC JD JE dF kG lcs =>
 cases r with | mk rp JF JG rcv mG lK eU =>
 have h0 := open_pair ht hs;unfold kL at h0;simp only [NT.keys, NT.vals, NT.kids, NT.p, NT.kv, NT.vv, NT.cv] at ht hl hr hj h0 h2 OA ⊢;clear hs;unfold FX at hl hr;obtain ⟨hl1, hl2, hl3⟩ := hl;obtain ⟨hr1, hr2, hr3⟩ := hr;obtain ⟨hj1, hj2, JH, KU⟩ := hj;have hil : (i + 1) < aJ.length := by rw [ht, List.length_append, hP]; simp only [List.length_cons]; omega
 have hij : (i + 1) = i + 1 := by omega
 have HP := A_ hP;have HT := A_ ht
 have hkl : aJ[i]? = some (NT.mk lp JC JD JE dF kG lcs) /\ (NT.mk lp JC JD JE dF kG lcs).p = lp := ⟨by rw [ht]; exact M9 hP, rfl⟩
 have hkr : aJ[(i + 1)]? = some (NT.mk rp JF JG rcv mG lK eU) /\ (NT.mk rp JF JG rcv mG lK eU).p = rp := ⟨by rw [ht, hij]; exact Na hP, rfl⟩
 have xu := A_ hkl;have Oz := A_ hkr;clear hkl hkr ht hij
 obtain ⟨R, hR⟩ : ∃ R, R = BL (NT.mk tp yC yD yE tks tvs aJ).erase i := ⟨_, rfl⟩
 rw [<- hR];have HRR := A_ hR;clear hR;obtain ⟨jF, fG, rfl⟩ := Kd.ak (h0.sr 1 rfl);obtain ⟨jG, rfl⟩ := dA (h0.sr 1 rfl) (by omega);obtain ⟨jK, fM, rfl⟩ := Kd.ak (h0.sr 2 rfl);obtain ⟨jH, rfl⟩ := dA (h0.sr 2 rfl) (by omega);obtain ⟨qB, fK, rfl, _, _⟩ := dz (h0.q 3 rfl);obtain ⟨iB, rfl⟩ := fJ (h0.q 3 rfl) (by omega);obtain ⟨Fz, uz, rfl⟩ := Kd.ak (h0.sr 5 rfl);obtain ⟨Bc, sH, rfl⟩ := Kd.ak (h0.sr 6 rfl);obtain ⟨vY, nK, rfl, _, _⟩ := dz (h0.q 7 rfl);obtain ⟨G9, FB, rfl⟩ := Kd.ak (h0.sr 10 rfl);obtain ⟨ZG, rfl⟩ := dA (h0.sr 10 rfl) (by omega);obtain ⟨Bd, Ai, rfl⟩ := Kd.ak (h0.sr 11 rfl);obtain ⟨ZH, rfl⟩ := dA (h0.sr 11 rfl) (by omega);obtain ⟨vZ, crc, rfl, _, _⟩ := dz (h0.q 12 rfl)
 obtain ⟨GP, Dm⟩ : ∃ G, G = NT.aZ 96 70 P := ⟨_, rfl⟩
 obtain ⟨GQ, Dn⟩ : ∃ G, G = NT.aZ 96 70 Q ++ L := ⟨_, rfl⟩
 rw [<- Dm, <- Dn] at h0;have HS := A_ h0;have HB := A_ (Below.refl base w);have bQ := A_ hbs;have KW := A_ Dm;have KX := A_ Dn;clear h0 hbs Dm Dn hP;have Rk := A_ (show eU.length <= 1001 /\ lcs.length <= 1001 by omega);have HV := A_ (show kG.length = dF.length /\ lK.length = mG.length /\ tvs.length = tks.length /\ (eU.length = 0 \/ eU.length = mG.length + 1) /\ aJ.length = tks.length + 1 from ⟨hl2, hr2, JH, hr3, KU⟩);have XU : mG.length <= lK.length /\ lK.length <= 1000 := by omega
 have hlv : kG.length <= 1000 := by omega
 have Fv : i < tvs.length /\ tvs.length <= 1000 := by omega
 have htc : aJ.length <= 1001 := by omega
 clear hl2 hl3 hr2 hr3 JH KU
 obtain ⟨tx, htx⟩ : ∃ x, bq tks i = x := ⟨_, rfl⟩
 have oV : af (i < tks.length /\ bq tks i = tx) := ⟨by omega, htx⟩
 clear htx
 obtain ⟨ty, hty⟩ : ∃ x, bq tvs i = x := ⟨_, rfl⟩
 have oh : af (i < tvs.length /\ bq tvs i = ty) := ⟨by omega, hty⟩
 clear hty
 obtain ⟨lx, hlx⟩ : ∃ x, bq mG 0 = x := ⟨_, rfl⟩
 have KY : af (0 < mG.length /\ bq mG 0 = lx) := ⟨by omega, hlx⟩
 clear hlx
 obtain ⟨ly, QV⟩ : ∃ x, bq lK 0 = x := ⟨_, rfl⟩
 have KZ : af (0 < lK.length /\ bq lK 0 = ly) := ⟨by have := HV.out; omega, QV⟩
 clear QV;obtain ⟨l1, mF⟩ := lL (dF ++ [tx]);obtain ⟨l2, qa⟩ := lL (kG ++ [ty]);obtain ⟨l3, yF⟩ := lL (tks.set i lx);obtain ⟨l4, Ah⟩ := lL (tvs.set i ly);obtain ⟨l5, zM⟩ := lL (mG.eraseIdx 0);obtain ⟨l6, zN⟩ := lL (lK.eraseIdx 0);go_enter Try.func113, Try.ntmps113;have b7 := bV (0 <= (i : Int));have b8 := bV ((i : Int) < (aJ.length : Int));have b9 := bV (i < aJ.length)
 have eT := (aa.z2 HS.out 0 rfl)
 have qU := (ik (aa.fH HS.out 3 rfl) xu.out)
 go_upto_region 2 with fail
 clear eT qU;go_cut [19] (fun v_ wc => v_ = .bool false /\ w = wc)
 case first =>
  skip
  rcases OA.out with h0 | ⟨h0, ZI, ls, As, cs, ⟨s0, hs1, hs4⟩, hs2, hs3⟩
  ·have c_ := kS ((0 : Int) < (i : Int))
   go_wp2_with fail
   go_meet
   case rel => exact ⟨rfl, rfl⟩
  ·have c_ := lQ ((0 : Int) < (i : Int))
   have Rm := bV (1 <= (i : Int));have TE := bV (((i : Int) - 1) < (aJ.length : Int));have Vx := bV ((i - 1) < aJ.length);have K4 := kS ((2 : Int) < (ls : Int));have qU := aa.z2 HS.out 0 rfl;have wG := ik (aa.fH HS.out 3 rfl) (And.intro hs1 hs4)
   go_wp2_with fail
   go_meet
   case rel => exact ⟨rfl, rfl⟩
 case rest =>
  obtain ⟨rfl, ew⟩ := hcut;subst ew
  go_upto_region 14 with fail
  have c10 := lQ ((i : Int) < (tks.length : Int));have b11 := bV (0 <= ((i : Int) + 1));have b12 := bV (((i : Int) + 1) < (aJ.length : Int));have b13 := bV ((i + 1) < aJ.length);have c14 := lQ ((2 : Int) < (mG.length : Int))
  have eT := (aa.z0 HS.out 0 rfl)
  have qU := (aa.z2 HS.out 0 rfl)
  have wG := (wV (aa.fH HS.out 3 rfl) Oz.out (by omega))
  have NZ := (aa.z0 HS.out 9 rfl)
  go_upto_region 15 with fail
  clear eT qU wG NZ
  have eT := (aa.z2 HS.out 0 rfl)
  have qU := (wV (aa.fH HS.out 3 rfl) Oz.out (by omega))
  go_upto_region 16 with fail
  clear eT qU;have b15 := bV ((i : Int) < (tks.length : Int));have b16 := bV (i < tks.length);have QW : (dF.length + 1) * 16 <= 140737488355328 := by omega
  refine bS (n := 17) (S := fun w' => w'.cell? ⟨lp, 0, none⟩ = some (.slice Fz dF.length uz) /\ w'.cell? ⟨tp, 0, none⟩ = some (.slice (some ⟨jG, 0, none⟩) tks.length fG) /\ w'.cell? ⟨jG, i, none⟩ = some (.string tx)) (ds := [16]) (bt 17 0) (by kernel_rfl) rfl rfl ⟨(aa.z0 (aa.drew HS.out) 4 rfl), (aa.z0 (aa.drew HS.out) 0 rfl), (iH (aa.sr (aa.drew HS.out) 1 rfl) oV.out)⟩ (fun hHeld => ?_);refine aH 0 189 1 ?_;refine aH 1 190 3 ?_;refine aH 2 191 7 ?_;refine aH 3 192 15 ?_;refine aH 5 194 47 ?_;refine aH 6 195 111 ?_;refine aH 7 196 239 ?_;refine aH 9 198 751 ?_;refine fq 4 193 767 hHeld ?_;refine fq 8 197 1023 hHeld ?_;refine aH 10 199 2047 ?_;refine fq 11 200 4095 hHeld ?_;refine gG 12 (some 201) 8191 (fun K hK => ?_);refine xy Kd.string 9 201 [tx] [.string tx] (Kd.aY (enc := Value.string) [tx]) (aG HB.out) (cO bQ HB) ?_;intro v17 w2 ho hb hg hn;obtain ⟨vX, c19, rfl⟩ : ∃ A c, v17 = .slice A 1 c := Kd.ak ho;have ah := jN (aa.lit (aa.drew HS.out) ho hg hn)
  replace HB : af (Below base w w2) := ⟨hb⟩
  replace HS := ah; clear ah ho hb hg hn;refine dh 201 hK ⟨(aa.z0 HS.out 4 rfl), (aa.z0 HS.out 0 rfl), (iH (aa.sr HS.out 1 rfl) oV.out)⟩ (fun hHeld => ?_);refine gG 13 (some 202) 16383 (fun K hK => ?_);refine Kd.aM Kd.string (w0 := w) base (by rfl) (.tmp 193) (.tmp 201) 38 9 (.string ⟨#[]⟩) 16 rfl Try.underlying38 dC rfl (by decide) (by omega) (.slice Fz dF.length uz) dF [tx] vX 1 c19 (fun _ => True) (fun _ => False) rfl rfl (aa.sr HS.out 5 rfl) (DD HS.out 16 rfl) (fun _ _ h => h) (fun _ h => h.elim) (fun _ _ => trivial) HB.out (cO bQ HB) QW ?_;intro u20 w3 ho hb hg hat;rw [<- mF.out] at ho;obtain ⟨MK, ML, rfl⟩ := Kd.ak ho;have ah := jN (aa.app 5 HS.out rfl ho hg hat)
  replace HB : af (Below base w w3) := ⟨hb⟩
  replace HS := ah; clear ah ho hb hg hat;have zs0 := aa.z0 HS.out 4 rfl;have jE := aa.f HS.out 4 rfl 0;refine dh 202 hK ⟨(aa.z0 HS.out 4 rfl), (aa.z0 HS.out 0 rfl), (iH (aa.sr HS.out 1 rfl) oV.out)⟩ (fun hHeld => ?_);refine aH 14 203 32767 ?_;refine aH 15 204 65535 ?_;refine qz 16 none 131071 (fun K hK => ?_);refine fA (w1 := ?_) (by rfl) rfl ?_ ?_;rotate_left
  ·go_simp
   rfl
  refine hK.out _ _ ?_;clear hK K;refine dL (by kernel_rfl) ?_;have ah := gq (World.setCell w3 ⟨lp, 0, none⟩ (.slice MK l1.length ML)) (aa.xS HS.out 4 rfl (.slice MK l1.length ML))
  replace HB : af (Below base w (World.setCell w3 ⟨lp, 0, none⟩ (.slice MK l1.length ML))) := ⟨(HB.out).setCell (p := ⟨lp, 0, none⟩) (aa.ge HS.out 4 rfl) _⟩
  generalize World.setCell w3 ⟨lp, 0, none⟩ (.slice MK l1.length ML) = w4 at ah HB ⊢;replace HS := ah; clear ah zs0 jE
  go_upto_region 17 with fail
  have b24 := bV ((i : Int) < (tvs.length : Int));have b25 := bV (i < tvs.length);have sd32 : (kG.length + 1) * 16 <= 140737488355328 := by omega
  refine bS (n := 17) (S := fun w' => w'.cell? ⟨lp, 1, none⟩ = some (.slice Bc kG.length sH) /\ w'.cell? ⟨tp, 1, none⟩ = some (.slice (some ⟨jH, 0, none⟩) tvs.length fM) /\ w'.cell? ⟨jH, i, none⟩ = some (.string ty)) (ds := [16]) (bt 17 0) (by kernel_rfl) rfl rfl ⟨(aa.z1 (aa.drew HS.out) 4 rfl), (aa.z1 (aa.drew HS.out) 0 rfl), (iH (aa.sr (aa.drew HS.out) 2 rfl) oh.out)⟩ (fun hHeld => ?_);refine aH 0 205 1 ?_;refine aH 1 206 3 ?_;refine aH 2 207 7 ?_;refine aH 3 208 15 ?_;refine aH 5 210 47 ?_;refine aH 6 211 111 ?_;refine aH 7 212 239 ?_;refine aH 9 214 751 ?_;refine fq 4 209 767 hHeld ?_;refine fq 8 213 1023 hHeld ?_;refine aH 10 215 2047 ?_;refine fq 11 216 4095 hHeld ?_;refine gG 12 (some 217) 8191 (fun K hK => ?_);refine xy Kd.string 9 217 [ty] [.string ty] (Kd.aY (enc := Value.string) [ty]) (aG HB.out) (cO bQ HB) ?_;intro v26 w5 ho hb hg hn;obtain ⟨K5, c28, rfl⟩ : ∃ A c, v26 = .slice A 1 c := Kd.ak ho;have ah := jN (aa.lit (aa.drew HS.out) ho hg hn)
  replace HB : af (Below base w w5) := ⟨hb⟩
  replace HS := ah; clear ah ho hb hg hn;refine dh 217 hK ⟨(aa.z1 HS.out 4 rfl), (aa.z1 HS.out 0 rfl), (iH (aa.sr HS.out 2 rfl) oh.out)⟩ (fun hHeld => ?_);refine gG 13 (some 218) 16383 (fun K hK => ?_);refine Kd.aM Kd.string (w0 := w) base (by rfl) (.tmp 209) (.tmp 217) 38 9 (.string ⟨#[]⟩) 16 rfl Try.underlying38 dC rfl (by decide) (by omega) (.slice Bc kG.length sH) kG [ty] K5 1 c28 (fun _ => True) (fun _ => False) rfl rfl (aa.sr HS.out 6 rfl) (DD HS.out 17 rfl) (fun _ _ h => h) (fun _ h => h.elim) (fun _ _ => trivial) HB.out (cO bQ HB) sd32 ?_;intro u29 w6 ho hb hg hat;rw [<- qa.out] at ho;obtain ⟨xx, c31, rfl⟩ := Kd.ak ho;have ah := jN (aa.app 6 HS.out rfl ho hg hat)
  replace HB : af (Below base w w6) := ⟨hb⟩
  replace HS := ah; clear ah ho hb hg hat;have zs0 := aa.z1 HS.out 4 rfl;have jE := aa.f HS.out 4 rfl 1;refine dh 218 hK ⟨(aa.z1 HS.out 4 rfl), (aa.z1 HS.out 0 rfl), (iH (aa.sr HS.out 2 rfl) oh.out)⟩ (fun hHeld => ?_);refine aH 14 219 32767 ?_;refine aH 15 220 65535 ?_;refine qz 16 none 131071 (fun K hK => ?_);refine fA (w1 := ?_) (by rfl) rfl ?_ ?_;rotate_left
  ·go_simp
   rfl
  refine hK.out _ _ ?_;clear hK K;refine dL (by kernel_rfl) ?_;have ah := gq (World.setCell w6 ⟨lp, 1, none⟩ (.slice xx l2.length c31)) (aa.xU HS.out 4 rfl (.slice xx l2.length c31))
  replace HB : af (Below base w (World.setCell w6 ⟨lp, 1, none⟩ (.slice xx l2.length c31))) := ⟨(HB.out).setCell (p := ⟨lp, 1, none⟩) (aa.ge HS.out 4 rfl) _⟩
  generalize World.setCell w6 ⟨lp, 1, none⟩ (.slice xx l2.length c31) = w7 at ah HB ⊢;replace HS := ah; clear ah zs0 jE
  go_upto_region 18 with fail
  have XV := bV ((0 : Int) < (mG.length : Int));have b34 := bV (0 < mG.length);have zs0 := iH (aa.sr (aa.drew HS.out) 1 rfl) oV.out;have jE := fZ (aa.sr (aa.drew HS.out) 1 rfl) (Nat.lt_of_le_of_lt (Nat.zero_le _) oV.out.1) i;refine bS (n := 13) (S := fun w' => w'.cell? ⟨tp, 0, none⟩ = some (.slice (some ⟨jG, 0, none⟩) tks.length fG) /\ w'.cell? ⟨rp, 0, none⟩ = some (.slice (some ⟨ZG, 0, none⟩) mG.length FB) /\ w'.cell? ⟨ZG, 0, none⟩ = some (.string lx)) (ds := [12]) (bt 13 0) (by kernel_rfl) rfl rfl ⟨(aa.z0 (aa.drew HS.out) 0 rfl), (aa.z0 (aa.drew HS.out) 9 rfl), (iH (aa.sr (aa.drew HS.out) 10 rfl) KY.out)⟩ (fun hHeld => ?_);refine aH 0 221 1 ?_;refine aH 1 222 3 ?_;refine aH 2 223 7 ?_;refine aH 4 225 23 ?_;refine aH 5 226 55 ?_;refine aH 6 227 119 ?_;refine aH 7 228 247 ?_;refine fq 3 224 255 hHeld ?_;refine fq 8 229 511 hHeld ?_;refine aH 9 230 1023 ?_;refine fq 10 231 2047 hHeld ?_;refine aH 11 232 4095 ?_;refine qz 12 none 8191 (fun K hK => ?_);refine fA (w1 := ?_) (by rfl) rfl ?_ ?_;rotate_left
  ·go_simp
   rfl
  refine hK.out _ _ ?_;clear hK K;refine dL (by kernel_rfl) ?_;have ah := gq (World.drew (World.setCell w7 ⟨jG, i, none⟩ (.string lx))) (aa.nM (aa.drew HS.out) 1 rfl i lx yF.out)
  replace HB : af (Below base w (World.drew (World.setCell w7 ⟨jG, i, none⟩ (.string lx)))) := ⟨((aG HB.out)).setCell (p := ⟨jG, i, none⟩) (rX (aa.drew HS.out) 1 rfl oV.out) _⟩
  generalize World.drew (World.setCell w7 ⟨jG, i, none⟩ (.string lx)) = w8 at ah HB ⊢;replace HS := ah; clear ah zs0 jE
  go_upto_region 19 with fail
  have XW := bV ((0 : Int) < (lK.length : Int));have b36 := bV (0 < lK.length);have zs0 := iH (aa.sr (aa.drew HS.out) 2 rfl) oh.out;have jE := fZ (aa.sr (aa.drew HS.out) 2 rfl) (Nat.lt_of_le_of_lt (Nat.zero_le _) oh.out.1) i;refine bS (n := 13) (S := fun w' => w'.cell? ⟨tp, 1, none⟩ = some (.slice (some ⟨jH, 0, none⟩) tvs.length fM) /\ w'.cell? ⟨rp, 1, none⟩ = some (.slice (some ⟨ZH, 0, none⟩) lK.length Ai) /\ w'.cell? ⟨ZH, 0, none⟩ = some (.string ly)) (ds := [12]) (bt 13 0) (by kernel_rfl) rfl rfl ⟨(aa.z1 (aa.drew HS.out) 0 rfl), (aa.z1 (aa.drew HS.out) 9 rfl), (iH (aa.sr (aa.drew HS.out) 11 rfl) KZ.out)⟩ (fun hHeld => ?_);refine aH 0 233 1 ?_;refine aH 1 234 3 ?_;refine aH 2 235 7 ?_;refine aH 4 237 23 ?_;refine aH 5 238 55 ?_;refine aH 6 239 119 ?_;refine aH 7 240 247 ?_;refine fq 3 236 255 hHeld ?_;refine fq 8 241 511 hHeld ?_;refine aH 9 242 1023 ?_;refine fq 10 243 2047 hHeld ?_;refine aH 11 244 4095 ?_;refine qz 12 none 8191 (fun K hK => ?_);refine fA (w1 := ?_) (by rfl) rfl ?_ ?_;rotate_left
  ·go_simp
   rfl
  refine hK.out _ _ ?_;clear hK K;refine dL (by kernel_rfl) ?_;have ah := gq (World.drew (World.setCell w8 ⟨jH, i, none⟩ (.string ly))) (aa.nM (aa.drew HS.out) 2 rfl i ly Ah.out)
  replace HB : af (Below base w (World.drew (World.setCell w8 ⟨jH, i, none⟩ (.string ly)))) := ⟨((aG HB.out)).setCell (p := ⟨jH, i, none⟩) (rX (aa.drew HS.out) 2 rfl oh.out) _⟩
  generalize World.drew (World.setCell w8 ⟨jH, i, none⟩ (.string ly)) = w9 at ah HB ⊢;replace HS := ah; clear ah zs0 jE
  go_upto_region 20 with fail
  have sd37 : 0 < mG.length /\ mG.length <= 1000000 := by omega
  have eT := (aa.z0 HS.out 9 rfl)
  go_upto_region 21 with (first | (go_at_call 112; (with_reducible refine (Nb 0 0 rfl zM.out (aa.row HS.out 10 rfl) sd37).mono ?_); rintro e yn ⟨ja, rfl, ho, hb⟩; obtain ⟨Dz, FC, rfl⟩ := Kd.ak ho; have ah := jN (aa.eG HS.out hb (cO bQ HB) ho); replace HB : af (Below base w yn) := ⟨(HB.out).trans (hb.mono (cO bQ HB))⟩; replace HS := ah; clear ah ho hb; clear eT; have eT := (aa.z0 HS.out 9 rfl); have zs0 := aa.z0 HS.out 9 rfl; have jE := aa.f HS.out 9 rfl 0))
  have ah := gq (World.setCell yn ⟨rp, 0, none⟩ (.slice Dz l5.length FC)) (aa.gJ (aa.xS HS.out 9 rfl (.slice Dz l5.length FC)) [0, 1, 2, 3, 4, 5, 6, 7, 8, 9, 18, 11, 12, 13, 14, 15, 16, 17] (by decide))
  replace HB : af (Below base w (World.setCell yn ⟨rp, 0, none⟩ (.slice Dz l5.length FC))) := ⟨(HB.out).setCell (p := ⟨rp, 0, none⟩) (aa.ge HS.out 9 rfl) _⟩
  generalize World.setCell yn ⟨rp, 0, none⟩ (.slice Dz l5.length FC) = Ab at ah HB ⊢;replace HS := ah; clear ah eT zs0 jE;have Vy : 0 < lK.length /\ lK.length <= 1000000 := by omega
  have eT := (aa.z1 HS.out 9 rfl)
  go_upto_region 22 with (first | (go_at_call 112; (with_reducible refine (Nb 0 0 rfl zN.out (aa.row HS.out 11 rfl) Vy).mono ?_); rintro e Af ⟨ja, rfl, ho, hb⟩; obtain ⟨MM, MN, rfl⟩ := Kd.ak ho; have ah := jN (aa.eG HS.out hb (cO bQ HB) ho); replace HB : af (Below base w Af) := ⟨(HB.out).trans (hb.mono (cO bQ HB))⟩; replace HS := ah; clear ah ho hb; clear eT; have eT := (aa.z1 HS.out 9 rfl); have zs0 := aa.z1 HS.out 9 rfl; have jE := aa.f HS.out 9 rfl 1))
  have ah := gq (World.setCell Af ⟨rp, 1, none⟩ (.slice MM l6.length MN)) (aa.gJ (aa.xU HS.out 9 rfl (.slice MM l6.length MN)) [0, 1, 2, 3, 4, 5, 6, 7, 8, 9, 10, 18, 12, 13, 14, 15, 16, 17] (by decide))
  replace HB : af (Below base w (World.setCell Af ⟨rp, 1, none⟩ (.slice MM l6.length MN))) := ⟨(HB.out).setCell (p := ⟨rp, 1, none⟩) (aa.ge HS.out 9 rfl) _⟩
  generalize World.setCell Af ⟨rp, 1, none⟩ (.slice MM l6.length MN) = Fu at ah HB ⊢;replace HS := ah; clear ah eT zs0 jE
  by_cases nN : eU.length = 0
  ·skip
   have hl0 : eU = [] := List.length_eq_zero_iff.1 nN;have SL := A_ hl0;have uo := A_ ((aa.gJ HS.out [9, 10, 11, 12, 13] (by decide)).Ol);have hbl := A_ (show decide (((NT.mk rp (.slice Dz l5.length FC) (.slice MM l6.length MN) (.slice vZ eU.length crc) l5 l6 eU).erase.kids.length : Int) = 0) = true from decide_eq_true (by show ((NT.ax eU).length : Int) = 0; rw [aC, List.length_map]; omega))
   go_wp2_with (first | (go_at_call 84; (with_reducible refine (dm.cK true hbl.out _ ?az).mono ?_); (case az => repeat (first | exact uo.out | (with_reducible refine Rd.drewN ?_ _) | (with_reducible refine Rd.drew ?_))); rintro e w' ⟨rfl, ⟨nd, rfl⟩⟩))
   generalize hW : World.drewN _ _ = yB
   have ah : af (aa yB base [jM 96 tp (iX jG) tks.length fG (iX jH) tvs.length fM (some iB) aJ.length fK, uw (iX jG) tks.length fG l3, uw (iX jH) tvs.length fM l4, lX 70 (some iB) fK aJ, jM 96 lp MK l1.length ML xx l2.length c31 vY lcs.length nK, gK MK ML l1, gK xx c31 l2, lX 70 vY nK lcs, (NT.aZ 96 70 lcs), jM 96 rp Dz l5.length FC MM l6.length MN vZ eU.length crc, gK Dz FC l5, gK MM MN l6, lX 70 vZ crc eU, (NT.aZ 96 70 eU), GP, GQ, [txt (.slice vX 1 c19) [tx]], [txt (.slice K5 1 c28) [ty]]]) := ⟨by rw [<- hW]; exact aa.drewN HS.out _⟩
   replace HB : af (Below base w yB) := ⟨by rw [<- hW]; exact aj HB.out _⟩
   replace HS := ah; clear ah uo hbl hW
   go_end0
   have hS := yL (aa.gJ HS.out [0, 1, 2, 3, 4, 5, 6, 7, 8, 9, 10, 11, 12, 13, 14, 15] (by decide));refine ⟨rfl, NT.mk tp (.slice (some ⟨jG, 0, none⟩) tks.length fG) (.slice (some ⟨jH, 0, none⟩) tvs.length fM) (.slice (some iB) aJ.length fK) l3 l4 (P ++ NT.mk lp (.slice MK l1.length ML) (.slice xx l2.length c31) (.slice vY lcs.length nK) l1 l2 lcs :: NT.mk rp (.slice Dz l5.length FC) (.slice MM l6.length MN) (.slice vZ eU.length crc) l5 l6 eU :: Q), rfl, ?_, shut_pair rfl ?_, HB.out⟩
   ·have e0 := HRR.out
    rw [HT.out] at e0;rw [e0];show PT.mk l3 l4 (NT.ax (P ++ _ :: _ :: Q)) = BL (PT.mk tks tvs (NT.ax (P ++ _ :: _ :: Q))) i;simp only [aC, List.map_append, List.map_cons];rw [xW (by rw [List.length_map]; exact HP.out)];have Df := mF.out;subst Df;have Dh := qa.out;subst Dh;have Di := yF.out;subst Di;have Dj := Ah.out;subst Dj;have Dk := zM.out;subst Dk;have Dl := zN.out;subst Dl;have K6 := oV.out.2;subst K6;have ety := oh.out.2;subst ety;have QX := KY.out.2;subst QX;have QY := KZ.out.2;subst QY;have ec := SL.out;subst ec;simp [rU, uh, NT.erase, NT.ax, PT.keys, PT.vals, PT.kids]
   ·unfold kL
    simp only [NT.keys, NT.vals, NT.kids, NT.p, NT.kv, NT.vv, NT.cv]
    have hq : ∀ a b : NT, a.p = lp -> b.p = rp -> ptrs (P ++ a :: b :: Q) = ptrs aJ := fun a b ha hb => by rw [HT.out]; simp only [ptrs, List.map_append, List.map_cons, ha, hb]; rfl
    rw [hq _ _ rfl rfl, <- KW.out, <- KX.out];exact hS
  ·skip
   have hrc : 0 < eU.length /\ eU.length <= 1001 := by have := Rk.out; omega
   have hlc : lcs.length <= 1001 := by have := Rk.out; omega
   obtain ⟨s, hs0⟩ : ∃ s, eU[0]? = some s := ⟨eU[0], List.getElem?_eq_getElem hrc.1⟩
   obtain ⟨sp, hsp⟩ : ∃ p, s.p = p := ⟨_, rfl⟩
   have jw : af (eU[0]? = some s /\ s.p = sp) := ⟨hs0, hsp⟩
   clear hs0 hsp;obtain ⟨MO, rfl⟩ := fJ (aa.q HS.out 12 rfl) (by omega);obtain ⟨Rn, Vz⟩ := lL (lcs ++ [s]);obtain ⟨QZ, VA⟩ := lL (eU.eraseIdx 0)
   have Vw : af (lcs.map NT.p ++ [sp] = Rn.map NT.p) := ⟨by rw [Vz.out, List.map_append, <- jw.out.2]; rfl⟩
   have uo := A_ ((aa.gJ HS.out [9, 10, 11, 12, 13] (by decide)).Ol);have hbl := A_ (show decide (((NT.mk rp (.slice Dz l5.length FC) (.slice MM l6.length MN) (.slice (some MO) eU.length crc) l5 l6 eU).erase.kids.length : Int) = 0) = false from decide_eq_false (by show ((NT.ax eU).length : Int) ≠ 0; rw [aC, List.length_map]; omega))
   go_upto_region 23 with (first | (go_at_call 84; (with_reducible refine (dm.cK false hbl.out _ ?az).mono ?_); (case az => repeat (first | exact uo.out | (with_reducible refine Rd.drewN ?_ _) | (with_reducible refine Rd.drew ?_))); rintro e w' ⟨rfl, ⟨nd, rfl⟩⟩))
   generalize hW : World.drewN _ _ = yB
   have ah : af (aa yB base [jM 96 tp (iX jG) tks.length fG (iX jH) tvs.length fM (some iB) aJ.length fK, uw (iX jG) tks.length fG l3, uw (iX jH) tvs.length fM l4, lX 70 (some iB) fK aJ, jM 96 lp MK l1.length ML xx l2.length c31 vY lcs.length nK, gK MK ML l1, gK xx c31 l2, lX 70 vY nK lcs, (NT.aZ 96 70 lcs), jM 96 rp Dz l5.length FC MM l6.length MN (some MO) eU.length crc, gK Dz FC l5, gK MM MN l6, lX 70 (some MO) crc eU, (NT.aZ 96 70 eU), GP, GQ, [txt (.slice vX 1 c19) [tx]], [txt (.slice K5 1 c28) [ty]]]) := ⟨by rw [<- hW]; exact aa.drewN HS.out _⟩
   replace HB : af (Below base w yB) := ⟨by rw [<- hW]; exact aj HB.out _⟩
   replace HS := ah; clear ah uo hbl hW;have b45 := bV ((0 : Int) < (eU.length : Int));have b46 := bV (0 < eU.length);have sd53 : ((lcs.map NT.p).length + 1) * 8 <= 140737488355328 := by rw [List.length_map]; omega
   refine bS (n := 16) (S := fun w' => w'.cell? ⟨lp, 2, none⟩ = some (.slice vY lcs.length nK) /\ w'.cell? ⟨rp, 2, none⟩ = some (.slice (some MO) eU.length crc) /\ w'.cell? MO = some (bu sp)) (ds := [15]) (bt 16 0) (by kernel_rfl) rfl rfl ⟨(aa.z2 (aa.drew HS.out) 4 rfl), (aa.z2 (aa.drew HS.out) 9 rfl), (uI (aa.fH (aa.drew HS.out) 12 rfl) jw.out)⟩ (fun hHeld => ?_);refine aH 0 264 1 ?_;refine aH 1 265 3 ?_;refine aH 2 266 7 ?_;refine aH 3 267 15 ?_;refine aH 5 269 47 ?_;refine aH 6 270 111 ?_;refine aH 7 271 239 ?_;refine fq 4 268 255 hHeld ?_;refine fq 8 272 511 hHeld ?_;refine aH 9 273 1023 ?_;refine fq 10 274 2047 hHeld ?_;refine gG 11 (some 275) 4095 (fun K hK => ?_);refine xy dZ 70 275 [sp] [bu sp] (Kd.aY (enc := bu) [sp]) (aG HB.out) (cO bQ HB) ?_;intro v47 Ji ho hb hg hn;obtain ⟨A48, c49, rfl⟩ : ∃ A c, v47 = .slice A 1 c := Kd.ak ho;have ah := jN (aa.nH (aa.drew HS.out) (qH ho) hg hn)
   replace HB : af (Below base w Ji) := ⟨hb⟩
   replace HS := ah; clear ah ho hb hg hn;refine dh 275 hK ⟨(aa.z2 HS.out 4 rfl), (aa.z2 HS.out 9 rfl), (uI (aa.fH HS.out 12 rfl) jw.out)⟩ (fun hHeld => ?_);refine gG 12 (some 276) 8191 (fun K hK => ?_);refine lU (w0 := w) base (by rfl) (.tmp 268) (.tmp 275) 94 70 rfl jm kY (.slice vY lcs.length nK) (lcs.map NT.p) [sp] A48 1 c49 rfl rfl (aa.q HS.out 7 rfl) (Xc HS.out 18 rfl) HB.out (cO bQ HB) sd53 ?_;intro u50 w16 ho hb hg hat;rw [Vw.out] at ho;obtain ⟨VB, VC, wF⟩ := Kd.xD ho;rw [List.length_map] at wF;obtain ⟨rfl, _⟩ := wF;have ah := jN (aa.O6 7 HS.out rfl ho hg hat)
   replace HB : af (Below base w w16) := ⟨hb⟩
   replace HS := ah; clear ah ho hb hg hat;have zs0 := aa.z2 HS.out 4 rfl;have jE := aa.f HS.out 4 rfl 2;refine dh 276 hK ⟨(aa.z2 HS.out 4 rfl), (aa.z2 HS.out 9 rfl), (uI (aa.fH HS.out 12 rfl) jw.out)⟩ (fun hHeld => ?_);refine aH 13 277 16383 ?_;refine aH 14 278 32767 ?_;refine qz 15 none 65535 (fun K hK => ?_);refine fA (w1 := ?_) (by rfl) rfl ?_ ?_;rotate_left
   ·go_simp
    rfl
   refine hK.out _ _ ?_;clear hK K;refine dL (by kernel_rfl) ?_;have ah := gq (World.setCell w16 ⟨lp, 2, none⟩ (.slice VB Rn.length VC)) (aa.rW HS.out 4 rfl (.slice VB Rn.length VC))
   replace HB : af (Below base w (World.setCell w16 ⟨lp, 2, none⟩ (.slice VB Rn.length VC))) := ⟨(HB.out).setCell (p := ⟨lp, 2, none⟩) (aa.ge HS.out 4 rfl) _⟩
   generalize World.setCell w16 ⟨lp, 2, none⟩ (.slice VB Rn.length VC) = MC at ah HB ⊢;replace HS := ah; clear ah zs0 jE
   go_upto_region 24 with fail
   have sd54 : 0 < eU.length /\ eU.length <= 1000000 := by omega
   have Hl44m : af (QZ.map NT.p = (eU.map NT.p).eraseIdx 0) := ⟨by rw [VA.out, EA]⟩
   have eT := (aa.z2 HS.out 9 rfl)
   go_wp2_with (first | (go_at_call 129; (with_reducible refine (Xf 0 0 rfl Hl44m.out (aa.fH HS.out 12 rfl) sd54).mono ?_); rintro e MG ⟨ja, rfl, ho, hb⟩; obtain ⟨VD, VE, wF⟩ := Kd.ak ho; rw [List.length_map] at wF; subst wF; have ah := jN (aa.wS HS.out hb (cO bQ HB) ho); replace HB : af (Below base w MG) := ⟨(HB.out).trans (hb.mono (cO bQ HB))⟩; replace HS := ah; clear ah ho hb; clear eT; have eT := (aa.z2 HS.out 9 rfl); have zs0 := aa.z2 HS.out 9 rfl; have jE := aa.f HS.out 9 rfl 2))
   have ah := gq (World.setCell MG ⟨rp, 2, none⟩ (.slice VD QZ.length VE)) (aa.gJ (aa.rW HS.out 9 rfl (.slice VD QZ.length VE)) [0, 1, 2, 3, 4, 5, 6, 7, 8, 9, 10, 11, 19, 13, 14, 15, 16, 17, 18] (by decide))
   replace HB : af (Below base w (World.setCell MG ⟨rp, 2, none⟩ (.slice VD QZ.length VE))) := ⟨(HB.out).setCell (p := ⟨rp, 2, none⟩) (aa.ge HS.out 9 rfl) _⟩
   generalize World.setCell MG ⟨rp, 2, none⟩ (.slice VD QZ.length VE) = Oo at ah HB ⊢;replace HS := ah; clear ah eT zs0 jE
   have QT : af (NT.aZ 96 70 eU = s.dH 96 70 ++ NT.aZ 96 70 QZ) := ⟨by rw [VA.out, lW 96 70 jw.out.1, List.take_zero, NT.aZ, List.nil_append, List.eraseIdx_zero, <- List.drop_one]⟩
   have ah : af (aa Oo base [jM 96 tp (iX jG) tks.length fG (iX jH) tvs.length fM (some iB) aJ.length fK, uw (iX jG) tks.length fG l3, uw (iX jH) tvs.length fM l4, lX 70 (some iB) fK aJ, jM 96 lp MK l1.length ML xx l2.length c31 VB Rn.length VC, gK MK ML l1, gK xx c31 l2, lX 70 VB VC Rn, (NT.aZ 96 70 lcs), jM 96 rp Dz l5.length FC MM l6.length MN VD QZ.length VE, gK Dz FC l5, gK MM MN l6, lX 70 VD VE QZ, (NT.aZ 96 70 QZ), GP, GQ, [txt (.slice vX 1 c19) [tx]], [txt (.slice K5 1 c28) [ty]], [.own 70 (.slice A48 1 c49) (encs bu [sp])], (s.dH 96 70)]) := ⟨aa.Xa HS.out 13 (congrArg some QT.out)⟩
   replace HB : af (Below base w Oo) := ⟨HB.out⟩
   replace HS := ah; clear ah
   go_end0
   have hS := yL (aa.gJ HS.out [0, 1, 2, 3, 4, 5, 6, 7, 8, 19, 9, 10, 11, 12, 13, 14, 15] (by decide));refine ⟨rfl, NT.mk tp (.slice (some ⟨jG, 0, none⟩) tks.length fG) (.slice (some ⟨jH, 0, none⟩) tvs.length fM) (.slice (some iB) aJ.length fK) l3 l4 (P ++ NT.mk lp (.slice MK l1.length ML) (.slice xx l2.length c31) (.slice VB Rn.length VC) l1 l2 Rn :: NT.mk rp (.slice Dz l5.length FC) (.slice MM l6.length MN) (.slice VD QZ.length VE) l5 l6 QZ :: Q), rfl, ?_, shut_pair rfl ?_, HB.out⟩
   ·have e0 := HRR.out
    rw [HT.out] at e0;rw [e0];show PT.mk l3 l4 (NT.ax (P ++ _ :: _ :: Q)) = BL (PT.mk tks tvs (NT.ax (P ++ _ :: _ :: Q))) i;simp only [aC, List.map_append, List.map_cons];rw [xW (by rw [List.length_map]; exact HP.out)];have Df := mF.out;subst Df;have Dh := qa.out;subst Dh;have Di := yF.out;subst Di;have Dj := Ah.out;subst Dj;have Dk := zM.out;subst Dk;have Dl := zN.out;subst Dl;have el43 := Vz.out;subst el43;have el44 := VA.out;subst el44;have K6 := oV.out.2;subst K6;have ety := oh.out.2;subst ety;have QX := KY.out.2;subst QX;have QY := KZ.out.2;subst QY
    have hn : ¬ eU = [] := fun h => nN (by rw [h]; rfl)
    have hs' : (eU.map NT.erase).head? = some s.erase := by rw [List.head?_eq_getElem?, List.getElem?_map, jw.out.1]; rfl
    simp [rU, uh, NT.erase, aC, PT.keys, PT.vals, PT.kids, gy, hn, List.map_drop, List.eraseIdx_zero];rw [jw.out.1];rfl
   ·unfold kL
    simp only [NT.keys, NT.vals, NT.kids, NT.p, NT.kv, NT.vv, NT.cv]
    have hq : ∀ a b : NT, a.p = lp -> b.p = rp -> ptrs (P ++ a :: b :: Q) = ptrs aJ := fun a b ha hb => by rw [HT.out]; simp only [ptrs, List.map_append, List.map_cons, ha, hb]; rfl
    have hc : NT.aZ 96 70 Rn = NT.aZ 96 70 lcs ++ s.dH 96 70 := by rw [Vz.out, gZ, NT.aZ, NT.aZ, List.append_nil]
    rw [hq _ _ rfl rfl, <- KW.out, <- KX.out, hc];unfold aa at hS ⊢;simp only [List.flatten_cons, List.append_assoc] at hS ⊢;exact hS
theorem EX.calls (t l r : NT) (P Q : List NT) (i : Nat) (ht : t.kids = P ++ l :: r :: Q) (hP : P.length = i) (hl : FX l.keys l.vals l.kids.length) (hr : FX r.keys r.vals r.kids.length) (hj : i < t.keys.length /\ t.keys.length <= 1000 /\ t.vals.length = t.keys.length /\ t.kids.length = t.keys.length + 1)
  (base : Nat) (L : List Ck) (w : World) (hs : Sat w base (t.dH 96 70 ++ L)) (hbs : base <= w.heap.size) :
  Calls Try.prog 130 #[bu t.p, .int .i64 (i : Int)] w (WR w base 96 70 t L (wy t.erase i)) := by
 cases t with | mk tp yC yD yE tks tvs aJ =>
 cases l with | mk lp JC JD JE dF kG lcs =>
 cases r with | mk rp JF JG rcv mG lK eU =>
 have h0 := open_pair ht hs;unfold kL at h0;simp only [NT.keys, NT.vals, NT.kids, NT.p, NT.kv, NT.vv, NT.cv] at ht hl hr hj h0 ⊢;clear hs;unfold FX at hl hr;obtain ⟨hl1, hl2, hl3⟩ := hl;obtain ⟨hr1, hr2, hr3⟩ := hr;obtain ⟨hj1, hj2, JH, KU⟩ := hj;have hil : (i + 1) < aJ.length := by rw [ht, List.length_append, hP]; simp only [List.length_cons]; omega
 have hij : (i + 1) = i + 1 := by omega
 have HP := A_ hP;have HT := A_ ht
 have hkl : aJ[i]? = some (NT.mk lp JC JD JE dF kG lcs) /\ (NT.mk lp JC JD JE dF kG lcs).p = lp := ⟨by rw [ht]; exact M9 hP, rfl⟩
 have hkr : aJ[(i + 1)]? = some (NT.mk rp JF JG rcv mG lK eU) /\ (NT.mk rp JF JG rcv mG lK eU).p = rp := ⟨by rw [ht, hij]; exact Na hP, rfl⟩
 have xu := A_ hkl;have Oz := A_ hkr;clear hkl hkr ht hij
 obtain ⟨R, hR⟩ : ∃ R, R = wy (NT.mk tp yC yD yE tks tvs aJ).erase i := ⟨_, rfl⟩
 rw [<- hR];have HRR := A_ hR;clear hR;obtain ⟨jF, fG, rfl⟩ := Kd.ak (h0.sr 1 rfl);obtain ⟨jG, rfl⟩ := dA (h0.sr 1 rfl) (by omega);obtain ⟨jK, fM, rfl⟩ := Kd.ak (h0.sr 2 rfl);obtain ⟨jH, rfl⟩ := dA (h0.sr 2 rfl) (by omega);obtain ⟨qB, fK, rfl, _, _⟩ := dz (h0.q 3 rfl);obtain ⟨iB, rfl⟩ := fJ (h0.q 3 rfl) (by omega);obtain ⟨Fz, uz, rfl⟩ := Kd.ak (h0.sr 5 rfl);obtain ⟨Bc, sH, rfl⟩ := Kd.ak (h0.sr 6 rfl);obtain ⟨vY, nK, rfl, _, _⟩ := dz (h0.q 7 rfl);obtain ⟨G9, FB, rfl⟩ := Kd.ak (h0.sr 10 rfl);obtain ⟨Bd, Ai, rfl⟩ := Kd.ak (h0.sr 11 rfl);obtain ⟨vZ, crc, rfl, _, _⟩ := dz (h0.q 12 rfl)
 obtain ⟨GP, Dm⟩ : ∃ G, G = NT.aZ 96 70 P := ⟨_, rfl⟩
 obtain ⟨GQ, Dn⟩ : ∃ G, G = NT.aZ 96 70 Q ++ L := ⟨_, rfl⟩
 rw [<- Dm, <- Dn] at h0;have HS := A_ h0;have HB := A_ (Below.refl base w);have bQ := A_ hbs;have KW := A_ Dm;have KX := A_ Dn;clear h0 hbs Dm Dn hP;have Rk := A_ (show eU.length <= 1001 /\ lcs.length <= 1001 by omega);have hrc : eU.length <= 1001 := by omega
 have hlc : lcs.length <= 1001 := by omega
 have XU : lK.length <= 1000 := by omega
 have hlv : kG.length <= 1000 := by omega
 have Fv : i < tvs.length /\ tvs.length <= 1000 := by omega
 have htc : aJ.length <= 1001 := by omega
 clear hl2 hl3 hr2 hr3 JH KU
 obtain ⟨tx, htx⟩ : ∃ x, bq tks i = x := ⟨_, rfl⟩
 have oV : af (i < tks.length /\ bq tks i = tx) := ⟨by omega, htx⟩
 clear htx
 obtain ⟨ty, hty⟩ : ∃ x, bq tvs i = x := ⟨_, rfl⟩
 have oh : af (i < tvs.length /\ bq tvs i = ty) := ⟨by omega, hty⟩
 clear hty;obtain ⟨l1, mF⟩ := lL (dF ++ [tx]);obtain ⟨l2, qa⟩ := lL (l1 ++ mG);have hl1b : l1.length <= 1001 := by rw [mF.out, List.length_append]; simp only [List.length_cons, List.length_nil]; omega
 obtain ⟨l3, yF⟩ := lL (kG ++ [ty]);obtain ⟨l4, Ah⟩ := lL (l3 ++ lK);have hl3b : l3.length <= 1001 := by rw [yF.out, List.length_append]; simp only [List.length_cons, List.length_nil]; omega
 obtain ⟨l5, zM⟩ := lL (tks.eraseIdx i);obtain ⟨l6, zN⟩ := lL (tvs.eraseIdx i);obtain ⟨l7, ZJ⟩ := lL (lcs ++ eU)
 have Vw : af (lcs.map NT.p ++ eU.map NT.p = l7.map NT.p) := ⟨by rw [ZJ.out, List.map_append]⟩
 obtain ⟨l8, ZK⟩ := lL (aJ.eraseIdx (i + 1));go_enter Try.func130, Try.ntmps130;have b9 := bV (0 <= (i : Int));have b10 := bV ((i : Int) < (aJ.length : Int));have b11 := bV (i < aJ.length)
 have eT := (aa.z2 HS.out 0 rfl)
 have qU := (ik (aa.fH HS.out 3 rfl) xu.out)
 go_upto_region 1 with fail
 clear eT qU;have b12 := bV (0 <= ((i : Int) + 1));have b13 := bV (((i : Int) + 1) < (aJ.length : Int));have b14 := bV ((i + 1) < aJ.length)
 have eT := (aa.z2 HS.out 0 rfl)
 have qU := (wV (aa.fH HS.out 3 rfl) Oz.out (by omega))
 go_upto_region 2 with fail
 clear eT qU;have b15 := bV ((i : Int) < (tks.length : Int));have b16 := bV (i < tks.length);have QW : (dF.length + 1) * 16 <= 140737488355328 := by omega
 have sd27 : (l1.length + mG.length) * 16 <= 140737488355328 := by omega
 refine bS (n := 22) (S := fun w' => w'.cell? ⟨lp, 0, none⟩ = some (.slice Fz dF.length uz) /\ w'.cell? ⟨tp, 0, none⟩ = some (.slice (some ⟨jG, 0, none⟩) tks.length fG) /\ w'.cell? ⟨jG, i, none⟩ = some (.string tx) /\ w'.cell? ⟨rp, 0, none⟩ = some (.slice G9 mG.length FB)) (ds := [21]) (bt 22 0) (by kernel_rfl) rfl rfl ⟨(aa.z0 (aa.drew HS.out) 4 rfl), (aa.z0 (aa.drew HS.out) 0 rfl), (iH (aa.sr (aa.drew HS.out) 1 rfl) oV.out), (aa.z0 (aa.drew HS.out) 9 rfl)⟩ (fun hHeld => ?_);refine aH 0 21 1 ?_;refine aH 1 22 3 ?_;refine aH 2 23 7 ?_;refine aH 3 24 15 ?_;refine aH 5 26 47 ?_;refine aH 6 27 111 ?_;refine aH 7 28 239 ?_;refine aH 9 30 751 ?_;refine aH 14 35 17135 ?_;refine aH 15 36 49903 ?_;refine aH 16 37 115439 ?_;refine fq 4 25 115455 hHeld ?_;refine fq 8 29 115711 hHeld ?_;refine aH 10 31 116735 ?_;refine fq 11 32 118783 hHeld ?_;refine fq 17 38 249855 hHeld ?_;refine gG 12 (some 33) 253951 (fun K hK => ?_);refine xy Kd.string 9 33 [tx] [.string tx] (Kd.aY (enc := Value.string) [tx]) (aG HB.out) (cO bQ HB) ?_;intro v17 w2 ho hb hg hn;obtain ⟨vX, c19, rfl⟩ : ∃ A c, v17 = .slice A 1 c := Kd.ak ho;have ah := jN (aa.lit (aa.drew HS.out) ho hg hn)
 replace HB : af (Below base w w2) := ⟨hb⟩
 replace HS := ah; clear ah ho hb hg hn;refine dh 33 hK ⟨(aa.z0 HS.out 4 rfl), (aa.z0 HS.out 0 rfl), (iH (aa.sr HS.out 1 rfl) oV.out), (aa.z0 HS.out 9 rfl)⟩ (fun hHeld => ?_);refine gG 13 (some 34) 262143 (fun K hK => ?_);refine Kd.aM Kd.string (w0 := w) base (by rfl) (.tmp 25) (.tmp 33) 38 9 (.string ⟨#[]⟩) 16 rfl Try.underlying38 dC rfl (by decide) (by omega) (.slice Fz dF.length uz) dF [tx] vX 1 c19 (fun _ => True) (fun _ => False) rfl rfl (aa.sr HS.out 5 rfl) (DD HS.out 16 rfl) (fun _ _ h => h) (fun _ h => h.elim) (fun _ _ => trivial) HB.out (cO bQ HB) QW ?_;intro u20 w3 ho hb hg hat;rw [<- mF.out] at ho;obtain ⟨MK, ML, rfl⟩ := Kd.ak ho;have ah := jN (aa.app 5 HS.out rfl ho hg hat)
 replace HB : af (Below base w w3) := ⟨hb⟩
 replace HS := ah; clear ah ho hb hg hat;refine dh 34 hK ⟨(aa.z0 HS.out 4 rfl), (aa.z0 HS.out 0 rfl), (iH (aa.sr HS.out 1 rfl) oV.out), (aa.z0 HS.out 9 rfl)⟩ (fun hHeld => ?_);refine gG 18 (some 39) 524287 (fun K hK => ?_);refine Kd.aM Kd.string (w0 := w) base (by rfl) (.tmp 34) (.tmp 38) 38 9 (.string ⟨#[]⟩) 16 rfl Try.underlying38 dC rfl (by decide) (by omega) (.slice MK l1.length ML) l1 mG G9 mG.length FB (fun _ => True) (fun _ => False) rfl rfl (aa.sr HS.out 5 rfl) (DD HS.out 10 rfl) (fun _ _ h => h) (fun _ h => h.elim) (fun _ _ => trivial) HB.out (cO bQ HB) sd27 ?_;intro u24 w4 ho hb hg hat;rw [<- qa.out] at ho;obtain ⟨Hf, JO, rfl⟩ := Kd.ak ho;have ah := jN (aa.app 5 HS.out rfl ho hg hat)
 replace HB : af (Below base w w4) := ⟨hb⟩
 replace HS := ah; clear ah ho hb hg hat;have zs0 := aa.z0 HS.out 4 rfl;have jE := aa.f HS.out 4 rfl 0;refine dh 39 hK ⟨(aa.z0 HS.out 4 rfl), (aa.z0 HS.out 0 rfl), (iH (aa.sr HS.out 1 rfl) oV.out), (aa.z0 HS.out 9 rfl)⟩ (fun hHeld => ?_);refine aH 19 40 1048575 ?_;refine aH 20 41 2097151 ?_;refine qz 21 none 4194303 (fun K hK => ?_);refine fA (w1 := ?_) (by rfl) rfl ?_ ?_;rotate_left
 ·go_simp
  rfl
 refine hK.out _ _ ?_;clear hK K;refine dL (by kernel_rfl) ?_;have ah := gq (World.setCell w4 ⟨lp, 0, none⟩ (.slice Hf l2.length JO)) (aa.xS HS.out 4 rfl (.slice Hf l2.length JO))
 replace HB : af (Below base w (World.setCell w4 ⟨lp, 0, none⟩ (.slice Hf l2.length JO))) := ⟨(HB.out).setCell (p := ⟨lp, 0, none⟩) (aa.ge HS.out 4 rfl) _⟩
 generalize World.setCell w4 ⟨lp, 0, none⟩ (.slice Hf l2.length JO) = w5 at ah HB ⊢;replace HS := ah; clear ah zs0 jE
 go_upto_region 3 with fail
 have b28 := bV ((i : Int) < (tvs.length : Int));have b29 := bV (i < tvs.length);have sd36 : (kG.length + 1) * 16 <= 140737488355328 := by omega
 have Vy : (l3.length + lK.length) * 16 <= 140737488355328 := by omega
 refine bS (n := 22) (S := fun w' => w'.cell? ⟨lp, 1, none⟩ = some (.slice Bc kG.length sH) /\ w'.cell? ⟨tp, 1, none⟩ = some (.slice (some ⟨jH, 0, none⟩) tvs.length fM) /\ w'.cell? ⟨jH, i, none⟩ = some (.string ty) /\ w'.cell? ⟨rp, 1, none⟩ = some (.slice Bd lK.length Ai)) (ds := [21]) (bt 22 0) (by kernel_rfl) rfl rfl ⟨(aa.z1 (aa.drew HS.out) 4 rfl), (aa.z1 (aa.drew HS.out) 0 rfl), (iH (aa.sr (aa.drew HS.out) 2 rfl) oh.out), (aa.z1 (aa.drew HS.out) 9 rfl)⟩ (fun hHeld => ?_);refine aH 0 42 1 ?_;refine aH 1 43 3 ?_;refine aH 2 44 7 ?_;refine aH 3 45 15 ?_;refine aH 5 47 47 ?_;refine aH 6 48 111 ?_;refine aH 7 49 239 ?_;refine aH 9 51 751 ?_;refine aH 14 56 17135 ?_;refine aH 15 57 49903 ?_;refine aH 16 58 115439 ?_;refine fq 4 46 115455 hHeld ?_;refine fq 8 50 115711 hHeld ?_;refine aH 10 52 116735 ?_;refine fq 11 53 118783 hHeld ?_;refine fq 17 59 249855 hHeld ?_;refine gG 12 (some 54) 253951 (fun K hK => ?_);refine xy Kd.string 9 54 [ty] [.string ty] (Kd.aY (enc := Value.string) [ty]) (aG HB.out) (cO bQ HB) ?_;intro v30 w6 ho hb hg hn;obtain ⟨A31, c32, rfl⟩ : ∃ A c, v30 = .slice A 1 c := Kd.ak ho;have ah := jN (aa.lit (aa.drew HS.out) ho hg hn)
 replace HB : af (Below base w w6) := ⟨hb⟩
 replace HS := ah; clear ah ho hb hg hn;refine dh 54 hK ⟨(aa.z1 HS.out 4 rfl), (aa.z1 HS.out 0 rfl), (iH (aa.sr HS.out 2 rfl) oh.out), (aa.z1 HS.out 9 rfl)⟩ (fun hHeld => ?_);refine gG 13 (some 55) 262143 (fun K hK => ?_);refine Kd.aM Kd.string (w0 := w) base (by rfl) (.tmp 46) (.tmp 54) 38 9 (.string ⟨#[]⟩) 16 rfl Try.underlying38 dC rfl (by decide) (by omega) (.slice Bc kG.length sH) kG [ty] A31 1 c32 (fun _ => True) (fun _ => False) rfl rfl (aa.sr HS.out 6 rfl) (DD HS.out 17 rfl) (fun _ _ h => h) (fun _ h => h.elim) (fun _ _ => trivial) HB.out (cO bQ HB) sd36 ?_;intro u33 w7 ho hb hg hat;rw [<- yF.out] at ho;obtain ⟨A34, c35, rfl⟩ := Kd.ak ho;have ah := jN (aa.app 6 HS.out rfl ho hg hat)
 replace HB : af (Below base w w7) := ⟨hb⟩
 replace HS := ah; clear ah ho hb hg hat;refine dh 55 hK ⟨(aa.z1 HS.out 4 rfl), (aa.z1 HS.out 0 rfl), (iH (aa.sr HS.out 2 rfl) oh.out), (aa.z1 HS.out 9 rfl)⟩ (fun hHeld => ?_);refine gG 18 (some 60) 524287 (fun K hK => ?_);refine Kd.aM Kd.string (w0 := w) base (by rfl) (.tmp 55) (.tmp 59) 38 9 (.string ⟨#[]⟩) 16 rfl Try.underlying38 dC rfl (by decide) (by omega) (.slice A34 l3.length c35) l3 lK Bd lK.length Ai (fun _ => True) (fun _ => False) rfl rfl (aa.sr HS.out 6 rfl) (DD HS.out 11 rfl) (fun _ _ h => h) (fun _ h => h.elim) (fun _ _ => trivial) HB.out (cO bQ HB) Vy ?_;intro u37 w8 ho hb hg hat;rw [<- Ah.out] at ho;obtain ⟨Dz, FC, rfl⟩ := Kd.ak ho;have ah := jN (aa.app 6 HS.out rfl ho hg hat)
 replace HB : af (Below base w w8) := ⟨hb⟩
 replace HS := ah; clear ah ho hb hg hat;have zs0 := aa.z1 HS.out 4 rfl;have jE := aa.f HS.out 4 rfl 1;refine dh 60 hK ⟨(aa.z1 HS.out 4 rfl), (aa.z1 HS.out 0 rfl), (iH (aa.sr HS.out 2 rfl) oh.out), (aa.z1 HS.out 9 rfl)⟩ (fun hHeld => ?_);refine aH 19 61 1048575 ?_;refine aH 20 62 2097151 ?_;refine qz 21 none 4194303 (fun K hK => ?_);refine fA (w1 := ?_) (by rfl) rfl ?_ ?_;rotate_left
 ·go_simp
  rfl
 refine hK.out _ _ ?_;clear hK K;refine dL (by kernel_rfl) ?_;have ah := gq (World.setCell w8 ⟨lp, 1, none⟩ (.slice Dz l4.length FC)) (aa.xU HS.out 4 rfl (.slice Dz l4.length FC))
 replace HB : af (Below base w (World.setCell w8 ⟨lp, 1, none⟩ (.slice Dz l4.length FC))) := ⟨(HB.out).setCell (p := ⟨lp, 1, none⟩) (aa.ge HS.out 4 rfl) _⟩
 generalize World.setCell w8 ⟨lp, 1, none⟩ (.slice Dz l4.length FC) = w9 at ah HB ⊢;replace HS := ah; clear ah zs0 jE
 go_upto_region 4 with fail
 have sd44 : ((lcs.map NT.p).length + eU.length) * 8 <= 140737488355328 := by rw [List.length_map]; omega
 refine bS (n := 13) (S := fun w' => w'.cell? ⟨lp, 2, none⟩ = some (.slice vY lcs.length nK) /\ w'.cell? ⟨rp, 2, none⟩ = some (.slice vZ eU.length crc)) (ds := [12]) (bt 13 0) (by kernel_rfl) rfl rfl ⟨(aa.z2 (aa.drew HS.out) 4 rfl), (aa.z2 (aa.drew HS.out) 9 rfl)⟩ (fun hHeld => ?_);refine aH 0 63 1 ?_;refine aH 1 64 3 ?_;refine aH 2 65 7 ?_;refine aH 3 66 15 ?_;refine aH 5 68 47 ?_;refine aH 6 69 111 ?_;refine aH 7 70 239 ?_;refine fq 4 67 255 hHeld ?_;refine fq 8 71 511 hHeld ?_;refine gG 9 (some 72) 1023 (fun K hK => ?_);refine lU (w0 := w) base (by rfl) (.tmp 67) (.tmp 71) 94 70 rfl jm kY (.slice vY lcs.length nK) (lcs.map NT.p) (eU.map NT.p) vZ eU.length crc rfl rfl (aa.q (aa.drew HS.out) 7 rfl) (Xb (aa.drew HS.out) 12 rfl) (aG HB.out) (cO bQ HB) sd44 ?_;intro u41 yn ho hb hg hat;rw [Vw.out] at ho;obtain ⟨MI, MJ, wF⟩ := Kd.xD ho;rw [List.length_map] at wF;obtain ⟨rfl, _⟩ := wF;have ah := jN (aa.O6 7 (aa.drew HS.out) rfl ho hg hat)
 replace HB : af (Below base w yn) := ⟨hb⟩
 replace HS := ah; clear ah ho hb hg hat;have zs0 := aa.z2 HS.out 4 rfl;have jE := aa.f HS.out 4 rfl 2;refine dh 72 hK ⟨(aa.z2 HS.out 4 rfl), (aa.z2 HS.out 9 rfl)⟩ (fun hHeld => ?_);refine aH 10 73 2047 ?_;refine aH 11 74 4095 ?_;refine qz 12 none 8191 (fun K hK => ?_);refine fA (w1 := ?_) (by rfl) rfl ?_ ?_;rotate_left
 ·go_simp
  rfl
 refine hK.out _ _ ?_;clear hK K;refine dL (by kernel_rfl) ?_;have ah := gq (World.setCell yn ⟨lp, 2, none⟩ (.slice MI l7.length MJ)) (aa.rW HS.out 4 rfl (.slice MI l7.length MJ))
 replace HB : af (Below base w (World.setCell yn ⟨lp, 2, none⟩ (.slice MI l7.length MJ))) := ⟨(HB.out).setCell (p := ⟨lp, 2, none⟩) (aa.ge HS.out 4 rfl) _⟩
 generalize World.setCell yn ⟨lp, 2, none⟩ (.slice MI l7.length MJ) = Ab at ah HB ⊢;replace HS := ah; clear ah zs0 jE
 go_upto_region 5 with fail
 have sd45 : i < tks.length /\ tks.length <= 1000000 := by omega
 have eT := (aa.z0 HS.out 0 rfl)
 go_upto_region 6 with (first | (go_at_call 112; (with_reducible refine (Nb i (i : Int) rfl zM.out (aa.row HS.out 1 rfl) sd45).mono ?_); rintro e Af ⟨ja, rfl, ho, hb⟩; obtain ⟨XX, WE, rfl⟩ := Kd.ak ho; have ah := jN (aa.eG HS.out hb (cO bQ HB) ho); replace HB : af (Below base w Af) := ⟨(HB.out).trans (hb.mono (cO bQ HB))⟩; replace HS := ah; clear ah ho hb; clear eT; have eT := (aa.z0 HS.out 0 rfl); have zs0 := aa.z0 HS.out 0 rfl; have jE := aa.f HS.out 0 rfl 0))
 have ah := gq (World.setCell Af ⟨tp, 0, none⟩ (.slice XX l5.length WE)) (aa.gJ (aa.xS HS.out 0 rfl (.slice XX l5.length WE)) [0, 18, 2, 3, 4, 5, 6, 7, 8, 9, 10, 11, 12, 13, 14, 15, 16, 17] (by decide))
 replace HB : af (Below base w (World.setCell Af ⟨tp, 0, none⟩ (.slice XX l5.length WE))) := ⟨(HB.out).setCell (p := ⟨tp, 0, none⟩) (aa.ge HS.out 0 rfl) _⟩
 generalize World.setCell Af ⟨tp, 0, none⟩ (.slice XX l5.length WE) = Fu at ah HB ⊢;replace HS := ah; clear ah eT zs0 jE;have sd48 : i < tvs.length /\ tvs.length <= 1000000 := by omega
 have eT := (aa.z1 HS.out 0 rfl)
 go_upto_region 7 with (first | (go_at_call 112; (with_reducible refine (Nb i (i : Int) rfl zN.out (aa.row HS.out 2 rfl) sd48).mono ?_); rintro e yB ⟨ja, rfl, ho, hb⟩; obtain ⟨XY, XZ, rfl⟩ := Kd.ak ho; have ah := jN (aa.eG HS.out hb (cO bQ HB) ho); replace HB : af (Below base w yB) := ⟨(HB.out).trans (hb.mono (cO bQ HB))⟩; replace HS := ah; clear ah ho hb; clear eT; have eT := (aa.z1 HS.out 0 rfl); have zs0 := aa.z1 HS.out 0 rfl; have jE := aa.f HS.out 0 rfl 1))
 have ah := gq (World.setCell yB ⟨tp, 1, none⟩ (.slice XY l6.length XZ)) (aa.gJ (aa.xU HS.out 0 rfl (.slice XY l6.length XZ)) [0, 1, 18, 3, 4, 5, 6, 7, 8, 9, 10, 11, 12, 13, 14, 15, 16, 17] (by decide))
 replace HB : af (Below base w (World.setCell yB ⟨tp, 1, none⟩ (.slice XY l6.length XZ))) := ⟨(HB.out).setCell (p := ⟨tp, 1, none⟩) (aa.ge HS.out 0 rfl) _⟩
 generalize World.setCell yB ⟨tp, 1, none⟩ (.slice XY l6.length XZ) = Ji at ah HB ⊢;replace HS := ah; clear ah eT zs0 jE;have sd51 : (i + 1) < aJ.length /\ aJ.length <= 1000000 := by omega
 have Hl8m : af (l8.map NT.p = (aJ.map NT.p).eraseIdx (i + 1)) := ⟨by rw [ZK.out, EA]⟩
 have eT := (aa.z2 HS.out 0 rfl)
 go_wp2_with (first | (go_at_call 129; (with_reducible refine (Xf (i + 1) ((i : Int) + 1) (by omega) Hl8m.out (aa.fH HS.out 3 rfl) sd51).mono ?_); rintro e w16 ⟨ja, rfl, ho, hb⟩; obtain ⟨X0, c53, wF⟩ := Kd.ak ho; rw [List.length_map] at wF; subst wF; have ah := jN (aa.wS HS.out hb (cO bQ HB) ho); replace HB : af (Below base w w16) := ⟨(HB.out).trans (hb.mono (cO bQ HB))⟩; replace HS := ah; clear ah ho hb; clear eT; have eT := (aa.z2 HS.out 0 rfl); have zs0 := aa.z2 HS.out 0 rfl; have jE := aa.f HS.out 0 rfl 2))
 have ah := gq (World.setCell w16 ⟨tp, 2, none⟩ (.slice X0 l8.length c53)) (aa.gJ (aa.rW HS.out 0 rfl (.slice X0 l8.length c53)) [0, 1, 2, 18, 4, 5, 6, 7, 8, 9, 10, 11, 12, 13, 14, 15, 16, 17] (by decide))
 replace HB : af (Below base w (World.setCell w16 ⟨tp, 2, none⟩ (.slice X0 l8.length c53))) := ⟨(HB.out).setCell (p := ⟨tp, 2, none⟩) (aa.ge HS.out 0 rfl) _⟩
 generalize World.setCell w16 ⟨tp, 2, none⟩ (.slice X0 l8.length c53) = MC at ah HB ⊢;replace HS := ah; clear ah eT zs0 jE
 go_end0
 have hS := yL (aa.gJ HS.out [0, 1, 2, 3, 4, 5, 6, 7, 8, 13, 14, 15] (by decide))
 obtain ⟨m, hm⟩ : ∃ m, m = NT.mk lp (.slice Hf l2.length JO) (.slice Dz l4.length FC) (.slice MI l7.length MJ) l2 l4 l7 := ⟨_, rfl⟩
 refine ⟨rfl, NT.mk tp (.slice XX l5.length WE) (.slice XY l6.length XZ) (.slice X0 l8.length c53) l5 l6 (P ++ m :: Q), rfl, ?_, Ip rfl ?_, HB.out⟩
 ·have e0 := HRR.out
  rw [HT.out] at e0;rw [e0];show PT.mk l5 l6 (NT.ax (P ++ m :: Q)) = wy (PT.mk tks tvs (NT.ax (P ++ _ :: _ :: Q))) i;simp only [aC, List.map_append, List.map_cons];rw [xX (by rw [List.length_map]; exact HP.out), hm];have Df := mF.out;subst Df;have Dh := qa.out;subst Dh;have Di := yF.out;subst Di;have Dj := Ah.out;subst Dj;have Dk := zM.out;subst Dk;have Dl := zN.out;subst Dl;have el7 := ZJ.out;subst el7;have el8 := ZK.out;subst el8;have K6 := oV.out.2;subst K6;have ety := oh.out.2;subst ety;simp [zy, NT.erase, aC, PT.keys, PT.vals, PT.kids]
 ·unfold Io
  simp only [NT.keys, NT.vals, NT.kids, NT.p, NT.kv, NT.vv, NT.cv]
  have hq : ptrs (P ++ m :: Q) = ptrs l8 := by
   have e1 := ZK.out;have e2 := HT.out;have e3 := HP.out;rw [e1, e2];subst e3;exact (EB (by rw [hm]; rfl)).symm
  have hc : NT.aZ 96 70 l7 = NT.aZ 96 70 lcs ++ NT.aZ 96 70 eU := by rw [ZJ.out, gZ]
  rw [hq, <- KW.out, <- KX.out, hm];simp only [NT.keys, NT.vals, NT.kids, NT.p, NT.kv, NT.vv, NT.cv];rw [hc];unfold aa at hS ⊢;simp only [List.flatten_cons, List.append_assoc] at hS ⊢;exact hS
theorem xg {w : World} {base T E : Nat} {t : NT} {L : List Ck} (hs : Sat w base (t.dH T E ++ L)) (hc : 0 < t.kids.length) :
  ∃ (Ak Av : Option Addr) (ad : Addr) (ck cv cc : Nat), w.cell? ⟨t.p, 0, none⟩ = some (.slice Ak t.keys.length ck) /\ w.cell? ⟨t.p, 1, none⟩ = some (.slice Av t.vals.length cv) /\ w.cell? ⟨t.p, 2, none⟩ = some (.slice (some ad) t.kids.length cc) /\
   (t.kids.length = t.kids.length /\ t.kids.length <= cc /\ dZ.C w (some ad) t.kids.length (t.kids.map NT.p)) := by
 have h0 := fF hs;obtain ⟨Ak, ck, e1⟩ := Kd.ak (h0.sr 1 rfl);obtain ⟨Av, cv, e2⟩ := Kd.ak (h0.sr 2 rfl);obtain ⟨Ac, cc, e3, h3, h4⟩ := dz (h0.q 3 rfl);have hq := h0.q 3 rfl;rw [e3] at hq;obtain ⟨ad, rfl⟩ := fJ hq hc;have z0 := h0.z0 0 rfl;have z1 := h0.z1 0 rfl;have z2 := h0.z2 0 rfl;rw [e1] at z0;rw [e2] at z1;rw [e3] at z2;exact ⟨Ak, Av, ad, ck, cv, cc, z0, z1, z2, rfl, h3, h4⟩
theorem Ci.calls (t : NT) (i : Nat) (R : PT) (hno : i = 0 \/ 0 < i /\ ∃ s : NT, t.kids[i - 1]? = some s /\ s.keys.length <= 2) (hj : t.keys.length <= 1000 /\ t.kids.length = t.keys.length + 1 /\ i < t.kids.length) (base : Nat) (L : List Ck) (w : World) (hs : Sat w base (t.dH 96 70 ++ L))
  (hc : i < t.keys.length /\ (∃ s : NT, t.kids[i + 1]? = some s /\ s.keys.length <= 2) /\ Calls Try.prog 130 #[bu t.p, .int .i64 (i : Int)] w (WR w base 96 70 t L R) \/
   i = t.keys.length /\ 0 < i /\ Calls Try.prog 130 #[bu t.p, .int .i64 ((i - 1 : Nat) : Int)] w (WR w base 96 70 t L R)) :
  Calls Try.prog 113 #[bu t.p, .int .i64 (i : Int)] w (WR w base 96 70 t L R) := by
 obtain ⟨Ak, Av, ad, ck, cv, cc, z0, z1, z2, hq⟩ := xg hs (by omega)
 have OA : af (i = 0 \/ 0 < i /\ ∃ (sp n : Nat) (A : Option Addr) (c : Nat), w.cell? (ad.add (i - 1)) = some (bu sp) /\ n <= 2 /\ w.cell? ⟨sp, 0, none⟩ = some (.slice A n c)) := ⟨by
  rcases hno with h | ⟨h, s, h1, h2⟩
  ·exact .inl h
  ·obtain ⟨A, c, h3⟩ := oJ hs h1
   exact .inr ⟨h, s.p, s.keys.length, A, c, ik hq ⟨h1, rfl⟩, h2, h3⟩⟩
 have HC : af (i < t.keys.length /\ (∃ (sp n : Nat) (A : Option Addr) (c : Nat), w.cell? ⟨ad.block, ad.off + (i + 1), none⟩ = some (bu sp) /\ n <= 2 /\ w.cell? ⟨sp, 0, none⟩ = some (.slice A n c)) /\ Calls Try.prog 130 #[bu t.p, .int .i64 (i : Int)] w (WR w base 96 70 t L R) \/
   i = t.keys.length /\ 0 < i /\ Calls Try.prog 130 #[bu t.p, .int .i64 ((i : Int) - 1)] w (WR w base 96 70 t L R)) := ⟨by
  rcases hc with ⟨h, ⟨s, h1, h2⟩, h3⟩ | ⟨h, h1, h2⟩
  ·obtain ⟨A, c, h4⟩ := oJ hs h1
   exact .inl ⟨h, ⟨s.p, s.keys.length, A, c, wV hq ⟨h1, rfl⟩ (by omega), h2, h4⟩, h3⟩
  ·rw [show ((i - 1 : Nat) : Int) = (i : Int) - 1 by omega] at h2
   exact .inr ⟨h, h1, h2⟩⟩
 have zi := ik hq (And.intro (List.getElem?_eq_getElem hj.2.2) rfl);generalize (t.kids[i]).p = ip at zi;obtain ⟨hj1, hj2, JH⟩ := hj
 obtain ⟨nk, hnk⟩ : ∃ n, t.keys.length = n := ⟨_, rfl⟩
 obtain ⟨nc, hnc⟩ : ∃ n, t.kids.length = n := ⟨_, rfl⟩
 obtain ⟨tp, htp⟩ : ∃ p, t.p = p := ⟨_, rfl⟩
 rw [hnk] at z0 hj1 hj2;rw [hnc] at z2 hj2 JH;rw [htp] at z0 z1 z2 ⊢;rw [hnk, htp] at HC;have HJ := A_ hj2;have hil : nk <= 1000 /\ i < nc /\ nc <= 1001 := by omega
 clear hno hc hs hq z1 hnk hnc hj2 htp;have b0 := bV (0 <= (i : Int));have b1 := bV ((i : Int) < (nc : Int));have b2 := bV (i < nc);go_enter Try.func113, Try.ntmps113
 go_upto_region 2 with fail
 go_cut [19] (fun v_ wc => v_ = .bool false /\ w = wc)
 case first =>
  rcases OA.out with h0 | ⟨h0, sp, ls, As, cs, hs1, hs2, hs3⟩
  ·have c_ := kS ((0 : Int) < (i : Int))
   go_wp2_with fail
   go_meet
   case rel => exact ⟨rfl, rfl⟩
  ·have c_ := lQ ((0 : Int) < (i : Int))
   have Rm := bV (1 <= (i : Int));have TE := bV (((i : Int) - 1) < (nc : Int));have Vx := bV ((i - 1) < nc);have K4 := kS ((2 : Int) < (ls : Int))
   go_wp2_with fail
   go_meet
   case rel => exact ⟨rfl, rfl⟩
 case rest =>
  obtain ⟨rfl, ew⟩ := hcut;subst ew
  go_upto_region 14 with fail
  rcases HC.out with ⟨h1, ⟨sp, n, A, c, hz1, hn, hz2⟩, hC⟩ | ⟨h1, h2, hC⟩
  ·have c1_ := lQ ((i : Int) < (nk : Int))
   have Rm := bV (0 <= (i : Int) + 1);have TE : ((i : Int) + 1 < (nc : Int)) = True := eq_true (by have := HJ.out; omega);have Vx : (i + 1 < nc) = True := eq_true (by have := HJ.out; omega);have K4 := kS ((2 : Int) < (n : Int))
   go_wp2_with (first | (go_at_call 130; (with_reducible refine hC.mono ?_); rintro e w1 ⟨rfl, hr⟩))
   go_end0
   exact ⟨rfl, hr⟩
  ·have hge : nk <= i := by omega
   clear h1;have c1_ := kS ((i : Int) < (nk : Int))
   go_wp2_with (first | (go_at_call 130; (with_reducible refine hC.mono ?_); rintro e w1 ⟨rfl, hr⟩))
   go_end0
   exact ⟨rfl, hr⟩
def Ue (t : NT) : Prop := FX t.keys t.vals t.kids.length
theorem qm {t s : NT} {j : Nat} (h : t.kids[j]? = some s) : gy t.erase j = s.erase := by
 unfold gy;rw [qi, List.getD_eq_getElem?_getD, List.getElem?_map, h];rfl
theorem vL {l : List NT} {j : Nat} {a b : NT} (ha : l[j]? = some a) (hb : l[j + 1]? = some b) : l = l.take j ++ a :: b :: l.drop (j + 2) := by
 rw [<- fO hb, <- fO ha, List.take_append_drop]
theorem Np.calls (t : NT) (i : Nat) (ht : Ue t) (hk : t.kids.length = t.keys.length + 1) (h0 : 0 < t.keys.length) (hi : i < t.kids.length) (hks : ∀ s ∈ t.kids, Ue s) (base : Nat) (L : List Ck) (w : World) (hs : Sat w base (t.dH 96 70 ++ L)) (hbs : base <= w.heap.size) :
  Calls Try.prog 113 #[bu t.p, .int .i64 (i : Int)] w (WR w base 96 70 t L (Ik t.erase i)) := by
 obtain ⟨ht1, ht2, _⟩ := ht;have key : t.erase.keys.length = t.keys.length := by rw [aU]
 have get : ∀ j, j < t.kids.length -> ∃ s : NT, t.kids[j]? = some s /\ Ue s /\ gy t.erase j = s.erase := fun j hj => by
  have e : t.kids[j]? = some t.kids[j] := List.getElem?_eq_getElem hj;exact ⟨_, e, hks _ (List.getElem_mem hj), qm e⟩
 unfold Ik
 by_cases hA : 0 < i /\ 2 < (gy t.erase (i - 1)).keys.length
 ·rw [if_pos hA]
  obtain ⟨l, hl, ol, el⟩ := get (i - 1) (by omega);obtain ⟨r, hr, Rb, er⟩ := get i hi;rw [el, aU] at hA;exact Ki.calls t l r (t.kids.take (i - 1)) (t.kids.drop (i - 1 + 2)) i hA.1 (vL hl (by rw [show i - 1 + 1 = i by omega]; exact hr)) (by rw [List.length_take]; omega) hA.2 ol Rb ⟨by omega, ht1, ht2, hk⟩ base L w hs hbs
 ·rw [if_neg hA]
  have hno : i = 0 \/ 0 < i /\ ∃ s : NT, t.kids[i - 1]? = some s /\ s.keys.length <= 2 := by
   rcases Nat.eq_zero_or_pos i with h | h
   ·exact .inl h
   ·obtain ⟨l, hl, ol, el⟩ := get (i - 1) (by omega)
    rw [el, aU] at hA;exact .inr ⟨h, l, hl, by omega⟩
  rw [key]
  by_cases hB : i < t.keys.length
  ·obtain ⟨l, hl, ol, el⟩ := get i hi
   obtain ⟨r, hr, Rb, er⟩ := get (i + 1) (by omega);have hp := vL hl hr;have hl' : (t.kids.take i).length = i := by rw [List.length_take]; omega
   by_cases hC : 2 < r.keys.length
   ·rw [if_pos ⟨hB, by rw [er, aU]; exact hC⟩]
    exact Kj.calls t l r _ _ i hno hp hl' hC ol Rb ⟨hB, ht1, ht2, hk⟩ base L w hs hbs
   ·rw [if_neg (by rw [er, aU]; omega), if_pos hB]
    exact Ci.calls t i _ hno ⟨ht1, hk, hi⟩ base L w hs (.inl ⟨hB, ⟨r, hr, by omega⟩, EX.calls t l r _ _ i hp hl' ol Rb ⟨hB, ht1, ht2, hk⟩ base L w hs hbs⟩)
  ·rw [if_neg (fun h => hB h.1), if_neg hB]
   obtain ⟨l, hl, ol, el⟩ := get (i - 1) (by omega);obtain ⟨r, hr, Rb, er⟩ := get i hi;exact Ci.calls t i _ hno ⟨ht1, hk, hi⟩ base L w hs (.inr ⟨by omega, by omega, EX.calls t l r _ _ (i - 1) (vL hl (by rw [show i - 1 + 1 = i by omega]; exact hr)) (by rw [List.length_take]; omega) ol Rb ⟨by omega, ht1, ht2, hk⟩ base L w hs hbs⟩)
theorem AQ {p0 q : Prop} (h0 : p0) (h : p0 -> q := by intro uu; repeat (first | exact uu | (with_reducible refine Rd.drewN ?_ _) | (with_reducible refine Rd.drew ?_))) : q := h h0
open Go.Proofs.Ytoddejmlcnbdmaa.Pure (kK aX qD Has mZ qL lC oK qj)
def nW : Nat -> NT -> NT
 | 0, u => u
 | n + 1, u => match u.kids[u.kids.length - 1]? with
  | none => u
  | some c => nW n c
theorem Cj : ∀ (n : Nat) (u : NT), (nW n u).erase = jC n u.erase
 | 0, u => rfl
 | n + 1, u => by
  rw [nW, jC, bE]
  cases h : u.kids[u.kids.length - 1]? with
  | none =>
   have : u.kids.length <= u.kids.length - 1 := List.getElem?_eq_none_iff.1 h;rw [if_pos (by omega)]
  | some c =>
   have : u.kids.length - 1 < u.kids.length := (List.getElem?_eq_some_iff.1 h).1;rw [if_neg (by omega)];simp only;rw [Cj n c, qm h]
theorem IJ {T E : Nat} {w : World} {base : Nat} : ∀ (n : Nat) {u : NT}, Sat w base (u.dH T E) -> Sat w base ((nW n u).dH T E)
 | 0, u, h => h
 | n + 1, u, h => by
  rw [nW]
  cases hc : u.kids[u.kids.length - 1]? with
  | none => exact h
  | some c =>
   rw [NT.kJ] at h;exact IJ n (xA h.right hc)
theorem Nq : ∀ {n : Nat} {u : NT}, u.kids.length = 0 -> nW n u = u
 | 0, u, _ => rfl
 | n + 1, u, h => by rw [nW, List.getElem?_eq_none (by omega)]
theorem Cm {T E : Nat} {w : World} {base : Nat} {gs : List (List Ck)} {aJ : List NT} {y : NT} (h : aa w base gs) (i : Nat) (hi : gs[i]? = some (NT.aZ T E aJ)) (hy : ∃ (j : Nat) (s : NT) (n : Nat), aJ[j]? = some s /\ nW n s = y) : Sat w base (y.dH T E) := by
 obtain ⟨j, s, n, h1, rfl⟩ := hy;exact IJ n (xA (h.at i hi) h1)
theorem Gg {T E : Nat} {w : World} {base : Nat} {y : NT} {v : Value} (h : Sat w base (y.dH T E)) (e : y.kv = v) : w.cell? ⟨y.p, 0, none⟩ = some v := by
 subst e;rw [NT.kJ] at h;exact h.left.z 0 rfl 0
theorem R6 {T E : Nat} {w : World} {base : Nat} {y : NT} {v : Value} (h : Sat w base (y.dH T E)) (e : y.vv = v) : w.cell? ⟨y.p, 1, none⟩ = some v := by
 subst e;rw [NT.kJ] at h;exact h.left.z 0 rfl 1
theorem Pz {T E : Nat} {w : World} {base g n c i : Nat} {y : NT} {x : ByteArray} (h : Sat w base (y.dH T E)) (e : y.kv = .slice (some ⟨g, 0, none⟩) n c) (hx : i < y.keys.length /\ bq y.keys i = x) : w.cell? ⟨g, i, none⟩ = some (.string x) := by
 rw [NT.kJ] at h;have := h.left.sr 1 rfl;rw [e] at this;exact iH this hx
theorem Uf {T E : Nat} {w : World} {base g n c i : Nat} {y : NT} {x : ByteArray} (h : Sat w base (y.dH T E)) (e : y.vv = .slice (some ⟨g, 0, none⟩) n c) (hx : i < y.vals.length /\ bq y.vals i = x) : w.cell? ⟨g, i, none⟩ = some (.string x) := by
 rw [NT.kJ] at h;have := h.left.sr 2 rfl;rw [e] at this;exact iH this hx
theorem Nr {T E : Nat} {w : World} {base : Nat} {y : NT} (h : Sat w base (y.dH T E)) (h0 : 0 < y.keys.length) (h1 : 0 < y.vals.length) : ∃ gk ck gv cv, y.kv = .slice (some ⟨gk, 0, none⟩) y.keys.length ck /\ y.vv = .slice (some ⟨gv, 0, none⟩) y.vals.length cv := by
 rw [NT.kJ] at h;have hk := h.left.sr 1 rfl;have hv := h.left.sr 2 rfl;obtain ⟨Ak, ck, e1⟩ := Kd.ak hk;obtain ⟨Av, cv, e2⟩ := Kd.ak hv;rw [e1] at hk;rw [e2] at hv;obtain ⟨gk, rfl⟩ := dA hk h0;obtain ⟨gv, rfl⟩ := dA hv h1;exact ⟨gk, ck, gv, cv, e1, e2⟩
theorem Kk {w : World} {base T E : Nat} {t : NT} (hs : Sat w base (t.dH T E)) (hc : 0 < t.kids.length) : ∃ (ad : Addr) (cc : Nat), w.cell? ⟨t.p, 2, none⟩ = some (.slice (some ad) t.kids.length cc) /\ (t.kids.length = t.kids.length /\ t.kids.length <= cc /\ dZ.C w (some ad) t.kids.length (t.kids.map NT.p)) := by
 obtain ⟨_, _, ad, _, _, cc, _, _, z2, hq⟩ := xg (L := []) (by rw [List.append_nil]; exact hs) hc;exact ⟨ad, cc, z2, hq⟩
theorem Gh {t : NT} (h : kV t.erase) : Ue t := by
 obtain ⟨⟨h1, h2, h3⟩, _⟩ := bJ.1 h;rw [aU] at h1 h2 h3;rw [mD] at h1;rw [bE] at h3;exact ⟨by omega, h1, h3⟩
theorem EY : ∀ (n : Nat) (t : PT) (h : Nat), t.big <= n -> qD h t -> 0 < t.keys.length -> 0 < (jC n t).keys.length /\ (jC n t).keys.length <= 4 /\ (jC n t).vals.length = (jC n t).keys.length
 | 0, t, h, hb, _, _ => absurd t.fB (by omega)
 | n + 1, t, 0, hb, hk, _ => hk.l.elim
 | n + 1, t, h + 1, hb, hk, h0 => by
  obtain ⟨⟨h1, h2, h3⟩, h4⟩ := bJ.1 hk.b;rw [jC]
  rcases Pure.jU hk.b hk.l with ⟨_, hc⟩ | ⟨hh, hc, ha⟩
  ·rw [if_pos (by rw [hc]; rfl)]
   exact ⟨h0, h2, h1⟩
  ·rw [if_neg (by omega), show t.kids.length - 1 = t.keys.length by omega]
   have hx : t.kids[t.keys.length]? = some (t.kids[t.keys.length]'(by omega)) := List.getElem?_eq_getElem (by omega);have hm := List.mem_of_getElem? hx;rw [Pure.ky hx];exact EY n _ h (by have := PT.gH hx; omega) ⟨h4 _ hm, (ha _ hm).1⟩ (by have := (ha _ hm).2; omega)
def DR (w : World) (base T E : Nat) (t : NT) (L : List Ck) (r : Option PT) (e : Ending) (w' : World) : Prop := ∃ r', r = some r' /\ WR w base T E t L r' e w'
theorem Ns.calls : ∀ (n : Nat) (t : NT) (key : ByteArray) (h : Nat), t.erase.big <= n -> qD h t.erase -> (t.kids.length ≠ 0 -> 0 < t.keys.length) -> kK (aX t.erase) -> Has key (aX t.erase) -> ∀ (base : Nat) (L : List Ck) (w : World), Sat w base (t.dH 96 70 ++ L) -> base <= w.heap.size ->
  Calls Try.prog 83 #[bu t.p, .string key] w (DR w base 96 70 t L (mP n t.erase key)) := by
 intro n
 induction n with
 | zero =>
  intro t key h hb;exact absurd t.erase.fB (by omega)
 | succ n ih =>
  intro t key h hbig hkd hroot hsrt hhas base L w hs hbs
  cases h with
  | zero => exact hkd.l.elim
  | succ h =>
  have hrd := jc hs.left;have hbd := hkd.b;obtain ⟨⟨ho1, ho2, ho3⟩, oO⟩ := bJ.1 hbd;have h0 := fF hs;have N8 := A_ (Pure.jU hkd.b hkd.l);have N9 := A_ hsrt;have JM := A_ hhas;have KO := A_ hkd.b
  cases t with | mk tp yC yD yE tks tvs aJ =>
  have e0 : (NT.mk tp yC yD yE tks tvs aJ).erase = .mk tks tvs (NT.ax aJ) := rfl;rw [e0] at hrd hbig ho1 ho2 ho3 oO N8 N9 JM KO ⊢;replace hrd : Rd 96 w tp (PT.mk tks tvs (NT.ax aJ)) := hrd;unfold jV at h0;simp only [NT.keys, NT.vals, NT.kids, NT.p, NT.kv, NT.vv, NT.cv] at h0 hroot ⊢;simp only [PT.keys, PT.vals, PT.kids] at ho1 ho2 ho3 oO
  obtain ⟨R, hR⟩ : ∃ R, R = mP (n + 1) (.mk tks tvs (NT.ax aJ)) key := ⟨_, rfl⟩
  rw [<- hR]
  obtain ⟨i, hi⟩ : ∃ i, dG key tks = i := ⟨_, rfl⟩
  obtain ⟨b, hb⟩ : ∃ b, jg tks i key = b := ⟨_, rfl⟩
  rw [mP] at hR;have hle : i <= tks.length := by rw [<- hi]; exact lS key tks
  have HM := A_ (show (PT.mk tks tvs (NT.ax aJ)).keys.length <= 1000000000000 by show tks.length <= _; omega);have HI := A_ (show dG key (PT.mk tks tvs (NT.ax aJ)).keys = i from hi);have zK := A_ (show jg (PT.mk tks tvs (NT.ax aJ)).keys i key = b from hb);have vQ := A_ hrd;have bQ := A_ hbs;have Dy := A_ ho1;have Fv : tvs.length <= 4 /\ i <= tvs.length := by omega
  obtain ⟨jF, fG, rfl⟩ := Kd.ak (h0.sr 1 rfl);obtain ⟨jK, fM, rfl⟩ := Kd.ak (h0.sr 2 rfl);obtain ⟨qB, fK, rfl, _, _⟩ := dz (h0.q 3 rfl);have HS := A_ h0;have HB := A_ (Below.refl base w);have HR := A_ hR;have Q3 := A_ (And.intro hi hb);have KT := A_ oO;have X3 := A_ ho3;have ZL := A_ hroot;clear h0 hR hrd hs hi hb hbs ho1 ho3 oO hbd hsrt hhas hkd hroot
  by_cases hlf : aJ.length = 0
  ·skip
   have hk0 : NT.ax aJ = [] := by rw [List.length_eq_zero_iff.1 hlf]; rfl
   have hS := qj KO.out hk0 N9.out JM.out
   have VF : i < tks.length := by
    have := jQ hS;have e1 := Q3.out.1;simp only [PT.keys] at this;omega
   have VG : i < tvs.length := by have := Dy.out; omega
   have hbl := A_ (show decide ((((PT.mk tks tvs (NT.ax aJ)).kids.length : Nat) : Int) = 0) = true from decide_eq_true (by show ((NT.ax aJ).length : Int) = 0; rw [hk0]; rfl));have GG := A_ hk0;clear hS hk0;obtain ⟨l1, mF⟩ := lL (tks.eraseIdx i);obtain ⟨l2, qa⟩ := lL (tvs.eraseIdx i);go_enter Try.func83, Try.ntmps83
   go_upto_region 2 with (first | (go_at_call 100; (with_reducible refine (qF.calls (PT.mk tks tvs (NT.ax aJ)) HM.out key i b HI.out zK.out _ vQ.out).mono ?_); rintro e w1 ⟨rfl, ⟨nd, rfl⟩⟩) | (go_at_call 84; (with_reducible refine (dm.cK true hbl.out _ ?az).mono ?_); (case az => exact AQ vQ.out); rintro e w' ⟨rfl, ⟨nd, rfl⟩⟩))
   generalize hW : World.drewN _ _ = w2
   have ah : af (aa w2 base [jM 96 tp jF tks.length fG jK tvs.length fM qB aJ.length fK, gK jF fG tks, gK jK fM tvs, lX 70 qB fK aJ, (NT.aZ 96 70 aJ), L]) := ⟨by rw [<- hW]; exact aa.drewN HS.out _⟩
   replace HB : af (Below base w w2) := ⟨by rw [<- hW]; exact aj HB.out _⟩
   replace HS := ah; clear ah vQ hbl hW;have sd3 : i < tks.length /\ tks.length <= 1000000 := by omega
   have eT := (aa.z0 HS.out 0 rfl)
   go_upto_region 3 with (first | (go_at_call 112; (with_reducible refine (Nb i (i : Int) rfl mF.out (aa.row HS.out 1 rfl) sd3).mono ?_); rintro e w3 ⟨ja, rfl, ho, hb⟩; obtain ⟨A4, c5, rfl⟩ := Kd.ak ho; have ah := jN (aa.eG HS.out hb (cO bQ HB) ho); replace HB : af (Below base w w3) := ⟨(HB.out).trans (hb.mono (cO bQ HB))⟩; replace HS := ah; clear ah ho hb; clear eT; have eT := (aa.z0 HS.out 0 rfl); have zs0 := aa.z0 HS.out 0 rfl; have jE := aa.f HS.out 0 rfl 0))
   have ah := gq (World.setCell w3 ⟨tp, 0, none⟩ (.slice A4 l1.length c5)) (aa.gJ (aa.xS HS.out 0 rfl (.slice A4 l1.length c5)) [0, 6, 2, 3, 4, 5] (by decide))
   replace HB : af (Below base w (World.setCell w3 ⟨tp, 0, none⟩ (.slice A4 l1.length c5))) := ⟨(HB.out).setCell (p := ⟨tp, 0, none⟩) (aa.ge HS.out 0 rfl) _⟩
   generalize World.setCell w3 ⟨tp, 0, none⟩ (.slice A4 l1.length c5) = w4 at ah HB ⊢;replace HS := ah; clear ah eT zs0 jE;have sd6 : i < tvs.length /\ tvs.length <= 1000000 := by omega
   have eT := (aa.z1 HS.out 0 rfl)
   go_wp2_with (first | (go_at_call 112; (with_reducible refine (Nb i (i : Int) rfl qa.out (aa.row HS.out 2 rfl) sd6).mono ?_); rintro e w5 ⟨ja, rfl, ho, hb⟩; obtain ⟨A7, c8, rfl⟩ := Kd.ak ho; have ah := jN (aa.eG HS.out hb (cO bQ HB) ho); replace HB : af (Below base w w5) := ⟨(HB.out).trans (hb.mono (cO bQ HB))⟩; replace HS := ah; clear ah ho hb; clear eT; have eT := (aa.z1 HS.out 0 rfl); have zs0 := aa.z1 HS.out 0 rfl; have jE := aa.f HS.out 0 rfl 1))
   have ah := gq (World.setCell w5 ⟨tp, 1, none⟩ (.slice A7 l2.length c8)) (aa.gJ (aa.xU HS.out 0 rfl (.slice A7 l2.length c8)) [0, 1, 6, 3, 4, 5] (by decide))
   replace HB : af (Below base w (World.setCell w5 ⟨tp, 1, none⟩ (.slice A7 l2.length c8))) := ⟨(HB.out).setCell (p := ⟨tp, 1, none⟩) (aa.ge HS.out 0 rfl) _⟩
   generalize World.setCell w5 ⟨tp, 1, none⟩ (.slice A7 l2.length c8) = w6 at ah HB ⊢;replace HS := ah; clear ah eT zs0 jE
   go_end0
   refine ⟨.mk (tks.eraseIdx i) (tvs.eraseIdx i) (NT.ax aJ), ?_, rfl, NT.mk tp (.slice A4 l1.length c5) (.slice A7 l2.length c8) (.slice qB aJ.length fK) l1 l2 aJ, rfl, ?_, ?_, HB.out⟩
   ·have e1 := Q3.out.1
    have e2 : dG key (PT.mk tks tvs (NT.ax aJ)).keys = i := Q3.out.1;rw [HR.out, if_pos (show (PT.mk tks tvs (NT.ax aJ)).kids.length = 0 by show (NT.ax aJ).length = 0; rw [GG.out]; rfl), e2, if_pos (show i < (PT.mk tks tvs (NT.ax aJ)).keys.length from VF)];rfl
   ·rw [mF.out, qa.out]
    rfl
   ·have hS := yL (aa.gJ HS.out [0, 1, 2, 3, 4, 5] (by decide))
    exact gV hS
  ·skip
   have hnl : (NT.ax aJ).length = aJ.length := by rw [aC, List.length_map]
   have hkl : aJ.length = tks.length + 1 := by
    have := X3.out;omega
   have h0k : 0 < tks.length := ZL.out hlf
   obtain ⟨s, hsx⟩ : ∃ s, aJ[i]? = some s := ⟨aJ[i]'(by omega), List.getElem?_eq_getElem (by omega)⟩
   have hse : (PT.mk tks tvs (NT.ax aJ)).kids[i]? = some s.erase := by show (NT.ax aJ)[i]? = _; rw [aC, List.getElem?_map, hsx]; rfl
   have hsm : s.erase ∈ NT.ax aJ := List.mem_of_getElem? hse;have hor := N8.out.resolve_left (fun c => hlf (by have := congrArg List.length c.2; rw [<- hnl]; exact this));have jw := A_ (show qD h s.erase /\ 2 <= s.keys.length from ⟨⟨KT.out _ hsm, (hor.2.2 _ hsm).1⟩, by have := (hor.2.2 _ hsm).2; rw [aU] at this; exact this⟩);have Fx := A_ (show s.erase.big <= n by have := PT.gH hse; omega);have JB := A_ (lC KO.out N9.out hse (show i <= tks.length by omega));have HMM := A_ hor.2.2;have Fw := A_ (show gy (PT.mk tks tvs (NT.ax aJ)) i = s.erase from Pure.ky hse);have rE := A_ hsx;have WC := A_ hse;have hil : i < aJ.length := by omega
   have htc : aJ.length <= 5 := by omega
   have xu := A_ hkl;have hbl := A_ (show decide ((((PT.mk tks tvs (NT.ax aJ)).kids.length : Nat) : Int) = 0) = false from decide_eq_false (by show ((NT.ax aJ).length : Int) ≠ 0; omega));obtain ⟨iB, rfl⟩ := fJ (aa.q HS.out 3 rfl) (by omega);have VH := A_ hlf;clear hnl hkl hsx hse hsm hor hlf;go_enter Try.func83, Try.ntmps83
   go_upto_if 34 with (first | (go_at_call 100; (with_reducible refine (qF.calls (PT.mk tks tvs (NT.ax aJ)) HM.out key i b HI.out zK.out _ vQ.out).mono ?_); rintro e w1 ⟨rfl, ⟨nd, rfl⟩⟩) | (go_at_call 84; (with_reducible refine (dm.cK false hbl.out _ ?az).mono ?_); (case az => exact AQ vQ.out); rintro e w' ⟨rfl, ⟨nd, rfl⟩⟩))
   generalize hW : World.drewN _ _ = w2
   have ah : af (aa w2 base [jM 96 tp jF tks.length fG jK tvs.length fM (some iB) aJ.length fK, gK jF fG tks, gK jK fM tvs, lX 70 (some iB) fK aJ, (NT.aZ 96 70 aJ), L]) := ⟨by rw [<- hW]; exact aa.drewN HS.out _⟩
   replace HB : af (Below base w w2) := ⟨by rw [<- hW]; exact aj HB.out _⟩
   replace HS := ah; clear ah vQ hbl hW;go_cut [1] (fun v_ wc => ∃ (k' : ByteArray) (t1 : NT), v_ = .string k' /\ af (t1.p = tp /\ t1.kids = aJ /\ t1.keys.length = tks.length /\ t1.vals.length = tvs.length) /\ af (Sat wc base (t1.dH 96 70 ++ L)) /\ af (Below base w wc) /\ af (Has k' (aX s.erase)) /\ af (R = (mP n s.erase k').map fun s' => tu (.mk t1.keys t1.vals ((NT.ax aJ).set i s')) i))
   case first =>
    cases b with
    | false =>
     go_wp2_with fail
     go_meet
     case rel =>
      refine ⟨key, NT.mk tp (.slice jF tks.length fG) (.slice jK tvs.length fM) (.slice (some iB) aJ.length fK) tks tvs aJ, rfl, ⟨rfl, rfl, rfl, rfl⟩, ⟨gV HS.out⟩, HB, ⟨?_⟩, ⟨?_⟩⟩
      ·refine (qL (t := PT.mk tks tvs (NT.ax aJ)) KO.out N9.out ?_ ?_).2.2 JM.out
       ·rw [HI.out]; exact zK.out
       ·rw [HI.out]; exact WC.out
      ·have e1 := HR.out
       rw [HI.out, Fw.out] at e1;rw [e1, if_neg (show ¬ (PT.mk tks tvs (NT.ax aJ)).kids.length = 0 from fun c => VH.out (by have c' : (NT.ax aJ).length = 0 := c; rw [aC, List.length_map] at c'; exact c')), if_neg (show ¬ jg (PT.mk tks tvs (NT.ax aJ)).keys i key = true from by rw [zK.out]; decide)];rfl
    | true =>
    have hil2 : i < tks.length := by
     have := jQ zK.out;exact this
    have hiv2 : i < tvs.length := by have := Dy.out; omega
    obtain ⟨jG, rfl⟩ := dA (aa.sr HS.out 1 rfl) (by omega);obtain ⟨jH, rfl⟩ := dA (aa.sr HS.out 2 rfl) (by omega)
    obtain ⟨y, hy⟩ : ∃ y, y = nW n s := ⟨_, rfl⟩
    have VI : af (∃ (j : Nat) (s : NT) (n : Nat), aJ[j]? = some s /\ nW n s = y) := ⟨i, s, n, rE.out, hy.symm⟩
    have ZM : af (y.erase = jC n s.erase) := ⟨by rw [hy, Cj]⟩
    obtain ⟨hy1, hy2, hy3⟩ := EY n s.erase h Fx.out jw.out.1 (by rw [aU]; have := jw.out.2; omega);rw [<- ZM.out, aU] at hy1 hy2 hy3;rw [mD] at hy3;obtain ⟨gyk, cyk, gyv, cyv, hyk, hyv⟩ := Nr (Cm HS.out 4 rfl VI.out) hy1 (by omega);have HY3 := A_ hy3;rw [hy3] at hyv
    obtain ⟨ny, hny⟩ : ∃ n, y.keys.length = n := ⟨_, rfl⟩
    rw [hny] at hyk hyv hy1 hy2;have X4 := A_ hyk;have HYV := A_ hyv
    obtain ⟨yx, hyx⟩ : ∃ x, bq y.keys (ny - 1) = x := ⟨_, rfl⟩
    obtain ⟨yz, WG⟩ : ∃ x, bq y.vals (ny - 1) = x := ⟨_, rfl⟩
    have ZN : af (ny - 1 < y.keys.length /\ bq y.keys (ny - 1) = yx) := ⟨by omega, hyx⟩
    have Hyz : af (ny - 1 < y.vals.length /\ bq y.vals (ny - 1) = yz) := ⟨by omega, WG⟩
    have HNY := A_ hny;have HY := A_ hy;clear hy hy3 hyk hyv hyx WG hny;have wG := aa.z2 HS.out 0 rfl;have VJ := ik (aa.fH HS.out 3 rfl) (And.intro rE.out rfl);have QB := bV (0 <= (i : Int));have QC := bV ((i : Int) < (aJ.length : Int));have Rh : (i < aJ.length) = True := eq_true hil
    go_wp2_with fail
    clear wG VJ
    go_loopg [6] n (fun kq u6 w' => ∃ (u : NT) (m nd : Nat), u6 = bu u.p /\ af (kq = m) /\ af (nW m u = y /\ u.erase.big <= m) /\ af (Sat w2 base (u.dH 96 70)) /\ af (kV u.erase) /\ w' = w2.drewN nd)
    case atStart => exact ⟨s, n, 0, by first | rfl | (simp; done), ⟨rfl⟩, ⟨HY.out.symm, Fx.out⟩, ⟨xA (aa.at HS.out 4 rfl) rE.out⟩, ⟨jw.out.1.b⟩, by first | rfl | (simp; done)⟩
    case round =>
     obtain ⟨u, m, nd, rfl, U8, HU, X5, HBU, rfl⟩ := hrel;have ZO := A_ (jc X5.out)
     by_cases ZP : u.kids.length = 0
     ·have hbl := A_ (show decide ((u.erase.kids.length : Int) = 0) = true from decide_eq_true (by rw [bE]; omega))
      have huy : y = u := by rw [<- HU.out.1, Nq ZP]
      subst huy;clear ZP;have eT := Gg X5.out X4.out
      go_upto_region 9 with (first | (go_at_call 84; (with_reducible refine (dm.cK true hbl.out _ ?az).mono ?_); (case az => exact AQ ZO.out); rintro e w' ⟨rfl, ⟨nd2, rfl⟩⟩))
      clear eT ZO hbl X5;generalize hW : World.drewN _ _ = w3
      have ah : af (aa w3 base [jM 96 tp (iX jG) tks.length fG (iX jH) tvs.length fM (some iB) aJ.length fK, gK (iX jG) fG tks, gK (iX jH) fM tvs, lX 70 (some iB) fK aJ, (NT.aZ 96 70 aJ), L]) := ⟨by rw [<- hW]; exact aa.drewN HS.out _⟩
      replace HB : af (Below base w w3) := ⟨by rw [<- hW]; exact aj HB.out _⟩
      replace HS := ah; clear ah hW
      obtain ⟨tx, htx⟩ : ∃ x, bq tks i = x := ⟨_, rfl⟩
      have oV : af (i < tks.length /\ bq tks i = tx) := ⟨by omega, htx⟩
      clear htx
      obtain ⟨ty, hty⟩ : ∃ x, bq tvs i = x := ⟨_, rfl⟩
      have oh : af (i < tvs.length /\ bq tvs i = ty) := ⟨by omega, hty⟩
      clear hty;obtain ⟨l1, mF⟩ := lL (tks.set i yx);obtain ⟨l2, qa⟩ := lL (tvs.set i yz);have b3 := bV (1 <= (ny : Int));have b4 := bV (((ny : Int) - 1) < (ny : Int));have b5 := bV ((ny - 1) < ny);have b6 := bV (0 <= (i : Int));have b7 := bV ((i : Int) < (tks.length : Int));have b8 := bV (i < tks.length);have zs0 := iH (aa.sr (aa.drew HS.out) 1 rfl) oV.out;have jE := fZ (aa.sr (aa.drew HS.out) 1 rfl) (Nat.lt_of_le_of_lt (Nat.zero_le _) oV.out.1) i;refine bS (n := 14) (S := fun w' => w'.cell? ⟨tp, 0, none⟩ = some (.slice (some ⟨jG, 0, none⟩) tks.length fG) /\ w'.cell? ⟨y.p, 0, none⟩ = some (.slice (some ⟨gyk, 0, none⟩) ny cyk) /\ w'.cell? ⟨gyk, (ny - 1), none⟩ = some (.string yx)) (ds := [13]) (bt 14 0) (by kernel_rfl) rfl rfl ⟨(aa.z0 (aa.drew HS.out) 0 rfl), (Gg (Cm (aa.drew HS.out) 4 rfl VI.out) X4.out), (Pz (Cm (aa.drew HS.out) 4 rfl VI.out) X4.out ZN.out)⟩ (fun hHeld => ?_);refine aH 0 63 1 ?_;refine aH 1 64 3 ?_;refine aH 2 65 7 ?_;refine aH 4 67 23 ?_;refine aH 5 68 55 ?_;refine aH 6 69 119 ?_;refine aH 7 70 247 ?_;refine aH 9 72 759 ?_;refine fq 3 66 767 hHeld ?_;refine fq 8 71 1023 hHeld ?_;refine aH 10 73 2047 ?_;refine fq 11 74 4095 hHeld ?_;refine aH 12 75 8191 ?_;refine qz 13 none 16383 (fun K hK => ?_);refine fA (w1 := ?_) (by rfl) rfl ?_ ?_;rotate_left
      ·go_simp
       rfl
      refine hK.out _ _ ?_;clear hK K;refine dL (by kernel_rfl) ?_;have ah := gq (World.drew (World.setCell w3 ⟨jG, i, none⟩ (.string yx))) (aa.nM (aa.drew HS.out) 1 rfl i yx mF.out)
      replace HB : af (Below base w (World.drew (World.setCell w3 ⟨jG, i, none⟩ (.string yx)))) := ⟨((aG HB.out)).setCell (p := ⟨jG, i, none⟩) (rX (aa.drew HS.out) 1 rfl oV.out) _⟩
      generalize World.drew (World.setCell w3 ⟨jG, i, none⟩ (.string yx)) = w4 at ah HB ⊢;replace HS := ah; clear ah zs0 jE
      go_upto_region 10 with fail
      have b9 := bV ((i : Int) < (tvs.length : Int));have b10 := bV (i < tvs.length);have zs0 := iH (aa.sr (aa.drew HS.out) 2 rfl) oh.out;have jE := fZ (aa.sr (aa.drew HS.out) 2 rfl) (Nat.lt_of_le_of_lt (Nat.zero_le _) oh.out.1) i;refine bS (n := 14) (S := fun w' => w'.cell? ⟨tp, 1, none⟩ = some (.slice (some ⟨jH, 0, none⟩) tvs.length fM) /\ w'.cell? ⟨y.p, 1, none⟩ = some (.slice (some ⟨gyv, 0, none⟩) ny cyv) /\ w'.cell? ⟨gyv, (ny - 1), none⟩ = some (.string yz)) (ds := [13]) (bt 14 0) (by kernel_rfl) rfl rfl ⟨(aa.z1 (aa.drew HS.out) 0 rfl), (R6 (Cm (aa.drew HS.out) 4 rfl VI.out) HYV.out), (Uf (Cm (aa.drew HS.out) 4 rfl VI.out) HYV.out Hyz.out)⟩ (fun hHeld => ?_);refine aH 0 76 1 ?_;refine aH 1 77 3 ?_;refine aH 2 78 7 ?_;refine aH 4 80 23 ?_;refine aH 5 81 55 ?_;refine aH 6 82 119 ?_;refine aH 7 83 247 ?_;refine aH 9 85 759 ?_;refine fq 3 79 767 hHeld ?_;refine fq 8 84 1023 hHeld ?_;refine aH 10 86 2047 ?_;refine fq 11 87 4095 hHeld ?_;refine aH 12 88 8191 ?_;refine qz 13 none 16383 (fun K hK => ?_);refine fA (w1 := ?_) (by rfl) rfl ?_ ?_;rotate_left
      ·go_simp
       rfl
      refine hK.out _ _ ?_;clear hK K;refine dL (by kernel_rfl) ?_;have ah := gq (World.drew (World.setCell w4 ⟨jH, i, none⟩ (.string yz))) (aa.nM (aa.drew HS.out) 2 rfl i yz qa.out)
      replace HB : af (Below base w (World.drew (World.setCell w4 ⟨jH, i, none⟩ (.string yz)))) := ⟨((aG HB.out)).setCell (p := ⟨jH, i, none⟩) (rX (aa.drew HS.out) 2 rfl oh.out) _⟩
      generalize World.drew (World.setCell w4 ⟨jH, i, none⟩ (.string yz)) = w5 at ah HB ⊢;replace HS := ah; clear ah zs0 jE
      go_upto_region 11 with fail
      have eT := (Gg (Cm HS.out 4 rfl VI.out) X4.out)
      have qU := (Pz (Cm HS.out 4 rfl VI.out) X4.out ZN.out)
      go_wp2_with fail
      clear eT qU
      go_meet
      case rel =>
       have ek : kT n s.erase = yx := by unfold kT; rw [<- ZM.out, aU, HNY.out]; exact ZN.out.2
       have ev : oW n s.erase = yz := by unfold oW; rw [<- ZM.out, aU, mD, HNY.out]; exact Hyz.out.2
       refine ⟨yx, NT.mk tp (.slice (some ⟨jG, 0, none⟩) tks.length fG) (.slice (some ⟨jH, 0, none⟩) tvs.length fM) (.slice (some iB) aJ.length fK) l1 l2 aJ, rfl, ⟨rfl, rfl, by show l1.length = _; rw [mF.out, List.length_set], by show l2.length = _; rw [qa.out, List.length_set]⟩, ⟨gV HS.out⟩, HB, ⟨?_⟩, ⟨?_⟩⟩
       ·obtain ⟨X, eX⟩ := oK n s.erase h Fx.out jw.out.1 (by rw [aU]; have := jw.out.2; omega)
        rw [<- ek, eX];exact ⟨_, List.mem_append_right _ (List.mem_singleton_self _), by simp⟩
       ·have e1 := HR.out
        rw [HI.out, Fw.out] at e1;rw [e1, if_neg (show ¬ (PT.mk tks tvs (NT.ax aJ)).kids.length = 0 from fun c => VH.out (by have c' : (NT.ax aJ).length = 0 := c; rw [aC, List.length_map] at c'; exact c')), if_pos (show jg (PT.mk tks tvs (NT.ax aJ)).keys i key = true from zK.out), ek, ev]
        show _ = (mP n s.erase yx).map fun s' => tu (.mk l1 l2 _) i
        rw [mF.out, qa.out];rfl
     ·have hbl := A_ (show decide ((u.erase.kids.length : Int) = 0) = false from decide_eq_false (by rw [bE]; omega))
      obtain ⟨adu, ccu, zu2, huq⟩ := Kk X5.out (by omega)
      obtain ⟨c, hc⟩ : ∃ c, u.kids[u.kids.length - 1]? = some c := ⟨u.kids[u.kids.length - 1]'(by omega), List.getElem?_eq_getElem (by omega)⟩
      have zup := ik huq (And.intro hc rfl);have YB := A_ hc
      have hu5 : u.kids.length <= 5 := by
       obtain ⟨⟨_, q2, q3⟩, _⟩ := bJ.1 HBU.out;rw [bE] at q3;omega
      obtain ⟨nu, hnu⟩ : ∃ a, u.kids.length = a := ⟨_, rfl⟩
      have HNU := A_ hnu;rw [hnu] at zu2 zup ZP hu5;have hkq : 0 < m := by have := HU.out.2; have := u.erase.fB; omega
      have HNEXT : af (nW (m - 1) c = y /\ c.erase.big <= m - 1) := ⟨by
       have e1 := HU.out.1
       obtain ⟨m', em⟩ : ∃ m', m = m' + 1 := ⟨m - 1, by omega⟩
       rw [em] at e1;rw [show m - 1 = m' by omega];rw [nW, YB.out] at e1
       exact e1, by
       have e2 : u.erase.kids[u.kids.length - 1]? = some c.erase := by rw [qi, List.getElem?_map, YB.out]; rfl
       have := PT.gH e2;have := HU.out.2
       omega⟩
      have ZB : af (Sat w2 base (c.dH 96 70)) := ⟨by
       have e1 := X5.out;rw [NT.kJ] at e1
       exact xA e1.right YB.out⟩
      have HBC : af (kV c.erase) := ⟨(bJ.1 HBU.out).2 _ (by rw [qi]; exact List.mem_map_of_mem (List.mem_of_getElem? YB.out))⟩
      clear hnu hc huq;have b0_ := bV (1 <= (nu : Int));have Rm := bV (((nu : Int) - 1) < (nu : Int));have TE := bV ((nu - 1) < nu);have q_ : wrap64 ((nu : Int) - 1) = ((nu : Int) - 1) := jW (by omega)
      go_wp2_with (first | (go_at_call 84; (with_reducible refine (dm.cK false hbl.out _ ?az).mono ?_); (case az => exact AQ ZO.out); rintro e w' ⟨rfl, ⟨nd2, rfl⟩⟩))
      go_quiet (fail)
      go_wp2_with fail
      go_roundg (m - 1)
      case measure => have := U8.out; omega
      case rel => exact ⟨c, m - 1, nd + nd2 + nq, by first | rfl | (simp; done), ⟨rfl⟩, HNEXT, ZB, HBC, by first | rfl | (simp; done)⟩
   case rest =>
    obtain ⟨k', t1, rfl, HT1, uk, HB1, HHA1, HR1⟩ := hcut
    cases t1 with | mk p1 Vb SI rD uy vs1 cs1 =>
    obtain ⟨a1, a2, a3, a4⟩ := HT1.out;have a1 : p1 = tp := a1;have a2 : cs1 = aJ := a2;have a3 : uy.length = tks.length := a3;have a4 : vs1.length = tvs.length := a4;subst a1;subst a2;have DV := A_ (And.intro a3 a4);obtain ⟨UD, Tx, ZQ, hlc1, hC1⟩ := dz ((fF uk.out).q 3 rfl);have ZQ : rD = .slice UD cs1.length Tx := ZQ;subst ZQ;obtain ⟨Xu, rfl⟩ := fJ ((fF uk.out).q 3 rfl) (show 0 < cs1.length by omega)
    obtain ⟨sp, wh⟩ : ∃ p, s.p = p := ⟨_, rfl⟩
    have Rf := ik ((fF uk.out).fH 3 rfl) (And.intro rE.out wh);have hz2 := (fF uk.out).z2 0 rfl;simp only [NT.p] at hz2;have uX := A_ wh;clear a3 a4 HT1 HS HB hlc1 hC1 wh;have QB := bV (0 <= (i : Int));have QC := bV ((i : Int) < (cs1.length : Int));have Rh : (i < cs1.length) = True := eq_true hil
    obtain ⟨t0, ht0⟩ : ∃ t0, t0 = NT.mk p1 Vb SI (.slice (some Xu) cs1.length Tx) uy vs1 cs1 := ⟨_, rfl⟩
    have HT0 := A_ ht0;rw [<- ht0] at uk
    have MH : af (t0.kids[i]? = some s) := ⟨by rw [ht0]; exact rE.out⟩
    clear ht0
    have hC := fun (w : World) (hs : Sat w base (t0.dH 96 70 ++ L)) (hb : base <= w.heap.size) => ih s k' h Fx.out jw.out.1 (fun _ => by have := jw.out.2; omega) JB.out HHA1.out base (t0.hole 96 70 i L) w (hs.perm (sU L MH.out)) hb
    rw [uX.out] at hC;have HC := A_ hC;clear hC
    go_upto_region 13 with (first | (go_at_call 83; (with_reducible refine (HC.out _ uk.out (cO bQ HB1)).mono ?_); rintro e w8 ⟨rs, hrs, rfl, s', hsp, o7, hs', hb'⟩))
    obtain ⟨rs', K7, hkr, hlr, _⟩ := mZ n s.erase k' h Fx.out jw.out.1 (fun _ => by have := jw.out.2; rw [aU]; omega) JB.out HHA1.out;obtain rfl : rs = rs' := by rw [hrs] at K7; exact Option.some.inj K7
    have jP := A_ (And.intro hrs (And.intro hkr hlr));clear hrs K7 hkr hlr;rw [uX.out] at hsp
    cases s' with | mk sp' TC Ww Wx SG Wy Wz =>
    have SN : sp' = sp := hsp;subst SN
    obtain ⟨s', hs0⟩ : ∃ s', s' = NT.mk sp' TC Ww Wx SG Wy Wz := ⟨_, rfl⟩
    rw [<- hs0] at o7 hs';have NY := A_ hs0;have JI : s'.p = s.p := by rw [hs0, uX.out]; rfl
    have hT1 : Sat w8 base ((t0.eQ i s').dH 96 70 ++ L) := hs'.perm (BH L MH.out JI);have hK1 : (t0.eQ i s').kids[i]? = some s' := by rw [HT0.out]; exact (qG rE.out).1
    have hE1 : (t0.eQ i s').erase = .mk uy vs1 ((NT.ax cs1).set i s'.erase) := by rw [mX, HT0.out]; rfl
    have HB2 := A_ (HB1.out.trans hb');have hG := rO hK1 hT1;rw [HT0.out, hs0] at hG;unfold xL NT.eQ at hG;simp only [NT.keys, NT.vals, NT.kids, NT.p, NT.kv, NT.vv, NT.cv] at hG;have hz2' := hG.z2 0 rfl;have Rc : w8.cell? ⟨sp', 0, none⟩ = some TC := hG.z0 5 rfl;have U6 := ik (hG.fH 3 rfl) (And.intro (qG (s' := NT.mk sp' TC Ww Wx SG Wy Wz) rE.out).1 rfl);simp only [NT.p] at U6;obtain ⟨Ask, csk, XG⟩ := Kd.ak (aa.sr hG 6 rfl);rw [XG] at Rc
    obtain ⟨lk, hlk⟩ : ∃ l, l = SG.length := ⟨_, rfl⟩
    rw [<- hlk] at Rc
    have hlk4 : lk <= 4 := by
     have := (bJ.1 jP.out.2.1.b).1.2.1;rw [<- o7, aU, hs0] at this;rw [hlk];exact this
    have HE := A_ (And.intro o7 (And.intro hT1 (And.intro hK1 (And.intro hE1 hlk))));clear hG XG hT1 hK1 hE1 o7 hs' hb' hlk hs0 JI hsp hz2 Rf
    have HF : af (R = some (tu (.mk uy vs1 ((NT.ax cs1).set i rs)) i)) := ⟨by rw [HR1.out, jP.out.1]; rfl⟩
    have HKF : af (gy (.mk uy vs1 ((NT.ax cs1).set i rs)) i = rs) := ⟨Pure.ky (by show ((NT.ax cs1).set i rs)[i]? = _; rw [List.getElem?_set_self (by rw [aC, List.length_map]; exact hil)])⟩
    have HLR : af (rs.keys.length = lk) := ⟨by rw [HE.out.2.2.2.2, <- HE.out.1, aU, NY.out]; rfl⟩
    by_cases h2 : lk < 2
    ·have ct := lQ ((lk : Int) < (2 : Int))
     have hC := Np.calls (t0.eQ i s') i (by rw [HT0.out]; exact ⟨by have := DV.out; show uy.length <= 1000; omega, by have := DV.out; have := Dy.out; show vs1.length = uy.length; omega, .inr (by have := DV.out; have := xu.out; show (cs1.set i s').length = uy.length + 1; rw [List.length_set]; omega)⟩) (by rw [HT0.out]; have := DV.out; have := xu.out; show (cs1.set i s').length = uy.length + 1; rw [List.length_set]; omega) (by rw [HT0.out]; have := DV.out; show 0 < uy.length; omega) (by rw [HT0.out]; show i < (cs1.set i s').length; rw [List.length_set]; exact hil) (fun c hc => by
      rw [HT0.out] at hc;have hc : c ∈ cs1.set i s' := hc;refine Gh ?_
      rcases List.mem_or_eq_of_mem_set hc with hc | rfl
      ·exact KT.out _ (by rw [aC]; exact List.mem_map_of_mem hc)
      ·rw [HE.out.1]; exact jP.out.2.1.b) base L w8 HE.out.2.1 (cO bQ HB2)
     rw [show (t0.eQ i s').p = p1 by rw [HT0.out]; rfl] at hC;have um := A_ hC;clear hC
     go_wp2_with (first | (go_at_call 113; (with_reducible refine um.out.mono ?_); rintro e w9 ⟨rfl, t2, ht1, ht2, ht3, Fy⟩))
     go_end0
     refine ⟨_, HF.out, rfl, t2, ?_, ?_, ht3, HB2.out.trans Fy⟩
     ·rw [ht1, HT0.out]
      rfl
     ·rw [ht2, HE.out.2.2.2.1, HE.out.1]
      unfold tu;rw [HKF.out, if_pos (by rw [HLR.out]; exact h2)]
    ·have ct := kS ((lk : Int) < (2 : Int))
     go_wp2_with fail
     go_end0
     refine ⟨_, HF.out, rfl, t0.eQ i s', by rw [HT0.out]; rfl, ?_, HE.out.2.1, HB2.out⟩;rw [HE.out.2.2.2.1, HE.out.1];unfold tu;rw [HKF.out, if_neg (by rw [HLR.out]; exact h2)]
theorem Kl.calls (t l r : NT) (P Q : List NT) (i : Nat) (hi : 0 < i) (ht : t.kids = P ++ l :: r :: Q) (hP : P.length = i - 1) (h2 : 2 < l.keys.length) (hk2 : r.keys.length < 2) (hl : FX l.keys l.vals l.kids.length) (hr : FX r.keys r.vals r.kids.length) (hj : i - 1 < t.keys.length /\ t.keys.length <= 1000 /\ t.vals.length = t.keys.length /\ t.kids.length = t.keys.length + 1)
  (base : Nat) (L : List Ck) (w : World) (hs : Sat w base (t.dH 101 74 ++ L)) (hbs : base <= w.heap.size) :
  Calls Try.prog 133 #[bu t.p, .int .i64 (i : Int)] w (WR w base 101 74 t L (BK t.erase (i - 1))) := by
 cases t with | mk tp yC yD yE tks tvs aJ =>
 cases l with | mk lp JC JD JE dF kG lcs =>
 cases r with | mk rp JF JG rcv mG lK eU =>
 have h0 := open_pair ht hs;unfold kL at h0;simp only [NT.keys, NT.vals, NT.kids, NT.p, NT.kv, NT.vv, NT.cv] at ht hl hr hj h0 h2 hk2 ⊢;clear hs;unfold FX at hl hr;obtain ⟨hl1, hl2, hl3⟩ := hl;obtain ⟨hr1, hr2, hr3⟩ := hr;obtain ⟨hj1, hj2, JH, KU⟩ := hj;have hil : i < aJ.length := by rw [ht, List.length_append, hP]; simp only [List.length_cons]; omega
 have hij : i = (i - 1) + 1 := by omega
 have HP := A_ hP;have HT := A_ ht
 have hkl : aJ[(i - 1)]? = some (NT.mk lp JC JD JE dF kG lcs) /\ (NT.mk lp JC JD JE dF kG lcs).p = lp := ⟨by rw [ht]; exact M9 hP, rfl⟩
 have hkr : aJ[i]? = some (NT.mk rp JF JG rcv mG lK eU) /\ (NT.mk rp JF JG rcv mG lK eU).p = rp := ⟨by rw [ht, hij]; exact Na hP, rfl⟩
 have xu := A_ hkl;have Oz := A_ hkr;clear hkl hkr ht hij
 obtain ⟨R, hR⟩ : ∃ R, R = BK (NT.mk tp yC yD yE tks tvs aJ).erase (i - 1) := ⟨_, rfl⟩
 rw [<- hR];have HRR := A_ hR;clear hR;obtain ⟨jF, fG, rfl⟩ := Kd.ak (h0.sr 1 rfl);obtain ⟨jG, rfl⟩ := dA (h0.sr 1 rfl) (by omega);obtain ⟨jK, fM, rfl⟩ := Kd.ak (h0.sr 2 rfl);obtain ⟨jH, rfl⟩ := dA (h0.sr 2 rfl) (by omega);obtain ⟨qB, fK, rfl, _, _⟩ := dz (h0.q 3 rfl);obtain ⟨iB, rfl⟩ := fJ (h0.q 3 rfl) (by omega);obtain ⟨Fz, uz, rfl⟩ := Kd.ak (h0.sr 5 rfl);obtain ⟨Hg, rfl⟩ := dA (h0.sr 5 rfl) (by omega);obtain ⟨Bc, sH, rfl⟩ := Kd.ak (h0.sr 6 rfl);obtain ⟨Hl, rfl⟩ := dA (h0.sr 6 rfl) (by omega);obtain ⟨vY, nK, rfl, _, _⟩ := dz (h0.q 7 rfl);obtain ⟨G9, FB, rfl⟩ := Kd.ak (h0.sr 10 rfl);obtain ⟨Bd, Ai, rfl⟩ := Kd.ak (h0.sr 11 rfl);obtain ⟨vZ, crc, rfl, _, _⟩ := dz (h0.q 12 rfl)
 obtain ⟨GP, Dm⟩ : ∃ G, G = NT.aZ 101 74 P := ⟨_, rfl⟩
 obtain ⟨GQ, Dn⟩ : ∃ G, G = NT.aZ 101 74 Q ++ L := ⟨_, rfl⟩
 rw [<- Dm, <- Dn] at h0;have HS := A_ h0;have HB := A_ (Below.refl base w);have bQ := A_ hbs;have KW := A_ Dm;have KX := A_ Dn;clear h0 hbs Dm Dn hP;have Rk := A_ (show eU.length <= 1001 by omega);have HV := A_ (show kG.length = dF.length /\ lK.length = mG.length /\ tvs.length = tks.length /\ (lcs.length = 0 \/ lcs.length = dF.length + 1) /\ aJ.length = tks.length + 1 from ⟨hl2, hr2, JH, hl3, KU⟩);have hlv : dF.length <= kG.length /\ kG.length <= 1000 := by omega
 have XU : lK.length <= 1000 := by omega
 have Fv : i - 1 < tvs.length /\ tvs.length <= 1000 := by omega
 have htc : aJ.length <= 1001 := by omega
 have HI0 := A_ hi;clear hl2 hl3 hr2 hr3 JH KU
 obtain ⟨tx, htx⟩ : ∃ x, bq tks (i - 1) = x := ⟨_, rfl⟩
 have oV : af ((i - 1) < tks.length /\ bq tks (i - 1) = tx) := ⟨by omega, htx⟩
 clear htx
 obtain ⟨ty, hty⟩ : ∃ x, bq tvs (i - 1) = x := ⟨_, rfl⟩
 have oh : af ((i - 1) < tvs.length /\ bq tvs (i - 1) = ty) := ⟨by omega, hty⟩
 clear hty
 obtain ⟨lx, hlx⟩ : ∃ x, bq dF (dF.length - 1) = x := ⟨_, rfl⟩
 have KY : af ((dF.length - 1) < dF.length /\ bq dF (dF.length - 1) = lx) := ⟨by omega, hlx⟩
 clear hlx
 obtain ⟨ly, QV⟩ : ∃ x, bq kG (dF.length - 1) = x := ⟨_, rfl⟩
 have KZ : af ((dF.length - 1) < kG.length /\ bq kG (dF.length - 1) = ly) := ⟨by have := HV.out; omega, QV⟩
 clear QV;obtain ⟨l1, mF⟩ := lL (aI mG 0 tx);obtain ⟨l2, qa⟩ := lL (aI lK 0 ty);obtain ⟨l3, yF⟩ := lL (tks.set (i - 1) lx);obtain ⟨l4, Ah⟩ := lL (tvs.set (i - 1) ly);obtain ⟨l5, zM⟩ := lL (dF.eraseIdx (dF.length - 1));obtain ⟨l6, zN⟩ := lL (kG.eraseIdx (dF.length - 1));go_enter Try.func133, Try.ntmps133;have b7 := bV (0 <= (i : Int));have b8 := bV ((i : Int) < (aJ.length : Int));have b9 := bV (i < aJ.length)
 have eT := (aa.z2 HS.out 0 rfl)
 have qU := (ik (aa.fH HS.out 3 rfl) Oz.out)
 go_upto_region 1 with fail
 clear eT qU;have c10 := kS ((2 : Int) <= (mG.length : Int))
 have eT := (aa.z0 HS.out 9 rfl)
 go_upto_region 2 with fail
 clear eT;have c11 := lQ ((0 : Int) < (i : Int))
 go_upto_region 3 with fail
 have b12 := bV (1 <= (i : Int));have b13 := bV (((i : Int) - 1) < (aJ.length : Int));have b14 := bV ((i - 1) < aJ.length)
 have eT := (aa.z2 HS.out 0 rfl)
 have qU := (ik (aa.fH HS.out 3 rfl) xu.out)
 go_upto_region 4 with fail
 clear eT qU;have c15 := lQ ((2 : Int) < (dF.length : Int))
 have eT := (aa.z0 HS.out 4 rfl)
 go_upto_region 5 with fail
 clear eT;have b16 := bV (((i : Int) - 1) < (tks.length : Int));have b17 := bV ((i - 1) < tks.length);have b18 := bV (((i : Int) - 1) < (tvs.length : Int));have b19 := bV ((i - 1) < tvs.length);have q24 : wrap64 ((i : Int) - 1) = ((i : Int) - 1) := jW (by omega);refine bS (n := 18) (S := fun w' => w'.cell? ⟨tp, 0, none⟩ = some (.slice (some ⟨jG, 0, none⟩) tks.length fG) /\ w'.cell? ⟨jG, (i - 1), none⟩ = some (.string tx) /\ w'.cell? ⟨tp, 1, none⟩ = some (.slice (some ⟨jH, 0, none⟩) tvs.length fM) /\ w'.cell? ⟨jH, (i - 1), none⟩ = some (.string ty)) (ds := [17]) (bt 18 0) (by kernel_rfl) rfl rfl ⟨(aa.z0 (aa.drew HS.out) 0 rfl), (iH (aa.sr (aa.drew HS.out) 1 rfl) oV.out), (aa.z1 (aa.drew HS.out) 0 rfl), (iH (aa.sr (aa.drew HS.out) 2 rfl) oh.out)⟩ (fun hHeld => ?_);refine aH 0 41 1 ?_;refine aH 1 42 3 ?_;refine aH 2 43 7 ?_;refine aH 3 44 15 ?_;refine aH 5 46 47 ?_;refine aH 6 47 111 ?_;refine aH 9 50 623 ?_;refine aH 10 51 1647 ?_;refine aH 11 52 3695 ?_;refine aH 13 54 11887 ?_;refine aH 14 55 28271 ?_;refine fq 4 45 28287 hHeld ?_;refine aH 7 48 28415 ?_;refine fq 8 49 28671 hHeld ?_;refine fq 12 53 32767 hHeld ?_;refine aH 15 56 65535 ?_;refine fq 16 57 131071 hHeld ?_;refine qz 17 (some 58) 262143 (fun K hK => ?_);have zO := yL (aa.gJ (aa.drew HS.out) [9, 10, 11, 0, 1, 2, 3, 4, 5, 6, 7, 8, 12, 13, 14, 15] (by decide));refine lI Try.func126 #[bu rp, .int .i64 0, .string tx, .string ty] ?_
 with_reducible refine (Mh (i := 0) zO mF.out qa.out (by omega) (cO bQ HB)).mono ?_
 rintro e w2 ⟨rfl, zI, c21, Dq, c23, hs_, nD⟩;refine ⟨_, rfl, ?_⟩;have ah := jN hs_
 replace HB : af (Below base w w2) := ⟨((aG HB.out)).trans nD⟩
 replace HS := ah; clear ah hs_ nD zO;refine hK.out _ _ ?_;clear hK K;refine YK 58 ?_;refine dL (by kernel_rfl) ?_;clear q24
 go_upto_region 6 with fail
 obtain ⟨q29, ZF⟩ : (wrap64 ((i : Int) - 1) = ((i : Int) - 1)) /\ (wrap64 ((dF.length : Int) - 1) = ((dF.length : Int) - 1)) := ⟨jW (by omega), jW (by omega)⟩
 refine bS (n := 27) (S := fun w' => w'.cell? ⟨tp, 0, none⟩ = some (.slice (some ⟨jG, 0, none⟩) tks.length fG) /\ w'.cell? ⟨tp, 1, none⟩ = some (.slice (some ⟨jH, 0, none⟩) tvs.length fM)) (ds := [24, 26]) (bt 27 0) (by kernel_rfl) rfl rfl ⟨(aa.z0 (aa.drew HS.out) 3 rfl), (aa.z1 (aa.drew HS.out) 3 rfl)⟩ (fun hHeld => ?_);refine aH 0 60 1 ?_;refine aH 1 61 3 ?_;refine aH 2 62 7 ?_;refine aH 4 64 23 ?_;refine aH 5 65 55 ?_;refine aH 6 66 119 ?_;refine aH 7 67 247 ?_;refine aH 8 68 503 ?_;refine aH 10 70 1527 ?_;refine aH 11 71 3575 ?_;refine aH 12 72 7671 ?_;refine aH 13 73 15863 ?_;refine aH 14 74 32247 ?_;refine aH 15 75 65015 ?_;refine fq 3 63 65023 hHeld ?_;refine fq 9 69 65535 hHeld ?_;refine gG 16 (some 76) 131071 (fun K hK => ?_)
 have X6 := (aa.z0 (aa.drew HS.out) 7 rfl)
 refine Km (w1 := ?_) (v := ?_) (by rfl) rfl ?_ ?_;rotate_left 2
 ·go_simp
  constructor
  ·rfl
  ·rfl
 clear X6;refine dh 76 hK ⟨(aa.z0 (aa.drew HS.out) 3 rfl), (aa.z1 (aa.drew HS.out) 3 rfl)⟩ (fun hHeld => ?_);refine aH 17 77 262143 ?_;refine aH 18 78 524287 ?_;refine gG 19 (some 79) 1048575 (fun K hK => ?_);have zO := yL (aa.gJ (aa.drew HS.out) [7, 8, 9, 0, 1, 2, 3, 4, 5, 6, 10, 11, 12, 13, 14, 15] (by decide));refine lI Try.func131 #[bu lp, .int .i64 (wrap64 ((dF.length : Int) - 1))] ?_;rw [show wrap64 ((dF.length : Int) - 1) = ((dF.length : Int) - 1) by assumption]
 with_reducible refine (yh (i := (dF.length - 1)) zO KY.out KZ.out zM.out zN.out (by omega) (cO bQ HB)).mono ?_
 rintro e w3 ⟨rfl, Hf, JO, K5, c28, hs_, nD⟩;refine ⟨_, rfl, ?_⟩;have ah := jN hs_
 replace HB : af (Below base w w3) := ⟨((aG HB.out)).trans nD⟩
 replace HS := ah; clear ah hs_ nD zO;have zs0 := iH (aa.sr HS.out 7 rfl) oV.out;have jE := fZ (aa.sr HS.out 7 rfl) (Nat.lt_of_le_of_lt (Nat.zero_le _) oV.out.1) (i - 1);have Ox := iH (aa.sr HS.out 8 rfl) oh.out;have Oy := fZ (aa.sr HS.out 8 rfl) (Nat.lt_of_le_of_lt (Nat.zero_le _) oh.out.1) (i - 1);refine dh 79 hK ⟨(aa.z0 HS.out 6 rfl), (aa.z1 HS.out 6 rfl)⟩ (fun hHeld => ?_);refine aH 20 59 2097151 ?_;refine aH 21 80 4194303 ?_;refine aH 22 81 8388607 ?_;refine aH 23 82 16777215 ?_;refine qz 24 none 33554431 (fun K hK => ?_);refine fA (w1 := ?_) (by rfl) rfl ?_ ?_;rotate_left
 ·go_simp
  rfl
 refine hK.out _ _ ?_;clear hK K;refine aH 25 83 67108863 ?_;refine qz 26 none 134217727 (fun K hK => ?_);have Oa := iH (aa.sr (aa.nM HS.out 7 rfl (i - 1) lx yF.out) 8 rfl) oh.out;refine fA (w1 := ?_) (by rfl) rfl ?_ ?_;rotate_left
 ·go_simp
  rfl
 clear Oa;refine hK.out _ _ ?_;clear hK K;refine dL (by kernel_rfl) ?_;clear q29 ZF;have ah := gq (World.setCell (World.setCell w3 ⟨jG, (i - 1), none⟩ (.string lx)) ⟨jH, (i - 1), none⟩ (.string ly)) (aa.nM (aa.nM HS.out 7 rfl (i - 1) lx yF.out) 8 rfl (i - 1) ly Ah.out)
 replace HB : af (Below base w (World.setCell (World.setCell w3 ⟨jG, (i - 1), none⟩ (.string lx)) ⟨jH, (i - 1), none⟩ (.string ly))) := ⟨((HB.out).setCell (p := ⟨jG, (i - 1), none⟩) (rX HS.out 7 rfl oV.out) _).setCell (p := ⟨jH, (i - 1), none⟩) (rX HS.out 8 rfl oh.out) _⟩
 generalize World.setCell (World.setCell w3 ⟨jG, (i - 1), none⟩ (.string lx)) ⟨jH, (i - 1), none⟩ (.string ly) = w4 at ah HB ⊢;replace HS := ah; clear ah zs0 jE Ox Oy
 go_upto_region 7 with fail
 by_cases nN : lcs.length = 0
 ·skip
  have hl0 : lcs = [] := List.length_eq_zero_iff.1 nN;have SL := A_ hl0;have uo := A_ ((aa.gJ HS.out [0, 1, 2, 10, 11] (by decide)).Ol);have hbl := A_ (show decide (((NT.mk lp (.slice Hf l5.length JO) (.slice K5 l6.length c28) (.slice vY lcs.length nK) l5 l6 lcs).erase.kids.length : Int) = 0) = true from decide_eq_true (by show ((NT.ax lcs).length : Int) = 0; rw [aC, List.length_map]; omega))
  go_wp2_with (first | (go_at_call 99; (with_reducible refine (cz.cK true hbl.out _ ?az).mono ?_); (case az => repeat (first | exact uo.out | (with_reducible refine Rd.drewN ?_ _) | (with_reducible refine Rd.drew ?_))); rintro e w' ⟨rfl, ⟨nd, rfl⟩⟩))
  generalize hW : World.drewN _ _ = w5
  have ah : af (aa w5 base [jM 101 lp Hf l5.length JO K5 l6.length c28 vY lcs.length nK, gK Hf JO l5, gK K5 c28 l6, jM 101 rp zI l1.length c21 Dq l2.length c23 vZ eU.length crc, gK zI c21 l1, gK Dq c23 l2, jM 101 tp (iX jG) tks.length fG (iX jH) tvs.length fM (some iB) aJ.length fK, uw (iX jG) tks.length fG l3, uw (iX jH) tvs.length fM l4, lX 74 (some iB) fK aJ, lX 74 vY nK lcs, (NT.aZ 101 74 lcs), lX 74 vZ crc eU, (NT.aZ 101 74 eU), GP, GQ]) := ⟨by rw [<- hW]; exact aa.drewN HS.out _⟩
  replace HB : af (Below base w w5) := ⟨by rw [<- hW]; exact aj HB.out _⟩
  replace HS := ah; clear ah uo hbl hW;refine bodyPost_ret (results_none rfl _ _ _) rfl ?_;have hS := yL (aa.gJ HS.out [6, 7, 8, 9, 0, 1, 2, 10, 11, 3, 4, 5, 12, 13, 14, 15] (by decide));refine ⟨rfl, NT.mk tp (.slice (some ⟨jG, 0, none⟩) tks.length fG) (.slice (some ⟨jH, 0, none⟩) tvs.length fM) (.slice (some iB) aJ.length fK) l3 l4 (P ++ NT.mk lp (.slice Hf l5.length JO) (.slice K5 l6.length c28) (.slice vY lcs.length nK) l5 l6 lcs :: NT.mk rp (.slice zI l1.length c21) (.slice Dq l2.length c23) (.slice vZ eU.length crc) l1 l2 eU :: Q), rfl, ?_, shut_pair rfl ?_, HB.out⟩
  ·have e0 := HRR.out
   rw [HT.out] at e0;rw [e0];show PT.mk l3 l4 (NT.ax (P ++ _ :: _ :: Q)) = BK (PT.mk tks tvs (NT.ax (P ++ _ :: _ :: Q))) (i - 1);simp only [aC, List.map_append, List.map_cons];rw [xV (by rw [List.length_map]; exact HP.out)];have Df := mF.out;subst Df;have Dh := qa.out;subst Dh;have Di := yF.out;subst Di;have Dj := Ah.out;subst Dj;have Dk := zM.out;subst Dk;have Dl := zN.out;subst Dl;have K6 := oV.out.2;subst K6;have ety := oh.out.2;subst ety;have QX := KY.out.2;subst QX;have QY := KZ.out.2;subst QY;have q1 : dF.eraseIdx (dF.length - 1) = dF.take (dF.length - 1) := yg (by omega);have q2 : kG.eraseIdx (dF.length - 1) = kG.take (dF.length - 1) := yg (by have := HV.out; omega);rw [q1, q2];have ec := SL.out;subst ec;simp [uf, ug, NT.erase, NT.ax, PT.keys, PT.vals, PT.kids]
  ·unfold kL
   simp only [NT.keys, NT.vals, NT.kids, NT.p, NT.kv, NT.vv, NT.cv]
   have hq : ∀ a b : NT, a.p = lp -> b.p = rp -> ptrs (P ++ a :: b :: Q) = ptrs aJ := fun a b ha hb => by rw [HT.out]; simp only [ptrs, List.map_append, List.map_cons, ha, hb]; rfl
   rw [hq _ _ rfl rfl, <- KW.out, <- KX.out];exact hS
 ·skip
  have hlc : 1 <= lcs.length /\ lcs.length <= 1001 := by have := HV.out; omega
  have hrc : eU.length <= 1001 := by have := Rk.out; omega
  obtain ⟨s, hs0⟩ : ∃ s, lcs[lcs.length - 1]? = some s := ⟨lcs[lcs.length - 1], List.getElem?_eq_getElem (by omega)⟩
  obtain ⟨sp, hsp⟩ : ∃ p, s.p = p := ⟨_, rfl⟩
  have jw : af (lcs[lcs.length - 1]? = some s /\ s.p = sp) := ⟨hs0, hsp⟩
  have ZR := A_ hsp;clear hs0 hsp;obtain ⟨zm, rfl⟩ := fJ (aa.q HS.out 10 rfl) (by omega);obtain ⟨SQ, SS⟩ := lL (aI eU 0 s);obtain ⟨D5, De⟩ := lL (lcs.take (lcs.length - 1));have uo := A_ ((aa.gJ HS.out [0, 1, 2, 10, 11] (by decide)).Ol);have hbl := A_ (show decide (((NT.mk lp (.slice Hf l5.length JO) (.slice K5 l6.length c28) (.slice (some zm) lcs.length nK) l5 l6 lcs).erase.kids.length : Int) = 0) = false from decide_eq_false (by show ((NT.ax lcs).length : Int) ≠ 0; rw [aC, List.length_map]; omega))
  go_upto_region 8 with (first | (go_at_call 99; (with_reducible refine (cz.cK false hbl.out _ ?az).mono ?_); (case az => repeat (first | exact uo.out | (with_reducible refine Rd.drewN ?_ _) | (with_reducible refine Rd.drew ?_))); rintro e w' ⟨rfl, ⟨nd, rfl⟩⟩))
  generalize hW : World.drewN _ _ = w5
  have ah : af (aa w5 base [jM 101 lp Hf l5.length JO K5 l6.length c28 (some zm) lcs.length nK, gK Hf JO l5, gK K5 c28 l6, jM 101 rp zI l1.length c21 Dq l2.length c23 vZ eU.length crc, gK zI c21 l1, gK Dq c23 l2, jM 101 tp (iX jG) tks.length fG (iX jH) tvs.length fM (some iB) aJ.length fK, uw (iX jG) tks.length fG l3, uw (iX jH) tvs.length fM l4, lX 74 (some iB) fK aJ, lX 74 (some zm) nK lcs, (NT.aZ 101 74 lcs), lX 74 vZ crc eU, (NT.aZ 101 74 eU), GP, GQ]) := ⟨by rw [<- hW]; exact aa.drewN HS.out _⟩
  replace HB : af (Below base w w5) := ⟨by rw [<- hW]; exact aj HB.out _⟩
  replace HS := ah; clear ah uo hbl hW
  have eT := (aa.z2 HS.out 0 rfl)
  go_upto_region 9 with fail
  clear eT;have XV := bV (1 <= (lcs.length : Int));have b34 := bV (((lcs.length : Int) - 1) < (lcs.length : Int));have XW := bV ((lcs.length - 1) < lcs.length);refine bS (n := 17) (S := fun w' => w'.cell? ⟨rp, 2, none⟩ = some (.slice vZ eU.length crc) /\ w'.cell? ⟨lp, 2, none⟩ = some (.slice (some zm) lcs.length nK) /\ w'.cell? (zm.add (lcs.length - 1)) = some (bu sp)) (ds := [16]) (bt 17 0) (by kernel_rfl) rfl rfl ⟨(aa.z2 (aa.drew HS.out) 3 rfl), (aa.z2 (aa.drew HS.out) 0 rfl), (ik (aa.fH (aa.drew HS.out) 10 rfl) jw.out)⟩ (fun hHeld => ?_);refine aH 0 93 1 ?_;refine aH 1 94 3 ?_;refine aH 2 95 7 ?_;refine aH 3 96 15 ?_;refine aH 5 98 47 ?_;refine aH 6 99 111 ?_;refine aH 7 100 239 ?_;refine aH 9 102 751 ?_;refine fq 4 97 767 hHeld ?_;refine fq 8 101 1023 hHeld ?_;refine aH 10 103 2047 ?_;refine fq 11 104 4095 hHeld ?_;refine gG 12 (some 105) 8191 (fun K hK => ?_);refine xy dZ 74 105 [sp] [bu sp] (Kd.aY (enc := bu) [sp]) (aG HB.out) (cO bQ HB) ?_;intro v36 w6 ho hb hg hn;obtain ⟨Rj, Oq, rfl⟩ : ∃ A c, v36 = .slice A 1 c := Kd.ak ho;have ah := jN (aa.nH (aa.drew HS.out) (qH ho) hg hn)
  replace HB : af (Below base w w6) := ⟨hb⟩
  replace HS := ah; clear ah ho hb hg hn;refine dh 105 hK ⟨(aa.z2 HS.out 3 rfl), (aa.z2 HS.out 0 rfl), (ik (aa.fH HS.out 10 rfl) jw.out)⟩ (fun hHeld => ?_);refine gG 13 (some 106) 16383 (fun K hK => ?_);refine lI Try.func128 #[.slice vZ eU.length crc, .int .i64 0, .slice Rj 1 Oq] ?_
  with_reducible refine (Gf (ia := 12) (ib := 16) (i := 0) (r := s) HS.out (by omega) rfl rfl ZR.out (by decide) (by omega) (cO bQ HB) (by omega) HB.out).mono ?_
  rintro e w7 ⟨VK, c40, rfl, hs_, nD⟩;refine ⟨_, rfl, ?_⟩;rw [<- SS.out] at hs_;rw [<- SS.out];have ah := jN hs_
  replace HB : af (Below base w w7) := ⟨nD⟩
  replace HS := ah; clear ah hs_ nD;have zs0 := aa.z2 HS.out 3 rfl;have jE := aa.f HS.out 3 rfl 2;refine dh 106 hK ⟨(aa.z2 HS.out 3 rfl), (aa.z2 HS.out 0 rfl), (ik (aa.fH HS.out 10 rfl) jw.out)⟩ (fun hHeld => ?_);refine aH 14 107 32767 ?_;refine aH 15 108 65535 ?_;refine qz 16 none 131071 (fun K hK => ?_);refine fA (w1 := ?_) (by rfl) rfl ?_ ?_;rotate_left
  ·go_simp
   rfl
  refine hK.out _ _ ?_;clear hK K;refine dL (by kernel_rfl) ?_;have ah := gq (World.setCell w7 ⟨rp, 2, none⟩ (.slice VK SQ.length c40)) (aa.rW HS.out 3 rfl (.slice VK SQ.length c40))
  replace HB : af (Below base w (World.setCell w7 ⟨rp, 2, none⟩ (.slice VK SQ.length c40))) := ⟨(HB.out).setCell (p := ⟨rp, 2, none⟩) (aa.ge HS.out 3 rfl) _⟩
  generalize World.setCell w7 ⟨rp, 2, none⟩ (.slice VK SQ.length c40) = w8 at ah HB ⊢;replace HS := ah; clear ah zs0 jE
  go_upto_region 10 with fail
  obtain ⟨QR, lH, _, nZ, _⟩ := info_parts kZ;have hcut41 := nS (P := Try.prog) 99 74 .i64 sO lH (some zm) lcs.length nK ((lcs.length : Int) - 1) (by omega) (by omega) (aa.fH HS.out 10 rfl).2.1;simp only [show (((lcs.length : Int) - 1)).toNat = (lcs.length - 1) from by omega] at hcut41;clear lH nZ
  have eT := (aa.z2 HS.out 0 rfl)
  have zs0 := aa.z2 HS.out 0 rfl;have jE := aa.f HS.out 0 rfl 2
  go_wp2_with fail
  have ah := gq (World.setCell w8 ⟨lp, 2, none⟩ (.slice (some zm) (lcs.length - 1) nK)) (FW (aa.rW HS.out 0 rfl (.slice (some zm) (lcs.length - 1) nK)) 10 rfl De.out (by omega))
  replace HB : af (Below base w (World.setCell w8 ⟨lp, 2, none⟩ (.slice (some zm) (lcs.length - 1) nK))) := ⟨(HB.out).setCell (p := ⟨lp, 2, none⟩) (aa.ge HS.out 0 rfl) _⟩
  generalize World.setCell w8 ⟨lp, 2, none⟩ (.slice (some zm) (lcs.length - 1) nK) = w9 at ah HB ⊢;replace HS := ah; clear ah eT zs0 jE;clear hcut41
  have QT : af (NT.aZ 101 74 lcs = NT.aZ 101 74 D5 ++ s.dH 101 74) := ⟨by rw [De.out, lW 101 74 jw.out.1, List.drop_eq_nil_of_le (by omega), NT.aZ, List.append_nil]⟩
  have ah : af (aa w9 base [jM 101 lp Hf l5.length JO K5 l6.length c28 (some zm) (lcs.length - 1) nK, gK Hf JO l5, gK K5 c28 l6, jM 101 rp zI l1.length c21 Dq l2.length c23 VK SQ.length c40, gK zI c21 l1, gK Dq c23 l2, jM 101 tp (iX jG) tks.length fG (iX jH) tvs.length fM (some iB) aJ.length fK, uw (iX jG) tks.length fG l3, uw (iX jH) tvs.length fM l4, lX 74 (some iB) fK aJ, WW 74 (some zm) (lcs.length - 1) nK D5, (NT.aZ 101 74 D5), lX 74 VK c40 SQ, (NT.aZ 101 74 eU), GP, GQ, [.own 74 (.slice Rj 1 Oq) (encs bu [sp])], (s.dH 101 74)]) := ⟨aa.cut HS.out 11 (congrArg some QT.out)⟩
  replace HB : af (Below base w w9) := ⟨HB.out⟩
  replace HS := ah; clear ah;refine bodyPost_ret (results_none rfl _ _ _) rfl ?_;have hS := yL (aa.gJ HS.out [6, 7, 8, 9, 0, 1, 2, 10, 11, 3, 4, 5, 12, 17, 13, 14, 15] (by decide));refine ⟨rfl, NT.mk tp (.slice (some ⟨jG, 0, none⟩) tks.length fG) (.slice (some ⟨jH, 0, none⟩) tvs.length fM) (.slice (some iB) aJ.length fK) l3 l4 (P ++ NT.mk lp (.slice Hf l5.length JO) (.slice K5 l6.length c28) (.slice (some zm) (lcs.length - 1) nK) l5 l6 D5 :: NT.mk rp (.slice zI l1.length c21) (.slice Dq l2.length c23) (.slice VK SQ.length c40) l1 l2 SQ :: Q), rfl, ?_, shut_pair rfl ?_, HB.out⟩
  ·have e0 := HRR.out
   rw [HT.out] at e0;rw [e0];show PT.mk l3 l4 (NT.ax (P ++ _ :: _ :: Q)) = BK (PT.mk tks tvs (NT.ax (P ++ _ :: _ :: Q))) (i - 1);simp only [aC, List.map_append, List.map_cons];rw [xV (by rw [List.length_map]; exact HP.out)];have Df := mF.out;subst Df;have Dh := qa.out;subst Dh;have Di := yF.out;subst Di;have Dj := Ah.out;subst Dj;have Dk := zM.out;subst Dk;have Dl := zN.out;subst Dl;have Vr := De.out;subst Vr;have el31 := SS.out;subst el31;have K6 := oV.out.2;subst K6;have ety := oh.out.2;subst ety;have QX := KY.out.2;subst QX;have QY := KZ.out.2;subst QY;have q1 : dF.eraseIdx (dF.length - 1) = dF.take (dF.length - 1) := yg (by omega);have q2 : kG.eraseIdx (dF.length - 1) = kG.take (dF.length - 1) := yg (by have := HV.out; omega);rw [q1, q2]
   have hn : ¬ lcs = [] := fun h => nN (by rw [h]; rfl)
   have hll : lcs.length - 1 = dF.length := by have := HV.out; omega
   have hks := jw.out.1;rw [hll] at hks ⊢;simp [uf, ug, NT.erase, aC, PT.keys, PT.vals, PT.kids, gy, hn, jI, List.map_take];rw [hks];rfl
  ·unfold kL
   simp only [NT.keys, NT.vals, NT.kids, NT.p, NT.kv, NT.vv, NT.cv]
   have hq : ∀ a b : NT, a.p = lp -> b.p = rp -> ptrs (P ++ a :: b :: Q) = ptrs aJ := fun a b ha hb => by rw [HT.out]; simp only [ptrs, List.map_append, List.map_cons, ha, hb]; rfl
   have hc : NT.aZ 101 74 SQ = s.dH 101 74 ++ NT.aZ 101 74 eU := by rw [SS.out]; show NT.aZ 101 74 ([] ++ s :: eU.drop 0) = _; rw [List.nil_append, List.drop_zero, NT.aZ]
   rw [hq _ _ rfl rfl, <- KW.out, <- KX.out, hc];unfold aa at hS ⊢;simp only [List.flatten_cons, List.append_assoc] at hS ⊢;exact hS
end Go.Proofs.Ytoddejmlcnbdmaa.Tree

