/- The law FnMixes holds of the given program: at every input it answers true and leaves its arguments as they were; no condition. This text: part 4 of what its proof reaches. -/
import Derived.Test.YthkbaaclbjnkiaaCFMixesA
import Derived.Test.YthkbaaclbjnkiaaCFMixesB
import Derived.Test.YthkbaaclbjnkiaaCFMixesC
namespace Go.Proofs.Ythkbaaclbjnkiaa.Fn
open Go.RowKit Go.Proofs.YthkbaaclbjnkiaaW.PrintWords Go.Proofs.YthkbaaclbjnkiaaW.PrintLast Go.Proofs.YthkbaaclbjnkiaaW.PrintMore
attribute [local go_sem] max2_int min2_int max_two min_two max_three min_three max_four min_four   -- for this text's walks alone
set_option linter.unusedVariables false
set_option linter.unusedSimpArgs false

attribute [local go_sem high] eqA23
open Go.Proofs.Ythkbaaclbjnkiaa.Gen   -- Go.Proofs.Ythkbaaclbjnkiaa.Gen.pk_
/-! ### laws_FnMixes: function 8 -/
mutual
def laws_FnMixes.j0 : Nat → List Int → ByteArray → Bool → Bool → Int → Int → Int → Int → Int → Int → Option (Bool)
 | 0, _, _, _, _, _, _, _, _, _, _ => none
 | k + 1, x1, x6, x8, x73, x499000, x499001, x499002, x504000, x504001, x504002 => if x73 = true then (some false) else (if x8 = true then ((laws_numberOf.f k x1).bind fun t511 => (if (wrap64 ((x6.size : Int) + 1)) = 0 then (none) else (laws_FnMixes.j1 k x1 x6 (Int.tmod t511 (wrap64 ((x6.size : Int) + 1))) x499000 x499001 x499002 x504000 x504001 x504002))) else (laws_FnMixes.j3 k x1))
def laws_FnMixes.j3 : Nat → List Int → Option (Bool)
 | 0, _ => none
 | k + 1, x1 => (spec_DrawJoinMixes.f k x1).bind fun bt533 => ((impl_JoinMixes.f bt533.1 bt533.2.1 bt533.2.2.1 bt533.2.2.2.1 bt533.2.2.2.2.1 bt533.2.2.2.2.2).bind fun bt541 => ((spec_JoinMixes.f bt533.1 bt533.2.1 bt533.2.2.1 bt533.2.2.2.1 bt533.2.2.2.2.1 bt533.2.2.2.2.2).bind fun bt546 => ((spec_DrawNewMix.f x1).bind fun t551 => (laws_FnMixes.j4 k x1 bt541.2.2.2 bt546.2.2.2 t551 bt541.1 bt541.2.1 bt541.2.2.1 bt546.1 bt546.2.1 bt546.2.2.1))))
def laws_FnMixes.j4 : Nat → List Int → Bool → Bool → Int → Int → Int → Int → Int → Int → Int → Option (Bool)
 | 0, _, _, _, _, _, _, _, _, _, _ => none
 | k + 1, x1, x23, x25, x26, x546000, x546001, x546002, x551000, x551001, x551002 => (impl_NewMix.f x26).bind fun bt552 => ((spec_NewMix.f x26).bind fun bt557 => ((spec_DrawEndMix.f k x1).bind fun bt562 => ((impl_EndMix.f bt562.1 bt562.2.1 bt562.2.2).bind fun bt566 => (laws_FnMixes.j5 k x23 x25 bt552.2.2.2 bt557.2.2.2 bt566.1 bt566.2 x546000 x546001 x546002 x551000 x551001 x551002 bt552.1 bt552.2.1 bt552.2.2.1 bt557.1 bt557.2.1 bt557.2.2.1 bt562.1 bt562.2.1 bt562.2.2))))
def laws_FnMixes.j5 : Nat → Bool → Bool → Bool → Bool → ByteArray → Bool → Int → Int → Int → Int → Int → Int → Int → Int → Int → Int → Int → Int → Int → Int → Int → Option (Bool)
 | 0, _, _, _, _, _, _, _, _, _, _, _, _, _, _, _, _, _, _, _, _, _ => none
 | k + 1, x23, x25, x28, x30, x32, x33, x546000, x546001, x546002, x551000, x551001, x551002, x557000, x557001, x557002, x562000, x562001, x562002, x566000, x566001, x566002 => (spec_EndMix.f x566000 x566001 x566002).bind fun bt568 => (laws_FnMixes.j6 k x23 x25 x28 x30 x32 x33 bt568.1 bt568.2 x546000 x546001 x546002 x551000 x551001 x551002 x557000 x557001 x557002 x562000 x562001 x562002)
def laws_FnMixes.j6 : Nat → Bool → Bool → Bool → Bool → ByteArray → Bool → ByteArray → Bool → Int → Int → Int → Int → Int → Int → Int → Int → Int → Int → Int → Int → Option (Bool)
 | 0, _, _, _, _, _, _, _, _, _, _, _, _, _, _, _, _, _, _, _, _ => none
 | k + 1, x23, x25, x28, x30, x32, x33, x34, x35, x546000, x546001, x546002, x551000, x551001, x551002, x557000, x557001, x557002, x562000, x562001, x562002 => if (x23 == x25) = true then (if (x546000 == x551000 && (x546001 == x551001 && (x546002 == x551002))) = true then (if (x28 == x30) = true then (if (x557000 == x562000 && (x557001 == x562001 && (x557002 == x562002))) = true then (if (x33 == x35) = true then (if x32.toList = x34.toList then (if x33 = true then (laws_FnMixes.j7 k ((x32.size : Int) == 4)) else (laws_FnMixes.j7 k true)) else (laws_FnMixes.j7 k false)) else (laws_FnMixes.j7 k false)) else (laws_FnMixes.j7 k false)) else (laws_FnMixes.j7 k false)) else (laws_FnMixes.j7 k false)) else (laws_FnMixes.j7 k false)
def laws_FnMixes.j7 : Nat → Bool → Option (Bool)
 | 0, _ => none
 | k + 1, x4 => some x4
def laws_FnMixes.j1 : Nat → List Int → ByteArray → Int → Int → Int → Int → Int → Int → Int → Option (Bool)
 | 0, _, _, _, _, _, _, _, _, _ => none
 | k + 1, x1, x6, x11, x499000, x499001, x499002, x504000, x504001, x504002 => if 0 ≤ x11 then (if x11 ≤ (x6.size : Int) then ((impl_FeedMix.f k x499000 x499001 x499002 (x6.extract 0 (x11 : Int).toNat)).bind fun bt512 => ((impl_FeedMix.f k bt512.1 bt512.2.1 bt512.2.2.1 (x6.extract (x11 : Int).toNat x6.size)).bind fun bt517 => ((impl_FeedMix.f k 1 0 0 (x6.extract (x11 : Int).toNat x6.size)).bind fun bt522 => ((impl_JoinMixes.f bt512.1 bt512.2.1 bt512.2.2.1 bt522.1 bt522.2.1 bt522.2.2.1).bind fun bt527 => (if bt512.2.2.2 = true then (if bt517.2.2.2 = true then (if (!(bt517.1 == x504000) || (!(bt517.2.1 == x504001) || (!(bt517.2.2.1 == x504002)))) = true then (laws_FnMixes.j2 k x1 true) else (if bt522.2.2.2 = true then (if bt527.2.2.2 = true then (if (!(bt527.1 == x504000) || (!(bt527.2.1 == x504001) || (!(bt527.2.2.1 == x504002)))) = true then (laws_FnMixes.j2 k x1 true) else ((impl_GoodMix.f x504000 x504001 x504002).bind fun t532 => (laws_FnMixes.j2 k x1 (!t532)))) else (laws_FnMixes.j2 k x1 true)) else (laws_FnMixes.j2 k x1 true))) else (laws_FnMixes.j2 k x1 true)) else (laws_FnMixes.j2 k x1 true)))))) else (none)) else (none)
def laws_FnMixes.j2 : Nat → List Int → Bool → Option (Bool)
 | 0, _, _ => none
 | k + 1, x1, x139 => if x139 = true then (some false) else (laws_FnMixes.j3 k x1)
end
def laws_FnMixes.f (k : Nat) (l0 : List Int) (l1 : List Int) : Option (Bool) := if (wrap64 ((l0.length : Int) + (l1.length : Int))) > 1048576 then (some true) else ((spec_DrawFeedMix.f k l0).bind fun bt494 => ((impl_FeedMix.f k bt494.1 bt494.2.1 bt494.2.2.1 bt494.2.2.2).bind fun bt499 => ((spec_FeedMix.f k bt494.1 bt494.2.1 bt494.2.2.1 bt494.2.2.2).bind fun bt504 => (if (bt499.2.2.2 != bt504.2.2.2) = true then (laws_FnMixes.j0 k l1 bt494.2.2.2 bt499.2.2.2 true bt494.1 bt494.2.1 bt494.2.2.1 bt499.1 bt499.2.1 bt499.2.2.1) else (if (!(bt499.1 == bt504.1) || (!(bt499.2.1 == bt504.2.1) || (!(bt499.2.2.1 == bt504.2.2.1)))) = true then (laws_FnMixes.j0 k l1 bt494.2.2.2 bt499.2.2.2 true bt494.1 bt494.2.1 bt494.2.2.1 bt499.1 bt499.2.1 bt499.2.2.1) else ((impl_GoodMix.f bt494.1 bt494.2.1 bt494.2.2.1).bind fun t509 => ((spec_GoodMix.f bt494.1 bt494.2.1 bt494.2.2.1).bind fun t510 => (laws_FnMixes.j0 k l1 bt494.2.2.2 bt499.2.2.2 (t509 != t510) bt494.1 bt494.2.1 bt494.2.2.1 bt499.1 bt499.2.1 bt499.2.2.1))))))))
theorem laws_FnMixes.mono_l : ∀ k, (∀ y0 y1 y2 y3 y4 y5 y6 y7 y8 y9, LeO (laws_FnMixes.j0 k y0 y1 y2 y3 y4 y5 y6 y7 y8 y9) (laws_FnMixes.j0 (k + 1) y0 y1 y2 y3 y4 y5 y6 y7 y8 y9)) ∧ (∀ y0, LeO (laws_FnMixes.j3 k y0) (laws_FnMixes.j3 (k + 1) y0)) ∧ (∀ y0 y1 y2 y3 y4 y5 y6 y7 y8 y9, LeO (laws_FnMixes.j4 k y0 y1 y2 y3 y4 y5 y6 y7 y8 y9) (laws_FnMixes.j4 (k + 1) y0 y1 y2 y3 y4 y5 y6 y7 y8 y9)) ∧ (∀ y0 y1 y2 y3 y4 y5 y6 y7 y8 y9 y10 y11 y12 y13 y14 y15 y16 y17 y18 y19 y20, LeO (laws_FnMixes.j5 k y0 y1 y2 y3 y4 y5 y6 y7 y8 y9 y10 y11 y12 y13 y14 y15 y16 y17 y18 y19 y20) (laws_FnMixes.j5 (k + 1) y0 y1 y2 y3 y4 y5 y6 y7 y8 y9 y10 y11 y12 y13 y14 y15 y16 y17 y18 y19 y20)) ∧ (∀ y0 y1 y2 y3 y4 y5 y6 y7 y8 y9 y10 y11 y12 y13 y14 y15 y16 y17 y18 y19, LeO (laws_FnMixes.j6 k y0 y1 y2 y3 y4 y5 y6 y7 y8 y9 y10 y11 y12 y13 y14 y15 y16 y17 y18 y19) (laws_FnMixes.j6 (k + 1) y0 y1 y2 y3 y4 y5 y6 y7 y8 y9 y10 y11 y12 y13 y14 y15 y16 y17 y18 y19)) ∧ (∀ y0, LeO (laws_FnMixes.j7 k y0) (laws_FnMixes.j7 (k + 1) y0)) ∧ (∀ y0 y1 y2 y3 y4 y5 y6 y7 y8, LeO (laws_FnMixes.j1 k y0 y1 y2 y3 y4 y5 y6 y7 y8) (laws_FnMixes.j1 (k + 1) y0 y1 y2 y3 y4 y5 y6 y7 y8)) ∧ (∀ y0 y1, LeO (laws_FnMixes.j2 k y0 y1) (laws_FnMixes.j2 (k + 1) y0 y1))
 | 0 => ⟨fun _ _ _ _ _ _ _ _ _ _ r h => by simp [laws_FnMixes.j0] at h, fun _ r h => by simp [laws_FnMixes.j3] at h, fun _ _ _ _ _ _ _ _ _ _ r h => by simp [laws_FnMixes.j4] at h, fun _ _ _ _ _ _ _ _ _ _ _ _ _ _ _ _ _ _ _ _ _ r h => by simp [laws_FnMixes.j5] at h, fun _ _ _ _ _ _ _ _ _ _ _ _ _ _ _ _ _ _ _ _ r h => by simp [laws_FnMixes.j6] at h, fun _ r h => by simp [laws_FnMixes.j7] at h, fun _ _ _ _ _ _ _ _ _ r h => by simp [laws_FnMixes.j1] at h, fun _ _ r h => by simp [laws_FnMixes.j2] at h⟩
 | k + 1 => by
  obtain ⟨ih0, ih1, ih2, ih3, ih4, ih5, ih6, ih7⟩ := laws_FnMixes.mono_l k
  refine ⟨?_, ?_, ?_, ?_, ?_, ?_, ?_, ?_⟩
  ·intro y0 y1 y2 y3 y4 y5 y6 y7 y8 y9
   unfold laws_FnMixes.j0
   repeat' first
   | (with_reducible exact ih0 _ _ _ _ _ _ _ _ _ _)
   | (with_reducible exact ih1 _)
   | (with_reducible exact ih2 _ _ _ _ _ _ _ _ _ _)
   | (with_reducible exact ih3 _ _ _ _ _ _ _ _ _ _ _ _ _ _ _ _ _ _ _ _ _)
   | (with_reducible exact ih4 _ _ _ _ _ _ _ _ _ _ _ _ _ _ _ _ _ _ _ _)
   | (with_reducible exact ih5 _)
   | (with_reducible exact ih6 _ _ _ _ _ _ _ _ _)
   | (with_reducible exact ih7 _ _)
   | (with_reducible exact impl_FeedMix.mono _ _ _ _ _)
   | (with_reducible exact laws_numberOf.mono _ _)
   | (with_reducible exact spec_DrawEndMix.mono _ _)
   | (with_reducible exact spec_DrawFeedMix.mono _ _)
   | (with_reducible exact spec_DrawJoinMixes.mono _ _)
   | (with_reducible exact spec_FeedMix.mono _ _ _ _ _)
   | (with_reducible exact LeO.refl _)
   | (with_reducible exact LeO.none _)
   | (with_reducible refine LeO.ite ?_ ?_)
   | (with_reducible refine LeO.bind ?_ (fun _ => ?_))
   | exact ih0 _ _ _ _ _ _ _ _ _ _
   | exact ih1 _
   | exact ih2 _ _ _ _ _ _ _ _ _ _
   | exact ih3 _ _ _ _ _ _ _ _ _ _ _ _ _ _ _ _ _ _ _ _ _
   | exact ih4 _ _ _ _ _ _ _ _ _ _ _ _ _ _ _ _ _ _ _ _
   | exact ih5 _
   | exact ih6 _ _ _ _ _ _ _ _ _
   | exact ih7 _ _
   | exact impl_FeedMix.mono _ _ _ _ _
   | exact laws_numberOf.mono _ _
   | exact spec_DrawEndMix.mono _ _
   | exact spec_DrawFeedMix.mono _ _
   | exact spec_DrawJoinMixes.mono _ _
   | exact spec_FeedMix.mono _ _ _ _ _
   | exact LeO.none _
   | refine LeO.ite ?_ ?_
   | refine LeO.bind ?_ (fun _ => ?_)
  ·intro y0
   unfold laws_FnMixes.j3
   repeat' first
   | (with_reducible exact ih0 _ _ _ _ _ _ _ _ _ _)
   | (with_reducible exact ih1 _)
   | (with_reducible exact ih2 _ _ _ _ _ _ _ _ _ _)
   | (with_reducible exact ih3 _ _ _ _ _ _ _ _ _ _ _ _ _ _ _ _ _ _ _ _ _)
   | (with_reducible exact ih4 _ _ _ _ _ _ _ _ _ _ _ _ _ _ _ _ _ _ _ _)
   | (with_reducible exact ih5 _)
   | (with_reducible exact ih6 _ _ _ _ _ _ _ _ _)
   | (with_reducible exact ih7 _ _)
   | (with_reducible exact impl_FeedMix.mono _ _ _ _ _)
   | (with_reducible exact laws_numberOf.mono _ _)
   | (with_reducible exact spec_DrawEndMix.mono _ _)
   | (with_reducible exact spec_DrawFeedMix.mono _ _)
   | (with_reducible exact spec_DrawJoinMixes.mono _ _)
   | (with_reducible exact spec_FeedMix.mono _ _ _ _ _)
   | (with_reducible exact LeO.refl _)
   | (with_reducible exact LeO.none _)
   | (with_reducible refine LeO.ite ?_ ?_)
   | (with_reducible refine LeO.bind ?_ (fun _ => ?_))
   | exact ih0 _ _ _ _ _ _ _ _ _ _
   | exact ih1 _
   | exact ih2 _ _ _ _ _ _ _ _ _ _
   | exact ih3 _ _ _ _ _ _ _ _ _ _ _ _ _ _ _ _ _ _ _ _ _
   | exact ih4 _ _ _ _ _ _ _ _ _ _ _ _ _ _ _ _ _ _ _ _
   | exact ih5 _
   | exact ih6 _ _ _ _ _ _ _ _ _
   | exact ih7 _ _
   | exact impl_FeedMix.mono _ _ _ _ _
   | exact laws_numberOf.mono _ _
   | exact spec_DrawEndMix.mono _ _
   | exact spec_DrawFeedMix.mono _ _
   | exact spec_DrawJoinMixes.mono _ _
   | exact spec_FeedMix.mono _ _ _ _ _
   | exact LeO.none _
   | refine LeO.ite ?_ ?_
   | refine LeO.bind ?_ (fun _ => ?_)
  ·intro y0 y1 y2 y3 y4 y5 y6 y7 y8 y9
   unfold laws_FnMixes.j4
   repeat' first
   | (with_reducible exact ih0 _ _ _ _ _ _ _ _ _ _)
   | (with_reducible exact ih1 _)
   | (with_reducible exact ih2 _ _ _ _ _ _ _ _ _ _)
   | (with_reducible exact ih3 _ _ _ _ _ _ _ _ _ _ _ _ _ _ _ _ _ _ _ _ _)
   | (with_reducible exact ih4 _ _ _ _ _ _ _ _ _ _ _ _ _ _ _ _ _ _ _ _)
   | (with_reducible exact ih5 _)
   | (with_reducible exact ih6 _ _ _ _ _ _ _ _ _)
   | (with_reducible exact ih7 _ _)
   | (with_reducible exact impl_FeedMix.mono _ _ _ _ _)
   | (with_reducible exact laws_numberOf.mono _ _)
   | (with_reducible exact spec_DrawEndMix.mono _ _)
   | (with_reducible exact spec_DrawFeedMix.mono _ _)
   | (with_reducible exact spec_DrawJoinMixes.mono _ _)
   | (with_reducible exact spec_FeedMix.mono _ _ _ _ _)
   | (with_reducible exact LeO.refl _)
   | (with_reducible exact LeO.none _)
   | (with_reducible refine LeO.ite ?_ ?_)
   | (with_reducible refine LeO.bind ?_ (fun _ => ?_))
   | exact ih0 _ _ _ _ _ _ _ _ _ _
   | exact ih1 _
   | exact ih2 _ _ _ _ _ _ _ _ _ _
   | exact ih3 _ _ _ _ _ _ _ _ _ _ _ _ _ _ _ _ _ _ _ _ _
   | exact ih4 _ _ _ _ _ _ _ _ _ _ _ _ _ _ _ _ _ _ _ _
   | exact ih5 _
   | exact ih6 _ _ _ _ _ _ _ _ _
   | exact ih7 _ _
   | exact impl_FeedMix.mono _ _ _ _ _
   | exact laws_numberOf.mono _ _
   | exact spec_DrawEndMix.mono _ _
   | exact spec_DrawFeedMix.mono _ _
   | exact spec_DrawJoinMixes.mono _ _
   | exact spec_FeedMix.mono _ _ _ _ _
   | exact LeO.none _
   | refine LeO.ite ?_ ?_
   | refine LeO.bind ?_ (fun _ => ?_)
  ·intro y0 y1 y2 y3 y4 y5 y6 y7 y8 y9 y10 y11 y12 y13 y14 y15 y16 y17 y18 y19 y20
   unfold laws_FnMixes.j5
   repeat' first
   | (with_reducible exact ih0 _ _ _ _ _ _ _ _ _ _)
   | (with_reducible exact ih1 _)
   | (with_reducible exact ih2 _ _ _ _ _ _ _ _ _ _)
   | (with_reducible exact ih3 _ _ _ _ _ _ _ _ _ _ _ _ _ _ _ _ _ _ _ _ _)
   | (with_reducible exact ih4 _ _ _ _ _ _ _ _ _ _ _ _ _ _ _ _ _ _ _ _)
   | (with_reducible exact ih5 _)
   | (with_reducible exact ih6 _ _ _ _ _ _ _ _ _)
   | (with_reducible exact ih7 _ _)
   | (with_reducible exact impl_FeedMix.mono _ _ _ _ _)
   | (with_reducible exact laws_numberOf.mono _ _)
   | (with_reducible exact spec_DrawEndMix.mono _ _)
   | (with_reducible exact spec_DrawFeedMix.mono _ _)
   | (with_reducible exact spec_DrawJoinMixes.mono _ _)
   | (with_reducible exact spec_FeedMix.mono _ _ _ _ _)
   | (with_reducible exact LeO.refl _)
   | (with_reducible exact LeO.none _)
   | (with_reducible refine LeO.ite ?_ ?_)
   | (with_reducible refine LeO.bind ?_ (fun _ => ?_))
   | exact ih0 _ _ _ _ _ _ _ _ _ _
   | exact ih1 _
   | exact ih2 _ _ _ _ _ _ _ _ _ _
   | exact ih3 _ _ _ _ _ _ _ _ _ _ _ _ _ _ _ _ _ _ _ _ _
   | exact ih4 _ _ _ _ _ _ _ _ _ _ _ _ _ _ _ _ _ _ _ _
   | exact ih5 _
   | exact ih6 _ _ _ _ _ _ _ _ _
   | exact ih7 _ _
   | exact impl_FeedMix.mono _ _ _ _ _
   | exact laws_numberOf.mono _ _
   | exact spec_DrawEndMix.mono _ _
   | exact spec_DrawFeedMix.mono _ _
   | exact spec_DrawJoinMixes.mono _ _
   | exact spec_FeedMix.mono _ _ _ _ _
   | exact LeO.none _
   | refine LeO.ite ?_ ?_
   | refine LeO.bind ?_ (fun _ => ?_)
  ·intro y0 y1 y2 y3 y4 y5 y6 y7 y8 y9 y10 y11 y12 y13 y14 y15 y16 y17 y18 y19
   unfold laws_FnMixes.j6
   repeat' first
   | (with_reducible exact ih0 _ _ _ _ _ _ _ _ _ _)
   | (with_reducible exact ih1 _)
   | (with_reducible exact ih2 _ _ _ _ _ _ _ _ _ _)
   | (with_reducible exact ih3 _ _ _ _ _ _ _ _ _ _ _ _ _ _ _ _ _ _ _ _ _)
   | (with_reducible exact ih4 _ _ _ _ _ _ _ _ _ _ _ _ _ _ _ _ _ _ _ _)
   | (with_reducible exact ih5 _)
   | (with_reducible exact ih6 _ _ _ _ _ _ _ _ _)
   | (with_reducible exact ih7 _ _)
   | (with_reducible exact impl_FeedMix.mono _ _ _ _ _)
   | (with_reducible exact laws_numberOf.mono _ _)
   | (with_reducible exact spec_DrawEndMix.mono _ _)
   | (with_reducible exact spec_DrawFeedMix.mono _ _)
   | (with_reducible exact spec_DrawJoinMixes.mono _ _)
   | (with_reducible exact spec_FeedMix.mono _ _ _ _ _)
   | (with_reducible exact LeO.refl _)
   | (with_reducible exact LeO.none _)
   | (with_reducible refine LeO.ite ?_ ?_)
   | (with_reducible refine LeO.bind ?_ (fun _ => ?_))
   | exact ih0 _ _ _ _ _ _ _ _ _ _
   | exact ih1 _
   | exact ih2 _ _ _ _ _ _ _ _ _ _
   | exact ih3 _ _ _ _ _ _ _ _ _ _ _ _ _ _ _ _ _ _ _ _ _
   | exact ih4 _ _ _ _ _ _ _ _ _ _ _ _ _ _ _ _ _ _ _ _
   | exact ih5 _
   | exact ih6 _ _ _ _ _ _ _ _ _
   | exact ih7 _ _
   | exact impl_FeedMix.mono _ _ _ _ _
   | exact laws_numberOf.mono _ _
   | exact spec_DrawEndMix.mono _ _
   | exact spec_DrawFeedMix.mono _ _
   | exact spec_DrawJoinMixes.mono _ _
   | exact spec_FeedMix.mono _ _ _ _ _
   | exact LeO.none _
   | refine LeO.ite ?_ ?_
   | refine LeO.bind ?_ (fun _ => ?_)
  ·intro y0
   unfold laws_FnMixes.j7
   repeat' first
   | (with_reducible exact ih0 _ _ _ _ _ _ _ _ _ _)
   | (with_reducible exact ih1 _)
   | (with_reducible exact ih2 _ _ _ _ _ _ _ _ _ _)
   | (with_reducible exact ih3 _ _ _ _ _ _ _ _ _ _ _ _ _ _ _ _ _ _ _ _ _)
   | (with_reducible exact ih4 _ _ _ _ _ _ _ _ _ _ _ _ _ _ _ _ _ _ _ _)
   | (with_reducible exact ih5 _)
   | (with_reducible exact ih6 _ _ _ _ _ _ _ _ _)
   | (with_reducible exact ih7 _ _)
   | (with_reducible exact impl_FeedMix.mono _ _ _ _ _)
   | (with_reducible exact laws_numberOf.mono _ _)
   | (with_reducible exact spec_DrawEndMix.mono _ _)
   | (with_reducible exact spec_DrawFeedMix.mono _ _)
   | (with_reducible exact spec_DrawJoinMixes.mono _ _)
   | (with_reducible exact spec_FeedMix.mono _ _ _ _ _)
   | (with_reducible exact LeO.refl _)
   | (with_reducible exact LeO.none _)
   | (with_reducible refine LeO.ite ?_ ?_)
   | (with_reducible refine LeO.bind ?_ (fun _ => ?_))
   | exact ih0 _ _ _ _ _ _ _ _ _ _
   | exact ih1 _
   | exact ih2 _ _ _ _ _ _ _ _ _ _
   | exact ih3 _ _ _ _ _ _ _ _ _ _ _ _ _ _ _ _ _ _ _ _ _
   | exact ih4 _ _ _ _ _ _ _ _ _ _ _ _ _ _ _ _ _ _ _ _
   | exact ih5 _
   | exact ih6 _ _ _ _ _ _ _ _ _
   | exact ih7 _ _
   | exact impl_FeedMix.mono _ _ _ _ _
   | exact laws_numberOf.mono _ _
   | exact spec_DrawEndMix.mono _ _
   | exact spec_DrawFeedMix.mono _ _
   | exact spec_DrawJoinMixes.mono _ _
   | exact spec_FeedMix.mono _ _ _ _ _
   | exact LeO.none _
   | refine LeO.ite ?_ ?_
   | refine LeO.bind ?_ (fun _ => ?_)
  ·intro y0 y1 y2 y3 y4 y5 y6 y7 y8
   unfold laws_FnMixes.j1
   repeat' first
   | (with_reducible exact ih0 _ _ _ _ _ _ _ _ _ _)
   | (with_reducible exact ih1 _)
   | (with_reducible exact ih2 _ _ _ _ _ _ _ _ _ _)
   | (with_reducible exact ih3 _ _ _ _ _ _ _ _ _ _ _ _ _ _ _ _ _ _ _ _ _)
   | (with_reducible exact ih4 _ _ _ _ _ _ _ _ _ _ _ _ _ _ _ _ _ _ _ _)
   | (with_reducible exact ih5 _)
   | (with_reducible exact ih6 _ _ _ _ _ _ _ _ _)
   | (with_reducible exact ih7 _ _)
   | (with_reducible exact impl_FeedMix.mono _ _ _ _ _)
   | (with_reducible exact laws_numberOf.mono _ _)
   | (with_reducible exact spec_DrawEndMix.mono _ _)
   | (with_reducible exact spec_DrawFeedMix.mono _ _)
   | (with_reducible exact spec_DrawJoinMixes.mono _ _)
   | (with_reducible exact spec_FeedMix.mono _ _ _ _ _)
   | (with_reducible exact LeO.refl _)
   | (with_reducible exact LeO.none _)
   | (with_reducible refine LeO.ite ?_ ?_)
   | (with_reducible refine LeO.bind ?_ (fun _ => ?_))
   | exact ih0 _ _ _ _ _ _ _ _ _ _
   | exact ih1 _
   | exact ih2 _ _ _ _ _ _ _ _ _ _
   | exact ih3 _ _ _ _ _ _ _ _ _ _ _ _ _ _ _ _ _ _ _ _ _
   | exact ih4 _ _ _ _ _ _ _ _ _ _ _ _ _ _ _ _ _ _ _ _
   | exact ih5 _
   | exact ih6 _ _ _ _ _ _ _ _ _
   | exact ih7 _ _
   | exact impl_FeedMix.mono _ _ _ _ _
   | exact laws_numberOf.mono _ _
   | exact spec_DrawEndMix.mono _ _
   | exact spec_DrawFeedMix.mono _ _
   | exact spec_DrawJoinMixes.mono _ _
   | exact spec_FeedMix.mono _ _ _ _ _
   | exact LeO.none _
   | refine LeO.ite ?_ ?_
   | refine LeO.bind ?_ (fun _ => ?_)
  ·intro y0 y1
   unfold laws_FnMixes.j2
   repeat' first
   | (with_reducible exact ih0 _ _ _ _ _ _ _ _ _ _)
   | (with_reducible exact ih1 _)
   | (with_reducible exact ih2 _ _ _ _ _ _ _ _ _ _)
   | (with_reducible exact ih3 _ _ _ _ _ _ _ _ _ _ _ _ _ _ _ _ _ _ _ _ _)
   | (with_reducible exact ih4 _ _ _ _ _ _ _ _ _ _ _ _ _ _ _ _ _ _ _ _)
   | (with_reducible exact ih5 _)
   | (with_reducible exact ih6 _ _ _ _ _ _ _ _ _)
   | (with_reducible exact ih7 _ _)
   | (with_reducible exact impl_FeedMix.mono _ _ _ _ _)
   | (with_reducible exact laws_numberOf.mono _ _)
   | (with_reducible exact spec_DrawEndMix.mono _ _)
   | (with_reducible exact spec_DrawFeedMix.mono _ _)
   | (with_reducible exact spec_DrawJoinMixes.mono _ _)
   | (with_reducible exact spec_FeedMix.mono _ _ _ _ _)
   | (with_reducible exact LeO.refl _)
   | (with_reducible exact LeO.none _)
   | (with_reducible refine LeO.ite ?_ ?_)
   | (with_reducible refine LeO.bind ?_ (fun _ => ?_))
   | exact ih0 _ _ _ _ _ _ _ _ _ _
   | exact ih1 _
   | exact ih2 _ _ _ _ _ _ _ _ _ _
   | exact ih3 _ _ _ _ _ _ _ _ _ _ _ _ _ _ _ _ _ _ _ _ _
   | exact ih4 _ _ _ _ _ _ _ _ _ _ _ _ _ _ _ _ _ _ _ _
   | exact ih5 _
   | exact ih6 _ _ _ _ _ _ _ _ _
   | exact ih7 _ _
   | exact impl_FeedMix.mono _ _ _ _ _
   | exact laws_numberOf.mono _ _
   | exact spec_DrawEndMix.mono _ _
   | exact spec_DrawFeedMix.mono _ _
   | exact spec_DrawJoinMixes.mono _ _
   | exact spec_FeedMix.mono _ _ _ _ _
   | exact LeO.none _
   | refine LeO.ite ?_ ?_
   | refine LeO.bind ?_ (fun _ => ?_)
theorem laws_FnMixes.mono : ∀ a0 a1 k, LeO (laws_FnMixes.f k a0 a1) (laws_FnMixes.f (k + 1) a0 a1) := by
 intro a0 a1 k
 obtain ⟨ih0, ih1, ih2, ih3, ih4, ih5, ih6, ih7⟩ := laws_FnMixes.mono_l k
 unfold laws_FnMixes.f
 repeat' first
   | (with_reducible exact ih0 _ _ _ _ _ _ _ _ _ _)
   | (with_reducible exact ih1 _)
   | (with_reducible exact ih2 _ _ _ _ _ _ _ _ _ _)
   | (with_reducible exact ih3 _ _ _ _ _ _ _ _ _ _ _ _ _ _ _ _ _ _ _ _ _)
   | (with_reducible exact ih4 _ _ _ _ _ _ _ _ _ _ _ _ _ _ _ _ _ _ _ _)
   | (with_reducible exact ih5 _)
   | (with_reducible exact ih6 _ _ _ _ _ _ _ _ _)
   | (with_reducible exact ih7 _ _)
   | (with_reducible exact impl_FeedMix.mono _ _ _ _ _)
   | (with_reducible exact laws_numberOf.mono _ _)
   | (with_reducible exact spec_DrawEndMix.mono _ _)
   | (with_reducible exact spec_DrawFeedMix.mono _ _)
   | (with_reducible exact spec_DrawJoinMixes.mono _ _)
   | (with_reducible exact spec_FeedMix.mono _ _ _ _ _)
   | (with_reducible exact LeO.refl _)
   | (with_reducible exact LeO.none _)
   | (with_reducible refine LeO.ite ?_ ?_)
   | (with_reducible refine LeO.bind ?_ (fun _ => ?_))
   | exact ih0 _ _ _ _ _ _ _ _ _ _
   | exact ih1 _
   | exact ih2 _ _ _ _ _ _ _ _ _ _
   | exact ih3 _ _ _ _ _ _ _ _ _ _ _ _ _ _ _ _ _ _ _ _ _
   | exact ih4 _ _ _ _ _ _ _ _ _ _ _ _ _ _ _ _ _ _ _ _
   | exact ih5 _
   | exact ih6 _ _ _ _ _ _ _ _ _
   | exact ih7 _ _
   | exact impl_FeedMix.mono _ _ _ _ _
   | exact laws_numberOf.mono _ _
   | exact spec_DrawEndMix.mono _ _
   | exact spec_DrawFeedMix.mono _ _
   | exact spec_DrawJoinMixes.mono _ _
   | exact spec_FeedMix.mono _ _ _ _ _
   | exact LeO.none _
   | refine LeO.ite ?_ ?_
   | refine LeO.bind ?_ (fun _ => ?_)
def laws_FnMixes.T6 : Bool × List (List Nat × List Nat) := (true, [([], []), ([], []), ([0, 1], [0, 1]), ([2], [2]), ([3], [3]), ([3], [3]), ([4, 5, 3], [3, 4, 5]), ([3, 6], [3, 6]), ([7, 3], [7]), ([8], [8]), ([9, 8, 8], [8, 9]), ([8], [8]), ([11, 10, 8], [8, 11]), ([10, 12, 8], [8, 10, 12]), ([8, 13], [8, 13])])
def laws_FnMixes.B6 : List Nat := [0, 0, 3, 7, 15, 15, 63, 127, 255, 511, 1023, 511, 4095, 8191, 16383]
theorem laws_FnMixes.tab6 : rtab .any (opsOf Try.f8 6) = laws_FnMixes.T6 := by kernel_rfl
theorem laws_FnMixes.bits6 : waitsOk laws_FnMixes.T6.2 laws_FnMixes.B6 = true := by kernel_rfl
def laws_FnMixes.T10 : Bool × List (List Nat × List Nat) := (true, [([], []), ([], []), ([], []), ([1, 2], [1, 2]), ([0, 3], [0, 3]), ([4], [4]), ([5], [5]), ([5], [5]), ([], []), ([8, 6, 4, 0, 1, 2, 3, 4, 5, 6, 8], [6, 8]), ([7, 9, 0, 1, 2, 3, 4, 5, 6, 7, 8, 9], [7])])
def laws_FnMixes.B10 : List Nat := [0, 0, 0, 6, 15, 31, 63, 63, 0, 383, 1023]
theorem laws_FnMixes.tab10 : rtab .any (opsOf Try.f8 10) = laws_FnMixes.T10 := by kernel_rfl
theorem laws_FnMixes.bits10 : waitsOk laws_FnMixes.T10.2 laws_FnMixes.B10 = true := by kernel_rfl
def laws_FnMixes.T11 : Bool × List (List Nat × List Nat) := (true, [([], []), ([], []), ([], []), ([1, 2], [1, 2]), ([0, 3], [0, 3]), ([4], [4]), ([5], [5]), ([5], [5]), ([], []), ([8, 6, 4, 0, 1, 2, 3, 4, 5, 6, 8], [6, 8]), ([7, 9, 0, 1, 2, 3, 4, 5, 6, 7, 8, 9], [7])])
def laws_FnMixes.B11 : List Nat := [0, 0, 0, 6, 15, 31, 63, 63, 0, 383, 1023]
theorem laws_FnMixes.tab11 : rtab .any (opsOf Try.f8 11) = laws_FnMixes.T11 := by kernel_rfl
theorem laws_FnMixes.bits11 : waitsOk laws_FnMixes.T11.2 laws_FnMixes.B11 = true := by kernel_rfl
set_option maxHeartbeats 8000000 in
set_option maxRecDepth 100000 in
theorem laws_FnMixes.calls (k : Nat) (A0 : Option Addr) (c0 : Nat) (l0 : List Int) (A1 : Option Addr) (c1 : Nat) (l1 : List Int) (r : Bool) (w : World) (hr0 : Kd.C (Kd.int .u8) w A0 l0.length l0) (hc0 : l0.length ≤ c0) (hr1 : Kd.C (Kd.int .u8) w A1 l1.length l1) (hc1 : l1.length ≤ c1) (h : laws_FnMixes.f k l0 l1 = some r) (ht : r = true) :
  Calls Try.prog 8 #[.slice A0 l0.length c0, .slice A1 l1.length c1] w fun e w' => e = .returned (.bool r) ∧ Below w.heap.size w w' := by
 have HT := Aside0.mk ht
 clear ht
 have hu23 := Try.underlying23
 have HR0 := Aside0.mk hr0
 have HC0 := Aside0.mk hc0
 clear hr0 hc0
 have HR1 := Aside0.mk hr1
 have HC1 := Aside0.mk hc1
 clear hr1 hc1
 have HB := Aside0.mk (Below.refl w.heap.size w)
 have H : (if (wrap64 ((l0.length : Int) + (l1.length : Int))) > 1048576 then (some true) else ((spec_DrawFeedMix.f k l0).bind fun bt494 => ((impl_FeedMix.f k bt494.1 bt494.2.1 bt494.2.2.1 bt494.2.2.2).bind fun bt499 => ((spec_FeedMix.f k bt494.1 bt494.2.1 bt494.2.2.1 bt494.2.2.2).bind fun bt504 => (if (bt499.2.2.2 != bt504.2.2.2) = true then (laws_FnMixes.j0 k l1 bt494.2.2.2 bt499.2.2.2 true bt494.1 bt494.2.1 bt494.2.2.1 bt499.1 bt499.2.1 bt499.2.2.1) else (if (!(bt499.1 == bt504.1) || (!(bt499.2.1 == bt504.2.1) || (!(bt499.2.2.1 == bt504.2.2.1)))) = true then (laws_FnMixes.j0 k l1 bt494.2.2.2 bt499.2.2.2 true bt494.1 bt494.2.1 bt494.2.2.1 bt499.1 bt499.2.1 bt499.2.2.1) else ((impl_GoodMix.f bt494.1 bt494.2.1 bt494.2.2.1).bind fun t509 => ((spec_GoodMix.f bt494.1 bt494.2.1 bt494.2.2.1).bind fun t510 => (laws_FnMixes.j0 k l1 bt494.2.2.2 bt499.2.2.2 (t509 != t510) bt494.1 bt494.2.1 bt494.2.2.1 bt499.1 bt499.2.1 bt499.2.2.1))))))))) = some r := h
 clear h
 by_cases c3 : (wrap64 ((l0.length : Int) + (l1.length : Int))) > 1048576
 ·rw [if_pos c3] at H
  have c3b0 : decide (1048576 < (wrap64 ((l0.length : Int) + (l1.length : Int)))) = true := decide_eq_true c3
  clear c3
  obtain rfl := Option.some.inj H
  go_enter Try.func8, Try.ntmps8
  go_wp2
  go_ret
  exact ⟨by first | rfl | (simp [errW_none, errW_some] <;> rfl) | (simp [*, errW_none, errW_some] <;> rfl), by repeat (first | (with_reducible first | exact HB.out | apply below_alloc | apply pw_below_drewN | apply below_drew1) | exact HB.out)⟩
 ·rw [if_neg c3] at H
  have c3b0 : decide (1048576 < (wrap64 ((l0.length : Int) + (l1.length : Int)))) = false := decide_eq_false c3
  clear c3
  replace H := Option.bind_eq_some_iff.mp H
  obtain ⟨⟨t494, t495, t496, t497⟩, A40, H⟩ := H
  replace H : ((impl_FeedMix.f k t494 t495 t496 t497).bind fun bt499 => ((spec_FeedMix.f k t494 t495 t496 t497).bind fun bt504 => (if (bt499.2.2.2 != bt504.2.2.2) = true then (laws_FnMixes.j0 k l1 t497 bt499.2.2.2 true t494 t495 t496 bt499.1 bt499.2.1 bt499.2.2.1) else (if (!(bt499.1 == bt504.1) || (!(bt499.2.1 == bt504.2.1) || (!(bt499.2.2.1 == bt504.2.2.1)))) = true then (laws_FnMixes.j0 k l1 t497 bt499.2.2.2 true t494 t495 t496 bt499.1 bt499.2.1 bt499.2.2.1) else ((impl_GoodMix.f t494 t495 t496).bind fun t509 => ((spec_GoodMix.f t494 t495 t496).bind fun t510 => (laws_FnMixes.j0 k l1 t497 bt499.2.2.2 (t509 != t510) t494 t495 t496 bt499.1 bt499.2.1 bt499.2.2.1))))))) = some r := H
  have A4 := Aside0.mk A40
  clear A40
  replace H := Option.bind_eq_some_iff.mp H
  obtain ⟨⟨t499, t500, t501, t502⟩, A50, H⟩ := H
  replace H : ((spec_FeedMix.f k t494 t495 t496 t497).bind fun bt504 => (if (t502 != bt504.2.2.2) = true then (laws_FnMixes.j0 k l1 t497 t502 true t494 t495 t496 t499 t500 t501) else (if (!(t499 == bt504.1) || (!(t500 == bt504.2.1) || (!(t501 == bt504.2.2.1)))) = true then (laws_FnMixes.j0 k l1 t497 t502 true t494 t495 t496 t499 t500 t501) else ((impl_GoodMix.f t494 t495 t496).bind fun t509 => ((spec_GoodMix.f t494 t495 t496).bind fun t510 => (laws_FnMixes.j0 k l1 t497 t502 (t509 != t510) t494 t495 t496 t499 t500 t501)))))) = some r := H
  have A5 := Aside0.mk A50
  clear A50
  replace H := Option.bind_eq_some_iff.mp H
  obtain ⟨⟨t504, t505, t506, t507⟩, A60, H⟩ := H
  replace H : (if (t502 != t507) = true then (laws_FnMixes.j0 k l1 t497 t502 true t494 t495 t496 t499 t500 t501) else (if (!(t499 == t504) || (!(t500 == t505) || (!(t501 == t506)))) = true then (laws_FnMixes.j0 k l1 t497 t502 true t494 t495 t496 t499 t500 t501) else ((impl_GoodMix.f t494 t495 t496).bind fun t509 => ((spec_GoodMix.f t494 t495 t496).bind fun t510 => (laws_FnMixes.j0 k l1 t497 t502 (t509 != t510) t494 t495 t496 t499 t500 t501))))) = some r := H
  have A6 := Aside0.mk A60
  clear A60
  have HC7 := Aside0.mk H
  clear H
  go_enter Try.func8, Try.ntmps8
  go_upto_region 6 with (first | ((with_reducible refine gate_callee (f := 27) rfl ?_); refine goesL_ (some 44) rfl rfl Try.func27 (by kernel_rfl) rfl #[.slice A0 l0.length c0] rfl (by (try simp only [List.map_toArray, List.map_cons, List.map_nil]); first | done | rfl | (simp only [List.length_drop, List.length_take]; rfl)) ?_; (with_reducible refine (spec_DrawFeedMix.calls k _ _ l0 t494 t495 t496 t497 _ ?side1 ?side2 A4.out).mono ?_); (case side1 => repeat (first | exact HR0.out | (with_reducible refine Kd.C_alloc ?_ _) | (with_reducible refine Kd.C_drewN ?_ _) | (with_reducible refine Kd.C_drew ?_))); (case side2 => exact HC0.out); rintro e w8 ⟨rfl, hb⟩; refine ⟨_, rfl, ?_⟩; have n0_ := Aside0.mk (bs_ HB.out hb); clear HB; have HB := n0_; clear n0_; (try clear hb); (try clear hb2); (try clear hk); (try clear hi)) | ((with_reducible refine gate_dst (N := 5) rfl ?_); (try (refine gate_guard (by rfl) ?_; dsimp only)); refine box_event ?hg (N := 5) ?hd (cs := #[.int .i64 0, .int .i64 0, .int .i64 0]) (t := 23) ?hr ?_; (case hd => rfl); (case hg => rfl); (case hr => first | (go_simp; done) | (go_simp; rfl)); intro gb498 hg w9 hbox hb; have n0_ := Aside0.mk (bs_ HB.out hb); have n1_ := Aside0.mk (hbox); have n2_ := Aside0.mk ((by rw [hg]; exact (bw_ HB.out) : w.heap.size ≤ gb498)); have n3_ := n2_; clear HB; have HB := n0_; have BK498 := n1_; have GW498 := n2_; have GE498 := n3_; clear n0_ n1_ n2_ n3_; clear hb hbox hg; have hcz10_0 : w9.cell? ⟨gb498, 0, none⟩ = some (.int .i64 0) := (blk_cell BK498.out 0).trans rfl; have hcz10_1 : w9.cell? ⟨gb498, 1, none⟩ = some (.int .i64 0) := (blk_cell BK498.out 1).trans rfl; have hcz10_2 : w9.cell? ⟨gb498, 2, none⟩ = some (.int .i64 0) := (blk_cell BK498.out 2).trans rfl; have hfz10_0 := blk_frozen BK498.out 0; have hfz10_1 := blk_frozen BK498.out 1; have hfz10_2 := blk_frozen BK498.out 2) | ((with_reducible refine gate_callee (f := 26) rfl ?_); refine goesL_ (some 50) rfl rfl Try.func26 (by kernel_rfl) rfl #[.agg #[.int .i64 t494, .int .i64 t495, .int .i64 t496], .string t497] rfl (by (try simp only [List.map_toArray, List.map_cons, List.map_nil]); first | done | rfl | (simp only [List.length_drop, List.length_take]; rfl)) ?_; (with_reducible refine (impl_FeedMix.calls k t494 t495 t496 t497 t499 t500 t501 t502 _ A5.out).mono ?_); rintro e w11 ⟨rfl, hb⟩; refine ⟨_, rfl, ?_⟩; have n0_ := Aside0.mk (blk_below (g := gb498) (o := .cells #[.int .i64 t494, .int .i64 t495, .int .i64 t496] 23 (0, 0)) (by (with_reducible repeat (first | refine blk_drewN ?_ _ | refine blk_drew ?_ | refine blk_alloc ?_ _)); refine blk_put (cs := #[.int .i64 t494, .int .i64 t495, .int .i64 0]) ?_ 2 _ rfl; (with_reducible repeat (first | refine blk_drewN ?_ _ | refine blk_drew ?_ | refine blk_alloc ?_ _)); refine blk_put (cs := #[.int .i64 t494, .int .i64 0, .int .i64 0]) ?_ 1 _ rfl; (with_reducible repeat (first | refine blk_drewN ?_ _ | refine blk_drew ?_ | refine blk_alloc ?_ _)); refine blk_put (cs := #[.int .i64 0, .int .i64 0, .int .i64 0]) ?_ 0 _ rfl; (with_reducible repeat (first | refine blk_drewN ?_ _ | refine blk_drew ?_ | refine blk_alloc ?_ _)); exact BK498.out) hb); have n1_ := Aside0.mk (bs_ HB.out hb); clear BK498; clear HB; have BK498 := n0_; have HB := n1_; clear n0_ n1_; (try clear hb); (try clear hb2); (try clear hk); (try clear hi)) | ((with_reducible refine gate_dst (N := 7) rfl ?_); (try (refine gate_guard (by rfl) ?_; dsimp only)); refine box_event ?hg (N := 7) ?hd (cs := #[.int .i64 0, .int .i64 0, .int .i64 0]) (t := 23) ?hr ?_; (case hd => rfl); (case hg => rfl); (case hr => first | (go_simp; done) | (go_simp; rfl)); intro gb503 hg w12 hbox hb; have n0_ := Aside0.mk (bz_ BK498 hb); have n1_ := Aside0.mk (bs_ HB.out hb); have n2_ := Aside0.mk (hbox); have n3_ := Aside0.mk ((by rw [hg]; exact (bw_ HB.out) : w.heap.size ≤ gb503)); have n4_ := n3_; have n5_ := Aside0.mk (nz_ BK498 hg); have n6_ := Aside0.mk n5_.out.symm; clear BK498; clear HB; have BK498 := n0_; have HB := n1_; have BK503 := n2_; have GW503 := n3_; have GE503 := n4_; have NB498_503 := n5_; have NB503_498 := n6_; clear n0_ n1_ n2_ n3_ n4_ n5_ n6_; clear hb hbox hg; have hnb13 := NB503_498.out; have hnc13 := NB498_503.out; have hcz14_0 : w12.cell? ⟨gb503, 0, none⟩ = some (.int .i64 0) := (blk_cell BK503.out 0).trans rfl; have hcz14_1 : w12.cell? ⟨gb503, 1, none⟩ = some (.int .i64 0) := (blk_cell BK503.out 1).trans rfl; have hcz14_2 : w12.cell? ⟨gb503, 2, none⟩ = some (.int .i64 0) := (blk_cell BK503.out 2).trans rfl; have hfz14_0 := blk_frozen BK503.out 0; have hfz14_1 := blk_frozen BK503.out 1; have hfz14_2 := blk_frozen BK503.out 2; have hcz15_0 : w12.cell? ⟨gb498, 0, none⟩ = some (.int .i64 t494) := (blk_cell BK498.out 0).trans rfl; have hcz15_1 : w12.cell? ⟨gb498, 1, none⟩ = some (.int .i64 t495) := (blk_cell BK498.out 1).trans rfl; have hcz15_2 : w12.cell? ⟨gb498, 2, none⟩ = some (.int .i64 t496) := (blk_cell BK498.out 2).trans rfl; have hfz15_0 := blk_frozen BK498.out 0; have hfz15_1 := blk_frozen BK498.out 1; have hfz15_2 := blk_frozen BK498.out 2) | ((with_reducible refine gate_callee (f := 25) rfl ?_); refine goesL_ (some 56) rfl rfl Try.func25 (by kernel_rfl) rfl #[.agg #[.int .i64 t494, .int .i64 t495, .int .i64 t496], .string t497] rfl (by (try simp only [List.map_toArray, List.map_cons, List.map_nil]); first | done | rfl | (simp only [List.length_drop, List.length_take]; rfl)) ?_; (with_reducible refine (spec_FeedMix.calls k t494 t495 t496 t497 t504 t505 t506 t507 _ A6.out).mono ?_); rintro e w16 ⟨rfl, hb⟩; refine ⟨_, rfl, ?_⟩; have n0_ := Aside0.mk (blk_below (g := gb498) (o := .cells #[.int .i64 t494, .int .i64 t495, .int .i64 t496] 23 (0, 0)) (by (with_reducible repeat (first | refine blk_drewN ?_ _ | refine blk_drew ?_ | refine blk_alloc ?_ _)); refine blk_far ?_ NB498_503.out _; (with_reducible repeat (first | refine blk_drewN ?_ _ | refine blk_drew ?_ | refine blk_alloc ?_ _)); refine blk_far ?_ NB498_503.out _; (with_reducible repeat (first | refine blk_drewN ?_ _ | refine blk_drew ?_ | refine blk_alloc ?_ _)); refine blk_far ?_ NB498_503.out _; (with_reducible repeat (first | refine blk_drewN ?_ _ | refine blk_drew ?_ | refine blk_alloc ?_ _)); exact BK498.out) hb); have n1_ := Aside0.mk (blk_below (g := gb503) (o := .cells #[.int .i64 t499, .int .i64 t500, .int .i64 t501] 23 (0, 0)) (by (with_reducible repeat (first | refine blk_drewN ?_ _ | refine blk_drew ?_ | refine blk_alloc ?_ _)); refine blk_put (cs := #[.int .i64 t499, .int .i64 t500, .int .i64 0]) ?_ 2 _ rfl; (with_reducible repeat (first | refine blk_drewN ?_ _ | refine blk_drew ?_ | refine blk_alloc ?_ _)); refine blk_put (cs := #[.int .i64 t499, .int .i64 0, .int .i64 0]) ?_ 1 _ rfl; (with_reducible repeat (first | refine blk_drewN ?_ _ | refine blk_drew ?_ | refine blk_alloc ?_ _)); refine blk_put (cs := #[.int .i64 0, .int .i64 0, .int .i64 0]) ?_ 0 _ rfl; (with_reducible repeat (first | refine blk_drewN ?_ _ | refine blk_drew ?_ | refine blk_alloc ?_ _)); exact BK503.out) hb); have n2_ := Aside0.mk (bs_ HB.out hb); clear BK498; clear BK503; clear HB; have BK498 := n0_; have BK503 := n1_; have HB := n2_; clear n0_ n1_ n2_; (try clear hb); (try clear hb2); (try clear hk); (try clear hi)) | ((with_reducible refine gate_dst (N := 9) rfl ?_); (try (refine gate_guard (by rfl) ?_; dsimp only)); refine box_event ?hg (N := 9) ?hd (cs := #[.int .i64 0, .int .i64 0, .int .i64 0]) (t := 23) ?hr ?_; (case hd => rfl); (case hg => rfl); (case hr => first | (go_simp; done) | (go_simp; rfl)); intro gb508 hg w17 hbox hb; have n0_ := Aside0.mk (bz_ BK498 hb); have n1_ := Aside0.mk (bz_ BK503 hb); have n2_ := Aside0.mk (bs_ HB.out hb); have n3_ := Aside0.mk (hbox); have n4_ := Aside0.mk ((by rw [hg]; exact (bw_ HB.out) : w.heap.size ≤ gb508)); have n5_ := n4_; have n6_ := Aside0.mk (nz_ BK498 hg); have n7_ := Aside0.mk n6_.out.symm; have n8_ := Aside0.mk (nz_ BK503 hg); have n9_ := Aside0.mk n8_.out.symm; clear BK498; clear BK503; clear HB; have BK498 := n0_; have BK503 := n1_; have HB := n2_; have BK508 := n3_; have GW508 := n4_; have GE508 := n5_; have NB498_508 := n6_; have NB508_498 := n7_; have NB503_508 := n8_; have NB508_503 := n9_; clear n0_ n1_ n2_ n3_ n4_ n5_ n6_ n7_ n8_ n9_; clear hb hbox hg; have hnb18 := NB508_498.out; have hnc18 := NB498_508.out; have hnb19 := NB508_503.out; have hnc19 := NB503_508.out; have hcz20_0 : w17.cell? ⟨gb508, 0, none⟩ = some (.int .i64 0) := (blk_cell BK508.out 0).trans rfl; have hcz20_1 : w17.cell? ⟨gb508, 1, none⟩ = some (.int .i64 0) := (blk_cell BK508.out 1).trans rfl; have hcz20_2 : w17.cell? ⟨gb508, 2, none⟩ = some (.int .i64 0) := (blk_cell BK508.out 2).trans rfl; have hfz20_0 := blk_frozen BK508.out 0; have hfz20_1 := blk_frozen BK508.out 1; have hfz20_2 := blk_frozen BK508.out 2))
  (try simp only [Act.put, List.setIfInBounds_toArray, List.set_cons_zero, List.set_cons_succ])
  go_cut [73] (fun v73 wc => ∃ (kq : Nat) (x73_6 : Bool), v73 = .bool x73_6 ∧ Aside0 (laws_FnMixes.j0 kq l1 t497 t502 x73_6 t494 t495 t496 t499 t500 t501 = some r) ∧ Aside0 (kq ≤ k) ∧ Aside0 (wc.heap[gb498]? = some (.cells #[.int .i64 t494, .int .i64 t495, .int .i64 t496] 23 (0, 0))) ∧ Aside0 (wc.heap[gb503]? = some (.cells #[.int .i64 t499, .int .i64 t500, .int .i64 t501] 23 (0, 0))) ∧ Aside0 (wc.heap[gb508]? = some (.cells #[.int .i64 t504, .int .i64 t505, .int .i64 t506] 23 (0, 0))) ∧ Aside0 (Below w.heap.size w wc))
  case first =>
   have H := HC7.out
   clear HC7
   by_cases c21 : (t502 != t507) = true
   ·rw [if_pos c21] at H
    have c21b0 : (t502 != t507) = true := c21
    (try (have c21b1 : decide (t502 = t507) = false := by simpa using c21))
    (try (have c21b2 : (t502 == t507) = false := by simpa using c21))
    (try (have c21b3 : ¬ (t502 = t507) := by simpa using c21))
    clear c21
    (first | rw [c21b0] | (simp only [i64_w, i32_w]; rw [c21b0]) | rw [c21b1] | skip)
    exact (Go.Proofs.Ythkbaaclbjnkiaa.Gen.no_true H (by cases k <;> simp [laws_FnMixes.j0]) HT.out).elim
   ·rw [if_neg c21] at H
    have c21b0 : (t502 != t507) = false := by simpa using c21
    (try (have c21b1 : decide (t502 = t507) = true := by simpa using c21))
    (try (have c21b2 : (t502 == t507) = true := by simpa using c21))
    clear c21
    (first | rw [c21b0] | (simp only [i64_w, i32_w]; rw [c21b0]) | rw [c21b1] | skip)
    by_cases c22 : (!(t499 == t504) || (!(t500 == t505) || (!(t501 == t506)))) = true
    ·rw [if_pos c22] at H
     have c22b0 : (!(t499 == t504) || (!(t500 == t505) || (!(t501 == t506)))) = true := c22
     clear c22
     exact (Go.Proofs.Ythkbaaclbjnkiaa.Gen.no_true H (by cases k <;> simp [laws_FnMixes.j0]) HT.out).elim
    ·rw [if_neg c22] at H
     have c22b0 : (!(t499 == t504) || (!(t500 == t505) || (!(t501 == t506)))) = false := by simpa using c22
     clear c22
     replace H := Option.bind_eq_some_iff.mp H
     obtain ⟨t509, A230, H⟩ := H
     replace H : ((spec_GoodMix.f t494 t495 t496).bind fun t510 => (laws_FnMixes.j0 k l1 t497 t502 (t509 != t510) t494 t495 t496 t499 t500 t501)) = some r := H
     have A23 := Aside0.mk A230
     clear A230
     replace H := Option.bind_eq_some_iff.mp H
     obtain ⟨t510, A240, H⟩ := H
     replace H : (laws_FnMixes.j0 k l1 t497 t502 (t509 != t510) t494 t495 t496 t499 t500 t501) = some r := H
     have A24 := Aside0.mk A240
     clear A240
     have H' := Aside0.mk H
     clear H
     try go_wp2
     have n0_ : Aside0 ((((w17.setCell ⟨gb508, 0, none⟩ (.int .i64 t504)).setCell ⟨gb508, 1, none⟩ (.int .i64 t505)).setCell ⟨gb508, 2, none⟩ (.int .i64 t506)).heap[gb498]? = some (.cells #[.int .i64 t494, .int .i64 t495, .int .i64 t496] 23 (0, 0))) := ⟨by (with_reducible repeat (first | refine blk_drewN ?_ _ | refine blk_drew ?_ | refine blk_alloc ?_ _)); refine blk_far ?_ NB498_508.out _; (with_reducible repeat (first | refine blk_drewN ?_ _ | refine blk_drew ?_ | refine blk_alloc ?_ _)); refine blk_far ?_ NB498_508.out _; (with_reducible repeat (first | refine blk_drewN ?_ _ | refine blk_drew ?_ | refine blk_alloc ?_ _)); refine blk_far ?_ NB498_508.out _; (with_reducible repeat (first | refine blk_drewN ?_ _ | refine blk_drew ?_ | refine blk_alloc ?_ _)); exact BK498.out⟩
     have n1_ : Aside0 ((((w17.setCell ⟨gb508, 0, none⟩ (.int .i64 t504)).setCell ⟨gb508, 1, none⟩ (.int .i64 t505)).setCell ⟨gb508, 2, none⟩ (.int .i64 t506)).heap[gb503]? = some (.cells #[.int .i64 t499, .int .i64 t500, .int .i64 t501] 23 (0, 0))) := ⟨by (with_reducible repeat (first | refine blk_drewN ?_ _ | refine blk_drew ?_ | refine blk_alloc ?_ _)); refine blk_far ?_ NB503_508.out _; (with_reducible repeat (first | refine blk_drewN ?_ _ | refine blk_drew ?_ | refine blk_alloc ?_ _)); refine blk_far ?_ NB503_508.out _; (with_reducible repeat (first | refine blk_drewN ?_ _ | refine blk_drew ?_ | refine blk_alloc ?_ _)); refine blk_far ?_ NB503_508.out _; (with_reducible repeat (first | refine blk_drewN ?_ _ | refine blk_drew ?_ | refine blk_alloc ?_ _)); exact BK503.out⟩
     have n2_ : Aside0 ((((w17.setCell ⟨gb508, 0, none⟩ (.int .i64 t504)).setCell ⟨gb508, 1, none⟩ (.int .i64 t505)).setCell ⟨gb508, 2, none⟩ (.int .i64 t506)).heap[gb508]? = some (.cells #[.int .i64 t504, .int .i64 t505, .int .i64 t506] 23 (0, 0))) := ⟨by (with_reducible repeat (first | refine blk_drewN ?_ _ | refine blk_drew ?_ | refine blk_alloc ?_ _)); refine blk_put (cs := #[.int .i64 t504, .int .i64 t505, .int .i64 0]) ?_ 2 _ rfl; (with_reducible repeat (first | refine blk_drewN ?_ _ | refine blk_drew ?_ | refine blk_alloc ?_ _)); refine blk_put (cs := #[.int .i64 t504, .int .i64 0, .int .i64 0]) ?_ 1 _ rfl; (with_reducible repeat (first | refine blk_drewN ?_ _ | refine blk_drew ?_ | refine blk_alloc ?_ _)); refine blk_put (cs := #[.int .i64 0, .int .i64 0, .int .i64 0]) ?_ 0 _ rfl; (with_reducible repeat (first | refine blk_drewN ?_ _ | refine blk_drew ?_ | refine blk_alloc ?_ _)); exact BK508.out⟩
     have n3_ : Aside0 (Below w.heap.size w (((w17.setCell ⟨gb508, 0, none⟩ (.int .i64 t504)).setCell ⟨gb508, 1, none⟩ (.int .i64 t505)).setCell ⟨gb508, 2, none⟩ (.int .i64 t506))) := ⟨by repeat (first | (with_reducible first | exact HB.out | apply below_alloc | apply pw_below_drewN | apply below_drew1 | refine below_set ?_ GE498.out | refine below_set ?_ GE503.out | refine below_set ?_ GE508.out) | exact HB.out)⟩
     (try clear BK498)
     (try clear BK503)
     (try clear BK508)
     (try clear HB)
     generalize (((w17.setCell ⟨gb508, 0, none⟩ (.int .i64 t504)).setCell ⟨gb508, 1, none⟩ (.int .i64 t505)).setCell ⟨gb508, 2, none⟩ (.int .i64 t506)) = w25 at n0_ n1_ n2_ n3_ ⊢
     have BK498 := n0_
     have BK503 := n1_
     have BK508 := n2_
     have HB := n3_
     clear n0_ n1_ n2_ n3_
     have n0_ := Aside0.mk (blk_drew BK498.out)
     have n1_ := Aside0.mk (blk_drew BK503.out)
     have n2_ := Aside0.mk (blk_drew BK508.out)
     have n3_ := Aside0.mk (below_drew1 HB.out)
     clear BK498
     clear BK503
     clear BK508
     clear HB
     have BK498 := n0_
     have BK503 := n1_
     have BK508 := n2_
     have HB := n3_
     clear n0_ n1_ n2_ n3_
     refine start_ (n := 15) (S := fun w' => w'.cell? ⟨gb503, 0, none⟩ = some (.int .i64 t499) ∧ w'.cell? ⟨gb503, 1, none⟩ = some (.int .i64 t500) ∧ w'.cell? ⟨gb503, 2, none⟩ = some (.int .i64 t501) ∧ w'.cell? ⟨gb508, 0, none⟩ = some (.int .i64 t504) ∧ w'.cell? ⟨gb508, 1, none⟩ = some (.int .i64 t505) ∧ w'.cell? ⟨gb508, 2, none⟩ = some (.int .i64 t506) ∧ w'.cell? ⟨gb498, 0, none⟩ = some (.int .i64 t494) ∧ w'.cell? ⟨gb498, 1, none⟩ = some (.int .i64 t495) ∧ w'.cell? ⟨gb498, 2, none⟩ = some (.int .i64 t496)) (ds := []) #[false, false, false, false, false, false, false, false, false, false, false, false, false, false, false] (by kernel_rfl) rfl rfl ⟨(blk_cell BK503.out 0).trans rfl, (blk_cell BK503.out 1).trans rfl, (blk_cell BK503.out 2).trans rfl, (blk_cell BK508.out 0).trans rfl, (blk_cell BK508.out 1).trans rfl, (blk_cell BK508.out 2).trans rfl, (blk_cell BK498.out 0).trans rfl, (blk_cell BK498.out 1).trans rfl, (blk_cell BK498.out 2).trans rfl⟩ (fun hHeld => ?_); refine with_tabW laws_FnMixes.tab6 laws_FnMixes.bits6 (fun HT_ HW_ => ?_)
     generalize w25.drew = w26 at BK498 BK503 BK508 HB hHeld ⊢
     refine pure_ (i := 0) (N := some 59) (v := ?_) (a' := ?_) #[true, false, false, false, false, false, false, false, false, false, false, false, false, false, false] rfl rfl (any_of HT_.out (by kernel_rfl)) (fun _ _ _ h => h) (Or.inl ⟨by rfl, ?_⟩) ?_ ?_
     rotate_left
     ·intro w'
      go_simp
      with_reducible rfl
     rotate_left
     ·simp only [Act.put, List.setIfInBounds_toArray, List.set_cons_zero, List.set_cons_succ, i64_w, i32_w]
      rfl
     refine pure_ (i := 1) (N := some 60) (v := ?_) (a' := ?_) #[true, true, false, false, false, false, false, false, false, false, false, false, false, false, false] rfl rfl (any_of HT_.out (by kernel_rfl)) (fun _ _ _ h => h) (Or.inl ⟨by rfl, ?_⟩) ?_ ?_
     rotate_left
     ·intro w'
      go_simp
      with_reducible rfl
     rotate_left
     ·simp only [Act.put, List.setIfInBounds_toArray, List.set_cons_zero, List.set_cons_succ, i64_w, i32_w]
      rfl
     refine pure_ (i := 2) (N := some 61) (v := ?_) (a' := ?_) #[true, true, true, false, false, false, false, false, false, false, false, false, false, false, false] rfl rfl (any_of HT_.out (by kernel_rfl)) (fun _ _ _ h => h) (Or.inl ⟨by rfl, ?_⟩) ?_ ?_
     rotate_left
     ·intro w'
      go_simp
      with_reducible rfl
     rotate_left
     ·simp only [Act.put, List.setIfInBounds_toArray, List.set_cons_zero, List.set_cons_succ, i64_w, i32_w]
      rfl
     refine pure_ (i := 3) (N := some 62) (v := ?_) (a' := ?_) #[true, true, true, true, false, false, false, false, false, false, false, false, false, false, false] rfl rfl (any_of HT_.out (by kernel_rfl)) (fun _ _ _ h => h) (Or.inl ⟨by rfl, ?_⟩) ?_ ?_
     rotate_left
     ·intro w'
      go_simp
      with_reducible rfl
     rotate_left
     ·simp only [Act.put, List.setIfInBounds_toArray, List.set_cons_zero, List.set_cons_succ, i64_w, i32_w]
      rfl
     refine take_ (i := 4) (N := some 63) (v := ?_) (a' := ?_) #[true, true, true, true, true, false, false, false, false, false, false, false, false, false, false] rfl rfl (take_ofW HT_.out HW_.out (by kernel_rfl)) (fun _ _ _ h => h) (Or.inl ⟨by rfl, ?_⟩) hHeld ?_ ?_
     rotate_left
     ·rintro w' ⟨s0, s1, s2, s3, s4, s5, s6, s7, s8⟩
      go_simp
      with_reducible rfl
     rotate_left
     ·simp only [Act.put, List.setIfInBounds_toArray, List.set_cons_zero, List.set_cons_succ, i64_w, i32_w]
      rfl
     refine take_ (i := 5) (N := some 64) (v := ?_) (a' := ?_) #[true, true, true, true, true, true, false, false, false, false, false, false, false, false, false] rfl rfl (take_ofW HT_.out HW_.out (by kernel_rfl)) (fun _ _ _ h => h) (Or.inl ⟨by rfl, ?_⟩) hHeld ?_ ?_
     rotate_left
     ·rintro w' ⟨s0, s1, s2, s3, s4, s5, s6, s7, s8⟩
      go_simp
      with_reducible rfl
     rotate_left
     ·simp only [Act.put, List.setIfInBounds_toArray, List.set_cons_zero, List.set_cons_succ, i64_w, i32_w]
      rfl
     refine pure_ (i := 6) (N := some 65) (v := ?_) (a' := ?_) #[true, true, true, true, true, true, true, false, false, false, false, false, false, false, false] rfl rfl (any_of HT_.out (by kernel_rfl)) (fun _ _ _ h => h) (Or.inl ⟨by rfl, ?_⟩) ?_ ?_
     rotate_left
     ·intro w'
      go_simp
      with_reducible rfl
     rotate_left
     ·simp only [Act.put, List.setIfInBounds_toArray, List.set_cons_zero, List.set_cons_succ, i64_w, i32_w]
      rfl
     refine pure_ (i := 7) (N := some 66) (v := ?_) (a' := ?_) #[true, true, true, true, true, true, true, true, false, false, false, false, false, false, false] rfl rfl (any_of HT_.out (by kernel_rfl)) (fun _ _ _ h => h) (Or.inl ⟨by rfl, ?_⟩) ?_ ?_
     rotate_left
     ·intro w'
      go_simp
      with_reducible rfl
     rotate_left
     ·simp only [Act.put, List.setIfInBounds_toArray, List.set_cons_zero, List.set_cons_succ, i64_w, i32_w]
      rfl
     refine pure_ (i := 8) (N := some 67) (v := ?_) (a' := ?_) #[true, true, true, true, true, true, true, true, true, false, false, false, false, false, false] rfl rfl (any_of HT_.out (by kernel_rfl)) (fun _ _ _ h => h) (Or.inl ⟨by rfl, ?_⟩) ?_ ?_
     rotate_left
     ·intro w'
      go_simp
      with_reducible rfl
     rotate_left
     ·simp only [Act.put, List.setIfInBounds_toArray, List.set_cons_zero, List.set_cons_succ, i64_w, i32_w]
      rfl
     refine take_ (i := 9) (N := some 68) (v := ?_) (a' := ?_) #[true, true, true, true, true, true, true, true, true, true, false, false, false, false, false] rfl rfl (take_ofW HT_.out HW_.out (by kernel_rfl)) (fun _ _ _ h => h) (Or.inl ⟨by rfl, ?_⟩) hHeld ?_ ?_
     rotate_left
     ·rintro w' ⟨s0, s1, s2, s3, s4, s5, s6, s7, s8⟩
      go_simp
      with_reducible rfl
     rotate_left
     ·simp only [Act.put, List.setIfInBounds_toArray, List.set_cons_zero, List.set_cons_succ, i64_w, i32_w]
      rfl
     refine take_ (i := 11) (N := some 70) (v := ?_) (a' := ?_) #[true, true, true, true, true, true, true, true, true, true, false, true, false, false, false] rfl rfl (take_ofW HT_.out HW_.out (by kernel_rfl)) (fun _ _ _ h => h) (Or.inl ⟨by rfl, ?_⟩) hHeld ?_ ?_
     rotate_left
     ·rintro w' ⟨s0, s1, s2, s3, s4, s5, s6, s7, s8⟩
      go_simp
      with_reducible rfl
     rotate_left
     ·simp only [Act.put, List.setIfInBounds_toArray, List.set_cons_zero, List.set_cons_succ, i64_w, i32_w]
      rfl
     refine one_ (i := 10) (N := some 69) #[true, true, true, true, true, true, true, true, true, true, true, true, false, false, false] rfl rfl (one_of HT_.out (by kernel_rfl)) (by decide) (fun K hK => ?_)
     refine goes_ Try.func20 (by kernel_rfl) rfl #[.agg #[.int .i64 t494, .int .i64 t495, .int .i64 t496]] (by rfl) rfl rfl (by (try simp only [List.map_toArray, List.map_cons, List.map_nil]); first | done | rfl | (simp only [List.length_drop, List.length_take]; rfl)) ?_
     with_reducible refine (impl_GoodMix.calls t494 t495 t496 t509 _ A23.out).mono ?_
     rintro e w27 ⟨rfl, hb⟩
     refine ⟨_, rfl, ?_⟩
     have n0_ := Aside0.mk (bz_ BK498 hb)
     have n1_ := Aside0.mk (bz_ BK503 hb)
     have n2_ := Aside0.mk (bz_ BK508 hb)
     have n3_ := Aside0.mk (bs_ HB.out hb)
     clear BK498
     clear BK503
     clear BK508
     clear HB
     have BK498 := n0_
     have BK503 := n1_
     have BK508 := n2_
     have HB := n3_
     clear n0_ n1_ n2_ n3_
     (try clear hb)
     (try clear hb2)
     (try clear hk)
     (try clear hi)
     refine hK.out _ _ ⟨(blk_cell BK503.out 0).trans rfl, (blk_cell BK503.out 1).trans rfl, (blk_cell BK503.out 2).trans rfl, (blk_cell BK508.out 0).trans rfl, (blk_cell BK508.out 1).trans rfl, (blk_cell BK508.out 2).trans rfl, (blk_cell BK498.out 0).trans rfl, (blk_cell BK498.out 1).trans rfl, (blk_cell BK498.out 2).trans rfl⟩ (fun hHeld => ?_)
     clear hK K
     refine norm_ (a' := ?_) ?_ ?_
     rotate_left
     ·show Act.put _ (some 69) _ = _
      simp only [Act.put, List.setIfInBounds_toArray, List.set_cons_zero, List.set_cons_succ, i64_w, i32_w]
      rfl
     refine one_ (i := 12) (N := some 71) #[true, true, true, true, true, true, true, true, true, true, true, true, true, false, false] rfl rfl (one_of HT_.out (by kernel_rfl)) (by decide) (fun K hK => ?_)
     refine goes_ Try.func18 (by kernel_rfl) rfl #[.agg #[.int .i64 t494, .int .i64 t495, .int .i64 t496]] (by rfl) rfl rfl (by (try simp only [List.map_toArray, List.map_cons, List.map_nil]); first | done | rfl | (simp only [List.length_drop, List.length_take]; rfl)) ?_
     with_reducible refine (spec_GoodMix.calls t494 t495 t496 t510 _ A24.out).mono ?_
     rintro e w28 ⟨rfl, hb⟩
     refine ⟨_, rfl, ?_⟩
     have n0_ := Aside0.mk (bz_ BK498 hb)
     have n1_ := Aside0.mk (bz_ BK503 hb)
     have n2_ := Aside0.mk (bz_ BK508 hb)
     have n3_ := Aside0.mk (bs_ HB.out hb)
     clear BK498
     clear BK503
     clear BK508
     clear HB
     have BK498 := n0_
     have BK503 := n1_
     have BK508 := n2_
     have HB := n3_
     clear n0_ n1_ n2_ n3_
     (try clear hb)
     (try clear hb2)
     (try clear hk)
     (try clear hi)
     refine hK.out _ _ ⟨(blk_cell BK503.out 0).trans rfl, (blk_cell BK503.out 1).trans rfl, (blk_cell BK503.out 2).trans rfl, (blk_cell BK508.out 0).trans rfl, (blk_cell BK508.out 1).trans rfl, (blk_cell BK508.out 2).trans rfl, (blk_cell BK498.out 0).trans rfl, (blk_cell BK498.out 1).trans rfl, (blk_cell BK498.out 2).trans rfl⟩ (fun hHeld => ?_)
     clear hK K
     refine norm_ (a' := ?_) ?_ ?_
     rotate_left
     ·show Act.put _ (some 71) _ = _
      simp only [Act.put, List.setIfInBounds_toArray, List.set_cons_zero, List.set_cons_succ, i64_w, i32_w]
      rfl
     refine pure_ (i := 13) (N := some 72) (v := ?_) (a' := ?_) #[true, true, true, true, true, true, true, true, true, true, true, true, true, true, false] rfl rfl (any_of HT_.out (by kernel_rfl)) (fun _ _ _ h => h) (Or.inl ⟨by rfl, ?_⟩) ?_ ?_
     rotate_left
     ·intro w'
      go_simp
      with_reducible rfl
     rotate_left
     ·simp only [Act.put, List.setIfInBounds_toArray, List.set_cons_zero, List.set_cons_succ, i64_w, i32_w]
      rfl
     refine pure_ (i := 14) (N := some 73) (v := ?_) (a' := ?_) #[true, true, true, true, true, true, true, true, true, true, true, true, true, true, true] rfl rfl (any_of HT_.out (by kernel_rfl)) (fun _ _ _ h => h) (Or.inl ⟨by rfl, ?_⟩) ?_ ?_
     rotate_left
     ·intro w'
      go_simp
      with_reducible rfl
     rotate_left
     ·simp only [Act.put, List.setIfInBounds_toArray, List.set_cons_zero, List.set_cons_succ, i64_w, i32_w]
      rfl
     refine done_ (done_of HT_.out (by kernel_rfl)) ?_
     try go_wp2
     go_meet
     case rel => exact ⟨_, ((t509 != t510)), (by first | rfl | (simp; done) | (simp [*]; done)), H', ⟨by first | omega | exact Nat.le_refl _⟩, ⟨by (with_reducible repeat (first | refine blk_drewN ?_ _ | refine blk_drew ?_ | refine blk_alloc ?_ _)); exact BK498.out⟩, ⟨by (with_reducible repeat (first | refine blk_drewN ?_ _ | refine blk_drew ?_ | refine blk_alloc ?_ _)); exact BK503.out⟩, ⟨by (with_reducible repeat (first | refine blk_drewN ?_ _ | refine blk_drew ?_ | refine blk_alloc ?_ _)); exact BK508.out⟩, ⟨by repeat (first | (with_reducible first | exact HB.out | apply below_alloc | apply pw_below_drewN | apply below_drew1 | refine below_set ?_ GE498.out | refine below_set ?_ GE503.out | refine below_set ?_ GE508.out) | exact HB.out)⟩⟩
  case rest =>
   clear HC7
   try clear c3; try clear c3b0; try clear hcz10_0; try clear hcz10_1; try clear hcz10_2; try clear hcz14_0; try clear hcz14_1; try clear hcz14_2; try clear hcz15_0; try clear hcz15_1; try clear hcz15_2; try clear hcz20_0; try clear hcz20_1; try clear hcz20_2; try clear hfz10_0; try clear hfz10_1; try clear hfz10_2; try clear hfz14_0; try clear hfz14_1; try clear hfz14_2; try clear hfz15_0; try clear hfz15_1
   try clear hfz15_2; try clear hfz20_0; try clear hfz20_1; try clear hfz20_2
   obtain ⟨kq, x73_6, rfl, HA, HJ6, BK498, BK503, BK508, HB⟩ := hcut
   cases kq with
   | zero => exact absurd HA.out (by simp [laws_FnMixes.j0])
   | succ kj6 =>
    have H := HA.out
    clear HA
    simp only [laws_FnMixes.j0] at H
    by_cases c29 : x73_6 = true
    ·subst c29
     have H1 : (some false) = some r := by rw [if_pos rfl] at H; exact H
     clear H
     have H := H1
     clear H1
     exact absurd HT.out (by have H9 := Option.some.inj H; rw [← H9]; decide)
    ·replace c29 := Bool.eq_false_iff.mpr c29
     subst c29
     have H1 : (if t502 = true then ((laws_numberOf.f kj6 l1).bind fun t511 => (if (wrap64 ((t497.size : Int) + 1)) = 0 then (none) else (laws_FnMixes.j1 kj6 l1 t497 (Int.tmod t511 (wrap64 ((t497.size : Int) + 1))) t494 t495 t496 t499 t500 t501))) else (laws_FnMixes.j3 kj6 l1)) = some r := by rw [if_neg (show ¬ (false = true) by decide)] at H; exact H
     clear H
     have H := H1
     clear H1
     have HC30 := Aside0.mk H
     clear H
     go_upto_if 74 with (fail)
     go_cut [] (fun wc => ∃ (kq : Nat), Aside0 (laws_FnMixes.j3 kq l1 = some r) ∧ Aside0 (kq ≤ kj6) ∧ Aside0 (wc.heap[gb498]? = some (.cells #[.int .i64 t494, .int .i64 t495, .int .i64 t496] 23 (0, 0))) ∧ Aside0 (wc.heap[gb503]? = some (.cells #[.int .i64 t499, .int .i64 t500, .int .i64 t501] 23 (0, 0))) ∧ Aside0 (wc.heap[gb508]? = some (.cells #[.int .i64 t504, .int .i64 t505, .int .i64 t506] 23 (0, 0))) ∧ Aside0 (Below w.heap.size w wc))
     case first =>
      as_aux_lemma =>
      have H := HC30.out
      clear HC30
      by_cases c31 : t502 = true
      ·subst c31
       have H1 : ((laws_numberOf.f kj6 l1).bind fun t511 => (if (wrap64 ((t497.size : Int) + 1)) = 0 then (none) else (laws_FnMixes.j1 kj6 l1 t497 (Int.tmod t511 (wrap64 ((t497.size : Int) + 1))) t494 t495 t496 t499 t500 t501))) = some r := by rw [if_pos rfl] at H; exact H
       clear H
       have H := H1
       clear H1
       have HC32 := Aside0.mk H
       clear H
       go_upto_region 9 with (fail)
       go_cut [11] (fun v11 wc => ∃ (kq : Nat) (x11_31 : Int), v11 = .int .i64 x11_31 ∧ Aside0 (laws_FnMixes.j1 kq l1 t497 x11_31 t494 t495 t496 t499 t500 t501 = some r) ∧ Aside0 (kq ≤ kj6) ∧ Aside0 (wc.heap[gb498]? = some (.cells #[.int .i64 t494, .int .i64 t495, .int .i64 t496] 23 (0, 0))) ∧ Aside0 (wc.heap[gb503]? = some (.cells #[.int .i64 t499, .int .i64 t500, .int .i64 t501] 23 (0, 0))) ∧ Aside0 (wc.heap[gb508]? = some (.cells #[.int .i64 t504, .int .i64 t505, .int .i64 t506] 23 (0, 0))) ∧ Aside0 (Below w.heap.size w wc))
       case first =>
        have H := HC32.out
        clear HC32
        replace H := Option.bind_eq_some_iff.mp H
        obtain ⟨t511, A330, H⟩ := H
        replace H : (if (wrap64 ((t497.size : Int) + 1)) = 0 then (none) else (laws_FnMixes.j1 kj6 l1 t497 (Int.tmod t511 (wrap64 ((t497.size : Int) + 1))) t494 t495 t496 t499 t500 t501)) = some r := H
        have A33 := Aside0.mk A330
        clear A330
        by_cases c34 : (wrap64 ((t497.size : Int) + 1)) = 0
        ·rw [if_pos c34] at H
         exact absurd H (by simp)
        ·rw [if_neg c34] at H
         have c34b0 : ((wrap64 ((t497.size : Int) + 1)) == 0) = false := beq_eq_false_iff_ne.mpr c34
         have c34b1 : ((wrap64 ((t497.size : Int) + 1)) != 0) = true := bne_iff_ne.mpr c34
         (first | rw [c34b0] | (simp only [i64_w, i32_w]; rw [c34b0]) | rw [c34b1] | skip)
         have H' := Aside0.mk H
         clear H
         go_wp2_with (first | ((with_reducible refine gate_callee (f := 28) rfl ?_); refine goesL_ (some 76) rfl rfl Try.func28 (by kernel_rfl) rfl #[.slice A1 l1.length c1] rfl (by (try simp only [List.map_toArray, List.map_cons, List.map_nil]); first | done | rfl | (simp only [List.length_drop, List.length_take]; rfl)) ?_; (with_reducible refine (laws_numberOf.calls kj6 _ _ l1 t511 _ ?side1 ?side2 A33.out).mono ?_); (case side1 => repeat (first | exact (Kd.C_below HR1.out HB.out) | (with_reducible refine Kd.C_alloc ?_ _) | (with_reducible refine Kd.C_drewN ?_ _) | (with_reducible refine Kd.C_drew ?_))); (case side2 => exact HC1.out); rintro e w' ⟨rfl, ⟨nd, rfl⟩⟩; refine ⟨_, rfl, ?_⟩))
         go_meet
         case rel => exact ⟨_, (Int.tmod t511 (wrap64 ((t497.size : Int) + 1))), (by first | rfl | (simp; done) | (simp [*]; done)), H', ⟨by have := HJ6.out; first | omega | exact Nat.le_refl _⟩, ⟨by (with_reducible repeat (first | refine blk_drewN ?_ _ | refine blk_drew ?_ | refine blk_alloc ?_ _)); exact BK498.out⟩, ⟨by (with_reducible repeat (first | refine blk_drewN ?_ _ | refine blk_drew ?_ | refine blk_alloc ?_ _)); exact BK503.out⟩, ⟨by (with_reducible repeat (first | refine blk_drewN ?_ _ | refine blk_drew ?_ | refine blk_alloc ?_ _)); exact BK508.out⟩, ⟨by repeat (first | (with_reducible first | exact HB.out | apply below_alloc | apply pw_below_drewN | apply below_drew1 | refine below_set ?_ GE498.out | refine below_set ?_ GE503.out | refine below_set ?_ GE508.out) | exact HB.out)⟩⟩
       case rest =>
        clear HC32
        try clear c3; try clear c3b0; try clear c29; try clear c31; try clear hcz10_0; try clear hcz10_1; try clear hcz10_2; try clear hcz14_0; try clear hcz14_1; try clear hcz14_2; try clear hcz15_0; try clear hcz15_1; try clear hcz15_2; try clear hcz20_0; try clear hcz20_1; try clear hcz20_2; try clear hfz10_0; try clear hfz10_1; try clear hfz10_2; try clear hfz14_0; try clear hfz14_1; try clear hfz14_2
        try clear hfz15_0; try clear hfz15_1; try clear hfz15_2; try clear hfz20_0; try clear hfz20_1; try clear hfz20_2
        obtain ⟨kq, x11_31, rfl, HA, HJ31, BK498, BK503, BK508, HB⟩ := hcut
        cases kq with
        | zero => exact absurd HA.out (by simp [laws_FnMixes.j1])
        | succ kj31 =>
         have H := HA.out
         clear HA
         simp only [laws_FnMixes.j1] at H
         by_cases c35 : 0 ≤ x11_31
         ·rw [if_pos c35] at H
          have c35b0 := eq_true c35
          have c35b1 : decide (0 ≤ x11_31) = true := decide_eq_true c35
          clear c35
          by_cases c36 : x11_31 ≤ (t497.size : Int)
          ·rw [if_pos c36] at H
           have c36b0 := eq_true c36
           have c36b1 : decide (x11_31 ≤ (t497.size : Int)) = true := decide_eq_true c36
           clear c36
           replace H := Option.bind_eq_some_iff.mp H
           obtain ⟨⟨t512, t513, t514, t515⟩, A370, H⟩ := H
           replace H : ((impl_FeedMix.f kj31 t512 t513 t514 (t497.extract (x11_31 : Int).toNat t497.size)).bind fun bt517 => ((impl_FeedMix.f kj31 1 0 0 (t497.extract (x11_31 : Int).toNat t497.size)).bind fun bt522 => ((impl_JoinMixes.f t512 t513 t514 bt522.1 bt522.2.1 bt522.2.2.1).bind fun bt527 => (if t515 = true then (if bt517.2.2.2 = true then (if (!(bt517.1 == t499) || (!(bt517.2.1 == t500) || (!(bt517.2.2.1 == t501)))) = true then (laws_FnMixes.j2 kj31 l1 true) else (if bt522.2.2.2 = true then (if bt527.2.2.2 = true then (if (!(bt527.1 == t499) || (!(bt527.2.1 == t500) || (!(bt527.2.2.1 == t501)))) = true then (laws_FnMixes.j2 kj31 l1 true) else ((impl_GoodMix.f t499 t500 t501).bind fun t532 => (laws_FnMixes.j2 kj31 l1 (!t532)))) else (laws_FnMixes.j2 kj31 l1 true)) else (laws_FnMixes.j2 kj31 l1 true))) else (laws_FnMixes.j2 kj31 l1 true)) else (laws_FnMixes.j2 kj31 l1 true))))) = some r := H
           have A37 := Aside0.mk A370
           clear A370
           have c38b0 := eq_true (of_decide_eq_true (by first | (with_reducible assumption) | assumption) : 0 ≤ x11_31)
           have c39b0 := eq_true (of_decide_eq_true (by first | (with_reducible assumption) | assumption) : x11_31 ≤ (t497.size : Int))
           replace H := Option.bind_eq_some_iff.mp H
           obtain ⟨⟨t517, t518, t519, t520⟩, A400, H⟩ := H
           replace H : ((impl_FeedMix.f kj31 1 0 0 (t497.extract (x11_31 : Int).toNat t497.size)).bind fun bt522 => ((impl_JoinMixes.f t512 t513 t514 bt522.1 bt522.2.1 bt522.2.2.1).bind fun bt527 => (if t515 = true then (if t520 = true then (if (!(t517 == t499) || (!(t518 == t500) || (!(t519 == t501)))) = true then (laws_FnMixes.j2 kj31 l1 true) else (if bt522.2.2.2 = true then (if bt527.2.2.2 = true then (if (!(bt527.1 == t499) || (!(bt527.2.1 == t500) || (!(bt527.2.2.1 == t501)))) = true then (laws_FnMixes.j2 kj31 l1 true) else ((impl_GoodMix.f t499 t500 t501).bind fun t532 => (laws_FnMixes.j2 kj31 l1 (!t532)))) else (laws_FnMixes.j2 kj31 l1 true)) else (laws_FnMixes.j2 kj31 l1 true))) else (laws_FnMixes.j2 kj31 l1 true)) else (laws_FnMixes.j2 kj31 l1 true)))) = some r := H
           have A40 := Aside0.mk A400
           clear A400
           have c41b0 := eq_true (of_decide_eq_true (by first | (with_reducible assumption) | assumption) : 0 ≤ x11_31)
           have c42b0 := eq_true (of_decide_eq_true (by first | (with_reducible assumption) | assumption) : x11_31 ≤ (t497.size : Int))
           replace H := Option.bind_eq_some_iff.mp H
           obtain ⟨⟨t522, t523, t524, t525⟩, A430, H⟩ := H
           replace H : ((impl_JoinMixes.f t512 t513 t514 t522 t523 t524).bind fun bt527 => (if t515 = true then (if t520 = true then (if (!(t517 == t499) || (!(t518 == t500) || (!(t519 == t501)))) = true then (laws_FnMixes.j2 kj31 l1 true) else (if t525 = true then (if bt527.2.2.2 = true then (if (!(bt527.1 == t499) || (!(bt527.2.1 == t500) || (!(bt527.2.2.1 == t501)))) = true then (laws_FnMixes.j2 kj31 l1 true) else ((impl_GoodMix.f t499 t500 t501).bind fun t532 => (laws_FnMixes.j2 kj31 l1 (!t532)))) else (laws_FnMixes.j2 kj31 l1 true)) else (laws_FnMixes.j2 kj31 l1 true))) else (laws_FnMixes.j2 kj31 l1 true)) else (laws_FnMixes.j2 kj31 l1 true))) = some r := H
           have A43 := Aside0.mk A430
           clear A430
           replace H := Option.bind_eq_some_iff.mp H
           obtain ⟨⟨t527, t528, t529, t530⟩, A440, H⟩ := H
           replace H : (if t515 = true then (if t520 = true then (if (!(t517 == t499) || (!(t518 == t500) || (!(t519 == t501)))) = true then (laws_FnMixes.j2 kj31 l1 true) else (if t525 = true then (if t530 = true then (if (!(t527 == t499) || (!(t528 == t500) || (!(t529 == t501)))) = true then (laws_FnMixes.j2 kj31 l1 true) else ((impl_GoodMix.f t499 t500 t501).bind fun t532 => (laws_FnMixes.j2 kj31 l1 (!t532)))) else (laws_FnMixes.j2 kj31 l1 true)) else (laws_FnMixes.j2 kj31 l1 true))) else (laws_FnMixes.j2 kj31 l1 true)) else (laws_FnMixes.j2 kj31 l1 true)) = some r := H
           have A44 := Aside0.mk A440
           clear A440
           have HC45 := Aside0.mk H
           clear H
           try go_wp2
           have n0_ := Aside0.mk (blk_drew BK498.out)
           have n1_ := Aside0.mk (blk_drew BK503.out)
           have n2_ := Aside0.mk (blk_drew BK508.out)
           have n3_ := Aside0.mk (below_drew1 HB.out)
           clear BK498
           clear BK503
           clear BK508
           clear HB
           have BK498 := n0_
           have BK503 := n1_
           have BK508 := n2_
           have HB := n3_
           clear n0_ n1_ n2_ n3_
           refine start_ (n := 11) (S := fun w' => w'.cell? ⟨gb498, 0, none⟩ = some (.int .i64 t494) ∧ w'.cell? ⟨gb498, 1, none⟩ = some (.int .i64 t495) ∧ w'.cell? ⟨gb498, 2, none⟩ = some (.int .i64 t496)) (ds := []) #[false, false, false, false, false, false, false, false, false, false, false] (by kernel_rfl) rfl rfl ⟨(blk_cell BK498.out 0).trans rfl, (blk_cell BK498.out 1).trans rfl, (blk_cell BK498.out 2).trans rfl⟩ (fun hHeld => ?_); refine with_tabW laws_FnMixes.tab10 laws_FnMixes.bits10 (fun HT_ HW_ => ?_)
           generalize wc.drew = w46 at BK498 BK503 BK508 HB hHeld ⊢
           refine pure_ (i := 1) (N := some 83) (v := ?_) (a' := ?_) #[false, true, false, false, false, false, false, false, false, false, false] rfl rfl (any_of HT_.out (by kernel_rfl)) (fun _ _ _ h => h) (Or.inl ⟨by rfl, ?_⟩) ?_ ?_
           rotate_left
           ·intro w'
            go_simp
            with_reducible rfl
           rotate_left
           ·simp only [Act.put, List.setIfInBounds_toArray, List.set_cons_zero, List.set_cons_succ, i64_w, i32_w]
            rfl
           refine pure_ (i := 2) (N := some 84) (v := ?_) (a' := ?_) #[false, true, true, false, false, false, false, false, false, false, false] rfl rfl (any_of HT_.out (by kernel_rfl)) (fun _ _ _ h => h) (Or.inl ⟨by rfl, ?_⟩) ?_ ?_
           rotate_left
           ·intro w'
            go_simp
            with_reducible rfl
           rotate_left
           ·simp only [Act.put, List.setIfInBounds_toArray, List.set_cons_zero, List.set_cons_succ, i64_w, i32_w]
            rfl
           refine pure_ (i := 3) (N := some 85) (v := ?_) (a' := ?_) #[false, true, true, true, false, false, false, false, false, false, false] rfl rfl (any_of HT_.out (by kernel_rfl)) (fun _ _ _ h => h) (Or.inl ⟨by rfl, ?_⟩) ?_ ?_
           rotate_left
           ·intro w'
            go_simp
            with_reducible rfl
           rotate_left
           ·simp only [Act.put, List.setIfInBounds_toArray, List.set_cons_zero, List.set_cons_succ, i64_w, i32_w]
            rfl
           refine take_ (i := 0) (N := some 82) (v := ?_) (a' := ?_) #[true, true, true, true, false, false, false, false, false, false, false] rfl rfl (take_ofW HT_.out HW_.out (by kernel_rfl)) (fun _ _ _ h => h) (Or.inl ⟨by rfl, ?_⟩) hHeld ?_ ?_
           rotate_left
           ·rintro w' ⟨s0, s1, s2⟩
            go_simp
            with_reducible rfl
           rotate_left
           ·simp only [Act.put, List.setIfInBounds_toArray, List.set_cons_zero, List.set_cons_succ, i64_w, i32_w]
            rfl
           refine join_ (σ := Nat) 2 #[true, true, true, true, true, true, true, true, true, false, false] (fun s_ => [(86, .tuple #[.agg #[.int .i64 t512, .int .i64 t513, .int .i64 t514], .bool t515]), (12, .pointer (some ⟨s_, 0, none⟩)), (81, .tuple #[.agg #[.int .i64 t512, .int .i64 t513, .int .i64 t514], .bool t515]), (87, .agg #[.int .i64 t512, .int .i64 t513, .int .i64 t514]), (88, .bool t515)]) (fun s_ w' => (w'.cell? ⟨gb498, 0, none⟩ = some (.int .i64 t494) ∧ w'.cell? ⟨gb498, 1, none⟩ = some (.int .i64 t495) ∧ w'.cell? ⟨gb498, 2, none⟩ = some (.int .i64 t496)) ∧ (w'.heap[gb498]? = some (.cells #[.int .i64 t494, .int .i64 t495, .int .i64 t496] 23 (0, 0))) ∧ (w'.heap[gb503]? = some (.cells #[.int .i64 t499, .int .i64 t500, .int .i64 t501] 23 (0, 0))) ∧ (w'.heap[gb508]? = some (.cells #[.int .i64 t504, .int .i64 t505, .int .i64 t506] 23 (0, 0))) ∧ (w'.heap[s_]? = some (.cells #[.int .i64 0, .int .i64 0, .int .i64 0] 23 (0, 0))) ∧ (w.heap.size ≤ s_) ∧ (w.heap.size ≤ s_) ∧ (gb498 ≠ s_) ∧ (s_ ≠ gb498) ∧ (gb503 ≠ s_) ∧ (s_ ≠ gb503) ∧ (gb508 ≠ s_) ∧ (s_ ≠ gb508) ∧ (Below w.heap.size w w')) ?_ ?_
           rotate_left
           ·intro hCont
            refine two_ (i := 4) (j := 8) (Ni := some 86) (Nj := some 12) #[true, true, true, true, true, false, false, false, false, false, false] #[true, true, true, true, false, false, false, false, true, false, false] rfl rfl rfl rfl (two_of HT_.out (by kernel_rfl)) (by decide) (by decide) (fun K hK => ?_) (fun K hK => ?_)
            ·skip
             refine goes_ Try.func26 (by kernel_rfl) rfl #[.agg #[.int .i64 t494, .int .i64 t495, .int .i64 t496], .string (t497.extract 0 (x11_31 : Int).toNat)] (by rfl) rfl rfl (by (try simp only [List.map_toArray, List.map_cons, List.map_nil]); first | done | rfl | (simp only [List.length_drop, List.length_take]; rfl)) ?_
             with_reducible refine (impl_FeedMix.calls kj31 t494 t495 t496 (t497.extract 0 (x11_31 : Int).toNat) t512 t513 t514 t515 _ A37.out).mono ?_
             rintro e w47 ⟨rfl, hb⟩
             refine ⟨_, rfl, ?_⟩
             have n0_ := Aside0.mk (bz_ BK498 hb)
             have n1_ := Aside0.mk (bz_ BK503 hb)
             have n2_ := Aside0.mk (bz_ BK508 hb)
             have n3_ := Aside0.mk (bs_ HB.out hb)
             clear BK498
             clear BK503
             clear BK508
             clear HB
             have BK498 := n0_
             have BK503 := n1_
             have BK508 := n2_
             have HB := n3_
             clear n0_ n1_ n2_ n3_
             (try clear hb)
             (try clear hb2)
             (try clear hk)
             (try clear hi)
             refine hK.out _ _ ⟨(blk_cell BK498.out 0).trans rfl, (blk_cell BK498.out 1).trans rfl, (blk_cell BK498.out 2).trans rfl⟩ (fun hHeld => ?_)
             clear hK K
             refine norm_ (a' := ?_) ?_ ?_
             rotate_left
             ·show Act.put _ (some 86) _ = _
              simp only [Act.put, List.setIfInBounds_toArray, List.set_cons_zero, List.set_cons_succ, i64_w, i32_w]
              rfl
             refine pure_ (i := 5) (N := some 81) (v := ?_) (a' := ?_) #[true, true, true, true, true, true, false, false, false, false, false] rfl rfl (any_of HT_.out (by kernel_rfl)) (fun _ _ _ h => h) (Or.inl ⟨by rfl, ?_⟩) ?_ ?_
             rotate_left
             ·intro w'
              go_simp
              with_reducible rfl
             rotate_left
             ·simp only [Act.put, List.setIfInBounds_toArray, List.set_cons_zero, List.set_cons_succ, i64_w, i32_w]
              rfl
             refine pure_ (i := 6) (N := some 87) (v := ?_) (a' := ?_) #[true, true, true, true, true, true, true, false, false, false, false] rfl rfl (any_of HT_.out (by kernel_rfl)) (fun _ _ _ h => h) (Or.inl ⟨by rfl, ?_⟩) ?_ ?_
             rotate_left
             ·intro w'
              go_simp
              with_reducible rfl
             rotate_left
             ·simp only [Act.put, List.setIfInBounds_toArray, List.set_cons_zero, List.set_cons_succ, i64_w, i32_w]
              rfl
             refine pure_ (i := 7) (N := some 88) (v := ?_) (a' := ?_) #[true, true, true, true, true, true, true, true, false, false, false] rfl rfl (any_of HT_.out (by kernel_rfl)) (fun _ _ _ h => h) (Or.inl ⟨by rfl, ?_⟩) ?_ ?_
             rotate_left
             ·intro w'
              go_simp
              with_reducible rfl
             rotate_left
             ·simp only [Act.put, List.setIfInBounds_toArray, List.set_cons_zero, List.set_cons_succ, i64_w, i32_w]
              rfl
             refine one_ (i := 8) (N := some 12) #[true, true, true, true, true, true, true, true, true, false, false] rfl rfl (one_of HT_.out (by kernel_rfl)) (by decide) (fun K hK => ?_)
             refine box_step ?hg (N := 12) ?hd (cs := #[.int .i64 0, .int .i64 0, .int .i64 0]) (t := 23) ?hr ?_; (case hd => rfl); (case hg => rfl); (case hr => first | (go_simp; done) | (go_simp; rfl))
             intro gb516 hg w48 hbox hb
             have n0_ := Aside0.mk (bz_ BK498 hb)
             have n1_ := Aside0.mk (bz_ BK503 hb)
             have n2_ := Aside0.mk (bz_ BK508 hb)
             have n3_ := Aside0.mk (bs_ HB.out hb)
             have n4_ := Aside0.mk (hbox)
             have n5_ := Aside0.mk ((by rw [hg]; exact (bw_ HB.out) : w.heap.size ≤ gb516))
             have n6_ := Aside0.mk ((by rw [hg]; exact (bw_ HB.out) : w.heap.size ≤ gb516))
             have n7_ := Aside0.mk (nz_ BK498 hg)
             have n8_ := Aside0.mk ((by rw [hg]; exact Nat.ne_of_gt (blk_lt (g := gb498) (o := .cells #[.int .i64 t494, .int .i64 t495, .int .i64 t496] 23 (0, 0)) (pk_ BK498.out)) : gb516 ≠ gb498))
             have n9_ := Aside0.mk (nz_ BK503 hg)
             have n10_ := Aside0.mk ((by rw [hg]; exact Nat.ne_of_gt (blk_lt (g := gb503) (o := .cells #[.int .i64 t499, .int .i64 t500, .int .i64 t501] 23 (0, 0)) (pk_ BK503.out)) : gb516 ≠ gb503))
             have n11_ := Aside0.mk (nz_ BK508 hg)
             have n12_ := Aside0.mk ((by rw [hg]; exact Nat.ne_of_gt (blk_lt (g := gb508) (o := .cells #[.int .i64 t504, .int .i64 t505, .int .i64 t506] 23 (0, 0)) (pk_ BK508.out)) : gb516 ≠ gb508))
             clear BK498
             clear BK503
             clear BK508
             clear HB
             have BK498 := n0_
             have BK503 := n1_
             have BK508 := n2_
             have HB := n3_
             have BK516 := n4_
             have GW516 := n5_
             have GE516 := n6_
             have NB498_516 := n7_
             have NB516_498 := n8_
             have NB503_516 := n9_
             have NB516_503 := n10_
             have NB508_516 := n11_
             have NB516_508 := n12_
             clear n0_ n1_ n2_ n3_ n4_ n5_ n6_ n7_ n8_ n9_ n10_ n11_ n12_
             clear hb hbox hg
             refine hK.out _ _ ⟨(blk_cell BK498.out 0).trans rfl, (blk_cell BK498.out 1).trans rfl, (blk_cell BK498.out 2).trans rfl⟩ (fun hHeld => ?_)
             clear hK K
             refine norm_ (a' := ?_) ?_ ?_
             rotate_left
             ·show Act.put _ (some 12) _ = _
              simp only [Act.put, List.setIfInBounds_toArray, List.set_cons_zero, List.set_cons_succ, i64_w, i32_w]
              rfl
             exact norm_ (by simp only [putAll, Act.put, List.setIfInBounds_toArray, List.set_cons_zero, List.set_cons_succ]) (hCont (gb516) _ ⟨hHeld, (pk_ BK498.out), (pk_ BK503.out), (pk_ BK508.out), (pk_ BK516.out), GW516.out, GE516.out, NB498_516.out, NB516_498.out, NB503_516.out, NB516_503.out, NB508_516.out, NB516_508.out, (by repeat (first | (with_reducible first | exact HB.out | apply below_alloc | apply pw_below_drewN | apply below_drew1 | refine below_set ?_ GE498.out | refine below_set ?_ GE503.out | refine below_set ?_ GE508.out | refine below_set ?_ GE516.out) | exact HB.out))⟩)
            ·skip
             refine box_step ?hg (N := 12) ?hd (cs := #[.int .i64 0, .int .i64 0, .int .i64 0]) (t := 23) ?hr ?_; (case hd => rfl); (case hg => rfl); (case hr => first | (go_simp; done) | (go_simp; rfl))
             intro gb516 hg w47 hbox hb
             have n0_ := Aside0.mk (bz_ BK498 hb)
             have n1_ := Aside0.mk (bz_ BK503 hb)
             have n2_ := Aside0.mk (bz_ BK508 hb)
             have n3_ := Aside0.mk (bs_ HB.out hb)
             have n4_ := Aside0.mk (hbox)
             have n5_ := Aside0.mk ((by rw [hg]; exact (bw_ HB.out) : w.heap.size ≤ gb516))
             have n6_ := Aside0.mk ((by rw [hg]; exact (bw_ HB.out) : w.heap.size ≤ gb516))
             have n7_ := Aside0.mk (nz_ BK498 hg)
             have n8_ := Aside0.mk ((by rw [hg]; exact Nat.ne_of_gt (blk_lt (g := gb498) (o := .cells #[.int .i64 t494, .int .i64 t495, .int .i64 t496] 23 (0, 0)) (pk_ BK498.out)) : gb516 ≠ gb498))
             have n9_ := Aside0.mk (nz_ BK503 hg)
             have n10_ := Aside0.mk ((by rw [hg]; exact Nat.ne_of_gt (blk_lt (g := gb503) (o := .cells #[.int .i64 t499, .int .i64 t500, .int .i64 t501] 23 (0, 0)) (pk_ BK503.out)) : gb516 ≠ gb503))
             have n11_ := Aside0.mk (nz_ BK508 hg)
             have n12_ := Aside0.mk ((by rw [hg]; exact Nat.ne_of_gt (blk_lt (g := gb508) (o := .cells #[.int .i64 t504, .int .i64 t505, .int .i64 t506] 23 (0, 0)) (pk_ BK508.out)) : gb516 ≠ gb508))
             clear BK498
             clear BK503
             clear BK508
             clear HB
             have BK498 := n0_
             have BK503 := n1_
             have BK508 := n2_
             have HB := n3_
             have BK516 := n4_
             have GW516 := n5_
             have GE516 := n6_
             have NB498_516 := n7_
             have NB516_498 := n8_
             have NB503_516 := n9_
             have NB516_503 := n10_
             have NB508_516 := n11_
             have NB516_508 := n12_
             clear n0_ n1_ n2_ n3_ n4_ n5_ n6_ n7_ n8_ n9_ n10_ n11_ n12_
             clear hb hbox hg
             refine hK.out _ _ ⟨(blk_cell BK498.out 0).trans rfl, (blk_cell BK498.out 1).trans rfl, (blk_cell BK498.out 2).trans rfl⟩ (fun hHeld => ?_)
             clear hK K
             refine norm_ (a' := ?_) ?_ ?_
             rotate_left
             ·show Act.put _ (some 12) _ = _
              simp only [Act.put, List.setIfInBounds_toArray, List.set_cons_zero, List.set_cons_succ, i64_w, i32_w]
              rfl
             refine one_ (i := 4) (N := some 86) #[true, true, true, true, true, false, false, false, true, false, false] rfl rfl (one_of HT_.out (by kernel_rfl)) (by decide) (fun K hK => ?_)
             refine goes_ Try.func26 (by kernel_rfl) rfl #[.agg #[.int .i64 t494, .int .i64 t495, .int .i64 t496], .string (t497.extract 0 (x11_31 : Int).toNat)] (by rfl) rfl rfl (by (try simp only [List.map_toArray, List.map_cons, List.map_nil]); first | done | rfl | (simp only [List.length_drop, List.length_take]; rfl)) ?_
             with_reducible refine (impl_FeedMix.calls kj31 t494 t495 t496 (t497.extract 0 (x11_31 : Int).toNat) t512 t513 t514 t515 _ A37.out).mono ?_
             rintro e w48 ⟨rfl, hb⟩
             refine ⟨_, rfl, ?_⟩
             have n0_ := Aside0.mk (bz_ BK498 hb)
             have n1_ := Aside0.mk (bz_ BK503 hb)
             have n2_ := Aside0.mk (bz_ BK508 hb)
             have n3_ := Aside0.mk (bz_ BK516 hb)
             have n4_ := Aside0.mk (bs_ HB.out hb)
             clear BK498
             clear BK503
             clear BK508
             clear BK516
             clear HB
             have BK498 := n0_
             have BK503 := n1_
             have BK508 := n2_
             have BK516 := n3_
             have HB := n4_
             clear n0_ n1_ n2_ n3_ n4_
             (try clear hb)
             (try clear hb2)
             (try clear hk)
             (try clear hi)
             refine hK.out _ _ ⟨(blk_cell BK498.out 0).trans rfl, (blk_cell BK498.out 1).trans rfl, (blk_cell BK498.out 2).trans rfl⟩ (fun hHeld => ?_)
             clear hK K
             refine norm_ (a' := ?_) ?_ ?_
             rotate_left
             ·show Act.put _ (some 86) _ = _
              simp only [Act.put, List.setIfInBounds_toArray, List.set_cons_zero, List.set_cons_succ, i64_w, i32_w]
              rfl
             refine pure_ (i := 5) (N := some 81) (v := ?_) (a' := ?_) #[true, true, true, true, true, true, false, false, true, false, false] rfl rfl (any_of HT_.out (by kernel_rfl)) (fun _ _ _ h => h) (Or.inl ⟨by rfl, ?_⟩) ?_ ?_
             rotate_left
             ·intro w'
              go_simp
              with_reducible rfl
             rotate_left
             ·simp only [Act.put, List.setIfInBounds_toArray, List.set_cons_zero, List.set_cons_succ, i64_w, i32_w]
              rfl
             refine pure_ (i := 6) (N := some 87) (v := ?_) (a' := ?_) #[true, true, true, true, true, true, true, false, true, false, false] rfl rfl (any_of HT_.out (by kernel_rfl)) (fun _ _ _ h => h) (Or.inl ⟨by rfl, ?_⟩) ?_ ?_
             rotate_left
             ·intro w'
              go_simp
              with_reducible rfl
             rotate_left
             ·simp only [Act.put, List.setIfInBounds_toArray, List.set_cons_zero, List.set_cons_succ, i64_w, i32_w]
              rfl
             refine pure_ (i := 7) (N := some 88) (v := ?_) (a' := ?_) #[true, true, true, true, true, true, true, true, true, false, false] rfl rfl (any_of HT_.out (by kernel_rfl)) (fun _ _ _ h => h) (Or.inl ⟨by rfl, ?_⟩) ?_ ?_
             rotate_left
             ·intro w'
              go_simp
              with_reducible rfl
             rotate_left
             ·simp only [Act.put, List.setIfInBounds_toArray, List.set_cons_zero, List.set_cons_succ, i64_w, i32_w]
              rfl
             exact norm_ (by simp only [putAll, Act.put, List.setIfInBounds_toArray, List.set_cons_zero, List.set_cons_succ]) (hCont (gb516) _ ⟨hHeld, (pk_ BK498.out), (pk_ BK503.out), (pk_ BK508.out), (pk_ BK516.out), GW516.out, GE516.out, NB498_516.out, NB516_498.out, NB503_516.out, NB516_503.out, NB508_516.out, NB516_508.out, (by repeat (first | (with_reducible first | exact HB.out | apply below_alloc | apply pw_below_drewN | apply below_drew1 | refine below_set ?_ GE498.out | refine below_set ?_ GE503.out | refine below_set ?_ GE508.out | refine below_set ?_ GE516.out) | exact HB.out))⟩)
           rintro gb516 w49 ⟨hS_, h0_, h1_, h2_, h3_, h4_, h5_, h6_, h7_, h8_, h9_, h10_, h11_, h12_⟩
           have n0_ : Aside0 (w49.heap[gb498]? = some (.cells #[.int .i64 t494, .int .i64 t495, .int .i64 t496] 23 (0, 0))) := ⟨h0_⟩
           have n1_ : Aside0 (w49.heap[gb503]? = some (.cells #[.int .i64 t499, .int .i64 t500, .int .i64 t501] 23 (0, 0))) := ⟨h1_⟩
           have n2_ : Aside0 (w49.heap[gb508]? = some (.cells #[.int .i64 t504, .int .i64 t505, .int .i64 t506] 23 (0, 0))) := ⟨h2_⟩
           have n3_ : Aside0 (w49.heap[gb516]? = some (.cells #[.int .i64 0, .int .i64 0, .int .i64 0] 23 (0, 0))) := ⟨h3_⟩
           have n4_ : Aside0 (w.heap.size ≤ gb516) := ⟨h4_⟩
           have n5_ : Aside0 (w.heap.size ≤ gb516) := ⟨h5_⟩
           have n6_ : Aside0 (gb498 ≠ gb516) := ⟨h6_⟩
           have n7_ : Aside0 (gb516 ≠ gb498) := ⟨h7_⟩
           have n8_ : Aside0 (gb503 ≠ gb516) := ⟨h8_⟩
           have n9_ : Aside0 (gb516 ≠ gb503) := ⟨h9_⟩
           have n10_ : Aside0 (gb508 ≠ gb516) := ⟨h10_⟩
           have n11_ : Aside0 (gb516 ≠ gb508) := ⟨h11_⟩
           have n12_ : Aside0 (Below w.heap.size w w49) := ⟨h12_⟩
           clear BK498
           clear BK503
           clear BK508
           clear HB
           clear h0_ h1_ h2_ h3_ h4_ h5_ h6_ h7_ h8_ h9_ h10_ h11_ h12_
           have BK498 := n0_
           have BK503 := n1_
           have BK508 := n2_
           have BK516 := n3_
           have GW516 := n4_
           have GE516 := n5_
           have NB498_516 := n6_
           have NB516_498 := n7_
           have NB503_516 := n8_
           have NB516_503 := n9_
           have NB508_516 := n10_
           have NB516_508 := n11_
           have HB := n12_
           clear n0_ n1_ n2_ n3_ n4_ n5_ n6_ n7_ n8_ n9_ n10_ n11_ n12_
           have hHeld : w49.cell? ⟨gb498, 0, none⟩ = some (.int .i64 t494) ∧ w49.cell? ⟨gb498, 1, none⟩ = some (.int .i64 t495) ∧ w49.cell? ⟨gb498, 2, none⟩ = some (.int .i64 t496) := hS_
           refine norm_ (a' := ?_) ?_ ?_
           rotate_left
           ·simp only [putAll, Act.put, List.setIfInBounds_toArray, List.set_cons_zero, List.set_cons_succ]
            rfl
           refine one_ (i := 9) (N := none) #[true, true, true, true, true, true, true, true, true, true, false] rfl rfl (one_of HT_.out (by kernel_rfl)) (by decide) (fun K hK => ?_)
           have hs50 : w49.cell? ⟨gb516, 0, none⟩ = some (.int .i64 0) := (blk_cell BK516.out 0).trans rfl
           have hfs50 := blk_frozen BK516.out 0
           have hns50_0 := NB498_516.out
           have hns50_1 := NB503_516.out
           have hns50_2 := NB508_516.out
           have hms50_0 := NB516_498.out
           have hms50_1 := NB516_503.out
           have hms50_2 := NB516_508.out
           have hs51 : w49.cell? ⟨gb516, 1, none⟩ = some (.int .i64 0) := (blk_cell BK516.out 1).trans rfl
           have hfs51 := blk_frozen BK516.out 1
           have hns51_0 := NB498_516.out
           have hns51_1 := NB503_516.out
           have hns51_2 := NB508_516.out
           have hms51_0 := NB516_498.out
           have hms51_1 := NB516_503.out
           have hms51_2 := NB516_508.out
           have hs52 : w49.cell? ⟨gb516, 2, none⟩ = some (.int .i64 0) := (blk_cell BK516.out 2).trans rfl
           have hfs52 := blk_frozen BK516.out 2
           have hns52_0 := NB498_516.out
           have hns52_1 := NB503_516.out
           have hns52_2 := NB508_516.out
           have hms52_0 := NB516_498.out
           have hms52_1 := NB516_503.out
           have hms52_2 := NB516_508.out
           refine skip_ (w1 := ?_) (by rfl) rfl ?_ ?_
           rotate_left
           ·go_simp
            rfl
           refine hK.out _ _ ⟨((cell_far (p := ⟨gb516, _, none⟩) NB498_516.out _).trans (((cell_far (p := ⟨gb516, _, none⟩) NB498_516.out _).trans (((cell_far (p := ⟨gb516, _, none⟩) NB498_516.out _).trans (hHeld.1)))))), ((cell_far (p := ⟨gb516, _, none⟩) NB498_516.out _).trans (((cell_far (p := ⟨gb516, _, none⟩) NB498_516.out _).trans (((cell_far (p := ⟨gb516, _, none⟩) NB498_516.out _).trans (hHeld.2.1)))))), ((cell_far (p := ⟨gb516, _, none⟩) NB498_516.out _).trans (((cell_far (p := ⟨gb516, _, none⟩) NB498_516.out _).trans (((cell_far (p := ⟨gb516, _, none⟩) NB498_516.out _).trans (hHeld.2.2))))))⟩ (fun hHeld => ?_)
           clear hK K
           refine pure_ (i := 10) (N := some 13) (v := ?_) (a' := ?_) #[true, true, true, true, true, true, true, true, true, true, true] rfl rfl (any_of HT_.out (by kernel_rfl)) (fun _ _ _ h => h) (Or.inl ⟨by rfl, ?_⟩) ?_ ?_
           rotate_left
           ·intro w'
            go_simp
            with_reducible rfl
           rotate_left
           ·simp only [Act.put, List.setIfInBounds_toArray, List.set_cons_zero, List.set_cons_succ, i64_w, i32_w]
            rfl
           refine done_ (done_of HT_.out (by kernel_rfl)) ?_
           try go_wp2
           have n0_ : Aside0 ((((w49.setCell ⟨gb516, 0, none⟩ (.int .i64 t512)).setCell ⟨gb516, 1, none⟩ (.int .i64 t513)).setCell ⟨gb516, 2, none⟩ (.int .i64 t514)).heap[gb498]? = some (.cells #[.int .i64 t494, .int .i64 t495, .int .i64 t496] 23 (0, 0))) := ⟨by (with_reducible repeat (first | refine blk_drewN ?_ _ | refine blk_drew ?_ | refine blk_alloc ?_ _)); refine blk_far ?_ NB498_516.out _; (with_reducible repeat (first | refine blk_drewN ?_ _ | refine blk_drew ?_ | refine blk_alloc ?_ _)); refine blk_far ?_ NB498_516.out _; (with_reducible repeat (first | refine blk_drewN ?_ _ | refine blk_drew ?_ | refine blk_alloc ?_ _)); refine blk_far ?_ NB498_516.out _; (with_reducible repeat (first | refine blk_drewN ?_ _ | refine blk_drew ?_ | refine blk_alloc ?_ _)); exact BK498.out⟩
           have n1_ : Aside0 ((((w49.setCell ⟨gb516, 0, none⟩ (.int .i64 t512)).setCell ⟨gb516, 1, none⟩ (.int .i64 t513)).setCell ⟨gb516, 2, none⟩ (.int .i64 t514)).heap[gb503]? = some (.cells #[.int .i64 t499, .int .i64 t500, .int .i64 t501] 23 (0, 0))) := ⟨by (with_reducible repeat (first | refine blk_drewN ?_ _ | refine blk_drew ?_ | refine blk_alloc ?_ _)); refine blk_far ?_ NB503_516.out _; (with_reducible repeat (first | refine blk_drewN ?_ _ | refine blk_drew ?_ | refine blk_alloc ?_ _)); refine blk_far ?_ NB503_516.out _; (with_reducible repeat (first | refine blk_drewN ?_ _ | refine blk_drew ?_ | refine blk_alloc ?_ _)); refine blk_far ?_ NB503_516.out _; (with_reducible repeat (first | refine blk_drewN ?_ _ | refine blk_drew ?_ | refine blk_alloc ?_ _)); exact BK503.out⟩
           have n2_ : Aside0 ((((w49.setCell ⟨gb516, 0, none⟩ (.int .i64 t512)).setCell ⟨gb516, 1, none⟩ (.int .i64 t513)).setCell ⟨gb516, 2, none⟩ (.int .i64 t514)).heap[gb508]? = some (.cells #[.int .i64 t504, .int .i64 t505, .int .i64 t506] 23 (0, 0))) := ⟨by (with_reducible repeat (first | refine blk_drewN ?_ _ | refine blk_drew ?_ | refine blk_alloc ?_ _)); refine blk_far ?_ NB508_516.out _; (with_reducible repeat (first | refine blk_drewN ?_ _ | refine blk_drew ?_ | refine blk_alloc ?_ _)); refine blk_far ?_ NB508_516.out _; (with_reducible repeat (first | refine blk_drewN ?_ _ | refine blk_drew ?_ | refine blk_alloc ?_ _)); refine blk_far ?_ NB508_516.out _; (with_reducible repeat (first | refine blk_drewN ?_ _ | refine blk_drew ?_ | refine blk_alloc ?_ _)); exact BK508.out⟩
           have n3_ : Aside0 ((((w49.setCell ⟨gb516, 0, none⟩ (.int .i64 t512)).setCell ⟨gb516, 1, none⟩ (.int .i64 t513)).setCell ⟨gb516, 2, none⟩ (.int .i64 t514)).heap[gb516]? = some (.cells #[.int .i64 t512, .int .i64 t513, .int .i64 t514] 23 (0, 0))) := ⟨by (with_reducible repeat (first | refine blk_drewN ?_ _ | refine blk_drew ?_ | refine blk_alloc ?_ _)); refine blk_put (cs := #[.int .i64 t512, .int .i64 t513, .int .i64 0]) ?_ 2 _ rfl; (with_reducible repeat (first | refine blk_drewN ?_ _ | refine blk_drew ?_ | refine blk_alloc ?_ _)); refine blk_put (cs := #[.int .i64 t512, .int .i64 0, .int .i64 0]) ?_ 1 _ rfl; (with_reducible repeat (first | refine blk_drewN ?_ _ | refine blk_drew ?_ | refine blk_alloc ?_ _)); refine blk_put (cs := #[.int .i64 0, .int .i64 0, .int .i64 0]) ?_ 0 _ rfl; (with_reducible repeat (first | refine blk_drewN ?_ _ | refine blk_drew ?_ | refine blk_alloc ?_ _)); exact BK516.out⟩
           have n4_ : Aside0 (Below w.heap.size w (((w49.setCell ⟨gb516, 0, none⟩ (.int .i64 t512)).setCell ⟨gb516, 1, none⟩ (.int .i64 t513)).setCell ⟨gb516, 2, none⟩ (.int .i64 t514))) := ⟨by repeat (first | (with_reducible first | exact HB.out | apply below_alloc | apply pw_below_drewN | apply below_drew1 | refine below_set ?_ GE498.out | refine below_set ?_ GE503.out | refine below_set ?_ GE508.out | refine below_set ?_ GE516.out) | exact HB.out)⟩
           (try clear BK498)
           (try clear BK503)
           (try clear BK508)
           (try clear BK516)
           (try clear HB)
           generalize (((w49.setCell ⟨gb516, 0, none⟩ (.int .i64 t512)).setCell ⟨gb516, 1, none⟩ (.int .i64 t513)).setCell ⟨gb516, 2, none⟩ (.int .i64 t514)) = w53 at n0_ n1_ n2_ n3_ n4_ ⊢
           have BK498 := n0_
           have BK503 := n1_
           have BK508 := n2_
           have BK516 := n3_
           have HB := n4_
           clear n0_ n1_ n2_ n3_ n4_
           have n0_ := Aside0.mk (blk_drew BK498.out)
           have n1_ := Aside0.mk (blk_drew BK503.out)
           have n2_ := Aside0.mk (blk_drew BK508.out)
           have n3_ := Aside0.mk (blk_drew BK516.out)
           have n4_ := Aside0.mk (below_drew1 HB.out)
           clear BK498
           clear BK503
           clear BK508
           clear BK516
           clear HB
           have BK498 := n0_
           have BK503 := n1_
           have BK508 := n2_
           have BK516 := n3_
           have HB := n4_
           clear n0_ n1_ n2_ n3_ n4_
           refine start_ (n := 11) (S := fun w' => w'.cell? ⟨gb516, 0, none⟩ = some (.int .i64 t512) ∧ w'.cell? ⟨gb516, 1, none⟩ = some (.int .i64 t513) ∧ w'.cell? ⟨gb516, 2, none⟩ = some (.int .i64 t514)) (ds := []) #[false, false, false, false, false, false, false, false, false, false, false] (by kernel_rfl) rfl rfl ⟨(blk_cell BK516.out 0).trans rfl, (blk_cell BK516.out 1).trans rfl, (blk_cell BK516.out 2).trans rfl⟩ (fun hHeld => ?_); refine with_tabW laws_FnMixes.tab11 laws_FnMixes.bits11 (fun HT_ HW_ => ?_)
           generalize w53.drew = w54 at BK498 BK503 BK508 BK516 HB hHeld ⊢
           refine pure_ (i := 1) (N := some 91) (v := ?_) (a' := ?_) #[false, true, false, false, false, false, false, false, false, false, false] rfl rfl (any_of HT_.out (by kernel_rfl)) (fun _ _ _ h => h) (Or.inl ⟨by rfl, ?_⟩) ?_ ?_
           rotate_left
           ·intro w'
            go_simp
            with_reducible rfl
           rotate_left
           ·simp only [Act.put, List.setIfInBounds_toArray, List.set_cons_zero, List.set_cons_succ, i64_w, i32_w]
            rfl
           refine pure_ (i := 2) (N := some 92) (v := ?_) (a' := ?_) #[false, true, true, false, false, false, false, false, false, false, false] rfl rfl (any_of HT_.out (by kernel_rfl)) (fun _ _ _ h => h) (Or.inl ⟨by rfl, ?_⟩) ?_ ?_
           rotate_left
           ·intro w'
            go_simp
            with_reducible rfl
           rotate_left
           ·simp only [Act.put, List.setIfInBounds_toArray, List.set_cons_zero, List.set_cons_succ, i64_w, i32_w]
            rfl
           refine pure_ (i := 3) (N := some 93) (v := ?_) (a' := ?_) #[false, true, true, true, false, false, false, false, false, false, false] rfl rfl (any_of HT_.out (by kernel_rfl)) (fun _ _ _ h => h) (Or.inl ⟨by rfl, ?_⟩) ?_ ?_
           rotate_left
           ·intro w'
            go_simp
            with_reducible rfl
           rotate_left
           ·simp only [Act.put, List.setIfInBounds_toArray, List.set_cons_zero, List.set_cons_succ, i64_w, i32_w]
            rfl
           refine take_ (i := 0) (N := some 90) (v := ?_) (a' := ?_) #[true, true, true, true, false, false, false, false, false, false, false] rfl rfl (take_ofW HT_.out HW_.out (by kernel_rfl)) (fun _ _ _ h => h) (Or.inl ⟨by rfl, ?_⟩) hHeld ?_ ?_
           rotate_left
           ·rintro w' ⟨s0, s1, s2⟩
            go_simp
            with_reducible rfl
           rotate_left
           ·simp only [Act.put, List.setIfInBounds_toArray, List.set_cons_zero, List.set_cons_succ, i64_w, i32_w]
            rfl
           refine join_ (σ := Nat) 2 #[true, true, true, true, true, true, true, true, true, false, false] (fun s_ => [(94, .tuple #[.agg #[.int .i64 t517, .int .i64 t518, .int .i64 t519], .bool t520]), (14, .pointer (some ⟨s_, 0, none⟩)), (89, .tuple #[.agg #[.int .i64 t517, .int .i64 t518, .int .i64 t519], .bool t520]), (95, .agg #[.int .i64 t517, .int .i64 t518, .int .i64 t519]), (96, .bool t520)]) (fun s_ w' => (w'.cell? ⟨gb516, 0, none⟩ = some (.int .i64 t512) ∧ w'.cell? ⟨gb516, 1, none⟩ = some (.int .i64 t513) ∧ w'.cell? ⟨gb516, 2, none⟩ = some (.int .i64 t514)) ∧ (w'.heap[gb498]? = some (.cells #[.int .i64 t494, .int .i64 t495, .int .i64 t496] 23 (0, 0))) ∧ (w'.heap[gb503]? = some (.cells #[.int .i64 t499, .int .i64 t500, .int .i64 t501] 23 (0, 0))) ∧ (w'.heap[gb508]? = some (.cells #[.int .i64 t504, .int .i64 t505, .int .i64 t506] 23 (0, 0))) ∧ (w'.heap[gb516]? = some (.cells #[.int .i64 t512, .int .i64 t513, .int .i64 t514] 23 (0, 0))) ∧ (w'.heap[s_]? = some (.cells #[.int .i64 0, .int .i64 0, .int .i64 0] 23 (0, 0))) ∧ (w.heap.size ≤ s_) ∧ (w.heap.size ≤ s_) ∧ (gb498 ≠ s_) ∧ (s_ ≠ gb498) ∧ (gb503 ≠ s_) ∧ (s_ ≠ gb503) ∧ (gb508 ≠ s_) ∧ (s_ ≠ gb508) ∧ (gb516 ≠ s_) ∧ (s_ ≠ gb516) ∧ (Below w.heap.size w w')) ?_ ?_
           rotate_left
           ·intro hCont
            refine two_ (i := 4) (j := 8) (Ni := some 94) (Nj := some 14) #[true, true, true, true, true, false, false, false, false, false, false] #[true, true, true, true, false, false, false, false, true, false, false] rfl rfl rfl rfl (two_of HT_.out (by kernel_rfl)) (by decide) (by decide) (fun K hK => ?_) (fun K hK => ?_)
            ·skip
             refine goes_ Try.func26 (by kernel_rfl) rfl #[.agg #[.int .i64 t512, .int .i64 t513, .int .i64 t514], .string (t497.extract (x11_31 : Int).toNat t497.size)] (by rfl) rfl rfl (by (try simp only [List.map_toArray, List.map_cons, List.map_nil]); first | done | rfl | (simp only [List.length_drop, List.length_take]; rfl)) ?_
             with_reducible refine (impl_FeedMix.calls kj31 t512 t513 t514 (t497.extract (x11_31 : Int).toNat t497.size) t517 t518 t519 t520 _ A40.out).mono ?_
             rintro e w55 ⟨rfl, hb⟩
             refine ⟨_, rfl, ?_⟩
             have n0_ := Aside0.mk (bz_ BK498 hb)
             have n1_ := Aside0.mk (bz_ BK503 hb)
             have n2_ := Aside0.mk (bz_ BK508 hb)
             have n3_ := Aside0.mk (bz_ BK516 hb)
             have n4_ := Aside0.mk (bs_ HB.out hb)
             clear BK498
             clear BK503
             clear BK508
             clear BK516
             clear HB
             have BK498 := n0_
             have BK503 := n1_
             have BK508 := n2_
             have BK516 := n3_
             have HB := n4_
             clear n0_ n1_ n2_ n3_ n4_
             (try clear hb)
             (try clear hb2)
             (try clear hk)
             (try clear hi)
             refine hK.out _ _ ⟨(blk_cell BK516.out 0).trans rfl, (blk_cell BK516.out 1).trans rfl, (blk_cell BK516.out 2).trans rfl⟩ (fun hHeld => ?_)
             clear hK K
             refine norm_ (a' := ?_) ?_ ?_
             rotate_left
             ·show Act.put _ (some 94) _ = _
              simp only [Act.put, List.setIfInBounds_toArray, List.set_cons_zero, List.set_cons_succ, i64_w, i32_w]
              rfl
             refine pure_ (i := 5) (N := some 89) (v := ?_) (a' := ?_) #[true, true, true, true, true, true, false, false, false, false, false] rfl rfl (any_of HT_.out (by kernel_rfl)) (fun _ _ _ h => h) (Or.inl ⟨by rfl, ?_⟩) ?_ ?_
             rotate_left
             ·intro w'
              go_simp
              with_reducible rfl
             rotate_left
             ·simp only [Act.put, List.setIfInBounds_toArray, List.set_cons_zero, List.set_cons_succ, i64_w, i32_w]
              rfl
             refine pure_ (i := 6) (N := some 95) (v := ?_) (a' := ?_) #[true, true, true, true, true, true, true, false, false, false, false] rfl rfl (any_of HT_.out (by kernel_rfl)) (fun _ _ _ h => h) (Or.inl ⟨by rfl, ?_⟩) ?_ ?_
             rotate_left
             ·intro w'
              go_simp
              with_reducible rfl
             rotate_left
             ·simp only [Act.put, List.setIfInBounds_toArray, List.set_cons_zero, List.set_cons_succ, i64_w, i32_w]
              rfl
             refine pure_ (i := 7) (N := some 96) (v := ?_) (a' := ?_) #[true, true, true, true, true, true, true, true, false, false, false] rfl rfl (any_of HT_.out (by kernel_rfl)) (fun _ _ _ h => h) (Or.inl ⟨by rfl, ?_⟩) ?_ ?_
             rotate_left
             ·intro w'
              go_simp
              with_reducible rfl
             rotate_left
             ·simp only [Act.put, List.setIfInBounds_toArray, List.set_cons_zero, List.set_cons_succ, i64_w, i32_w]
              rfl
             refine one_ (i := 8) (N := some 14) #[true, true, true, true, true, true, true, true, true, false, false] rfl rfl (one_of HT_.out (by kernel_rfl)) (by decide) (fun K hK => ?_)
             refine box_step ?hg (N := 14) ?hd (cs := #[.int .i64 0, .int .i64 0, .int .i64 0]) (t := 23) ?hr ?_; (case hd => rfl); (case hg => rfl); (case hr => first | (go_simp; done) | (go_simp; rfl))
             intro gb521 hg w56 hbox hb
             have n0_ := Aside0.mk (bz_ BK498 hb)
             have n1_ := Aside0.mk (bz_ BK503 hb)
             have n2_ := Aside0.mk (bz_ BK508 hb)
             have n3_ := Aside0.mk (bz_ BK516 hb)
             have n4_ := Aside0.mk (bs_ HB.out hb)
             have n5_ := Aside0.mk (hbox)
             have n6_ := Aside0.mk ((by rw [hg]; exact (bw_ HB.out) : w.heap.size ≤ gb521))
             have n7_ := Aside0.mk ((by rw [hg]; exact (bw_ HB.out) : w.heap.size ≤ gb521))
             have n8_ := Aside0.mk (nz_ BK498 hg)
             have n9_ := Aside0.mk ((by rw [hg]; exact Nat.ne_of_gt (blk_lt (g := gb498) (o := .cells #[.int .i64 t494, .int .i64 t495, .int .i64 t496] 23 (0, 0)) (pk_ BK498.out)) : gb521 ≠ gb498))
             have n10_ := Aside0.mk (nz_ BK503 hg)
             have n11_ := Aside0.mk ((by rw [hg]; exact Nat.ne_of_gt (blk_lt (g := gb503) (o := .cells #[.int .i64 t499, .int .i64 t500, .int .i64 t501] 23 (0, 0)) (pk_ BK503.out)) : gb521 ≠ gb503))
             have n12_ := Aside0.mk (nz_ BK508 hg)
             have n13_ := Aside0.mk ((by rw [hg]; exact Nat.ne_of_gt (blk_lt (g := gb508) (o := .cells #[.int .i64 t504, .int .i64 t505, .int .i64 t506] 23 (0, 0)) (pk_ BK508.out)) : gb521 ≠ gb508))
             have n14_ := Aside0.mk (nz_ BK516 hg)
             have n15_ := Aside0.mk ((by rw [hg]; exact Nat.ne_of_gt (blk_lt (g := gb516) (o := .cells #[.int .i64 t512, .int .i64 t513, .int .i64 t514] 23 (0, 0)) (pk_ BK516.out)) : gb521 ≠ gb516))
             clear BK498
             clear BK503
             clear BK508
             clear BK516
             clear HB
             have BK498 := n0_
             have BK503 := n1_
             have BK508 := n2_
             have BK516 := n3_
             have HB := n4_
             have BK521 := n5_
             have GW521 := n6_
             have GE521 := n7_
             have NB498_521 := n8_
             have NB521_498 := n9_
             have NB503_521 := n10_
             have NB521_503 := n11_
             have NB508_521 := n12_
             have NB521_508 := n13_
             have NB516_521 := n14_
             have NB521_516 := n15_
             clear n0_ n1_ n2_ n3_ n4_ n5_ n6_ n7_ n8_ n9_ n10_ n11_ n12_ n13_ n14_ n15_
             clear hb hbox hg
             refine hK.out _ _ ⟨(blk_cell BK516.out 0).trans rfl, (blk_cell BK516.out 1).trans rfl, (blk_cell BK516.out 2).trans rfl⟩ (fun hHeld => ?_)
             clear hK K
             refine norm_ (a' := ?_) ?_ ?_
             rotate_left
             ·show Act.put _ (some 14) _ = _
              simp only [Act.put, List.setIfInBounds_toArray, List.set_cons_zero, List.set_cons_succ, i64_w, i32_w]
              rfl
             exact norm_ (by simp only [putAll, Act.put, List.setIfInBounds_toArray, List.set_cons_zero, List.set_cons_succ]) (hCont (gb521) _ ⟨hHeld, (pk_ BK498.out), (pk_ BK503.out), (pk_ BK508.out), (pk_ BK516.out), (pk_ BK521.out), GW521.out, GE521.out, NB498_521.out, NB521_498.out, NB503_521.out, NB521_503.out, NB508_521.out, NB521_508.out, NB516_521.out, NB521_516.out, (by repeat (first | (with_reducible first | exact HB.out | apply below_alloc | apply pw_below_drewN | apply below_drew1 | refine below_set ?_ GE498.out | refine below_set ?_ GE503.out | refine below_set ?_ GE508.out | refine below_set ?_ GE516.out | refine below_set ?_ GE521.out) | exact HB.out))⟩)
            ·skip
             refine box_step ?hg (N := 14) ?hd (cs := #[.int .i64 0, .int .i64 0, .int .i64 0]) (t := 23) ?hr ?_; (case hd => rfl); (case hg => rfl); (case hr => first | (go_simp; done) | (go_simp; rfl))
             intro gb521 hg w55 hbox hb
             have n0_ := Aside0.mk (bz_ BK498 hb)
             have n1_ := Aside0.mk (bz_ BK503 hb)
             have n2_ := Aside0.mk (bz_ BK508 hb)
             have n3_ := Aside0.mk (bz_ BK516 hb)
             have n4_ := Aside0.mk (bs_ HB.out hb)
             have n5_ := Aside0.mk (hbox)
             have n6_ := Aside0.mk ((by rw [hg]; exact (bw_ HB.out) : w.heap.size ≤ gb521))
             have n7_ := Aside0.mk ((by rw [hg]; exact (bw_ HB.out) : w.heap.size ≤ gb521))
             have n8_ := Aside0.mk (nz_ BK498 hg)
             have n9_ := Aside0.mk ((by rw [hg]; exact Nat.ne_of_gt (blk_lt (g := gb498) (o := .cells #[.int .i64 t494, .int .i64 t495, .int .i64 t496] 23 (0, 0)) (pk_ BK498.out)) : gb521 ≠ gb498))
             have n10_ := Aside0.mk (nz_ BK503 hg)
             have n11_ := Aside0.mk ((by rw [hg]; exact Nat.ne_of_gt (blk_lt (g := gb503) (o := .cells #[.int .i64 t499, .int .i64 t500, .int .i64 t501] 23 (0, 0)) (pk_ BK503.out)) : gb521 ≠ gb503))
             have n12_ := Aside0.mk (nz_ BK508 hg)
             have n13_ := Aside0.mk ((by rw [hg]; exact Nat.ne_of_gt (blk_lt (g := gb508) (o := .cells #[.int .i64 t504, .int .i64 t505, .int .i64 t506] 23 (0, 0)) (pk_ BK508.out)) : gb521 ≠ gb508))
             have n14_ := Aside0.mk (nz_ BK516 hg)
             have n15_ := Aside0.mk ((by rw [hg]; exact Nat.ne_of_gt (blk_lt (g := gb516) (o := .cells #[.int .i64 t512, .int .i64 t513, .int .i64 t514] 23 (0, 0)) (pk_ BK516.out)) : gb521 ≠ gb516))
             clear BK498
             clear BK503
             clear BK508
             clear BK516
             clear HB
             have BK498 := n0_
             have BK503 := n1_
             have BK508 := n2_
             have BK516 := n3_
             have HB := n4_
             have BK521 := n5_
             have GW521 := n6_
             have GE521 := n7_
             have NB498_521 := n8_
             have NB521_498 := n9_
             have NB503_521 := n10_
             have NB521_503 := n11_
             have NB508_521 := n12_
             have NB521_508 := n13_
             have NB516_521 := n14_
             have NB521_516 := n15_
             clear n0_ n1_ n2_ n3_ n4_ n5_ n6_ n7_ n8_ n9_ n10_ n11_ n12_ n13_ n14_ n15_
             clear hb hbox hg
             refine hK.out _ _ ⟨(blk_cell BK516.out 0).trans rfl, (blk_cell BK516.out 1).trans rfl, (blk_cell BK516.out 2).trans rfl⟩ (fun hHeld => ?_)
             clear hK K
             refine norm_ (a' := ?_) ?_ ?_
             rotate_left
             ·show Act.put _ (some 14) _ = _
              simp only [Act.put, List.setIfInBounds_toArray, List.set_cons_zero, List.set_cons_succ, i64_w, i32_w]
              rfl
             refine one_ (i := 4) (N := some 94) #[true, true, true, true, true, false, false, false, true, false, false] rfl rfl (one_of HT_.out (by kernel_rfl)) (by decide) (fun K hK => ?_)
             refine goes_ Try.func26 (by kernel_rfl) rfl #[.agg #[.int .i64 t512, .int .i64 t513, .int .i64 t514], .string (t497.extract (x11_31 : Int).toNat t497.size)] (by rfl) rfl rfl (by (try simp only [List.map_toArray, List.map_cons, List.map_nil]); first | done | rfl | (simp only [List.length_drop, List.length_take]; rfl)) ?_
             with_reducible refine (impl_FeedMix.calls kj31 t512 t513 t514 (t497.extract (x11_31 : Int).toNat t497.size) t517 t518 t519 t520 _ A40.out).mono ?_
             rintro e w56 ⟨rfl, hb⟩
             refine ⟨_, rfl, ?_⟩
             have n0_ := Aside0.mk (bz_ BK498 hb)
             have n1_ := Aside0.mk (bz_ BK503 hb)
             have n2_ := Aside0.mk (bz_ BK508 hb)
             have n3_ := Aside0.mk (bz_ BK516 hb)
             have n4_ := Aside0.mk (bz_ BK521 hb)
             have n5_ := Aside0.mk (bs_ HB.out hb)
             clear BK498
             clear BK503
             clear BK508
             clear BK516
             clear BK521
             clear HB
             have BK498 := n0_
             have BK503 := n1_
             have BK508 := n2_
             have BK516 := n3_
             have BK521 := n4_
             have HB := n5_
             clear n0_ n1_ n2_ n3_ n4_ n5_
             (try clear hb)
             (try clear hb2)
             (try clear hk)
             (try clear hi)
             refine hK.out _ _ ⟨(blk_cell BK516.out 0).trans rfl, (blk_cell BK516.out 1).trans rfl, (blk_cell BK516.out 2).trans rfl⟩ (fun hHeld => ?_)
             clear hK K
             refine norm_ (a' := ?_) ?_ ?_
             rotate_left
             ·show Act.put _ (some 94) _ = _
              simp only [Act.put, List.setIfInBounds_toArray, List.set_cons_zero, List.set_cons_succ, i64_w, i32_w]
              rfl
             refine pure_ (i := 5) (N := some 89) (v := ?_) (a' := ?_) #[true, true, true, true, true, true, false, false, true, false, false] rfl rfl (any_of HT_.out (by kernel_rfl)) (fun _ _ _ h => h) (Or.inl ⟨by rfl, ?_⟩) ?_ ?_
             rotate_left
             ·intro w'
              go_simp
              with_reducible rfl
             rotate_left
             ·simp only [Act.put, List.setIfInBounds_toArray, List.set_cons_zero, List.set_cons_succ, i64_w, i32_w]
              rfl
             refine pure_ (i := 6) (N := some 95) (v := ?_) (a' := ?_) #[true, true, true, true, true, true, true, false, true, false, false] rfl rfl (any_of HT_.out (by kernel_rfl)) (fun _ _ _ h => h) (Or.inl ⟨by rfl, ?_⟩) ?_ ?_
             rotate_left
             ·intro w'
              go_simp
              with_reducible rfl
             rotate_left
             ·simp only [Act.put, List.setIfInBounds_toArray, List.set_cons_zero, List.set_cons_succ, i64_w, i32_w]
              rfl
             refine pure_ (i := 7) (N := some 96) (v := ?_) (a' := ?_) #[true, true, true, true, true, true, true, true, true, false, false] rfl rfl (any_of HT_.out (by kernel_rfl)) (fun _ _ _ h => h) (Or.inl ⟨by rfl, ?_⟩) ?_ ?_
             rotate_left
             ·intro w'
              go_simp
              with_reducible rfl
             rotate_left
             ·simp only [Act.put, List.setIfInBounds_toArray, List.set_cons_zero, List.set_cons_succ, i64_w, i32_w]
              rfl
             exact norm_ (by simp only [putAll, Act.put, List.setIfInBounds_toArray, List.set_cons_zero, List.set_cons_succ]) (hCont (gb521) _ ⟨hHeld, (pk_ BK498.out), (pk_ BK503.out), (pk_ BK508.out), (pk_ BK516.out), (pk_ BK521.out), GW521.out, GE521.out, NB498_521.out, NB521_498.out, NB503_521.out, NB521_503.out, NB508_521.out, NB521_508.out, NB516_521.out, NB521_516.out, (by repeat (first | (with_reducible first | exact HB.out | apply below_alloc | apply pw_below_drewN | apply below_drew1 | refine below_set ?_ GE498.out | refine below_set ?_ GE503.out | refine below_set ?_ GE508.out | refine below_set ?_ GE516.out | refine below_set ?_ GE521.out) | exact HB.out))⟩)
           rintro gb521 w57 ⟨hS_, h0_, h1_, h2_, h3_, h4_, h5_, h6_, h7_, h8_, h9_, h10_, h11_, h12_, h13_, h14_, h15_⟩
           have n0_ : Aside0 (w57.heap[gb498]? = some (.cells #[.int .i64 t494, .int .i64 t495, .int .i64 t496] 23 (0, 0))) := ⟨h0_⟩
           have n1_ : Aside0 (w57.heap[gb503]? = some (.cells #[.int .i64 t499, .int .i64 t500, .int .i64 t501] 23 (0, 0))) := ⟨h1_⟩
           have n2_ : Aside0 (w57.heap[gb508]? = some (.cells #[.int .i64 t504, .int .i64 t505, .int .i64 t506] 23 (0, 0))) := ⟨h2_⟩
           have n3_ : Aside0 (w57.heap[gb516]? = some (.cells #[.int .i64 t512, .int .i64 t513, .int .i64 t514] 23 (0, 0))) := ⟨h3_⟩
           have n4_ : Aside0 (w57.heap[gb521]? = some (.cells #[.int .i64 0, .int .i64 0, .int .i64 0] 23 (0, 0))) := ⟨h4_⟩
           have n5_ : Aside0 (w.heap.size ≤ gb521) := ⟨h5_⟩
           have n6_ : Aside0 (w.heap.size ≤ gb521) := ⟨h6_⟩
           have n7_ : Aside0 (gb498 ≠ gb521) := ⟨h7_⟩
           have n8_ : Aside0 (gb521 ≠ gb498) := ⟨h8_⟩
           have n9_ : Aside0 (gb503 ≠ gb521) := ⟨h9_⟩
           have n10_ : Aside0 (gb521 ≠ gb503) := ⟨h10_⟩
           have n11_ : Aside0 (gb508 ≠ gb521) := ⟨h11_⟩
           have n12_ : Aside0 (gb521 ≠ gb508) := ⟨h12_⟩
           have n13_ : Aside0 (gb516 ≠ gb521) := ⟨h13_⟩
           have n14_ : Aside0 (gb521 ≠ gb516) := ⟨h14_⟩
           have n15_ : Aside0 (Below w.heap.size w w57) := ⟨h15_⟩
           clear BK498
           clear BK503
           clear BK508
           clear BK516
           clear HB
           clear h0_ h1_ h2_ h3_ h4_ h5_ h6_ h7_ h8_ h9_ h10_ h11_ h12_ h13_ h14_ h15_
           have BK498 := n0_
           have BK503 := n1_
           have BK508 := n2_
           have BK516 := n3_
           have BK521 := n4_
           have GW521 := n5_
           have GE521 := n6_
           have NB498_521 := n7_
           have NB521_498 := n8_
           have NB503_521 := n9_
           have NB521_503 := n10_
           have NB508_521 := n11_
           have NB521_508 := n12_
           have NB516_521 := n13_
           have NB521_516 := n14_
           have HB := n15_
           clear n0_ n1_ n2_ n3_ n4_ n5_ n6_ n7_ n8_ n9_ n10_ n11_ n12_ n13_ n14_ n15_
           have hHeld : w57.cell? ⟨gb516, 0, none⟩ = some (.int .i64 t512) ∧ w57.cell? ⟨gb516, 1, none⟩ = some (.int .i64 t513) ∧ w57.cell? ⟨gb516, 2, none⟩ = some (.int .i64 t514) := hS_
           refine norm_ (a' := ?_) ?_ ?_
           rotate_left
           ·simp only [putAll, Act.put, List.setIfInBounds_toArray, List.set_cons_zero, List.set_cons_succ]
            rfl
           refine one_ (i := 9) (N := none) #[true, true, true, true, true, true, true, true, true, true, false] rfl rfl (one_of HT_.out (by kernel_rfl)) (by decide) (fun K hK => ?_)
           have hs58 : w57.cell? ⟨gb521, 0, none⟩ = some (.int .i64 0) := (blk_cell BK521.out 0).trans rfl
           have hfs58 := blk_frozen BK521.out 0
           have hns58_0 := NB498_521.out
           have hns58_1 := NB503_521.out
           have hns58_2 := NB508_521.out
           have hns58_3 := NB516_521.out
           have hms58_0 := NB521_498.out
           have hms58_1 := NB521_503.out
           have hms58_2 := NB521_508.out
           have hms58_3 := NB521_516.out
           have hs59 : w57.cell? ⟨gb521, 1, none⟩ = some (.int .i64 0) := (blk_cell BK521.out 1).trans rfl
           have hfs59 := blk_frozen BK521.out 1
           have hns59_0 := NB498_521.out
           have hns59_1 := NB503_521.out
           have hns59_2 := NB508_521.out
           have hns59_3 := NB516_521.out
           have hms59_0 := NB521_498.out
           have hms59_1 := NB521_503.out
           have hms59_2 := NB521_508.out
           have hms59_3 := NB521_516.out
           have hs60 : w57.cell? ⟨gb521, 2, none⟩ = some (.int .i64 0) := (blk_cell BK521.out 2).trans rfl
           have hfs60 := blk_frozen BK521.out 2
           have hns60_0 := NB498_521.out
           have hns60_1 := NB503_521.out
           have hns60_2 := NB508_521.out
           have hns60_3 := NB516_521.out
           have hms60_0 := NB521_498.out
           have hms60_1 := NB521_503.out
           have hms60_2 := NB521_508.out
           have hms60_3 := NB521_516.out
           refine skip_ (w1 := ?_) (by rfl) rfl ?_ ?_
           rotate_left
           ·go_simp
            rfl
           refine hK.out _ _ ⟨((cell_far (p := ⟨gb521, _, none⟩) NB516_521.out _).trans (((cell_far (p := ⟨gb521, _, none⟩) NB516_521.out _).trans (((cell_far (p := ⟨gb521, _, none⟩) NB516_521.out _).trans (hHeld.1)))))), ((cell_far (p := ⟨gb521, _, none⟩) NB516_521.out _).trans (((cell_far (p := ⟨gb521, _, none⟩) NB516_521.out _).trans (((cell_far (p := ⟨gb521, _, none⟩) NB516_521.out _).trans (hHeld.2.1)))))), ((cell_far (p := ⟨gb521, _, none⟩) NB516_521.out _).trans (((cell_far (p := ⟨gb521, _, none⟩) NB516_521.out _).trans (((cell_far (p := ⟨gb521, _, none⟩) NB516_521.out _).trans (hHeld.2.2))))))⟩ (fun hHeld => ?_)
           clear hK K
           refine pure_ (i := 10) (N := some 15) (v := ?_) (a' := ?_) #[true, true, true, true, true, true, true, true, true, true, true] rfl rfl (any_of HT_.out (by kernel_rfl)) (fun _ _ _ h => h) (Or.inl ⟨by rfl, ?_⟩) ?_ ?_
           rotate_left
           ·intro w'
            go_simp
            with_reducible rfl
           rotate_left
           ·simp only [Act.put, List.setIfInBounds_toArray, List.set_cons_zero, List.set_cons_succ, i64_w, i32_w]
            rfl
           refine done_ (done_of HT_.out (by kernel_rfl)) ?_
           go_upto_region 14 with (first | ((with_reducible refine gate_callee (f := 26) rfl ?_); refine goesL_ (some 102) rfl rfl Try.func26 (by kernel_rfl) rfl #[.agg #[.int .i64 1, .int .i64 0, .int .i64 0], .string (t497.extract (x11_31 : Int).toNat t497.size)] rfl (by (try simp only [List.map_toArray, List.map_cons, List.map_nil]); first | done | rfl | (simp only [List.length_drop, List.length_take]; rfl)) ?_; (with_reducible refine (impl_FeedMix.calls kj31 1 0 0 (t497.extract (x11_31 : Int).toNat t497.size) t522 t523 t524 t525 _ A43.out).mono ?_); rintro e w61 ⟨rfl, hb⟩; refine ⟨_, rfl, ?_⟩; have n0_ := Aside0.mk (blk_below (g := gb498) (o := .cells #[.int .i64 t494, .int .i64 t495, .int .i64 t496] 23 (0, 0)) (by (with_reducible repeat (first | refine blk_drewN ?_ _ | refine blk_drew ?_ | refine blk_alloc ?_ _)); refine blk_far ?_ NB498_521.out _; (with_reducible repeat (first | refine blk_drewN ?_ _ | refine blk_drew ?_ | refine blk_alloc ?_ _)); refine blk_far ?_ NB498_521.out _; (with_reducible repeat (first | refine blk_drewN ?_ _ | refine blk_drew ?_ | refine blk_alloc ?_ _)); refine blk_far ?_ NB498_521.out _; (with_reducible repeat (first | refine blk_drewN ?_ _ | refine blk_drew ?_ | refine blk_alloc ?_ _)); exact BK498.out) hb); have n1_ := Aside0.mk (blk_below (g := gb503) (o := .cells #[.int .i64 t499, .int .i64 t500, .int .i64 t501] 23 (0, 0)) (by (with_reducible repeat (first | refine blk_drewN ?_ _ | refine blk_drew ?_ | refine blk_alloc ?_ _)); refine blk_far ?_ NB503_521.out _; (with_reducible repeat (first | refine blk_drewN ?_ _ | refine blk_drew ?_ | refine blk_alloc ?_ _)); refine blk_far ?_ NB503_521.out _; (with_reducible repeat (first | refine blk_drewN ?_ _ | refine blk_drew ?_ | refine blk_alloc ?_ _)); refine blk_far ?_ NB503_521.out _; (with_reducible repeat (first | refine blk_drewN ?_ _ | refine blk_drew ?_ | refine blk_alloc ?_ _)); exact BK503.out) hb); have n2_ := Aside0.mk (blk_below (g := gb508) (o := .cells #[.int .i64 t504, .int .i64 t505, .int .i64 t506] 23 (0, 0)) (by (with_reducible repeat (first | refine blk_drewN ?_ _ | refine blk_drew ?_ | refine blk_alloc ?_ _)); refine blk_far ?_ NB508_521.out _; (with_reducible repeat (first | refine blk_drewN ?_ _ | refine blk_drew ?_ | refine blk_alloc ?_ _)); refine blk_far ?_ NB508_521.out _; (with_reducible repeat (first | refine blk_drewN ?_ _ | refine blk_drew ?_ | refine blk_alloc ?_ _)); refine blk_far ?_ NB508_521.out _; (with_reducible repeat (first | refine blk_drewN ?_ _ | refine blk_drew ?_ | refine blk_alloc ?_ _)); exact BK508.out) hb); have n3_ := Aside0.mk (blk_below (g := gb516) (o := .cells #[.int .i64 t512, .int .i64 t513, .int .i64 t514] 23 (0, 0)) (by (with_reducible repeat (first | refine blk_drewN ?_ _ | refine blk_drew ?_ | refine blk_alloc ?_ _)); refine blk_far ?_ NB516_521.out _; (with_reducible repeat (first | refine blk_drewN ?_ _ | refine blk_drew ?_ | refine blk_alloc ?_ _)); refine blk_far ?_ NB516_521.out _; (with_reducible repeat (first | refine blk_drewN ?_ _ | refine blk_drew ?_ | refine blk_alloc ?_ _)); refine blk_far ?_ NB516_521.out _; (with_reducible repeat (first | refine blk_drewN ?_ _ | refine blk_drew ?_ | refine blk_alloc ?_ _)); exact BK516.out) hb); have n4_ := Aside0.mk (blk_below (g := gb521) (o := .cells #[.int .i64 t517, .int .i64 t518, .int .i64 t519] 23 (0, 0)) (by (with_reducible repeat (first | refine blk_drewN ?_ _ | refine blk_drew ?_ | refine blk_alloc ?_ _)); refine blk_put (cs := #[.int .i64 t517, .int .i64 t518, .int .i64 0]) ?_ 2 _ rfl; (with_reducible repeat (first | refine blk_drewN ?_ _ | refine blk_drew ?_ | refine blk_alloc ?_ _)); refine blk_put (cs := #[.int .i64 t517, .int .i64 0, .int .i64 0]) ?_ 1 _ rfl; (with_reducible repeat (first | refine blk_drewN ?_ _ | refine blk_drew ?_ | refine blk_alloc ?_ _)); refine blk_put (cs := #[.int .i64 0, .int .i64 0, .int .i64 0]) ?_ 0 _ rfl; (with_reducible repeat (first | refine blk_drewN ?_ _ | refine blk_drew ?_ | refine blk_alloc ?_ _)); exact BK521.out) hb); have n5_ := Aside0.mk (bs_ HB.out hb); clear BK498; clear BK503; clear BK508; clear BK516; clear BK521; clear HB; have BK498 := n0_; have BK503 := n1_; have BK508 := n2_; have BK516 := n3_; have BK521 := n4_; have HB := n5_; clear n0_ n1_ n2_ n3_ n4_ n5_; (try clear hb); (try clear hb2); (try clear hk); (try clear hi)) | ((with_reducible refine gate_dst (N := 16) rfl ?_); (try (refine gate_guard (by rfl) ?_; dsimp only)); refine box_event ?hg (N := 16) ?hd (cs := #[.int .i64 0, .int .i64 0, .int .i64 0]) (t := 23) ?hr ?_; (case hd => rfl); (case hg => rfl); (case hr => first | (go_simp; done) | (go_simp; rfl)); intro gb526 hg w62 hbox hb; have n0_ := Aside0.mk (bz_ BK498 hb); have n1_ := Aside0.mk (bz_ BK503 hb); have n2_ := Aside0.mk (bz_ BK508 hb); have n3_ := Aside0.mk (bz_ BK516 hb); have n4_ := Aside0.mk (bz_ BK521 hb); have n5_ := Aside0.mk (bs_ HB.out hb); have n6_ := Aside0.mk (hbox); have n7_ := Aside0.mk ((by rw [hg]; exact (bw_ HB.out) : w.heap.size ≤ gb526)); have n8_ := n7_; have n9_ := Aside0.mk (nz_ BK498 hg); have n10_ := Aside0.mk n9_.out.symm; have n11_ := Aside0.mk (nz_ BK503 hg); have n12_ := Aside0.mk n11_.out.symm; have n13_ := Aside0.mk (nz_ BK508 hg); have n14_ := Aside0.mk n13_.out.symm; have n15_ := Aside0.mk (nz_ BK516 hg); have n16_ := Aside0.mk n15_.out.symm; have n17_ := Aside0.mk (nz_ BK521 hg); have n18_ := Aside0.mk n17_.out.symm; clear BK498; clear BK503; clear BK508; clear BK516; clear BK521; clear HB; have BK498 := n0_; have BK503 := n1_; have BK508 := n2_; have BK516 := n3_; have BK521 := n4_; have HB := n5_; have BK526 := n6_; have GW526 := n7_; have GE526 := n8_; have NB498_526 := n9_; have NB526_498 := n10_; have NB503_526 := n11_; have NB526_503 := n12_; have NB508_526 := n13_; have NB526_508 := n14_; have NB516_526 := n15_; have NB526_516 := n16_; have NB521_526 := n17_; have NB526_521 := n18_; clear n0_ n1_ n2_ n3_ n4_ n5_ n6_ n7_ n8_ n9_ n10_ n11_ n12_ n13_ n14_ n15_ n16_ n17_ n18_; clear hb hbox hg; have hnb63 := NB526_498.out; have hnc63 := NB498_526.out; have hnb64 := NB526_503.out; have hnc64 := NB503_526.out; have hnb65 := NB526_508.out; have hnc65 := NB508_526.out; have hnb66 := NB526_516.out; have hnc66 := NB516_526.out; have hnb67 := NB526_521.out; have hnc67 := NB521_526.out; have hcz68_0 : w62.cell? ⟨gb526, 0, none⟩ = some (.int .i64 0) := (blk_cell BK526.out 0).trans rfl; have hcz68_1 : w62.cell? ⟨gb526, 1, none⟩ = some (.int .i64 0) := (blk_cell BK526.out 1).trans rfl; have hcz68_2 : w62.cell? ⟨gb526, 2, none⟩ = some (.int .i64 0) := (blk_cell BK526.out 2).trans rfl; have hfz68_0 := blk_frozen BK526.out 0; have hfz68_1 := blk_frozen BK526.out 1; have hfz68_2 := blk_frozen BK526.out 2; have hnb69 := NB516_498.out; have hnc69 := NB498_516.out; have hnb70 := NB516_503.out; have hnc70 := NB503_516.out; have hnb71 := NB516_508.out; have hnc71 := NB508_516.out; have hnb72 := NB516_521.out; have hnc72 := NB521_516.out; have hcz73_0 : w62.cell? ⟨gb516, 0, none⟩ = some (.int .i64 t512) := (blk_cell BK516.out 0).trans rfl; have hcz73_1 : w62.cell? ⟨gb516, 1, none⟩ = some (.int .i64 t513) := (blk_cell BK516.out 1).trans rfl; have hcz73_2 : w62.cell? ⟨gb516, 2, none⟩ = some (.int .i64 t514) := (blk_cell BK516.out 2).trans rfl; have hfz73_0 := blk_frozen BK516.out 0; have hfz73_1 := blk_frozen BK516.out 1; have hfz73_2 := blk_frozen BK516.out 2) | ((with_reducible refine gate_callee (f := 24) rfl ?_); refine goesL_ (some 108) rfl rfl Try.func24 (by kernel_rfl) rfl #[.agg #[.int .i64 t512, .int .i64 t513, .int .i64 t514], .agg #[.int .i64 t522, .int .i64 t523, .int .i64 t524]] rfl (by (try simp only [List.map_toArray, List.map_cons, List.map_nil]); first | done | rfl | (simp only [List.length_drop, List.length_take]; rfl)) ?_; (with_reducible refine (impl_JoinMixes.calls t512 t513 t514 t522 t523 t524 t527 t528 t529 t530 _ A44.out).mono ?_); rintro e w74 ⟨rfl, hb⟩; refine ⟨_, rfl, ?_⟩; have n0_ := Aside0.mk (blk_below (g := gb498) (o := .cells #[.int .i64 t494, .int .i64 t495, .int .i64 t496] 23 (0, 0)) (by (with_reducible repeat (first | refine blk_drewN ?_ _ | refine blk_drew ?_ | refine blk_alloc ?_ _)); refine blk_far ?_ NB498_526.out _; (with_reducible repeat (first | refine blk_drewN ?_ _ | refine blk_drew ?_ | refine blk_alloc ?_ _)); refine blk_far ?_ NB498_526.out _; (with_reducible repeat (first | refine blk_drewN ?_ _ | refine blk_drew ?_ | refine blk_alloc ?_ _)); refine blk_far ?_ NB498_526.out _; (with_reducible repeat (first | refine blk_drewN ?_ _ | refine blk_drew ?_ | refine blk_alloc ?_ _)); exact BK498.out) hb); have n1_ := Aside0.mk (blk_below (g := gb503) (o := .cells #[.int .i64 t499, .int .i64 t500, .int .i64 t501] 23 (0, 0)) (by (with_reducible repeat (first | refine blk_drewN ?_ _ | refine blk_drew ?_ | refine blk_alloc ?_ _)); refine blk_far ?_ NB503_526.out _; (with_reducible repeat (first | refine blk_drewN ?_ _ | refine blk_drew ?_ | refine blk_alloc ?_ _)); refine blk_far ?_ NB503_526.out _; (with_reducible repeat (first | refine blk_drewN ?_ _ | refine blk_drew ?_ | refine blk_alloc ?_ _)); refine blk_far ?_ NB503_526.out _; (with_reducible repeat (first | refine blk_drewN ?_ _ | refine blk_drew ?_ | refine blk_alloc ?_ _)); exact BK503.out) hb); have n2_ := Aside0.mk (blk_below (g := gb508) (o := .cells #[.int .i64 t504, .int .i64 t505, .int .i64 t506] 23 (0, 0)) (by (with_reducible repeat (first | refine blk_drewN ?_ _ | refine blk_drew ?_ | refine blk_alloc ?_ _)); refine blk_far ?_ NB508_526.out _; (with_reducible repeat (first | refine blk_drewN ?_ _ | refine blk_drew ?_ | refine blk_alloc ?_ _)); refine blk_far ?_ NB508_526.out _; (with_reducible repeat (first | refine blk_drewN ?_ _ | refine blk_drew ?_ | refine blk_alloc ?_ _)); refine blk_far ?_ NB508_526.out _; (with_reducible repeat (first | refine blk_drewN ?_ _ | refine blk_drew ?_ | refine blk_alloc ?_ _)); exact BK508.out) hb); have n3_ := Aside0.mk (blk_below (g := gb516) (o := .cells #[.int .i64 t512, .int .i64 t513, .int .i64 t514] 23 (0, 0)) (by (with_reducible repeat (first | refine blk_drewN ?_ _ | refine blk_drew ?_ | refine blk_alloc ?_ _)); refine blk_far ?_ NB516_526.out _; (with_reducible repeat (first | refine blk_drewN ?_ _ | refine blk_drew ?_ | refine blk_alloc ?_ _)); refine blk_far ?_ NB516_526.out _; (with_reducible repeat (first | refine blk_drewN ?_ _ | refine blk_drew ?_ | refine blk_alloc ?_ _)); refine blk_far ?_ NB516_526.out _; (with_reducible repeat (first | refine blk_drewN ?_ _ | refine blk_drew ?_ | refine blk_alloc ?_ _)); exact BK516.out) hb); have n4_ := Aside0.mk (blk_below (g := gb521) (o := .cells #[.int .i64 t517, .int .i64 t518, .int .i64 t519] 23 (0, 0)) (by (with_reducible repeat (first | refine blk_drewN ?_ _ | refine blk_drew ?_ | refine blk_alloc ?_ _)); refine blk_far ?_ NB521_526.out _; (with_reducible repeat (first | refine blk_drewN ?_ _ | refine blk_drew ?_ | refine blk_alloc ?_ _)); refine blk_far ?_ NB521_526.out _; (with_reducible repeat (first | refine blk_drewN ?_ _ | refine blk_drew ?_ | refine blk_alloc ?_ _)); refine blk_far ?_ NB521_526.out _; (with_reducible repeat (first | refine blk_drewN ?_ _ | refine blk_drew ?_ | refine blk_alloc ?_ _)); exact BK521.out) hb); have n5_ := Aside0.mk (blk_below (g := gb526) (o := .cells #[.int .i64 t522, .int .i64 t523, .int .i64 t524] 23 (0, 0)) (by (with_reducible repeat (first | refine blk_drewN ?_ _ | refine blk_drew ?_ | refine blk_alloc ?_ _)); refine blk_put (cs := #[.int .i64 t522, .int .i64 t523, .int .i64 0]) ?_ 2 _ rfl; (with_reducible repeat (first | refine blk_drewN ?_ _ | refine blk_drew ?_ | refine blk_alloc ?_ _)); refine blk_put (cs := #[.int .i64 t522, .int .i64 0, .int .i64 0]) ?_ 1 _ rfl; (with_reducible repeat (first | refine blk_drewN ?_ _ | refine blk_drew ?_ | refine blk_alloc ?_ _)); refine blk_put (cs := #[.int .i64 0, .int .i64 0, .int .i64 0]) ?_ 0 _ rfl; (with_reducible repeat (first | refine blk_drewN ?_ _ | refine blk_drew ?_ | refine blk_alloc ?_ _)); exact BK526.out) hb); have n6_ := Aside0.mk (bs_ HB.out hb); clear BK498; clear BK503; clear BK508; clear BK516; clear BK521; clear BK526; clear HB; have BK498 := n0_; have BK503 := n1_; have BK508 := n2_; have BK516 := n3_; have BK521 := n4_; have BK526 := n5_; have HB := n6_; clear n0_ n1_ n2_ n3_ n4_ n5_ n6_; (try clear hb); (try clear hb2); (try clear hk); (try clear hi)) | ((with_reducible refine gate_dst (N := 18) rfl ?_); (try (refine gate_guard (by rfl) ?_; dsimp only)); refine box_event ?hg (N := 18) ?hd (cs := #[.int .i64 0, .int .i64 0, .int .i64 0]) (t := 23) ?hr ?_; (case hd => rfl); (case hg => rfl); (case hr => first | (go_simp; done) | (go_simp; rfl)); intro gb531 hg w75 hbox hb; have n0_ := Aside0.mk (bz_ BK498 hb); have n1_ := Aside0.mk (bz_ BK503 hb); have n2_ := Aside0.mk (bz_ BK508 hb); have n3_ := Aside0.mk (bz_ BK516 hb); have n4_ := Aside0.mk (bz_ BK521 hb); have n5_ := Aside0.mk (bz_ BK526 hb); have n6_ := Aside0.mk (bs_ HB.out hb); have n7_ := Aside0.mk (hbox); have n8_ := Aside0.mk ((by rw [hg]; exact (bw_ HB.out) : w.heap.size ≤ gb531)); have n9_ := n8_; have n10_ := Aside0.mk (nz_ BK498 hg); have n11_ := Aside0.mk n10_.out.symm; have n12_ := Aside0.mk (nz_ BK503 hg); have n13_ := Aside0.mk n12_.out.symm; have n14_ := Aside0.mk (nz_ BK508 hg); have n15_ := Aside0.mk n14_.out.symm; have n16_ := Aside0.mk (nz_ BK516 hg); have n17_ := Aside0.mk n16_.out.symm; have n18_ := Aside0.mk (nz_ BK521 hg); have n19_ := Aside0.mk n18_.out.symm; have n20_ := Aside0.mk (nz_ BK526 hg); have n21_ := Aside0.mk n20_.out.symm; clear BK498; clear BK503; clear BK508; clear BK516; clear BK521; clear BK526; clear HB; have BK498 := n0_; have BK503 := n1_; have BK508 := n2_; have BK516 := n3_; have BK521 := n4_; have BK526 := n5_; have HB := n6_; have BK531 := n7_; have GW531 := n8_; have GE531 := n9_; have NB498_531 := n10_; have NB531_498 := n11_; have NB503_531 := n12_; have NB531_503 := n13_; have NB508_531 := n14_; have NB531_508 := n15_; have NB516_531 := n16_; have NB531_516 := n17_; have NB521_531 := n18_; have NB531_521 := n19_; have NB526_531 := n20_; have NB531_526 := n21_; clear n0_ n1_ n2_ n3_ n4_ n5_ n6_ n7_ n8_ n9_ n10_ n11_ n12_ n13_ n14_ n15_ n16_ n17_ n18_ n19_ n20_ n21_; clear hb hbox hg; have hnb76 := NB531_498.out; have hnc76 := NB498_531.out; have hnb77 := NB531_503.out; have hnc77 := NB503_531.out; have hnb78 := NB531_508.out; have hnc78 := NB508_531.out; have hnb79 := NB531_516.out; have hnc79 := NB516_531.out; have hnb80 := NB531_521.out; have hnc80 := NB521_531.out; have hnb81 := NB531_526.out; have hnc81 := NB526_531.out; have hcz82_0 : w75.cell? ⟨gb531, 0, none⟩ = some (.int .i64 0) := (blk_cell BK531.out 0).trans rfl; have hcz82_1 : w75.cell? ⟨gb531, 1, none⟩ = some (.int .i64 0) := (blk_cell BK531.out 1).trans rfl; have hcz82_2 : w75.cell? ⟨gb531, 2, none⟩ = some (.int .i64 0) := (blk_cell BK531.out 2).trans rfl; have hfz82_0 := blk_frozen BK531.out 0; have hfz82_1 := blk_frozen BK531.out 1; have hfz82_2 := blk_frozen BK531.out 2))
           (try simp only [Act.put, List.setIfInBounds_toArray, List.set_cons_zero, List.set_cons_succ])
           go_cut [139] (fun v139 wc => ∃ (kq : Nat) (x139_44 : Bool), v139 = .bool x139_44 ∧ Aside0 (laws_FnMixes.j2 kq l1 x139_44 = some r) ∧ Aside0 (kq ≤ kj31) ∧ Aside0 (wc.heap[gb498]? = some (.cells #[.int .i64 t494, .int .i64 t495, .int .i64 t496] 23 (0, 0))) ∧ Aside0 (wc.heap[gb503]? = some (.cells #[.int .i64 t499, .int .i64 t500, .int .i64 t501] 23 (0, 0))) ∧ Aside0 (wc.heap[gb508]? = some (.cells #[.int .i64 t504, .int .i64 t505, .int .i64 t506] 23 (0, 0))) ∧ Aside0 (wc.heap[gb516]? = some (.cells #[.int .i64 t512, .int .i64 t513, .int .i64 t514] 23 (0, 0))) ∧ Aside0 (wc.heap[gb521]? = some (.cells #[.int .i64 t517, .int .i64 t518, .int .i64 t519] 23 (0, 0))) ∧ Aside0 (wc.heap[gb526]? = some (.cells #[.int .i64 t522, .int .i64 t523, .int .i64 t524] 23 (0, 0))) ∧ Aside0 (wc.heap[gb531]? = some (.cells #[.int .i64 t527, .int .i64 t528, .int .i64 t529] 23 (0, 0))) ∧ Aside0 (Below w.heap.size w wc))
           case first =>
            have H := HC45.out
            clear HC45
            by_cases c83 : t515 = true
            ·subst c83
             have H1 : (if t520 = true then (if (!(t517 == t499) || (!(t518 == t500) || (!(t519 == t501)))) = true then (laws_FnMixes.j2 kj31 l1 true) else (if t525 = true then (if t530 = true then (if (!(t527 == t499) || (!(t528 == t500) || (!(t529 == t501)))) = true then (laws_FnMixes.j2 kj31 l1 true) else ((impl_GoodMix.f t499 t500 t501).bind fun t532 => (laws_FnMixes.j2 kj31 l1 (!t532)))) else (laws_FnMixes.j2 kj31 l1 true)) else (laws_FnMixes.j2 kj31 l1 true))) else (laws_FnMixes.j2 kj31 l1 true)) = some r := by rw [if_pos rfl] at H; exact H
             clear H
             have H := H1
             clear H1
             by_cases c84 : t520 = true
             ·subst c84
              have H1 : (if (!(t517 == t499) || (!(t518 == t500) || (!(t519 == t501)))) = true then (laws_FnMixes.j2 kj31 l1 true) else (if t525 = true then (if t530 = true then (if (!(t527 == t499) || (!(t528 == t500) || (!(t529 == t501)))) = true then (laws_FnMixes.j2 kj31 l1 true) else ((impl_GoodMix.f t499 t500 t501).bind fun t532 => (laws_FnMixes.j2 kj31 l1 (!t532)))) else (laws_FnMixes.j2 kj31 l1 true)) else (laws_FnMixes.j2 kj31 l1 true))) = some r := by rw [if_pos rfl] at H; exact H
              clear H
              have H := H1
              clear H1
              by_cases c85 : (!(t517 == t499) || (!(t518 == t500) || (!(t519 == t501)))) = true
              ·rw [if_pos c85] at H
               have c85b0 : (!(t517 == t499) || (!(t518 == t500) || (!(t519 == t501)))) = true := c85
               clear c85
               (first | rw [c85b0] | (simp only [i64_w, i32_w]; rw [c85b0]) | rw [c85b1] | skip)
               exact (Go.Proofs.Ythkbaaclbjnkiaa.Gen.no_true H (by cases kj31 <;> simp [laws_FnMixes.j2]) HT.out).elim
              ·rw [if_neg c85] at H
               have c85b0 : (!(t517 == t499) || (!(t518 == t500) || (!(t519 == t501)))) = false := by simpa using c85
               clear c85
               (first | rw [c85b0] | (simp only [i64_w, i32_w]; rw [c85b0]) | rw [c85b1] | skip)
               by_cases c86 : t525 = true
               ·subst c86
                have H1 : (if t530 = true then (if (!(t527 == t499) || (!(t528 == t500) || (!(t529 == t501)))) = true then (laws_FnMixes.j2 kj31 l1 true) else ((impl_GoodMix.f t499 t500 t501).bind fun t532 => (laws_FnMixes.j2 kj31 l1 (!t532)))) else (laws_FnMixes.j2 kj31 l1 true)) = some r := by rw [if_pos rfl] at H; exact H
                clear H
                have H := H1
                clear H1
                by_cases c87 : t530 = true
                ·subst c87
                 have H1 : (if (!(t527 == t499) || (!(t528 == t500) || (!(t529 == t501)))) = true then (laws_FnMixes.j2 kj31 l1 true) else ((impl_GoodMix.f t499 t500 t501).bind fun t532 => (laws_FnMixes.j2 kj31 l1 (!t532)))) = some r := by rw [if_pos rfl] at H; exact H
                 clear H
                 have H := H1
                 clear H1
                 by_cases c88 : (!(t527 == t499) || (!(t528 == t500) || (!(t529 == t501)))) = true
                 ·rw [if_pos c88] at H
                  have c88b0 : (!(t527 == t499) || (!(t528 == t500) || (!(t529 == t501)))) = true := c88
                  clear c88
                  exact (Go.Proofs.Ythkbaaclbjnkiaa.Gen.no_true H (by cases kj31 <;> simp [laws_FnMixes.j2]) HT.out).elim
                 ·rw [if_neg c88] at H
                  have c88b0 : (!(t527 == t499) || (!(t528 == t500) || (!(t529 == t501)))) = false := by simpa using c88
                  clear c88
                  replace H := Option.bind_eq_some_iff.mp H
                  obtain ⟨t532, A890, H⟩ := H
                  replace H : (laws_FnMixes.j2 kj31 l1 (!t532)) = some r := H
                  have A89 := Aside0.mk A890
                  clear A890
                  have H' := Aside0.mk H
                  clear H
                  have hnb90 := NB521_498.out
                  have hnc90 := NB498_521.out
                  have hnb91 := NB521_503.out
                  have hnc91 := NB503_521.out
                  have hnb92 := NB521_508.out
                  have hnc92 := NB508_521.out
                  have hnb93 := NB521_516.out
                  have hnc93 := NB516_521.out
                  have hnb94 := NB521_526.out
                  have hnc94 := NB526_521.out
                  have hnb95 := NB521_531.out
                  have hnc95 := NB531_521.out
                  have hcz96_0 : w75.cell? ⟨gb521, 0, none⟩ = some (.int .i64 t517) := (blk_cell BK521.out 0).trans rfl
                  have hcz96_1 : w75.cell? ⟨gb521, 1, none⟩ = some (.int .i64 t518) := (blk_cell BK521.out 1).trans rfl
                  have hcz96_2 : w75.cell? ⟨gb521, 2, none⟩ = some (.int .i64 t519) := (blk_cell BK521.out 2).trans rfl
                  have hfz96_0 := blk_frozen BK521.out 0
                  have hfz96_1 := blk_frozen BK521.out 1
                  have hfz96_2 := blk_frozen BK521.out 2
                  have hnb97 := NB503_498.out
                  have hnc97 := NB498_503.out
                  have hnb98 := NB503_508.out
                  have hnc98 := NB508_503.out
                  have hnb99 := NB503_516.out
                  have hnc99 := NB516_503.out
                  have hnb100 := NB503_526.out
                  have hnc100 := NB526_503.out
                  have hnb101 := NB503_531.out
                  have hnc101 := NB531_503.out
                  have hcz102_0 : w75.cell? ⟨gb503, 0, none⟩ = some (.int .i64 t499) := (blk_cell BK503.out 0).trans rfl
                  have hcz102_1 : w75.cell? ⟨gb503, 1, none⟩ = some (.int .i64 t500) := (blk_cell BK503.out 1).trans rfl
                  have hcz102_2 : w75.cell? ⟨gb503, 2, none⟩ = some (.int .i64 t501) := (blk_cell BK503.out 2).trans rfl
                  have hfz102_0 := blk_frozen BK503.out 0
                  have hfz102_1 := blk_frozen BK503.out 1
                  have hfz102_2 := blk_frozen BK503.out 2
                  have hnb103 := NB531_498.out
                  have hnc103 := NB498_531.out
                  have hnb104 := NB531_508.out
                  have hnc104 := NB508_531.out
                  have hnb105 := NB531_516.out
                  have hnc105 := NB516_531.out
                  have hnb106 := NB531_526.out
                  have hnc106 := NB526_531.out
                  have hcz107_0 : w75.cell? ⟨gb531, 0, none⟩ = some (.int .i64 0) := (blk_cell BK531.out 0).trans rfl
                  have hcz107_1 : w75.cell? ⟨gb531, 1, none⟩ = some (.int .i64 0) := (blk_cell BK531.out 1).trans rfl
                  have hcz107_2 : w75.cell? ⟨gb531, 2, none⟩ = some (.int .i64 0) := (blk_cell BK531.out 2).trans rfl
                  have hfz107_0 := blk_frozen BK531.out 0
                  have hfz107_1 := blk_frozen BK531.out 1
                  have hfz107_2 := blk_frozen BK531.out 2
                  go_wp2_with (first | (go_at_call 20; (with_reducible refine (impl_GoodMix.calls t499 t500 t501 t532 _ A89.out).mono ?_); rintro e w108 ⟨rfl, hb⟩; have n0_ := Aside0.mk (blk_below (g := gb498) (o := .cells #[.int .i64 t494, .int .i64 t495, .int .i64 t496] 23 (0, 0)) (by (with_reducible repeat (first | refine blk_drewN ?_ _ | refine blk_drew ?_ | refine blk_alloc ?_ _)); refine blk_far ?_ NB498_531.out _; (with_reducible repeat (first | refine blk_drewN ?_ _ | refine blk_drew ?_ | refine blk_alloc ?_ _)); refine blk_far ?_ NB498_531.out _; (with_reducible repeat (first | refine blk_drewN ?_ _ | refine blk_drew ?_ | refine blk_alloc ?_ _)); refine blk_far ?_ NB498_531.out _; (with_reducible repeat (first | refine blk_drewN ?_ _ | refine blk_drew ?_ | refine blk_alloc ?_ _)); exact BK498.out) hb); have n1_ := Aside0.mk (blk_below (g := gb503) (o := .cells #[.int .i64 t499, .int .i64 t500, .int .i64 t501] 23 (0, 0)) (by (with_reducible repeat (first | refine blk_drewN ?_ _ | refine blk_drew ?_ | refine blk_alloc ?_ _)); refine blk_far ?_ NB503_531.out _; (with_reducible repeat (first | refine blk_drewN ?_ _ | refine blk_drew ?_ | refine blk_alloc ?_ _)); refine blk_far ?_ NB503_531.out _; (with_reducible repeat (first | refine blk_drewN ?_ _ | refine blk_drew ?_ | refine blk_alloc ?_ _)); refine blk_far ?_ NB503_531.out _; (with_reducible repeat (first | refine blk_drewN ?_ _ | refine blk_drew ?_ | refine blk_alloc ?_ _)); exact BK503.out) hb); have n2_ := Aside0.mk (blk_below (g := gb508) (o := .cells #[.int .i64 t504, .int .i64 t505, .int .i64 t506] 23 (0, 0)) (by (with_reducible repeat (first | refine blk_drewN ?_ _ | refine blk_drew ?_ | refine blk_alloc ?_ _)); refine blk_far ?_ NB508_531.out _; (with_reducible repeat (first | refine blk_drewN ?_ _ | refine blk_drew ?_ | refine blk_alloc ?_ _)); refine blk_far ?_ NB508_531.out _; (with_reducible repeat (first | refine blk_drewN ?_ _ | refine blk_drew ?_ | refine blk_alloc ?_ _)); refine blk_far ?_ NB508_531.out _; (with_reducible repeat (first | refine blk_drewN ?_ _ | refine blk_drew ?_ | refine blk_alloc ?_ _)); exact BK508.out) hb); have n3_ := Aside0.mk (blk_below (g := gb516) (o := .cells #[.int .i64 t512, .int .i64 t513, .int .i64 t514] 23 (0, 0)) (by (with_reducible repeat (first | refine blk_drewN ?_ _ | refine blk_drew ?_ | refine blk_alloc ?_ _)); refine blk_far ?_ NB516_531.out _; (with_reducible repeat (first | refine blk_drewN ?_ _ | refine blk_drew ?_ | refine blk_alloc ?_ _)); refine blk_far ?_ NB516_531.out _; (with_reducible repeat (first | refine blk_drewN ?_ _ | refine blk_drew ?_ | refine blk_alloc ?_ _)); refine blk_far ?_ NB516_531.out _; (with_reducible repeat (first | refine blk_drewN ?_ _ | refine blk_drew ?_ | refine blk_alloc ?_ _)); exact BK516.out) hb); have n4_ := Aside0.mk (blk_below (g := gb521) (o := .cells #[.int .i64 t517, .int .i64 t518, .int .i64 t519] 23 (0, 0)) (by (with_reducible repeat (first | refine blk_drewN ?_ _ | refine blk_drew ?_ | refine blk_alloc ?_ _)); refine blk_far ?_ NB521_531.out _; (with_reducible repeat (first | refine blk_drewN ?_ _ | refine blk_drew ?_ | refine blk_alloc ?_ _)); refine blk_far ?_ NB521_531.out _; (with_reducible repeat (first | refine blk_drewN ?_ _ | refine blk_drew ?_ | refine blk_alloc ?_ _)); refine blk_far ?_ NB521_531.out _; (with_reducible repeat (first | refine blk_drewN ?_ _ | refine blk_drew ?_ | refine blk_alloc ?_ _)); exact BK521.out) hb); have n5_ := Aside0.mk (blk_below (g := gb526) (o := .cells #[.int .i64 t522, .int .i64 t523, .int .i64 t524] 23 (0, 0)) (by (with_reducible repeat (first | refine blk_drewN ?_ _ | refine blk_drew ?_ | refine blk_alloc ?_ _)); refine blk_far ?_ NB526_531.out _; (with_reducible repeat (first | refine blk_drewN ?_ _ | refine blk_drew ?_ | refine blk_alloc ?_ _)); refine blk_far ?_ NB526_531.out _; (with_reducible repeat (first | refine blk_drewN ?_ _ | refine blk_drew ?_ | refine blk_alloc ?_ _)); refine blk_far ?_ NB526_531.out _; (with_reducible repeat (first | refine blk_drewN ?_ _ | refine blk_drew ?_ | refine blk_alloc ?_ _)); exact BK526.out) hb); have n6_ := Aside0.mk (blk_below (g := gb531) (o := .cells #[.int .i64 t527, .int .i64 t528, .int .i64 t529] 23 (0, 0)) (by (with_reducible repeat (first | refine blk_drewN ?_ _ | refine blk_drew ?_ | refine blk_alloc ?_ _)); refine blk_put (cs := #[.int .i64 t527, .int .i64 t528, .int .i64 0]) ?_ 2 _ rfl; (with_reducible repeat (first | refine blk_drewN ?_ _ | refine blk_drew ?_ | refine blk_alloc ?_ _)); refine blk_put (cs := #[.int .i64 t527, .int .i64 0, .int .i64 0]) ?_ 1 _ rfl; (with_reducible repeat (first | refine blk_drewN ?_ _ | refine blk_drew ?_ | refine blk_alloc ?_ _)); refine blk_put (cs := #[.int .i64 0, .int .i64 0, .int .i64 0]) ?_ 0 _ rfl; (with_reducible repeat (first | refine blk_drewN ?_ _ | refine blk_drew ?_ | refine blk_alloc ?_ _)); exact BK531.out) hb); have n7_ := Aside0.mk (bs_ HB.out hb); clear BK498; clear BK503; clear BK508; clear BK516; clear BK521; clear BK526; clear BK531; clear HB; have BK498 := n0_; have BK503 := n1_; have BK508 := n2_; have BK516 := n3_; have BK521 := n4_; have BK526 := n5_; have BK531 := n6_; have HB := n7_; clear n0_ n1_ n2_ n3_ n4_ n5_ n6_ n7_; (try clear hb); (try clear hb2); (try clear hk); (try clear hi)))
                  go_meet
                  case rel => exact ⟨_, (!t532), (by first | rfl | (simp; done) | (simp [*]; done)), H', ⟨by have := HJ6.out; have := HJ31.out; first | omega | exact Nat.le_refl _⟩, ⟨by (with_reducible repeat (first | refine blk_drewN ?_ _ | refine blk_drew ?_ | refine blk_alloc ?_ _)); exact BK498.out⟩, ⟨by (with_reducible repeat (first | refine blk_drewN ?_ _ | refine blk_drew ?_ | refine blk_alloc ?_ _)); exact BK503.out⟩, ⟨by (with_reducible repeat (first | refine blk_drewN ?_ _ | refine blk_drew ?_ | refine blk_alloc ?_ _)); exact BK508.out⟩, ⟨by (with_reducible repeat (first | refine blk_drewN ?_ _ | refine blk_drew ?_ | refine blk_alloc ?_ _)); exact BK516.out⟩, ⟨by (with_reducible repeat (first | refine blk_drewN ?_ _ | refine blk_drew ?_ | refine blk_alloc ?_ _)); exact BK521.out⟩, ⟨by (with_reducible repeat (first | refine blk_drewN ?_ _ | refine blk_drew ?_ | refine blk_alloc ?_ _)); exact BK526.out⟩, ⟨by (with_reducible repeat (first | refine blk_drewN ?_ _ | refine blk_drew ?_ | refine blk_alloc ?_ _)); exact BK531.out⟩, ⟨by repeat (first | (with_reducible first | exact HB.out | apply below_alloc | apply pw_below_drewN | apply below_drew1 | refine below_set ?_ GE498.out | refine below_set ?_ GE503.out | refine below_set ?_ GE508.out | refine below_set ?_ GE516.out | refine below_set ?_ GE521.out | refine below_set ?_ GE526.out | refine below_set ?_ GE531.out) | exact HB.out)⟩⟩
                ·replace c87 := Bool.eq_false_iff.mpr c87
                 subst c87
                 have H1 : (laws_FnMixes.j2 kj31 l1 true) = some r := by rw [if_neg (show ¬ (false = true) by decide)] at H; exact H
                 clear H
                 have H := H1
                 clear H1
                 exact (Go.Proofs.Ythkbaaclbjnkiaa.Gen.no_true H (by cases kj31 <;> simp [laws_FnMixes.j2]) HT.out).elim
               ·replace c86 := Bool.eq_false_iff.mpr c86
                subst c86
                have H1 : (laws_FnMixes.j2 kj31 l1 true) = some r := by rw [if_neg (show ¬ (false = true) by decide)] at H; exact H
                clear H
                have H := H1
                clear H1
                exact (Go.Proofs.Ythkbaaclbjnkiaa.Gen.no_true H (by cases kj31 <;> simp [laws_FnMixes.j2]) HT.out).elim
             ·replace c84 := Bool.eq_false_iff.mpr c84
              subst c84
              have H1 : (laws_FnMixes.j2 kj31 l1 true) = some r := by rw [if_neg (show ¬ (false = true) by decide)] at H; exact H
              clear H
              have H := H1
              clear H1
              exact (Go.Proofs.Ythkbaaclbjnkiaa.Gen.no_true H (by cases kj31 <;> simp [laws_FnMixes.j2]) HT.out).elim
            ·replace c83 := Bool.eq_false_iff.mpr c83
             subst c83
             have H1 : (laws_FnMixes.j2 kj31 l1 true) = some r := by rw [if_neg (show ¬ (false = true) by decide)] at H; exact H
             clear H
             have H := H1
             clear H1
             exact (Go.Proofs.Ythkbaaclbjnkiaa.Gen.no_true H (by cases kj31 <;> simp [laws_FnMixes.j2]) HT.out).elim
           case rest =>
            clear HC45
            try clear hcz68_0; try clear hcz68_1; try clear hcz68_2; try clear hcz73_0; try clear hcz73_1; try clear hcz73_2; try clear hcz82_0; try clear hcz82_1; try clear hcz82_2; try clear hfz68_0; try clear hfz68_1; try clear hfz68_2; try clear hfz73_0; try clear hfz73_1; try clear hfz73_2; try clear hfz82_0; try clear hfz82_1; try clear hfz82_2
            obtain ⟨kq, x139_44, rfl, HA, HJ44, BK498, BK503, BK508, BK516, BK521, BK526, BK531, HB⟩ := hcut
            cases kq with
            | zero => exact absurd HA.out (by simp [laws_FnMixes.j2])
            | succ kj44 =>
             have H := HA.out
             clear HA
             simp only [laws_FnMixes.j2] at H
             by_cases c109 : x139_44 = true
             ·subst c109
              have H1 : (some false) = some r := by rw [if_pos rfl] at H; exact H
              clear H
              have H := H1
              clear H1
              exact absurd HT.out (by have H9 := Option.some.inj H; rw [← H9]; decide)
             ·replace c109 := Bool.eq_false_iff.mpr c109
              subst c109
              have H1 : (laws_FnMixes.j3 kj44 l1) = some r := by rw [if_neg (show ¬ (false = true) by decide)] at H; exact H
              clear H
              have H := H1
              clear H1
              have H' := Aside0.mk H
              clear H
              go_wp2
              go_meet
              case rel => exact ⟨_, H', ⟨by have := HJ6.out; have := HJ31.out; have := HJ44.out; first | omega | exact Nat.le_refl _⟩, ⟨by (with_reducible repeat (first | refine blk_drewN ?_ _ | refine blk_drew ?_ | refine blk_alloc ?_ _)); exact BK498.out⟩, ⟨by (with_reducible repeat (first | refine blk_drewN ?_ _ | refine blk_drew ?_ | refine blk_alloc ?_ _)); exact BK503.out⟩, ⟨by (with_reducible repeat (first | refine blk_drewN ?_ _ | refine blk_drew ?_ | refine blk_alloc ?_ _)); exact BK508.out⟩, ⟨by repeat (first | (with_reducible first | exact HB.out | apply below_alloc | apply pw_below_drewN | apply below_drew1 | refine below_set ?_ GE498.out | refine below_set ?_ GE503.out | refine below_set ?_ GE508.out | refine below_set ?_ GE516.out | refine below_set ?_ GE521.out | refine below_set ?_ GE526.out | refine below_set ?_ GE531.out) | exact HB.out)⟩⟩
          ·rw [if_neg c36] at H
           exact absurd H (by simp)
         ·rw [if_neg c35] at H
          exact absurd H (by simp)
      ·replace c31 := Bool.eq_false_iff.mpr c31
       subst c31
       have H1 : (laws_FnMixes.j3 kj6 l1) = some r := by rw [if_neg (show ¬ (false = true) by decide)] at H; exact H
       clear H
       have H := H1
       clear H1
       have H' := Aside0.mk H
       clear H
       go_wp2
       go_meet
       case rel => exact ⟨_, H', ⟨by have := HJ6.out; first | omega | exact Nat.le_refl _⟩, ⟨by (with_reducible repeat (first | refine blk_drewN ?_ _ | refine blk_drew ?_ | refine blk_alloc ?_ _)); exact BK498.out⟩, ⟨by (with_reducible repeat (first | refine blk_drewN ?_ _ | refine blk_drew ?_ | refine blk_alloc ?_ _)); exact BK503.out⟩, ⟨by (with_reducible repeat (first | refine blk_drewN ?_ _ | refine blk_drew ?_ | refine blk_alloc ?_ _)); exact BK508.out⟩, ⟨by repeat (first | (with_reducible first | exact HB.out | apply below_alloc | apply pw_below_drewN | apply below_drew1 | refine below_set ?_ GE498.out | refine below_set ?_ GE503.out | refine below_set ?_ GE508.out) | exact HB.out)⟩⟩
     case rest =>
      clear HC30
      try clear c3
      obtain ⟨kq, HA, HJ29, BK498, BK503, BK508, HB⟩ := hcut
      cases kq with
      | zero => exact absurd HA.out (by simp [laws_FnMixes.j3])
      | succ kj29 =>
       have H := HA.out
       clear HA
       simp only [laws_FnMixes.j3] at H
       replace H := Option.bind_eq_some_iff.mp H
       obtain ⟨⟨t533, t534, t535, t536, t537, t538⟩, A1100, H⟩ := H
       replace H : ((impl_JoinMixes.f t533 t534 t535 t536 t537 t538).bind fun bt541 => ((spec_JoinMixes.f t533 t534 t535 t536 t537 t538).bind fun bt546 => ((spec_DrawNewMix.f l1).bind fun t551 => (laws_FnMixes.j4 kj29 l1 bt541.2.2.2 bt546.2.2.2 t551 bt541.1 bt541.2.1 bt541.2.2.1 bt546.1 bt546.2.1 bt546.2.2.1)))) = some r := H
       have A110 := Aside0.mk A1100
       clear A1100
       replace H := Option.bind_eq_some_iff.mp H
       obtain ⟨⟨t541, t542, t543, t544⟩, A1110, H⟩ := H
       replace H : ((spec_JoinMixes.f t533 t534 t535 t536 t537 t538).bind fun bt546 => ((spec_DrawNewMix.f l1).bind fun t551 => (laws_FnMixes.j4 kj29 l1 t544 bt546.2.2.2 t551 t541 t542 t543 bt546.1 bt546.2.1 bt546.2.2.1))) = some r := H
       have A111 := Aside0.mk A1110
       clear A1110
       replace H := Option.bind_eq_some_iff.mp H
       obtain ⟨⟨t546, t547, t548, t549⟩, A1120, H⟩ := H
       replace H : ((spec_DrawNewMix.f l1).bind fun t551 => (laws_FnMixes.j4 kj29 l1 t544 t549 t551 t541 t542 t543 t546 t547 t548)) = some r := H
       have A112 := Aside0.mk A1120
       clear A1120
       have HC113 := Aside0.mk H
       clear H
       go_upto_region 19 with (first | ((with_reducible refine gate_callee (f := 29) rfl ?_); refine goesL_ (some 142) rfl rfl Try.func29 (by kernel_rfl) rfl #[.slice A1 l1.length c1] rfl (by (try simp only [List.map_toArray, List.map_cons, List.map_nil]); first | done | rfl | (simp only [List.length_drop, List.length_take]; rfl)) ?_; (with_reducible refine (spec_DrawJoinMixes.calls kj29 _ _ l1 t533 t534 t535 t536 t537 t538 _ ?side1 ?side2 A110.out).mono ?_); (case side1 => repeat (first | exact (Kd.C_below HR1.out HB.out) | (with_reducible refine Kd.C_alloc ?_ _) | (with_reducible refine Kd.C_drewN ?_ _) | (with_reducible refine Kd.C_drew ?_))); (case side2 => exact HC1.out); rintro e w114 ⟨rfl, hb⟩; refine ⟨_, rfl, ?_⟩; have n0_ := Aside0.mk (bz_ BK498 hb); have n1_ := Aside0.mk (bz_ BK503 hb); have n2_ := Aside0.mk (bz_ BK508 hb); have n3_ := Aside0.mk (bs_ HB.out hb); clear BK498; clear BK503; clear BK508; clear HB; have BK498 := n0_; have BK503 := n1_; have BK508 := n2_; have HB := n3_; clear n0_ n1_ n2_ n3_; (try clear hb); (try clear hb2); (try clear hk); (try clear hi)) | ((with_reducible refine gate_dst (N := 20) rfl ?_); (try (refine gate_guard (by rfl) ?_; dsimp only)); refine box_event ?hg (N := 20) ?hd (cs := #[.int .i64 0, .int .i64 0, .int .i64 0]) (t := 23) ?hr ?_; (case hd => rfl); (case hg => rfl); (case hr => first | (go_simp; done) | (go_simp; rfl)); intro gb539 hg w115 hbox hb; have n0_ := Aside0.mk (bz_ BK498 hb); have n1_ := Aside0.mk (bz_ BK503 hb); have n2_ := Aside0.mk (bz_ BK508 hb); have n3_ := Aside0.mk (bs_ HB.out hb); have n4_ := Aside0.mk (hbox); have n5_ := Aside0.mk ((by rw [hg]; exact (bw_ HB.out) : w.heap.size ≤ gb539)); have n6_ := n5_; have n7_ := Aside0.mk (nz_ BK498 hg); have n8_ := Aside0.mk n7_.out.symm; have n9_ := Aside0.mk (nz_ BK503 hg); have n10_ := Aside0.mk n9_.out.symm; have n11_ := Aside0.mk (nz_ BK508 hg); have n12_ := Aside0.mk n11_.out.symm; clear BK498; clear BK503; clear BK508; clear HB; have BK498 := n0_; have BK503 := n1_; have BK508 := n2_; have HB := n3_; have BK539 := n4_; have GW539 := n5_; have GE539 := n6_; have NB498_539 := n7_; have NB539_498 := n8_; have NB503_539 := n9_; have NB539_503 := n10_; have NB508_539 := n11_; have NB539_508 := n12_; clear n0_ n1_ n2_ n3_ n4_ n5_ n6_ n7_ n8_ n9_ n10_ n11_ n12_; clear hb hbox hg) | ((with_reducible refine gate_dst (N := 21) rfl ?_); (try (refine gate_guard (by rfl) ?_; dsimp only)); refine box_event ?hg (N := 21) ?hd (cs := #[.int .i64 0, .int .i64 0, .int .i64 0]) (t := 23) ?hr ?_; (case hd => rfl); (case hg => rfl); (case hr => first | (go_simp; done) | (go_simp; rfl)); intro gb540 hg w116 hbox hb; have n0_ := Aside0.mk (bz_ BK498 hb); have n1_ := Aside0.mk (bz_ BK503 hb); have n2_ := Aside0.mk (bz_ BK508 hb); have n3_ := Aside0.mk (bz_ BK539 hb); have n4_ := Aside0.mk (bs_ HB.out hb); have n5_ := Aside0.mk (hbox); have n6_ := Aside0.mk ((by rw [hg]; exact (bw_ HB.out) : w.heap.size ≤ gb540)); have n7_ := n6_; have n8_ := Aside0.mk (nz_ BK498 hg); have n9_ := Aside0.mk n8_.out.symm; have n10_ := Aside0.mk (nz_ BK503 hg); have n11_ := Aside0.mk n10_.out.symm; have n12_ := Aside0.mk (nz_ BK508 hg); have n13_ := Aside0.mk n12_.out.symm; have n14_ := Aside0.mk (nz_ BK539 hg); have n15_ := Aside0.mk n14_.out.symm; clear BK498; clear BK503; clear BK508; clear BK539; clear HB; have BK498 := n0_; have BK503 := n1_; have BK508 := n2_; have BK539 := n3_; have HB := n4_; have BK540 := n5_; have GW540 := n6_; have GE540 := n7_; have NB498_540 := n8_; have NB540_498 := n9_; have NB503_540 := n10_; have NB540_503 := n11_; have NB508_540 := n12_; have NB540_508 := n13_; have NB539_540 := n14_; have NB540_539 := n15_; clear n0_ n1_ n2_ n3_ n4_ n5_ n6_ n7_ n8_ n9_ n10_ n11_ n12_ n13_ n14_ n15_; clear hb hbox hg; have hnb117 := NB539_498.out; have hnc117 := NB498_539.out; have hnb118 := NB539_503.out; have hnc118 := NB503_539.out; have hnb119 := NB539_508.out; have hnc119 := NB508_539.out; have hnb120 := NB539_540.out; have hnc120 := NB540_539.out; have hcz121_0 : w116.cell? ⟨gb539, 0, none⟩ = some (.int .i64 0) := (blk_cell BK539.out 0).trans rfl; have hcz121_1 : w116.cell? ⟨gb539, 1, none⟩ = some (.int .i64 0) := (blk_cell BK539.out 1).trans rfl; have hcz121_2 : w116.cell? ⟨gb539, 2, none⟩ = some (.int .i64 0) := (blk_cell BK539.out 2).trans rfl; have hfz121_0 := blk_frozen BK539.out 0; have hfz121_1 := blk_frozen BK539.out 1; have hfz121_2 := blk_frozen BK539.out 2; have hnb122 := NB540_498.out; have hnc122 := NB498_540.out; have hnb123 := NB540_503.out; have hnc123 := NB503_540.out; have hnb124 := NB540_508.out; have hnc124 := NB508_540.out; have hcz125_0 : w116.cell? ⟨gb540, 0, none⟩ = some (.int .i64 0) := (blk_cell BK540.out 0).trans rfl; have hcz125_1 : w116.cell? ⟨gb540, 1, none⟩ = some (.int .i64 0) := (blk_cell BK540.out 1).trans rfl; have hcz125_2 : w116.cell? ⟨gb540, 2, none⟩ = some (.int .i64 0) := (blk_cell BK540.out 2).trans rfl; have hfz125_0 := blk_frozen BK540.out 0; have hfz125_1 := blk_frozen BK540.out 1; have hfz125_2 := blk_frozen BK540.out 2) | ((with_reducible refine gate_callee (f := 24) rfl ?_); refine goesL_ (some 148) rfl rfl Try.func24 (by kernel_rfl) rfl #[.agg #[.int .i64 t533, .int .i64 t534, .int .i64 t535], .agg #[.int .i64 t536, .int .i64 t537, .int .i64 t538]] rfl (by (try simp only [List.map_toArray, List.map_cons, List.map_nil]); first | done | rfl | (simp only [List.length_drop, List.length_take]; rfl)) ?_; (with_reducible refine (impl_JoinMixes.calls t533 t534 t535 t536 t537 t538 t541 t542 t543 t544 _ A111.out).mono ?_); rintro e w126 ⟨rfl, hb⟩; refine ⟨_, rfl, ?_⟩; have n0_ := Aside0.mk (blk_below (g := gb498) (o := .cells #[.int .i64 t494, .int .i64 t495, .int .i64 t496] 23 (0, 0)) (by (with_reducible repeat (first | refine blk_drewN ?_ _ | refine blk_drew ?_ | refine blk_alloc ?_ _)); refine blk_far ?_ NB498_540.out _; (with_reducible repeat (first | refine blk_drewN ?_ _ | refine blk_drew ?_ | refine blk_alloc ?_ _)); refine blk_far ?_ NB498_540.out _; (with_reducible repeat (first | refine blk_drewN ?_ _ | refine blk_drew ?_ | refine blk_alloc ?_ _)); refine blk_far ?_ NB498_540.out _; (with_reducible repeat (first | refine blk_drewN ?_ _ | refine blk_drew ?_ | refine blk_alloc ?_ _)); refine blk_far ?_ NB498_539.out _; (with_reducible repeat (first | refine blk_drewN ?_ _ | refine blk_drew ?_ | refine blk_alloc ?_ _)); refine blk_far ?_ NB498_539.out _; (with_reducible repeat (first | refine blk_drewN ?_ _ | refine blk_drew ?_ | refine blk_alloc ?_ _)); refine blk_far ?_ NB498_539.out _; (with_reducible repeat (first | refine blk_drewN ?_ _ | refine blk_drew ?_ | refine blk_alloc ?_ _)); exact BK498.out) hb); have n1_ := Aside0.mk (blk_below (g := gb503) (o := .cells #[.int .i64 t499, .int .i64 t500, .int .i64 t501] 23 (0, 0)) (by (with_reducible repeat (first | refine blk_drewN ?_ _ | refine blk_drew ?_ | refine blk_alloc ?_ _)); refine blk_far ?_ NB503_540.out _; (with_reducible repeat (first | refine blk_drewN ?_ _ | refine blk_drew ?_ | refine blk_alloc ?_ _)); refine blk_far ?_ NB503_540.out _; (with_reducible repeat (first | refine blk_drewN ?_ _ | refine blk_drew ?_ | refine blk_alloc ?_ _)); refine blk_far ?_ NB503_540.out _; (with_reducible repeat (first | refine blk_drewN ?_ _ | refine blk_drew ?_ | refine blk_alloc ?_ _)); refine blk_far ?_ NB503_539.out _; (with_reducible repeat (first | refine blk_drewN ?_ _ | refine blk_drew ?_ | refine blk_alloc ?_ _)); refine blk_far ?_ NB503_539.out _; (with_reducible repeat (first | refine blk_drewN ?_ _ | refine blk_drew ?_ | refine blk_alloc ?_ _)); refine blk_far ?_ NB503_539.out _; (with_reducible repeat (first | refine blk_drewN ?_ _ | refine blk_drew ?_ | refine blk_alloc ?_ _)); exact BK503.out) hb); have n2_ := Aside0.mk (blk_below (g := gb508) (o := .cells #[.int .i64 t504, .int .i64 t505, .int .i64 t506] 23 (0, 0)) (by (with_reducible repeat (first | refine blk_drewN ?_ _ | refine blk_drew ?_ | refine blk_alloc ?_ _)); refine blk_far ?_ NB508_540.out _; (with_reducible repeat (first | refine blk_drewN ?_ _ | refine blk_drew ?_ | refine blk_alloc ?_ _)); refine blk_far ?_ NB508_540.out _; (with_reducible repeat (first | refine blk_drewN ?_ _ | refine blk_drew ?_ | refine blk_alloc ?_ _)); refine blk_far ?_ NB508_540.out _; (with_reducible repeat (first | refine blk_drewN ?_ _ | refine blk_drew ?_ | refine blk_alloc ?_ _)); refine blk_far ?_ NB508_539.out _; (with_reducible repeat (first | refine blk_drewN ?_ _ | refine blk_drew ?_ | refine blk_alloc ?_ _)); refine blk_far ?_ NB508_539.out _; (with_reducible repeat (first | refine blk_drewN ?_ _ | refine blk_drew ?_ | refine blk_alloc ?_ _)); refine blk_far ?_ NB508_539.out _; (with_reducible repeat (first | refine blk_drewN ?_ _ | refine blk_drew ?_ | refine blk_alloc ?_ _)); exact BK508.out) hb); have n3_ := Aside0.mk (blk_below (g := gb539) (o := .cells #[.int .i64 t533, .int .i64 t534, .int .i64 t535] 23 (0, 0)) (by (with_reducible repeat (first | refine blk_drewN ?_ _ | refine blk_drew ?_ | refine blk_alloc ?_ _)); refine blk_far ?_ NB539_540.out _; (with_reducible repeat (first | refine blk_drewN ?_ _ | refine blk_drew ?_ | refine blk_alloc ?_ _)); refine blk_far ?_ NB539_540.out _; (with_reducible repeat (first | refine blk_drewN ?_ _ | refine blk_drew ?_ | refine blk_alloc ?_ _)); refine blk_far ?_ NB539_540.out _; (with_reducible repeat (first | refine blk_drewN ?_ _ | refine blk_drew ?_ | refine blk_alloc ?_ _)); refine blk_put (cs := #[.int .i64 t533, .int .i64 t534, .int .i64 0]) ?_ 2 _ rfl; (with_reducible repeat (first | refine blk_drewN ?_ _ | refine blk_drew ?_ | refine blk_alloc ?_ _)); refine blk_put (cs := #[.int .i64 t533, .int .i64 0, .int .i64 0]) ?_ 1 _ rfl; (with_reducible repeat (first | refine blk_drewN ?_ _ | refine blk_drew ?_ | refine blk_alloc ?_ _)); refine blk_put (cs := #[.int .i64 0, .int .i64 0, .int .i64 0]) ?_ 0 _ rfl; (with_reducible repeat (first | refine blk_drewN ?_ _ | refine blk_drew ?_ | refine blk_alloc ?_ _)); exact BK539.out) hb); have n4_ := Aside0.mk (blk_below (g := gb540) (o := .cells #[.int .i64 t536, .int .i64 t537, .int .i64 t538] 23 (0, 0)) (by (with_reducible repeat (first | refine blk_drewN ?_ _ | refine blk_drew ?_ | refine blk_alloc ?_ _)); refine blk_put (cs := #[.int .i64 t536, .int .i64 t537, .int .i64 0]) ?_ 2 _ rfl; (with_reducible repeat (first | refine blk_drewN ?_ _ | refine blk_drew ?_ | refine blk_alloc ?_ _)); refine blk_put (cs := #[.int .i64 t536, .int .i64 0, .int .i64 0]) ?_ 1 _ rfl; (with_reducible repeat (first | refine blk_drewN ?_ _ | refine blk_drew ?_ | refine blk_alloc ?_ _)); refine blk_put (cs := #[.int .i64 0, .int .i64 0, .int .i64 0]) ?_ 0 _ rfl; (with_reducible repeat (first | refine blk_drewN ?_ _ | refine blk_drew ?_ | refine blk_alloc ?_ _)); refine blk_far ?_ NB540_539.out _; (with_reducible repeat (first | refine blk_drewN ?_ _ | refine blk_drew ?_ | refine blk_alloc ?_ _)); refine blk_far ?_ NB540_539.out _; (with_reducible repeat (first | refine blk_drewN ?_ _ | refine blk_drew ?_ | refine blk_alloc ?_ _)); refine blk_far ?_ NB540_539.out _; (with_reducible repeat (first | refine blk_drewN ?_ _ | refine blk_drew ?_ | refine blk_alloc ?_ _)); exact BK540.out) hb); have n5_ := Aside0.mk (bs_ HB.out hb); clear BK498; clear BK503; clear BK508; clear BK539; clear BK540; clear HB; have BK498 := n0_; have BK503 := n1_; have BK508 := n2_; have BK539 := n3_; have BK540 := n4_; have HB := n5_; clear n0_ n1_ n2_ n3_ n4_ n5_; (try clear hb); (try clear hb2); (try clear hk); (try clear hi)) | ((with_reducible refine gate_dst (N := 22) rfl ?_); (try (refine gate_guard (by rfl) ?_; dsimp only)); refine box_event ?hg (N := 22) ?hd (cs := #[.int .i64 0, .int .i64 0, .int .i64 0]) (t := 23) ?hr ?_; (case hd => rfl); (case hg => rfl); (case hr => first | (go_simp; done) | (go_simp; rfl)); intro gb545 hg w127 hbox hb; have n0_ := Aside0.mk (bz_ BK498 hb); have n1_ := Aside0.mk (bz_ BK503 hb); have n2_ := Aside0.mk (bz_ BK508 hb); have n3_ := Aside0.mk (bz_ BK539 hb); have n4_ := Aside0.mk (bz_ BK540 hb); have n5_ := Aside0.mk (bs_ HB.out hb); have n6_ := Aside0.mk (hbox); have n7_ := Aside0.mk ((by rw [hg]; exact (bw_ HB.out) : w.heap.size ≤ gb545)); have n8_ := n7_; have n9_ := Aside0.mk (nz_ BK498 hg); have n10_ := Aside0.mk n9_.out.symm; have n11_ := Aside0.mk (nz_ BK503 hg); have n12_ := Aside0.mk n11_.out.symm; have n13_ := Aside0.mk (nz_ BK508 hg); have n14_ := Aside0.mk n13_.out.symm; have n15_ := Aside0.mk (nz_ BK539 hg); have n16_ := Aside0.mk n15_.out.symm; have n17_ := Aside0.mk (nz_ BK540 hg); have n18_ := Aside0.mk n17_.out.symm; clear BK498; clear BK503; clear BK508; clear BK539; clear BK540; clear HB; have BK498 := n0_; have BK503 := n1_; have BK508 := n2_; have BK539 := n3_; have BK540 := n4_; have HB := n5_; have BK545 := n6_; have GW545 := n7_; have GE545 := n8_; have NB498_545 := n9_; have NB545_498 := n10_; have NB503_545 := n11_; have NB545_503 := n12_; have NB508_545 := n13_; have NB545_508 := n14_; have NB539_545 := n15_; have NB545_539 := n16_; have NB540_545 := n17_; have NB545_540 := n18_; clear n0_ n1_ n2_ n3_ n4_ n5_ n6_ n7_ n8_ n9_ n10_ n11_ n12_ n13_ n14_ n15_ n16_ n17_ n18_; clear hb hbox hg; have hnb128 := NB545_498.out; have hnc128 := NB498_545.out; have hnb129 := NB545_503.out; have hnc129 := NB503_545.out; have hnb130 := NB545_508.out; have hnc130 := NB508_545.out; have hnb131 := NB545_539.out; have hnc131 := NB539_545.out; have hnb132 := NB545_540.out; have hnc132 := NB540_545.out; have hcz133_0 : w127.cell? ⟨gb545, 0, none⟩ = some (.int .i64 0) := (blk_cell BK545.out 0).trans rfl; have hcz133_1 : w127.cell? ⟨gb545, 1, none⟩ = some (.int .i64 0) := (blk_cell BK545.out 1).trans rfl; have hcz133_2 : w127.cell? ⟨gb545, 2, none⟩ = some (.int .i64 0) := (blk_cell BK545.out 2).trans rfl; have hfz133_0 := blk_frozen BK545.out 0; have hfz133_1 := blk_frozen BK545.out 1; have hfz133_2 := blk_frozen BK545.out 2; have hcz134_0 : w127.cell? ⟨gb539, 0, none⟩ = some (.int .i64 t533) := (blk_cell BK539.out 0).trans rfl; have hcz134_1 : w127.cell? ⟨gb539, 1, none⟩ = some (.int .i64 t534) := (blk_cell BK539.out 1).trans rfl; have hcz134_2 : w127.cell? ⟨gb539, 2, none⟩ = some (.int .i64 t535) := (blk_cell BK539.out 2).trans rfl; have hfz134_0 := blk_frozen BK539.out 0; have hfz134_1 := blk_frozen BK539.out 1; have hfz134_2 := blk_frozen BK539.out 2; have hcz135_0 : w127.cell? ⟨gb540, 0, none⟩ = some (.int .i64 t536) := (blk_cell BK540.out 0).trans rfl; have hcz135_1 : w127.cell? ⟨gb540, 1, none⟩ = some (.int .i64 t537) := (blk_cell BK540.out 1).trans rfl; have hcz135_2 : w127.cell? ⟨gb540, 2, none⟩ = some (.int .i64 t538) := (blk_cell BK540.out 2).trans rfl; have hfz135_0 := blk_frozen BK540.out 0; have hfz135_1 := blk_frozen BK540.out 1; have hfz135_2 := blk_frozen BK540.out 2) | ((with_reducible refine gate_callee (f := 23) rfl ?_); refine goesL_ (some 154) rfl rfl Try.func23 (by kernel_rfl) rfl #[.agg #[.int .i64 t533, .int .i64 t534, .int .i64 t535], .agg #[.int .i64 t536, .int .i64 t537, .int .i64 t538]] rfl (by (try simp only [List.map_toArray, List.map_cons, List.map_nil]); first | done | rfl | (simp only [List.length_drop, List.length_take]; rfl)) ?_; (with_reducible refine (spec_JoinMixes.calls t533 t534 t535 t536 t537 t538 t546 t547 t548 t549 _ A112.out).mono ?_); rintro e w136 ⟨rfl, hb⟩; refine ⟨_, rfl, ?_⟩; have n0_ := Aside0.mk (blk_below (g := gb498) (o := .cells #[.int .i64 t494, .int .i64 t495, .int .i64 t496] 23 (0, 0)) (by (with_reducible repeat (first | refine blk_drewN ?_ _ | refine blk_drew ?_ | refine blk_alloc ?_ _)); refine blk_far ?_ NB498_545.out _; (with_reducible repeat (first | refine blk_drewN ?_ _ | refine blk_drew ?_ | refine blk_alloc ?_ _)); refine blk_far ?_ NB498_545.out _; (with_reducible repeat (first | refine blk_drewN ?_ _ | refine blk_drew ?_ | refine blk_alloc ?_ _)); refine blk_far ?_ NB498_545.out _; (with_reducible repeat (first | refine blk_drewN ?_ _ | refine blk_drew ?_ | refine blk_alloc ?_ _)); exact BK498.out) hb); have n1_ := Aside0.mk (blk_below (g := gb503) (o := .cells #[.int .i64 t499, .int .i64 t500, .int .i64 t501] 23 (0, 0)) (by (with_reducible repeat (first | refine blk_drewN ?_ _ | refine blk_drew ?_ | refine blk_alloc ?_ _)); refine blk_far ?_ NB503_545.out _; (with_reducible repeat (first | refine blk_drewN ?_ _ | refine blk_drew ?_ | refine blk_alloc ?_ _)); refine blk_far ?_ NB503_545.out _; (with_reducible repeat (first | refine blk_drewN ?_ _ | refine blk_drew ?_ | refine blk_alloc ?_ _)); refine blk_far ?_ NB503_545.out _; (with_reducible repeat (first | refine blk_drewN ?_ _ | refine blk_drew ?_ | refine blk_alloc ?_ _)); exact BK503.out) hb); have n2_ := Aside0.mk (blk_below (g := gb508) (o := .cells #[.int .i64 t504, .int .i64 t505, .int .i64 t506] 23 (0, 0)) (by (with_reducible repeat (first | refine blk_drewN ?_ _ | refine blk_drew ?_ | refine blk_alloc ?_ _)); refine blk_far ?_ NB508_545.out _; (with_reducible repeat (first | refine blk_drewN ?_ _ | refine blk_drew ?_ | refine blk_alloc ?_ _)); refine blk_far ?_ NB508_545.out _; (with_reducible repeat (first | refine blk_drewN ?_ _ | refine blk_drew ?_ | refine blk_alloc ?_ _)); refine blk_far ?_ NB508_545.out _; (with_reducible repeat (first | refine blk_drewN ?_ _ | refine blk_drew ?_ | refine blk_alloc ?_ _)); exact BK508.out) hb); have n3_ := Aside0.mk (blk_below (g := gb539) (o := .cells #[.int .i64 t533, .int .i64 t534, .int .i64 t535] 23 (0, 0)) (by (with_reducible repeat (first | refine blk_drewN ?_ _ | refine blk_drew ?_ | refine blk_alloc ?_ _)); refine blk_far ?_ NB539_545.out _; (with_reducible repeat (first | refine blk_drewN ?_ _ | refine blk_drew ?_ | refine blk_alloc ?_ _)); refine blk_far ?_ NB539_545.out _; (with_reducible repeat (first | refine blk_drewN ?_ _ | refine blk_drew ?_ | refine blk_alloc ?_ _)); refine blk_far ?_ NB539_545.out _; (with_reducible repeat (first | refine blk_drewN ?_ _ | refine blk_drew ?_ | refine blk_alloc ?_ _)); exact BK539.out) hb); have n4_ := Aside0.mk (blk_below (g := gb540) (o := .cells #[.int .i64 t536, .int .i64 t537, .int .i64 t538] 23 (0, 0)) (by (with_reducible repeat (first | refine blk_drewN ?_ _ | refine blk_drew ?_ | refine blk_alloc ?_ _)); refine blk_far ?_ NB540_545.out _; (with_reducible repeat (first | refine blk_drewN ?_ _ | refine blk_drew ?_ | refine blk_alloc ?_ _)); refine blk_far ?_ NB540_545.out _; (with_reducible repeat (first | refine blk_drewN ?_ _ | refine blk_drew ?_ | refine blk_alloc ?_ _)); refine blk_far ?_ NB540_545.out _; (with_reducible repeat (first | refine blk_drewN ?_ _ | refine blk_drew ?_ | refine blk_alloc ?_ _)); exact BK540.out) hb); have n5_ := Aside0.mk (blk_below (g := gb545) (o := .cells #[.int .i64 t541, .int .i64 t542, .int .i64 t543] 23 (0, 0)) (by (with_reducible repeat (first | refine blk_drewN ?_ _ | refine blk_drew ?_ | refine blk_alloc ?_ _)); refine blk_put (cs := #[.int .i64 t541, .int .i64 t542, .int .i64 0]) ?_ 2 _ rfl; (with_reducible repeat (first | refine blk_drewN ?_ _ | refine blk_drew ?_ | refine blk_alloc ?_ _)); refine blk_put (cs := #[.int .i64 t541, .int .i64 0, .int .i64 0]) ?_ 1 _ rfl; (with_reducible repeat (first | refine blk_drewN ?_ _ | refine blk_drew ?_ | refine blk_alloc ?_ _)); refine blk_put (cs := #[.int .i64 0, .int .i64 0, .int .i64 0]) ?_ 0 _ rfl; (with_reducible repeat (first | refine blk_drewN ?_ _ | refine blk_drew ?_ | refine blk_alloc ?_ _)); exact BK545.out) hb); have n6_ := Aside0.mk (bs_ HB.out hb); clear BK498; clear BK503; clear BK508; clear BK539; clear BK540; clear BK545; clear HB; have BK498 := n0_; have BK503 := n1_; have BK508 := n2_; have BK539 := n3_; have BK540 := n4_; have BK545 := n5_; have HB := n6_; clear n0_ n1_ n2_ n3_ n4_ n5_ n6_; (try clear hb); (try clear hb2); (try clear hk); (try clear hi)) | ((with_reducible refine gate_dst (N := 24) rfl ?_); (try (refine gate_guard (by rfl) ?_; dsimp only)); refine box_event ?hg (N := 24) ?hd (cs := #[.int .i64 0, .int .i64 0, .int .i64 0]) (t := 23) ?hr ?_; (case hd => rfl); (case hg => rfl); (case hr => first | (go_simp; done) | (go_simp; rfl)); intro gb550 hg w137 hbox hb; have n0_ := Aside0.mk (bz_ BK498 hb); have n1_ := Aside0.mk (bz_ BK503 hb); have n2_ := Aside0.mk (bz_ BK508 hb); have n3_ := Aside0.mk (bz_ BK539 hb); have n4_ := Aside0.mk (bz_ BK540 hb); have n5_ := Aside0.mk (bz_ BK545 hb); have n6_ := Aside0.mk (bs_ HB.out hb); have n7_ := Aside0.mk (hbox); have n8_ := Aside0.mk ((by rw [hg]; exact (bw_ HB.out) : w.heap.size ≤ gb550)); have n9_ := n8_; have n10_ := Aside0.mk (nz_ BK498 hg); have n11_ := Aside0.mk n10_.out.symm; have n12_ := Aside0.mk (nz_ BK503 hg); have n13_ := Aside0.mk n12_.out.symm; have n14_ := Aside0.mk (nz_ BK508 hg); have n15_ := Aside0.mk n14_.out.symm; have n16_ := Aside0.mk (nz_ BK539 hg); have n17_ := Aside0.mk n16_.out.symm; have n18_ := Aside0.mk (nz_ BK540 hg); have n19_ := Aside0.mk n18_.out.symm; have n20_ := Aside0.mk (nz_ BK545 hg); have n21_ := Aside0.mk n20_.out.symm; clear BK498; clear BK503; clear BK508; clear BK539; clear BK540; clear BK545; clear HB; have BK498 := n0_; have BK503 := n1_; have BK508 := n2_; have BK539 := n3_; have BK540 := n4_; have BK545 := n5_; have HB := n6_; have BK550 := n7_; have GW550 := n8_; have GE550 := n9_; have NB498_550 := n10_; have NB550_498 := n11_; have NB503_550 := n12_; have NB550_503 := n13_; have NB508_550 := n14_; have NB550_508 := n15_; have NB539_550 := n16_; have NB550_539 := n17_; have NB540_550 := n18_; have NB550_540 := n19_; have NB545_550 := n20_; have NB550_545 := n21_; clear n0_ n1_ n2_ n3_ n4_ n5_ n6_ n7_ n8_ n9_ n10_ n11_ n12_ n13_ n14_ n15_ n16_ n17_ n18_ n19_ n20_ n21_; clear hb hbox hg; have hnb138 := NB550_498.out; have hnc138 := NB498_550.out; have hnb139 := NB550_503.out; have hnc139 := NB503_550.out; have hnb140 := NB550_508.out; have hnc140 := NB508_550.out; have hnb141 := NB550_539.out; have hnc141 := NB539_550.out; have hnb142 := NB550_540.out; have hnc142 := NB540_550.out; have hnb143 := NB550_545.out; have hnc143 := NB545_550.out; have hcz144_0 : w137.cell? ⟨gb550, 0, none⟩ = some (.int .i64 0) := (blk_cell BK550.out 0).trans rfl; have hcz144_1 : w137.cell? ⟨gb550, 1, none⟩ = some (.int .i64 0) := (blk_cell BK550.out 1).trans rfl; have hcz144_2 : w137.cell? ⟨gb550, 2, none⟩ = some (.int .i64 0) := (blk_cell BK550.out 2).trans rfl; have hfz144_0 := blk_frozen BK550.out 0; have hfz144_1 := blk_frozen BK550.out 1; have hfz144_2 := blk_frozen BK550.out 2))
       (try simp only [Act.put, List.setIfInBounds_toArray, List.set_cons_zero, List.set_cons_succ])
       go_cut [26] (fun v26 wc => ∃ (kq : Nat) (x26_112 : Int), v26 = .int .u8 x26_112 ∧ Aside0 (laws_FnMixes.j4 kq l1 t544 t549 x26_112 t541 t542 t543 t546 t547 t548 = some r) ∧ Aside0 (kq ≤ kj29) ∧ Aside0 (wc.heap[gb498]? = some (.cells #[.int .i64 t494, .int .i64 t495, .int .i64 t496] 23 (0, 0))) ∧ Aside0 (wc.heap[gb503]? = some (.cells #[.int .i64 t499, .int .i64 t500, .int .i64 t501] 23 (0, 0))) ∧ Aside0 (wc.heap[gb508]? = some (.cells #[.int .i64 t504, .int .i64 t505, .int .i64 t506] 23 (0, 0))) ∧ Aside0 (wc.heap[gb539]? = some (.cells #[.int .i64 t533, .int .i64 t534, .int .i64 t535] 23 (0, 0))) ∧ Aside0 (wc.heap[gb540]? = some (.cells #[.int .i64 t536, .int .i64 t537, .int .i64 t538] 23 (0, 0))) ∧ Aside0 (wc.heap[gb545]? = some (.cells #[.int .i64 t541, .int .i64 t542, .int .i64 t543] 23 (0, 0))) ∧ Aside0 (wc.heap[gb550]? = some (.cells #[.int .i64 t546, .int .i64 t547, .int .i64 t548] 23 (0, 0))) ∧ Aside0 (Below w.heap.size w wc))
       case first =>
        have H := HC113.out
        clear HC113
        replace H := Option.bind_eq_some_iff.mp H
        obtain ⟨t551, A1450, H⟩ := H
        replace H : (laws_FnMixes.j4 kj29 l1 t544 t549 t551 t541 t542 t543 t546 t547 t548) = some r := H
        have A145 := Aside0.mk A1450
        clear A1450
        have H' := Aside0.mk H
        clear H
        go_wp2_with (first | ((with_reducible refine gate_callee (f := 30) rfl ?_); refine goesL_ (some 158) rfl rfl Try.func30 (by kernel_rfl) rfl #[.slice A1 l1.length c1] rfl (by (try simp only [List.map_toArray, List.map_cons, List.map_nil]); first | done | rfl | (simp only [List.length_drop, List.length_take]; rfl)) ?_; (with_reducible refine (spec_DrawNewMix.calls _ _ l1 t551 _ ?side1 ?side2 A145.out).mono ?_); (case side1 => exact Kd.C_below HR1.out (by repeat (first | (with_reducible first | exact HB.out | apply below_alloc | apply pw_below_drewN | apply below_drew1 | refine below_set ?_ GE498.out | refine below_set ?_ GE503.out | refine below_set ?_ GE508.out | refine below_set ?_ GE539.out | refine below_set ?_ GE540.out | refine below_set ?_ GE545.out | refine below_set ?_ GE550.out) | exact HB.out))); (case side2 => exact HC1.out); rintro e w146 ⟨rfl, hb⟩; refine ⟨_, rfl, ?_⟩; have n0_ := Aside0.mk (blk_below (g := gb498) (o := .cells #[.int .i64 t494, .int .i64 t495, .int .i64 t496] 23 (0, 0)) (by (with_reducible repeat (first | refine blk_drewN ?_ _ | refine blk_drew ?_ | refine blk_alloc ?_ _)); refine blk_far ?_ NB498_550.out _; (with_reducible repeat (first | refine blk_drewN ?_ _ | refine blk_drew ?_ | refine blk_alloc ?_ _)); refine blk_far ?_ NB498_550.out _; (with_reducible repeat (first | refine blk_drewN ?_ _ | refine blk_drew ?_ | refine blk_alloc ?_ _)); refine blk_far ?_ NB498_550.out _; (with_reducible repeat (first | refine blk_drewN ?_ _ | refine blk_drew ?_ | refine blk_alloc ?_ _)); exact BK498.out) hb); have n1_ := Aside0.mk (blk_below (g := gb503) (o := .cells #[.int .i64 t499, .int .i64 t500, .int .i64 t501] 23 (0, 0)) (by (with_reducible repeat (first | refine blk_drewN ?_ _ | refine blk_drew ?_ | refine blk_alloc ?_ _)); refine blk_far ?_ NB503_550.out _; (with_reducible repeat (first | refine blk_drewN ?_ _ | refine blk_drew ?_ | refine blk_alloc ?_ _)); refine blk_far ?_ NB503_550.out _; (with_reducible repeat (first | refine blk_drewN ?_ _ | refine blk_drew ?_ | refine blk_alloc ?_ _)); refine blk_far ?_ NB503_550.out _; (with_reducible repeat (first | refine blk_drewN ?_ _ | refine blk_drew ?_ | refine blk_alloc ?_ _)); exact BK503.out) hb); have n2_ := Aside0.mk (blk_below (g := gb508) (o := .cells #[.int .i64 t504, .int .i64 t505, .int .i64 t506] 23 (0, 0)) (by (with_reducible repeat (first | refine blk_drewN ?_ _ | refine blk_drew ?_ | refine blk_alloc ?_ _)); refine blk_far ?_ NB508_550.out _; (with_reducible repeat (first | refine blk_drewN ?_ _ | refine blk_drew ?_ | refine blk_alloc ?_ _)); refine blk_far ?_ NB508_550.out _; (with_reducible repeat (first | refine blk_drewN ?_ _ | refine blk_drew ?_ | refine blk_alloc ?_ _)); refine blk_far ?_ NB508_550.out _; (with_reducible repeat (first | refine blk_drewN ?_ _ | refine blk_drew ?_ | refine blk_alloc ?_ _)); exact BK508.out) hb); have n3_ := Aside0.mk (blk_below (g := gb539) (o := .cells #[.int .i64 t533, .int .i64 t534, .int .i64 t535] 23 (0, 0)) (by (with_reducible repeat (first | refine blk_drewN ?_ _ | refine blk_drew ?_ | refine blk_alloc ?_ _)); refine blk_far ?_ NB539_550.out _; (with_reducible repeat (first | refine blk_drewN ?_ _ | refine blk_drew ?_ | refine blk_alloc ?_ _)); refine blk_far ?_ NB539_550.out _; (with_reducible repeat (first | refine blk_drewN ?_ _ | refine blk_drew ?_ | refine blk_alloc ?_ _)); refine blk_far ?_ NB539_550.out _; (with_reducible repeat (first | refine blk_drewN ?_ _ | refine blk_drew ?_ | refine blk_alloc ?_ _)); exact BK539.out) hb); have n4_ := Aside0.mk (blk_below (g := gb540) (o := .cells #[.int .i64 t536, .int .i64 t537, .int .i64 t538] 23 (0, 0)) (by (with_reducible repeat (first | refine blk_drewN ?_ _ | refine blk_drew ?_ | refine blk_alloc ?_ _)); refine blk_far ?_ NB540_550.out _; (with_reducible repeat (first | refine blk_drewN ?_ _ | refine blk_drew ?_ | refine blk_alloc ?_ _)); refine blk_far ?_ NB540_550.out _; (with_reducible repeat (first | refine blk_drewN ?_ _ | refine blk_drew ?_ | refine blk_alloc ?_ _)); refine blk_far ?_ NB540_550.out _; (with_reducible repeat (first | refine blk_drewN ?_ _ | refine blk_drew ?_ | refine blk_alloc ?_ _)); exact BK540.out) hb); have n5_ := Aside0.mk (blk_below (g := gb545) (o := .cells #[.int .i64 t541, .int .i64 t542, .int .i64 t543] 23 (0, 0)) (by (with_reducible repeat (first | refine blk_drewN ?_ _ | refine blk_drew ?_ | refine blk_alloc ?_ _)); refine blk_far ?_ NB545_550.out _; (with_reducible repeat (first | refine blk_drewN ?_ _ | refine blk_drew ?_ | refine blk_alloc ?_ _)); refine blk_far ?_ NB545_550.out _; (with_reducible repeat (first | refine blk_drewN ?_ _ | refine blk_drew ?_ | refine blk_alloc ?_ _)); refine blk_far ?_ NB545_550.out _; (with_reducible repeat (first | refine blk_drewN ?_ _ | refine blk_drew ?_ | refine blk_alloc ?_ _)); exact BK545.out) hb); have n6_ := Aside0.mk (blk_below (g := gb550) (o := .cells #[.int .i64 t546, .int .i64 t547, .int .i64 t548] 23 (0, 0)) (by (with_reducible repeat (first | refine blk_drewN ?_ _ | refine blk_drew ?_ | refine blk_alloc ?_ _)); refine blk_put (cs := #[.int .i64 t546, .int .i64 t547, .int .i64 0]) ?_ 2 _ rfl; (with_reducible repeat (first | refine blk_drewN ?_ _ | refine blk_drew ?_ | refine blk_alloc ?_ _)); refine blk_put (cs := #[.int .i64 t546, .int .i64 0, .int .i64 0]) ?_ 1 _ rfl; (with_reducible repeat (first | refine blk_drewN ?_ _ | refine blk_drew ?_ | refine blk_alloc ?_ _)); refine blk_put (cs := #[.int .i64 0, .int .i64 0, .int .i64 0]) ?_ 0 _ rfl; (with_reducible repeat (first | refine blk_drewN ?_ _ | refine blk_drew ?_ | refine blk_alloc ?_ _)); exact BK550.out) hb); have n7_ := Aside0.mk (bs_ HB.out hb); clear BK498; clear BK503; clear BK508; clear BK539; clear BK540; clear BK545; clear BK550; clear HB; have BK498 := n0_; have BK503 := n1_; have BK508 := n2_; have BK539 := n3_; have BK540 := n4_; have BK545 := n5_; have BK550 := n6_; have HB := n7_; clear n0_ n1_ n2_ n3_ n4_ n5_ n6_ n7_; (try clear hb); (try clear hb2); (try clear hk); (try clear hi)))
        go_meet
        case rel => exact ⟨_, (t551), (by first | rfl | (simp; done) | (simp [*]; done)), H', ⟨by have := HJ6.out; have := HJ29.out; first | omega | exact Nat.le_refl _⟩, ⟨by (with_reducible repeat (first | refine blk_drewN ?_ _ | refine blk_drew ?_ | refine blk_alloc ?_ _)); exact BK498.out⟩, ⟨by (with_reducible repeat (first | refine blk_drewN ?_ _ | refine blk_drew ?_ | refine blk_alloc ?_ _)); exact BK503.out⟩, ⟨by (with_reducible repeat (first | refine blk_drewN ?_ _ | refine blk_drew ?_ | refine blk_alloc ?_ _)); exact BK508.out⟩, ⟨by (with_reducible repeat (first | refine blk_drewN ?_ _ | refine blk_drew ?_ | refine blk_alloc ?_ _)); exact BK539.out⟩, ⟨by (with_reducible repeat (first | refine blk_drewN ?_ _ | refine blk_drew ?_ | refine blk_alloc ?_ _)); exact BK540.out⟩, ⟨by (with_reducible repeat (first | refine blk_drewN ?_ _ | refine blk_drew ?_ | refine blk_alloc ?_ _)); exact BK545.out⟩, ⟨by (with_reducible repeat (first | refine blk_drewN ?_ _ | refine blk_drew ?_ | refine blk_alloc ?_ _)); exact BK550.out⟩, ⟨by repeat (first | (with_reducible first | exact HB.out | apply below_alloc | apply pw_below_drewN | apply below_drew1 | refine below_set ?_ GE498.out | refine below_set ?_ GE503.out | refine below_set ?_ GE508.out | refine below_set ?_ GE539.out | refine below_set ?_ GE540.out | refine below_set ?_ GE545.out | refine below_set ?_ GE550.out) | exact HB.out)⟩⟩
       case rest =>
        clear HC113
        try clear c3; try clear c29; try clear hcz121_0; try clear hcz121_1; try clear hcz121_2; try clear hcz125_0; try clear hcz125_1; try clear hcz125_2; try clear hcz133_0; try clear hcz133_1; try clear hcz133_2; try clear hcz134_0; try clear hcz134_1; try clear hcz134_2; try clear hcz135_0; try clear hcz135_1; try clear hcz135_2; try clear hcz144_0; try clear hcz144_1; try clear hcz144_2; try clear hfz121_0
        try clear hfz121_1; try clear hfz121_2; try clear hfz125_0; try clear hfz125_1; try clear hfz125_2; try clear hfz133_0; try clear hfz133_1; try clear hfz133_2; try clear hfz134_0; try clear hfz134_1; try clear hfz134_2; try clear hfz135_0; try clear hfz135_1; try clear hfz135_2; try clear hfz144_0; try clear hfz144_1; try clear hfz144_2
        obtain ⟨kq, x26_112, rfl, HA, HJ112, BK498, BK503, BK508, BK539, BK540, BK545, BK550, HB⟩ := hcut
        cases kq with
        | zero => exact absurd HA.out (by simp [laws_FnMixes.j4])
        | succ kj112 =>
         have H := HA.out
         clear HA
         simp only [laws_FnMixes.j4] at H
         replace H := Option.bind_eq_some_iff.mp H
         obtain ⟨⟨t552, t553, t554, t555⟩, A1470, H⟩ := H
         replace H : ((spec_NewMix.f x26_112).bind fun bt557 => ((spec_DrawEndMix.f kj112 l1).bind fun bt562 => ((impl_EndMix.f bt562.1 bt562.2.1 bt562.2.2).bind fun bt566 => (laws_FnMixes.j5 kj112 t544 t549 t555 bt557.2.2.2 bt566.1 bt566.2 t541 t542 t543 t546 t547 t548 t552 t553 t554 bt557.1 bt557.2.1 bt557.2.2.1 bt562.1 bt562.2.1 bt562.2.2)))) = some r := H
         have A147 := Aside0.mk A1470
         clear A1470
         replace H := Option.bind_eq_some_iff.mp H
         obtain ⟨⟨t557, t558, t559, t560⟩, A1480, H⟩ := H
         replace H : ((spec_DrawEndMix.f kj112 l1).bind fun bt562 => ((impl_EndMix.f bt562.1 bt562.2.1 bt562.2.2).bind fun bt566 => (laws_FnMixes.j5 kj112 t544 t549 t555 t560 bt566.1 bt566.2 t541 t542 t543 t546 t547 t548 t552 t553 t554 t557 t558 t559 bt562.1 bt562.2.1 bt562.2.2))) = some r := H
         have A148 := Aside0.mk A1480
         clear A1480
         replace H := Option.bind_eq_some_iff.mp H
         obtain ⟨⟨t562, t563, t564⟩, A1490, H⟩ := H
         replace H : ((impl_EndMix.f t562 t563 t564).bind fun bt566 => (laws_FnMixes.j5 kj112 t544 t549 t555 t560 bt566.1 bt566.2 t541 t542 t543 t546 t547 t548 t552 t553 t554 t557 t558 t559 t562 t563 t564)) = some r := H
         have A149 := Aside0.mk A1490
         clear A1490
         have HC150 := Aside0.mk H
         clear H
         go_upto_region 23 with (first | ((with_reducible refine gate_callee (f := 16) rfl ?_); refine goesL_ (some 161) rfl rfl Try.func16 (by kernel_rfl) rfl #[.int .u8 x26_112] rfl (by (try simp only [List.map_toArray, List.map_cons, List.map_nil]); first | done | rfl | (simp only [List.length_drop, List.length_take]; rfl)) ?_; (with_reducible refine (impl_NewMix.calls x26_112 t552 t553 t554 t555 _ A147.out).mono ?_); rintro e w151 ⟨rfl, hb⟩; refine ⟨_, rfl, ?_⟩; have n0_ := Aside0.mk (bz_ BK498 hb); have n1_ := Aside0.mk (bz_ BK503 hb); have n2_ := Aside0.mk (bz_ BK508 hb); have n3_ := Aside0.mk (bz_ BK539 hb); have n4_ := Aside0.mk (bz_ BK540 hb); have n5_ := Aside0.mk (bz_ BK545 hb); have n6_ := Aside0.mk (bz_ BK550 hb); have n7_ := Aside0.mk (bs_ HB.out hb); clear BK498; clear BK503; clear BK508; clear BK539; clear BK540; clear BK545; clear BK550; clear HB; have BK498 := n0_; have BK503 := n1_; have BK508 := n2_; have BK539 := n3_; have BK540 := n4_; have BK545 := n5_; have BK550 := n6_; have HB := n7_; clear n0_ n1_ n2_ n3_ n4_ n5_ n6_ n7_; (try clear hb); (try clear hb2); (try clear hk); (try clear hi)) | ((with_reducible refine gate_dst (N := 27) rfl ?_); (try (refine gate_guard (by rfl) ?_; dsimp only)); refine box_event ?hg (N := 27) ?hd (cs := #[.int .i64 0, .int .i64 0, .int .i64 0]) (t := 23) ?hr ?_; (case hd => rfl); (case hg => rfl); (case hr => first | (go_simp; done) | (go_simp; rfl)); intro gb556 hg w152 hbox hb; have n0_ := Aside0.mk (bz_ BK498 hb); have n1_ := Aside0.mk (bz_ BK503 hb); have n2_ := Aside0.mk (bz_ BK508 hb); have n3_ := Aside0.mk (bz_ BK539 hb); have n4_ := Aside0.mk (bz_ BK540 hb); have n5_ := Aside0.mk (bz_ BK545 hb); have n6_ := Aside0.mk (bz_ BK550 hb); have n7_ := Aside0.mk (bs_ HB.out hb); have n8_ := Aside0.mk (hbox); have n9_ := Aside0.mk ((by rw [hg]; exact (bw_ HB.out) : w.heap.size ≤ gb556)); have n10_ := n9_; have n11_ := Aside0.mk (nz_ BK498 hg); have n12_ := Aside0.mk n11_.out.symm; have n13_ := Aside0.mk (nz_ BK503 hg); have n14_ := Aside0.mk n13_.out.symm; have n15_ := Aside0.mk (nz_ BK508 hg); have n16_ := Aside0.mk n15_.out.symm; have n17_ := Aside0.mk (nz_ BK539 hg); have n18_ := Aside0.mk n17_.out.symm; have n19_ := Aside0.mk (nz_ BK540 hg); have n20_ := Aside0.mk n19_.out.symm; have n21_ := Aside0.mk (nz_ BK545 hg); have n22_ := Aside0.mk n21_.out.symm; have n23_ := Aside0.mk (nz_ BK550 hg); have n24_ := Aside0.mk n23_.out.symm; clear BK498; clear BK503; clear BK508; clear BK539; clear BK540; clear BK545; clear BK550; clear HB; have BK498 := n0_; have BK503 := n1_; have BK508 := n2_; have BK539 := n3_; have BK540 := n4_; have BK545 := n5_; have BK550 := n6_; have HB := n7_; have BK556 := n8_; have GW556 := n9_; have GE556 := n10_; have NB498_556 := n11_; have NB556_498 := n12_; have NB503_556 := n13_; have NB556_503 := n14_; have NB508_556 := n15_; have NB556_508 := n16_; have NB539_556 := n17_; have NB556_539 := n18_; have NB540_556 := n19_; have NB556_540 := n20_; have NB545_556 := n21_; have NB556_545 := n22_; have NB550_556 := n23_; have NB556_550 := n24_; clear n0_ n1_ n2_ n3_ n4_ n5_ n6_ n7_ n8_ n9_ n10_ n11_ n12_ n13_ n14_ n15_ n16_ n17_ n18_ n19_ n20_ n21_ n22_ n23_ n24_; clear hb hbox hg; have hnb153 := NB556_498.out; have hnc153 := NB498_556.out; have hnb154 := NB556_503.out; have hnc154 := NB503_556.out; have hnb155 := NB556_508.out; have hnc155 := NB508_556.out; have hnb156 := NB556_539.out; have hnc156 := NB539_556.out; have hnb157 := NB556_540.out; have hnc157 := NB540_556.out; have hnb158 := NB556_545.out; have hnc158 := NB545_556.out; have hnb159 := NB556_550.out; have hnc159 := NB550_556.out; have hcz160_0 : w152.cell? ⟨gb556, 0, none⟩ = some (.int .i64 0) := (blk_cell BK556.out 0).trans rfl; have hcz160_1 : w152.cell? ⟨gb556, 1, none⟩ = some (.int .i64 0) := (blk_cell BK556.out 1).trans rfl; have hcz160_2 : w152.cell? ⟨gb556, 2, none⟩ = some (.int .i64 0) := (blk_cell BK556.out 2).trans rfl; have hfz160_0 := blk_frozen BK556.out 0; have hfz160_1 := blk_frozen BK556.out 1; have hfz160_2 := blk_frozen BK556.out 2) | ((with_reducible refine gate_callee (f := 15) rfl ?_); refine goesL_ (some 166) rfl rfl Try.func15 (by kernel_rfl) rfl #[.int .u8 x26_112] rfl (by (try simp only [List.map_toArray, List.map_cons, List.map_nil]); first | done | rfl | (simp only [List.length_drop, List.length_take]; rfl)) ?_; (with_reducible refine (spec_NewMix.calls x26_112 t557 t558 t559 t560 _ A148.out).mono ?_); rintro e w161 ⟨rfl, hb⟩; refine ⟨_, rfl, ?_⟩; have n0_ := Aside0.mk (blk_below (g := gb498) (o := .cells #[.int .i64 t494, .int .i64 t495, .int .i64 t496] 23 (0, 0)) (by (with_reducible repeat (first | refine blk_drewN ?_ _ | refine blk_drew ?_ | refine blk_alloc ?_ _)); refine blk_far ?_ NB498_556.out _; (with_reducible repeat (first | refine blk_drewN ?_ _ | refine blk_drew ?_ | refine blk_alloc ?_ _)); refine blk_far ?_ NB498_556.out _; (with_reducible repeat (first | refine blk_drewN ?_ _ | refine blk_drew ?_ | refine blk_alloc ?_ _)); refine blk_far ?_ NB498_556.out _; (with_reducible repeat (first | refine blk_drewN ?_ _ | refine blk_drew ?_ | refine blk_alloc ?_ _)); exact BK498.out) hb); have n1_ := Aside0.mk (blk_below (g := gb503) (o := .cells #[.int .i64 t499, .int .i64 t500, .int .i64 t501] 23 (0, 0)) (by (with_reducible repeat (first | refine blk_drewN ?_ _ | refine blk_drew ?_ | refine blk_alloc ?_ _)); refine blk_far ?_ NB503_556.out _; (with_reducible repeat (first | refine blk_drewN ?_ _ | refine blk_drew ?_ | refine blk_alloc ?_ _)); refine blk_far ?_ NB503_556.out _; (with_reducible repeat (first | refine blk_drewN ?_ _ | refine blk_drew ?_ | refine blk_alloc ?_ _)); refine blk_far ?_ NB503_556.out _; (with_reducible repeat (first | refine blk_drewN ?_ _ | refine blk_drew ?_ | refine blk_alloc ?_ _)); exact BK503.out) hb); have n2_ := Aside0.mk (blk_below (g := gb508) (o := .cells #[.int .i64 t504, .int .i64 t505, .int .i64 t506] 23 (0, 0)) (by (with_reducible repeat (first | refine blk_drewN ?_ _ | refine blk_drew ?_ | refine blk_alloc ?_ _)); refine blk_far ?_ NB508_556.out _; (with_reducible repeat (first | refine blk_drewN ?_ _ | refine blk_drew ?_ | refine blk_alloc ?_ _)); refine blk_far ?_ NB508_556.out _; (with_reducible repeat (first | refine blk_drewN ?_ _ | refine blk_drew ?_ | refine blk_alloc ?_ _)); refine blk_far ?_ NB508_556.out _; (with_reducible repeat (first | refine blk_drewN ?_ _ | refine blk_drew ?_ | refine blk_alloc ?_ _)); exact BK508.out) hb); have n3_ := Aside0.mk (blk_below (g := gb539) (o := .cells #[.int .i64 t533, .int .i64 t534, .int .i64 t535] 23 (0, 0)) (by (with_reducible repeat (first | refine blk_drewN ?_ _ | refine blk_drew ?_ | refine blk_alloc ?_ _)); refine blk_far ?_ NB539_556.out _; (with_reducible repeat (first | refine blk_drewN ?_ _ | refine blk_drew ?_ | refine blk_alloc ?_ _)); refine blk_far ?_ NB539_556.out _; (with_reducible repeat (first | refine blk_drewN ?_ _ | refine blk_drew ?_ | refine blk_alloc ?_ _)); refine blk_far ?_ NB539_556.out _; (with_reducible repeat (first | refine blk_drewN ?_ _ | refine blk_drew ?_ | refine blk_alloc ?_ _)); exact BK539.out) hb); have n4_ := Aside0.mk (blk_below (g := gb540) (o := .cells #[.int .i64 t536, .int .i64 t537, .int .i64 t538] 23 (0, 0)) (by (with_reducible repeat (first | refine blk_drewN ?_ _ | refine blk_drew ?_ | refine blk_alloc ?_ _)); refine blk_far ?_ NB540_556.out _; (with_reducible repeat (first | refine blk_drewN ?_ _ | refine blk_drew ?_ | refine blk_alloc ?_ _)); refine blk_far ?_ NB540_556.out _; (with_reducible repeat (first | refine blk_drewN ?_ _ | refine blk_drew ?_ | refine blk_alloc ?_ _)); refine blk_far ?_ NB540_556.out _; (with_reducible repeat (first | refine blk_drewN ?_ _ | refine blk_drew ?_ | refine blk_alloc ?_ _)); exact BK540.out) hb); have n5_ := Aside0.mk (blk_below (g := gb545) (o := .cells #[.int .i64 t541, .int .i64 t542, .int .i64 t543] 23 (0, 0)) (by (with_reducible repeat (first | refine blk_drewN ?_ _ | refine blk_drew ?_ | refine blk_alloc ?_ _)); refine blk_far ?_ NB545_556.out _; (with_reducible repeat (first | refine blk_drewN ?_ _ | refine blk_drew ?_ | refine blk_alloc ?_ _)); refine blk_far ?_ NB545_556.out _; (with_reducible repeat (first | refine blk_drewN ?_ _ | refine blk_drew ?_ | refine blk_alloc ?_ _)); refine blk_far ?_ NB545_556.out _; (with_reducible repeat (first | refine blk_drewN ?_ _ | refine blk_drew ?_ | refine blk_alloc ?_ _)); exact BK545.out) hb); have n6_ := Aside0.mk (blk_below (g := gb550) (o := .cells #[.int .i64 t546, .int .i64 t547, .int .i64 t548] 23 (0, 0)) (by (with_reducible repeat (first | refine blk_drewN ?_ _ | refine blk_drew ?_ | refine blk_alloc ?_ _)); refine blk_far ?_ NB550_556.out _; (with_reducible repeat (first | refine blk_drewN ?_ _ | refine blk_drew ?_ | refine blk_alloc ?_ _)); refine blk_far ?_ NB550_556.out _; (with_reducible repeat (first | refine blk_drewN ?_ _ | refine blk_drew ?_ | refine blk_alloc ?_ _)); refine blk_far ?_ NB550_556.out _; (with_reducible repeat (first | refine blk_drewN ?_ _ | refine blk_drew ?_ | refine blk_alloc ?_ _)); exact BK550.out) hb); have n7_ := Aside0.mk (blk_below (g := gb556) (o := .cells #[.int .i64 t552, .int .i64 t553, .int .i64 t554] 23 (0, 0)) (by (with_reducible repeat (first | refine blk_drewN ?_ _ | refine blk_drew ?_ | refine blk_alloc ?_ _)); refine blk_put (cs := #[.int .i64 t552, .int .i64 t553, .int .i64 0]) ?_ 2 _ rfl; (with_reducible repeat (first | refine blk_drewN ?_ _ | refine blk_drew ?_ | refine blk_alloc ?_ _)); refine blk_put (cs := #[.int .i64 t552, .int .i64 0, .int .i64 0]) ?_ 1 _ rfl; (with_reducible repeat (first | refine blk_drewN ?_ _ | refine blk_drew ?_ | refine blk_alloc ?_ _)); refine blk_put (cs := #[.int .i64 0, .int .i64 0, .int .i64 0]) ?_ 0 _ rfl; (with_reducible repeat (first | refine blk_drewN ?_ _ | refine blk_drew ?_ | refine blk_alloc ?_ _)); exact BK556.out) hb); have n8_ := Aside0.mk (bs_ HB.out hb); clear BK498; clear BK503; clear BK508; clear BK539; clear BK540; clear BK545; clear BK550; clear BK556; clear HB; have BK498 := n0_; have BK503 := n1_; have BK508 := n2_; have BK539 := n3_; have BK540 := n4_; have BK545 := n5_; have BK550 := n6_; have BK556 := n7_; have HB := n8_; clear n0_ n1_ n2_ n3_ n4_ n5_ n6_ n7_ n8_; (try clear hb); (try clear hb2); (try clear hk); (try clear hi)) | ((with_reducible refine gate_dst (N := 29) rfl ?_); (try (refine gate_guard (by rfl) ?_; dsimp only)); refine box_event ?hg (N := 29) ?hd (cs := #[.int .i64 0, .int .i64 0, .int .i64 0]) (t := 23) ?hr ?_; (case hd => rfl); (case hg => rfl); (case hr => first | (go_simp; done) | (go_simp; rfl)); intro gb561 hg w162 hbox hb; have n0_ := Aside0.mk (bz_ BK498 hb); have n1_ := Aside0.mk (bz_ BK503 hb); have n2_ := Aside0.mk (bz_ BK508 hb); have n3_ := Aside0.mk (bz_ BK539 hb); have n4_ := Aside0.mk (bz_ BK540 hb); have n5_ := Aside0.mk (bz_ BK545 hb); have n6_ := Aside0.mk (bz_ BK550 hb); have n7_ := Aside0.mk (bz_ BK556 hb); have n8_ := Aside0.mk (bs_ HB.out hb); have n9_ := Aside0.mk (hbox); have n10_ := Aside0.mk ((by rw [hg]; exact (bw_ HB.out) : w.heap.size ≤ gb561)); have n11_ := n10_; have n12_ := Aside0.mk (nz_ BK498 hg); have n13_ := Aside0.mk n12_.out.symm; have n14_ := Aside0.mk (nz_ BK503 hg); have n15_ := Aside0.mk n14_.out.symm; have n16_ := Aside0.mk (nz_ BK508 hg); have n17_ := Aside0.mk n16_.out.symm; have n18_ := Aside0.mk (nz_ BK539 hg); have n19_ := Aside0.mk n18_.out.symm; have n20_ := Aside0.mk (nz_ BK540 hg); have n21_ := Aside0.mk n20_.out.symm; have n22_ := Aside0.mk (nz_ BK545 hg); have n23_ := Aside0.mk n22_.out.symm; have n24_ := Aside0.mk (nz_ BK550 hg); have n25_ := Aside0.mk n24_.out.symm; have n26_ := Aside0.mk (nz_ BK556 hg); have n27_ := Aside0.mk n26_.out.symm; clear BK498; clear BK503; clear BK508; clear BK539; clear BK540; clear BK545; clear BK550; clear BK556; clear HB; have BK498 := n0_; have BK503 := n1_; have BK508 := n2_; have BK539 := n3_; have BK540 := n4_; have BK545 := n5_; have BK550 := n6_; have BK556 := n7_; have HB := n8_; have BK561 := n9_; have GW561 := n10_; have GE561 := n11_; have NB498_561 := n12_; have NB561_498 := n13_; have NB503_561 := n14_; have NB561_503 := n15_; have NB508_561 := n16_; have NB561_508 := n17_; have NB539_561 := n18_; have NB561_539 := n19_; have NB540_561 := n20_; have NB561_540 := n21_; have NB545_561 := n22_; have NB561_545 := n23_; have NB550_561 := n24_; have NB561_550 := n25_; have NB556_561 := n26_; have NB561_556 := n27_; clear n0_ n1_ n2_ n3_ n4_ n5_ n6_ n7_ n8_ n9_ n10_ n11_ n12_ n13_ n14_ n15_ n16_ n17_ n18_ n19_ n20_ n21_ n22_ n23_ n24_ n25_ n26_ n27_; clear hb hbox hg; have hnb163 := NB561_498.out; have hnc163 := NB498_561.out; have hnb164 := NB561_503.out; have hnc164 := NB503_561.out; have hnb165 := NB561_508.out; have hnc165 := NB508_561.out; have hnb166 := NB561_539.out; have hnc166 := NB539_561.out; have hnb167 := NB561_540.out; have hnc167 := NB540_561.out; have hnb168 := NB561_545.out; have hnc168 := NB545_561.out; have hnb169 := NB561_550.out; have hnc169 := NB550_561.out; have hnb170 := NB561_556.out; have hnc170 := NB556_561.out; have hcz171_0 : w162.cell? ⟨gb561, 0, none⟩ = some (.int .i64 0) := (blk_cell BK561.out 0).trans rfl; have hcz171_1 : w162.cell? ⟨gb561, 1, none⟩ = some (.int .i64 0) := (blk_cell BK561.out 1).trans rfl; have hcz171_2 : w162.cell? ⟨gb561, 2, none⟩ = some (.int .i64 0) := (blk_cell BK561.out 2).trans rfl; have hfz171_0 := blk_frozen BK561.out 0; have hfz171_1 := blk_frozen BK561.out 1; have hfz171_2 := blk_frozen BK561.out 2) | ((with_reducible refine gate_callee (f := 31) rfl ?_); refine goesL_ (some 170) rfl rfl Try.func31 (by kernel_rfl) rfl #[.slice A1 l1.length c1] rfl (by (try simp only [List.map_toArray, List.map_cons, List.map_nil]); first | done | rfl | (simp only [List.length_drop, List.length_take]; rfl)) ?_; (with_reducible refine (spec_DrawEndMix.calls kj112 _ _ l1 t562 t563 t564 _ ?side1 ?side2 A149.out).mono ?_); (case side1 => exact Kd.C_below HR1.out (by repeat (first | (with_reducible first | exact HB.out | apply below_alloc | apply pw_below_drewN | apply below_drew1 | refine below_set ?_ GE498.out | refine below_set ?_ GE503.out | refine below_set ?_ GE508.out | refine below_set ?_ GE539.out | refine below_set ?_ GE540.out | refine below_set ?_ GE545.out | refine below_set ?_ GE550.out | refine below_set ?_ GE556.out | refine below_set ?_ GE561.out) | exact HB.out))); (case side2 => exact HC1.out); rintro e w172 ⟨rfl, hb⟩; refine ⟨_, rfl, ?_⟩; have n0_ := Aside0.mk (blk_below (g := gb498) (o := .cells #[.int .i64 t494, .int .i64 t495, .int .i64 t496] 23 (0, 0)) (by (with_reducible repeat (first | refine blk_drewN ?_ _ | refine blk_drew ?_ | refine blk_alloc ?_ _)); refine blk_far ?_ NB498_561.out _; (with_reducible repeat (first | refine blk_drewN ?_ _ | refine blk_drew ?_ | refine blk_alloc ?_ _)); refine blk_far ?_ NB498_561.out _; (with_reducible repeat (first | refine blk_drewN ?_ _ | refine blk_drew ?_ | refine blk_alloc ?_ _)); refine blk_far ?_ NB498_561.out _; (with_reducible repeat (first | refine blk_drewN ?_ _ | refine blk_drew ?_ | refine blk_alloc ?_ _)); exact BK498.out) hb); have n1_ := Aside0.mk (blk_below (g := gb503) (o := .cells #[.int .i64 t499, .int .i64 t500, .int .i64 t501] 23 (0, 0)) (by (with_reducible repeat (first | refine blk_drewN ?_ _ | refine blk_drew ?_ | refine blk_alloc ?_ _)); refine blk_far ?_ NB503_561.out _; (with_reducible repeat (first | refine blk_drewN ?_ _ | refine blk_drew ?_ | refine blk_alloc ?_ _)); refine blk_far ?_ NB503_561.out _; (with_reducible repeat (first | refine blk_drewN ?_ _ | refine blk_drew ?_ | refine blk_alloc ?_ _)); refine blk_far ?_ NB503_561.out _; (with_reducible repeat (first | refine blk_drewN ?_ _ | refine blk_drew ?_ | refine blk_alloc ?_ _)); exact BK503.out) hb); have n2_ := Aside0.mk (blk_below (g := gb508) (o := .cells #[.int .i64 t504, .int .i64 t505, .int .i64 t506] 23 (0, 0)) (by (with_reducible repeat (first | refine blk_drewN ?_ _ | refine blk_drew ?_ | refine blk_alloc ?_ _)); refine blk_far ?_ NB508_561.out _; (with_reducible repeat (first | refine blk_drewN ?_ _ | refine blk_drew ?_ | refine blk_alloc ?_ _)); refine blk_far ?_ NB508_561.out _; (with_reducible repeat (first | refine blk_drewN ?_ _ | refine blk_drew ?_ | refine blk_alloc ?_ _)); refine blk_far ?_ NB508_561.out _; (with_reducible repeat (first | refine blk_drewN ?_ _ | refine blk_drew ?_ | refine blk_alloc ?_ _)); exact BK508.out) hb); have n3_ := Aside0.mk (blk_below (g := gb539) (o := .cells #[.int .i64 t533, .int .i64 t534, .int .i64 t535] 23 (0, 0)) (by (with_reducible repeat (first | refine blk_drewN ?_ _ | refine blk_drew ?_ | refine blk_alloc ?_ _)); refine blk_far ?_ NB539_561.out _; (with_reducible repeat (first | refine blk_drewN ?_ _ | refine blk_drew ?_ | refine blk_alloc ?_ _)); refine blk_far ?_ NB539_561.out _; (with_reducible repeat (first | refine blk_drewN ?_ _ | refine blk_drew ?_ | refine blk_alloc ?_ _)); refine blk_far ?_ NB539_561.out _; (with_reducible repeat (first | refine blk_drewN ?_ _ | refine blk_drew ?_ | refine blk_alloc ?_ _)); exact BK539.out) hb); have n4_ := Aside0.mk (blk_below (g := gb540) (o := .cells #[.int .i64 t536, .int .i64 t537, .int .i64 t538] 23 (0, 0)) (by (with_reducible repeat (first | refine blk_drewN ?_ _ | refine blk_drew ?_ | refine blk_alloc ?_ _)); refine blk_far ?_ NB540_561.out _; (with_reducible repeat (first | refine blk_drewN ?_ _ | refine blk_drew ?_ | refine blk_alloc ?_ _)); refine blk_far ?_ NB540_561.out _; (with_reducible repeat (first | refine blk_drewN ?_ _ | refine blk_drew ?_ | refine blk_alloc ?_ _)); refine blk_far ?_ NB540_561.out _; (with_reducible repeat (first | refine blk_drewN ?_ _ | refine blk_drew ?_ | refine blk_alloc ?_ _)); exact BK540.out) hb); have n5_ := Aside0.mk (blk_below (g := gb545) (o := .cells #[.int .i64 t541, .int .i64 t542, .int .i64 t543] 23 (0, 0)) (by (with_reducible repeat (first | refine blk_drewN ?_ _ | refine blk_drew ?_ | refine blk_alloc ?_ _)); refine blk_far ?_ NB545_561.out _; (with_reducible repeat (first | refine blk_drewN ?_ _ | refine blk_drew ?_ | refine blk_alloc ?_ _)); refine blk_far ?_ NB545_561.out _; (with_reducible repeat (first | refine blk_drewN ?_ _ | refine blk_drew ?_ | refine blk_alloc ?_ _)); refine blk_far ?_ NB545_561.out _; (with_reducible repeat (first | refine blk_drewN ?_ _ | refine blk_drew ?_ | refine blk_alloc ?_ _)); exact BK545.out) hb); have n6_ := Aside0.mk (blk_below (g := gb550) (o := .cells #[.int .i64 t546, .int .i64 t547, .int .i64 t548] 23 (0, 0)) (by (with_reducible repeat (first | refine blk_drewN ?_ _ | refine blk_drew ?_ | refine blk_alloc ?_ _)); refine blk_far ?_ NB550_561.out _; (with_reducible repeat (first | refine blk_drewN ?_ _ | refine blk_drew ?_ | refine blk_alloc ?_ _)); refine blk_far ?_ NB550_561.out _; (with_reducible repeat (first | refine blk_drewN ?_ _ | refine blk_drew ?_ | refine blk_alloc ?_ _)); refine blk_far ?_ NB550_561.out _; (with_reducible repeat (first | refine blk_drewN ?_ _ | refine blk_drew ?_ | refine blk_alloc ?_ _)); exact BK550.out) hb); have n7_ := Aside0.mk (blk_below (g := gb556) (o := .cells #[.int .i64 t552, .int .i64 t553, .int .i64 t554] 23 (0, 0)) (by (with_reducible repeat (first | refine blk_drewN ?_ _ | refine blk_drew ?_ | refine blk_alloc ?_ _)); refine blk_far ?_ NB556_561.out _; (with_reducible repeat (first | refine blk_drewN ?_ _ | refine blk_drew ?_ | refine blk_alloc ?_ _)); refine blk_far ?_ NB556_561.out _; (with_reducible repeat (first | refine blk_drewN ?_ _ | refine blk_drew ?_ | refine blk_alloc ?_ _)); refine blk_far ?_ NB556_561.out _; (with_reducible repeat (first | refine blk_drewN ?_ _ | refine blk_drew ?_ | refine blk_alloc ?_ _)); exact BK556.out) hb); have n8_ := Aside0.mk (blk_below (g := gb561) (o := .cells #[.int .i64 t557, .int .i64 t558, .int .i64 t559] 23 (0, 0)) (by (with_reducible repeat (first | refine blk_drewN ?_ _ | refine blk_drew ?_ | refine blk_alloc ?_ _)); refine blk_put (cs := #[.int .i64 t557, .int .i64 t558, .int .i64 0]) ?_ 2 _ rfl; (with_reducible repeat (first | refine blk_drewN ?_ _ | refine blk_drew ?_ | refine blk_alloc ?_ _)); refine blk_put (cs := #[.int .i64 t557, .int .i64 0, .int .i64 0]) ?_ 1 _ rfl; (with_reducible repeat (first | refine blk_drewN ?_ _ | refine blk_drew ?_ | refine blk_alloc ?_ _)); refine blk_put (cs := #[.int .i64 0, .int .i64 0, .int .i64 0]) ?_ 0 _ rfl; (with_reducible repeat (first | refine blk_drewN ?_ _ | refine blk_drew ?_ | refine blk_alloc ?_ _)); exact BK561.out) hb); have n9_ := Aside0.mk (bs_ HB.out hb); clear BK498; clear BK503; clear BK508; clear BK539; clear BK540; clear BK545; clear BK550; clear BK556; clear BK561; clear HB; have BK498 := n0_; have BK503 := n1_; have BK508 := n2_; have BK539 := n3_; have BK540 := n4_; have BK545 := n5_; have BK550 := n6_; have BK556 := n7_; have BK561 := n8_; have HB := n9_; clear n0_ n1_ n2_ n3_ n4_ n5_ n6_ n7_ n8_ n9_; (try clear hb); (try clear hb2); (try clear hk); (try clear hi)) | ((with_reducible refine gate_dst (N := 31) rfl ?_); (try (refine gate_guard (by rfl) ?_; dsimp only)); refine box_event ?hg (N := 31) ?hd (cs := #[.int .i64 0, .int .i64 0, .int .i64 0]) (t := 23) ?hr ?_; (case hd => rfl); (case hg => rfl); (case hr => first | (go_simp; done) | (go_simp; rfl)); intro gb565 hg w173 hbox hb; have n0_ := Aside0.mk (bz_ BK498 hb); have n1_ := Aside0.mk (bz_ BK503 hb); have n2_ := Aside0.mk (bz_ BK508 hb); have n3_ := Aside0.mk (bz_ BK539 hb); have n4_ := Aside0.mk (bz_ BK540 hb); have n5_ := Aside0.mk (bz_ BK545 hb); have n6_ := Aside0.mk (bz_ BK550 hb); have n7_ := Aside0.mk (bz_ BK556 hb); have n8_ := Aside0.mk (bz_ BK561 hb); have n9_ := Aside0.mk (bs_ HB.out hb); have n10_ := Aside0.mk (hbox); have n11_ := Aside0.mk ((by rw [hg]; exact (bw_ HB.out) : w.heap.size ≤ gb565)); have n12_ := n11_; have n13_ := Aside0.mk (nz_ BK498 hg); have n14_ := Aside0.mk n13_.out.symm; have n15_ := Aside0.mk (nz_ BK503 hg); have n16_ := Aside0.mk n15_.out.symm; have n17_ := Aside0.mk (nz_ BK508 hg); have n18_ := Aside0.mk n17_.out.symm; have n19_ := Aside0.mk (nz_ BK539 hg); have n20_ := Aside0.mk n19_.out.symm; have n21_ := Aside0.mk (nz_ BK540 hg); have n22_ := Aside0.mk n21_.out.symm; have n23_ := Aside0.mk (nz_ BK545 hg); have n24_ := Aside0.mk n23_.out.symm; have n25_ := Aside0.mk (nz_ BK550 hg); have n26_ := Aside0.mk n25_.out.symm; have n27_ := Aside0.mk (nz_ BK556 hg); have n28_ := Aside0.mk n27_.out.symm; have n29_ := Aside0.mk (nz_ BK561 hg); have n30_ := Aside0.mk n29_.out.symm; clear BK498; clear BK503; clear BK508; clear BK539; clear BK540; clear BK545; clear BK550; clear BK556; clear BK561; clear HB; have BK498 := n0_; have BK503 := n1_; have BK508 := n2_; have BK539 := n3_; have BK540 := n4_; have BK545 := n5_; have BK550 := n6_; have BK556 := n7_; have BK561 := n8_; have HB := n9_; have BK565 := n10_; have GW565 := n11_; have GE565 := n12_; have NB498_565 := n13_; have NB565_498 := n14_; have NB503_565 := n15_; have NB565_503 := n16_; have NB508_565 := n17_; have NB565_508 := n18_; have NB539_565 := n19_; have NB565_539 := n20_; have NB540_565 := n21_; have NB565_540 := n22_; have NB545_565 := n23_; have NB565_545 := n24_; have NB550_565 := n25_; have NB565_550 := n26_; have NB556_565 := n27_; have NB565_556 := n28_; have NB561_565 := n29_; have NB565_561 := n30_; clear n0_ n1_ n2_ n3_ n4_ n5_ n6_ n7_ n8_ n9_ n10_ n11_ n12_ n13_ n14_ n15_ n16_ n17_ n18_ n19_ n20_ n21_ n22_ n23_ n24_ n25_ n26_ n27_ n28_ n29_ n30_; clear hb hbox hg; have hnb174 := NB565_498.out; have hnc174 := NB498_565.out; have hnb175 := NB565_503.out; have hnc175 := NB503_565.out; have hnb176 := NB565_508.out; have hnc176 := NB508_565.out; have hnb177 := NB565_539.out; have hnc177 := NB539_565.out; have hnb178 := NB565_540.out; have hnc178 := NB540_565.out; have hnb179 := NB565_545.out; have hnc179 := NB545_565.out; have hnb180 := NB565_550.out; have hnc180 := NB550_565.out; have hnb181 := NB565_556.out; have hnc181 := NB556_565.out; have hnb182 := NB565_561.out; have hnc182 := NB561_565.out; have hcz183_0 : w173.cell? ⟨gb565, 0, none⟩ = some (.int .i64 0) := (blk_cell BK565.out 0).trans rfl; have hcz183_1 : w173.cell? ⟨gb565, 1, none⟩ = some (.int .i64 0) := (blk_cell BK565.out 1).trans rfl; have hcz183_2 : w173.cell? ⟨gb565, 2, none⟩ = some (.int .i64 0) := (blk_cell BK565.out 2).trans rfl; have hfz183_0 := blk_frozen BK565.out 0; have hfz183_1 := blk_frozen BK565.out 1; have hfz183_2 := blk_frozen BK565.out 2))
         (try simp only [Act.put, List.setIfInBounds_toArray, List.set_cons_zero, List.set_cons_succ])
         go_cut [32, 33] (fun v32 v33 wc => ∃ (kq : Nat) (x32_149 : ByteArray) (x33_149 : Bool), v32 = .string x32_149 ∧ v33 = .bool x33_149 ∧ Aside0 (laws_FnMixes.j5 kq t544 t549 t555 t560 x32_149 x33_149 t541 t542 t543 t546 t547 t548 t552 t553 t554 t557 t558 t559 t562 t563 t564 = some r) ∧ Aside0 (kq ≤ kj112) ∧ Aside0 (wc.heap[gb498]? = some (.cells #[.int .i64 t494, .int .i64 t495, .int .i64 t496] 23 (0, 0))) ∧ Aside0 (wc.heap[gb503]? = some (.cells #[.int .i64 t499, .int .i64 t500, .int .i64 t501] 23 (0, 0))) ∧ Aside0 (wc.heap[gb508]? = some (.cells #[.int .i64 t504, .int .i64 t505, .int .i64 t506] 23 (0, 0))) ∧ Aside0 (wc.heap[gb539]? = some (.cells #[.int .i64 t533, .int .i64 t534, .int .i64 t535] 23 (0, 0))) ∧ Aside0 (wc.heap[gb540]? = some (.cells #[.int .i64 t536, .int .i64 t537, .int .i64 t538] 23 (0, 0))) ∧ Aside0 (wc.heap[gb545]? = some (.cells #[.int .i64 t541, .int .i64 t542, .int .i64 t543] 23 (0, 0))) ∧ Aside0 (wc.heap[gb550]? = some (.cells #[.int .i64 t546, .int .i64 t547, .int .i64 t548] 23 (0, 0))) ∧ Aside0 (wc.heap[gb556]? = some (.cells #[.int .i64 t552, .int .i64 t553, .int .i64 t554] 23 (0, 0))) ∧ Aside0 (wc.heap[gb561]? = some (.cells #[.int .i64 t557, .int .i64 t558, .int .i64 t559] 23 (0, 0))) ∧ Aside0 (wc.heap[gb565]? = some (.cells #[.int .i64 t562, .int .i64 t563, .int .i64 t564] 23 (0, 0))) ∧ Aside0 (Below w.heap.size w wc))
         case first =>
          have H := HC150.out
          clear HC150
          replace H := Option.bind_eq_some_iff.mp H
          obtain ⟨⟨t566, t567⟩, A1840, H⟩ := H
          replace H : (laws_FnMixes.j5 kj112 t544 t549 t555 t560 t566 t567 t541 t542 t543 t546 t547 t548 t552 t553 t554 t557 t558 t559 t562 t563 t564) = some r := H
          have A184 := Aside0.mk A1840
          clear A1840
          have H' := Aside0.mk H
          clear H
          have hnb185 := NB565_498.out
          have hnc185 := NB498_565.out
          have hnb186 := NB565_503.out
          have hnc186 := NB503_565.out
          have hnb187 := NB565_508.out
          have hnc187 := NB508_565.out
          have hnb188 := NB565_539.out
          have hnc188 := NB539_565.out
          have hnb189 := NB565_540.out
          have hnc189 := NB540_565.out
          have hnb190 := NB565_545.out
          have hnc190 := NB545_565.out
          have hnb191 := NB565_550.out
          have hnc191 := NB550_565.out
          have hnb192 := NB565_556.out
          have hnc192 := NB556_565.out
          have hnb193 := NB565_561.out
          have hnc193 := NB561_565.out
          have hcz194_0 : w173.cell? ⟨gb565, 0, none⟩ = some (.int .i64 0) := (blk_cell BK565.out 0).trans rfl
          have hcz194_1 : w173.cell? ⟨gb565, 1, none⟩ = some (.int .i64 0) := (blk_cell BK565.out 1).trans rfl
          have hcz194_2 : w173.cell? ⟨gb565, 2, none⟩ = some (.int .i64 0) := (blk_cell BK565.out 2).trans rfl
          have hfz194_0 := blk_frozen BK565.out 0
          have hfz194_1 := blk_frozen BK565.out 1
          have hfz194_2 := blk_frozen BK565.out 2
          go_wp2_with (first | ((with_reducible refine gate_callee (f := 22) rfl ?_); refine goesL_ (some 173) rfl rfl Try.func22 (by kernel_rfl) rfl #[.agg #[.int .i64 t562, .int .i64 t563, .int .i64 t564]] rfl (by (try simp only [List.map_toArray, List.map_cons, List.map_nil]); first | done | rfl | (simp only [List.length_drop, List.length_take]; rfl)) ?_; (with_reducible refine (impl_EndMix.calls t562 t563 t564 t566 t567 _ A184.out).mono ?_); rintro e w195 ⟨rfl, hb⟩; refine ⟨_, rfl, ?_⟩; have n0_ := Aside0.mk (blk_below (g := gb498) (o := .cells #[.int .i64 t494, .int .i64 t495, .int .i64 t496] 23 (0, 0)) (by (with_reducible repeat (first | refine blk_drewN ?_ _ | refine blk_drew ?_ | refine blk_alloc ?_ _)); refine blk_far ?_ NB498_565.out _; (with_reducible repeat (first | refine blk_drewN ?_ _ | refine blk_drew ?_ | refine blk_alloc ?_ _)); refine blk_far ?_ NB498_565.out _; (with_reducible repeat (first | refine blk_drewN ?_ _ | refine blk_drew ?_ | refine blk_alloc ?_ _)); refine blk_far ?_ NB498_565.out _; (with_reducible repeat (first | refine blk_drewN ?_ _ | refine blk_drew ?_ | refine blk_alloc ?_ _)); exact BK498.out) hb); have n1_ := Aside0.mk (blk_below (g := gb503) (o := .cells #[.int .i64 t499, .int .i64 t500, .int .i64 t501] 23 (0, 0)) (by (with_reducible repeat (first | refine blk_drewN ?_ _ | refine blk_drew ?_ | refine blk_alloc ?_ _)); refine blk_far ?_ NB503_565.out _; (with_reducible repeat (first | refine blk_drewN ?_ _ | refine blk_drew ?_ | refine blk_alloc ?_ _)); refine blk_far ?_ NB503_565.out _; (with_reducible repeat (first | refine blk_drewN ?_ _ | refine blk_drew ?_ | refine blk_alloc ?_ _)); refine blk_far ?_ NB503_565.out _; (with_reducible repeat (first | refine blk_drewN ?_ _ | refine blk_drew ?_ | refine blk_alloc ?_ _)); exact BK503.out) hb); have n2_ := Aside0.mk (blk_below (g := gb508) (o := .cells #[.int .i64 t504, .int .i64 t505, .int .i64 t506] 23 (0, 0)) (by (with_reducible repeat (first | refine blk_drewN ?_ _ | refine blk_drew ?_ | refine blk_alloc ?_ _)); refine blk_far ?_ NB508_565.out _; (with_reducible repeat (first | refine blk_drewN ?_ _ | refine blk_drew ?_ | refine blk_alloc ?_ _)); refine blk_far ?_ NB508_565.out _; (with_reducible repeat (first | refine blk_drewN ?_ _ | refine blk_drew ?_ | refine blk_alloc ?_ _)); refine blk_far ?_ NB508_565.out _; (with_reducible repeat (first | refine blk_drewN ?_ _ | refine blk_drew ?_ | refine blk_alloc ?_ _)); exact BK508.out) hb); have n3_ := Aside0.mk (blk_below (g := gb539) (o := .cells #[.int .i64 t533, .int .i64 t534, .int .i64 t535] 23 (0, 0)) (by (with_reducible repeat (first | refine blk_drewN ?_ _ | refine blk_drew ?_ | refine blk_alloc ?_ _)); refine blk_far ?_ NB539_565.out _; (with_reducible repeat (first | refine blk_drewN ?_ _ | refine blk_drew ?_ | refine blk_alloc ?_ _)); refine blk_far ?_ NB539_565.out _; (with_reducible repeat (first | refine blk_drewN ?_ _ | refine blk_drew ?_ | refine blk_alloc ?_ _)); refine blk_far ?_ NB539_565.out _; (with_reducible repeat (first | refine blk_drewN ?_ _ | refine blk_drew ?_ | refine blk_alloc ?_ _)); exact BK539.out) hb); have n4_ := Aside0.mk (blk_below (g := gb540) (o := .cells #[.int .i64 t536, .int .i64 t537, .int .i64 t538] 23 (0, 0)) (by (with_reducible repeat (first | refine blk_drewN ?_ _ | refine blk_drew ?_ | refine blk_alloc ?_ _)); refine blk_far ?_ NB540_565.out _; (with_reducible repeat (first | refine blk_drewN ?_ _ | refine blk_drew ?_ | refine blk_alloc ?_ _)); refine blk_far ?_ NB540_565.out _; (with_reducible repeat (first | refine blk_drewN ?_ _ | refine blk_drew ?_ | refine blk_alloc ?_ _)); refine blk_far ?_ NB540_565.out _; (with_reducible repeat (first | refine blk_drewN ?_ _ | refine blk_drew ?_ | refine blk_alloc ?_ _)); exact BK540.out) hb); have n5_ := Aside0.mk (blk_below (g := gb545) (o := .cells #[.int .i64 t541, .int .i64 t542, .int .i64 t543] 23 (0, 0)) (by (with_reducible repeat (first | refine blk_drewN ?_ _ | refine blk_drew ?_ | refine blk_alloc ?_ _)); refine blk_far ?_ NB545_565.out _; (with_reducible repeat (first | refine blk_drewN ?_ _ | refine blk_drew ?_ | refine blk_alloc ?_ _)); refine blk_far ?_ NB545_565.out _; (with_reducible repeat (first | refine blk_drewN ?_ _ | refine blk_drew ?_ | refine blk_alloc ?_ _)); refine blk_far ?_ NB545_565.out _; (with_reducible repeat (first | refine blk_drewN ?_ _ | refine blk_drew ?_ | refine blk_alloc ?_ _)); exact BK545.out) hb); have n6_ := Aside0.mk (blk_below (g := gb550) (o := .cells #[.int .i64 t546, .int .i64 t547, .int .i64 t548] 23 (0, 0)) (by (with_reducible repeat (first | refine blk_drewN ?_ _ | refine blk_drew ?_ | refine blk_alloc ?_ _)); refine blk_far ?_ NB550_565.out _; (with_reducible repeat (first | refine blk_drewN ?_ _ | refine blk_drew ?_ | refine blk_alloc ?_ _)); refine blk_far ?_ NB550_565.out _; (with_reducible repeat (first | refine blk_drewN ?_ _ | refine blk_drew ?_ | refine blk_alloc ?_ _)); refine blk_far ?_ NB550_565.out _; (with_reducible repeat (first | refine blk_drewN ?_ _ | refine blk_drew ?_ | refine blk_alloc ?_ _)); exact BK550.out) hb); have n7_ := Aside0.mk (blk_below (g := gb556) (o := .cells #[.int .i64 t552, .int .i64 t553, .int .i64 t554] 23 (0, 0)) (by (with_reducible repeat (first | refine blk_drewN ?_ _ | refine blk_drew ?_ | refine blk_alloc ?_ _)); refine blk_far ?_ NB556_565.out _; (with_reducible repeat (first | refine blk_drewN ?_ _ | refine blk_drew ?_ | refine blk_alloc ?_ _)); refine blk_far ?_ NB556_565.out _; (with_reducible repeat (first | refine blk_drewN ?_ _ | refine blk_drew ?_ | refine blk_alloc ?_ _)); refine blk_far ?_ NB556_565.out _; (with_reducible repeat (first | refine blk_drewN ?_ _ | refine blk_drew ?_ | refine blk_alloc ?_ _)); exact BK556.out) hb); have n8_ := Aside0.mk (blk_below (g := gb561) (o := .cells #[.int .i64 t557, .int .i64 t558, .int .i64 t559] 23 (0, 0)) (by (with_reducible repeat (first | refine blk_drewN ?_ _ | refine blk_drew ?_ | refine blk_alloc ?_ _)); refine blk_far ?_ NB561_565.out _; (with_reducible repeat (first | refine blk_drewN ?_ _ | refine blk_drew ?_ | refine blk_alloc ?_ _)); refine blk_far ?_ NB561_565.out _; (with_reducible repeat (first | refine blk_drewN ?_ _ | refine blk_drew ?_ | refine blk_alloc ?_ _)); refine blk_far ?_ NB561_565.out _; (with_reducible repeat (first | refine blk_drewN ?_ _ | refine blk_drew ?_ | refine blk_alloc ?_ _)); exact BK561.out) hb); have n9_ := Aside0.mk (blk_below (g := gb565) (o := .cells #[.int .i64 t562, .int .i64 t563, .int .i64 t564] 23 (0, 0)) (by (with_reducible repeat (first | refine blk_drewN ?_ _ | refine blk_drew ?_ | refine blk_alloc ?_ _)); refine blk_put (cs := #[.int .i64 t562, .int .i64 t563, .int .i64 0]) ?_ 2 _ rfl; (with_reducible repeat (first | refine blk_drewN ?_ _ | refine blk_drew ?_ | refine blk_alloc ?_ _)); refine blk_put (cs := #[.int .i64 t562, .int .i64 0, .int .i64 0]) ?_ 1 _ rfl; (with_reducible repeat (first | refine blk_drewN ?_ _ | refine blk_drew ?_ | refine blk_alloc ?_ _)); refine blk_put (cs := #[.int .i64 0, .int .i64 0, .int .i64 0]) ?_ 0 _ rfl; (with_reducible repeat (first | refine blk_drewN ?_ _ | refine blk_drew ?_ | refine blk_alloc ?_ _)); exact BK565.out) hb); have n10_ := Aside0.mk (bs_ HB.out hb); clear BK498; clear BK503; clear BK508; clear BK539; clear BK540; clear BK545; clear BK550; clear BK556; clear BK561; clear BK565; clear HB; have BK498 := n0_; have BK503 := n1_; have BK508 := n2_; have BK539 := n3_; have BK540 := n4_; have BK545 := n5_; have BK550 := n6_; have BK556 := n7_; have BK561 := n8_; have BK565 := n9_; have HB := n10_; clear n0_ n1_ n2_ n3_ n4_ n5_ n6_ n7_ n8_ n9_ n10_; (try clear hb); (try clear hb2); (try clear hk); (try clear hi)))
          go_meet
          case rel => exact ⟨_, (t566), (t567), (by first | rfl | (simp; done) | (simp [*]; done)), (by first | rfl | (simp; done) | (simp [*]; done)), H', ⟨by have := HJ6.out; have := HJ29.out; have := HJ112.out; first | omega | exact Nat.le_refl _⟩, ⟨by (with_reducible repeat (first | refine blk_drewN ?_ _ | refine blk_drew ?_ | refine blk_alloc ?_ _)); exact BK498.out⟩, ⟨by (with_reducible repeat (first | refine blk_drewN ?_ _ | refine blk_drew ?_ | refine blk_alloc ?_ _)); exact BK503.out⟩, ⟨by (with_reducible repeat (first | refine blk_drewN ?_ _ | refine blk_drew ?_ | refine blk_alloc ?_ _)); exact BK508.out⟩, ⟨by (with_reducible repeat (first | refine blk_drewN ?_ _ | refine blk_drew ?_ | refine blk_alloc ?_ _)); exact BK539.out⟩, ⟨by (with_reducible repeat (first | refine blk_drewN ?_ _ | refine blk_drew ?_ | refine blk_alloc ?_ _)); exact BK540.out⟩, ⟨by (with_reducible repeat (first | refine blk_drewN ?_ _ | refine blk_drew ?_ | refine blk_alloc ?_ _)); exact BK545.out⟩, ⟨by (with_reducible repeat (first | refine blk_drewN ?_ _ | refine blk_drew ?_ | refine blk_alloc ?_ _)); exact BK550.out⟩, ⟨by (with_reducible repeat (first | refine blk_drewN ?_ _ | refine blk_drew ?_ | refine blk_alloc ?_ _)); exact BK556.out⟩, ⟨by (with_reducible repeat (first | refine blk_drewN ?_ _ | refine blk_drew ?_ | refine blk_alloc ?_ _)); exact BK561.out⟩, ⟨by (with_reducible repeat (first | refine blk_drewN ?_ _ | refine blk_drew ?_ | refine blk_alloc ?_ _)); exact BK565.out⟩, ⟨by repeat (first | (with_reducible first | exact HB.out | apply below_alloc | apply pw_below_drewN | apply below_drew1 | refine below_set ?_ GE498.out | refine below_set ?_ GE503.out | refine below_set ?_ GE508.out | refine below_set ?_ GE539.out | refine below_set ?_ GE540.out | refine below_set ?_ GE545.out | refine below_set ?_ GE550.out | refine below_set ?_ GE556.out | refine below_set ?_ GE561.out | refine below_set ?_ GE565.out) | exact HB.out)⟩⟩
         case rest =>
          clear HC150
          try clear c3; try clear c29; try clear hcz121_0; try clear hcz121_1; try clear hcz121_2; try clear hcz125_0; try clear hcz125_1; try clear hcz125_2; try clear hcz133_0; try clear hcz133_1; try clear hcz133_2; try clear hcz134_0; try clear hcz134_1; try clear hcz134_2; try clear hcz135_0; try clear hcz135_1; try clear hcz135_2; try clear hcz144_0; try clear hcz144_1; try clear hcz144_2; try clear hcz160_0
          try clear hcz160_1; try clear hcz160_2; try clear hcz171_0; try clear hcz171_1; try clear hcz171_2; try clear hcz183_0; try clear hcz183_1; try clear hcz183_2; try clear hfz121_0; try clear hfz121_1; try clear hfz121_2; try clear hfz125_0; try clear hfz125_1; try clear hfz125_2; try clear hfz133_0; try clear hfz133_1; try clear hfz133_2; try clear hfz134_0; try clear hfz134_1; try clear hfz134_2
          try clear hfz135_0; try clear hfz135_1; try clear hfz135_2; try clear hfz144_0; try clear hfz144_1; try clear hfz144_2; try clear hfz160_0; try clear hfz160_1; try clear hfz160_2; try clear hfz171_0; try clear hfz171_1; try clear hfz171_2; try clear hfz183_0; try clear hfz183_1; try clear hfz183_2
          obtain ⟨kq, x32_149, x33_149, rfl, rfl, HA, HJ149, BK498, BK503, BK508, BK539, BK540, BK545, BK550, BK556, BK561, BK565, HB⟩ := hcut
          cases kq with
          | zero => exact absurd HA.out (by simp [laws_FnMixes.j5])
          | succ kj149 =>
           have H := HA.out
           clear HA
           simp only [laws_FnMixes.j5] at H
           have HC196 := Aside0.mk H
           clear H
           go_upto_region 24 with (fail)
           go_cut [34, 35] (fun v34 v35 wc => ∃ (kq : Nat) (x34_195 : ByteArray) (x35_195 : Bool), v34 = .string x34_195 ∧ v35 = .bool x35_195 ∧ Aside0 (laws_FnMixes.j6 kq t544 t549 t555 t560 x32_149 x33_149 x34_195 x35_195 t541 t542 t543 t546 t547 t548 t552 t553 t554 t557 t558 t559 = some r) ∧ Aside0 (kq ≤ kj149) ∧ Aside0 (wc.heap[gb498]? = some (.cells #[.int .i64 t494, .int .i64 t495, .int .i64 t496] 23 (0, 0))) ∧ Aside0 (wc.heap[gb503]? = some (.cells #[.int .i64 t499, .int .i64 t500, .int .i64 t501] 23 (0, 0))) ∧ Aside0 (wc.heap[gb508]? = some (.cells #[.int .i64 t504, .int .i64 t505, .int .i64 t506] 23 (0, 0))) ∧ Aside0 (wc.heap[gb539]? = some (.cells #[.int .i64 t533, .int .i64 t534, .int .i64 t535] 23 (0, 0))) ∧ Aside0 (wc.heap[gb540]? = some (.cells #[.int .i64 t536, .int .i64 t537, .int .i64 t538] 23 (0, 0))) ∧ Aside0 (wc.heap[gb545]? = some (.cells #[.int .i64 t541, .int .i64 t542, .int .i64 t543] 23 (0, 0))) ∧ Aside0 (wc.heap[gb550]? = some (.cells #[.int .i64 t546, .int .i64 t547, .int .i64 t548] 23 (0, 0))) ∧ Aside0 (wc.heap[gb556]? = some (.cells #[.int .i64 t552, .int .i64 t553, .int .i64 t554] 23 (0, 0))) ∧ Aside0 (wc.heap[gb561]? = some (.cells #[.int .i64 t557, .int .i64 t558, .int .i64 t559] 23 (0, 0))) ∧ Aside0 (wc.heap[gb565]? = some (.cells #[.int .i64 t562, .int .i64 t563, .int .i64 t564] 23 (0, 0))) ∧ Aside0 (Below w.heap.size w wc))
           case first =>
            have H := HC196.out
            clear HC196
            replace H := Option.bind_eq_some_iff.mp H
            obtain ⟨⟨t568, t569⟩, A1970, H⟩ := H
            replace H : (laws_FnMixes.j6 kj149 t544 t549 t555 t560 x32_149 x33_149 t568 t569 t541 t542 t543 t546 t547 t548 t552 t553 t554 t557 t558 t559) = some r := H
            have A197 := Aside0.mk A1970
            clear A1970
            have H' := Aside0.mk H
            clear H
            have hnb198 := NB565_498.out
            have hnc198 := NB498_565.out
            have hnb199 := NB565_503.out
            have hnc199 := NB503_565.out
            have hnb200 := NB565_508.out
            have hnc200 := NB508_565.out
            have hnb201 := NB565_539.out
            have hnc201 := NB539_565.out
            have hnb202 := NB565_540.out
            have hnc202 := NB540_565.out
            have hnb203 := NB565_545.out
            have hnc203 := NB545_565.out
            have hnb204 := NB565_550.out
            have hnc204 := NB550_565.out
            have hnb205 := NB565_556.out
            have hnc205 := NB556_565.out
            have hnb206 := NB565_561.out
            have hnc206 := NB561_565.out
            have hcz207_0 : wc.cell? ⟨gb565, 0, none⟩ = some (.int .i64 t562) := (blk_cell BK565.out 0).trans rfl
            have hcz207_1 : wc.cell? ⟨gb565, 1, none⟩ = some (.int .i64 t563) := (blk_cell BK565.out 1).trans rfl
            have hcz207_2 : wc.cell? ⟨gb565, 2, none⟩ = some (.int .i64 t564) := (blk_cell BK565.out 2).trans rfl
            have hfz207_0 := blk_frozen BK565.out 0
            have hfz207_1 := blk_frozen BK565.out 1
            have hfz207_2 := blk_frozen BK565.out 2
            go_wp2_with (first | ((with_reducible refine gate_callee (f := 21) rfl ?_); refine goesL_ (some 178) rfl rfl Try.func21 (by kernel_rfl) rfl #[.agg #[.int .i64 t562, .int .i64 t563, .int .i64 t564]] rfl (by (try simp only [List.map_toArray, List.map_cons, List.map_nil]); first | done | rfl | (simp only [List.length_drop, List.length_take]; rfl)) ?_; (with_reducible refine (spec_EndMix.calls t562 t563 t564 t568 t569 _ A197.out).mono ?_); rintro e w208 ⟨rfl, hb⟩; refine ⟨_, rfl, ?_⟩; have n0_ := Aside0.mk (bz_ BK498 hb); have n1_ := Aside0.mk (bz_ BK503 hb); have n2_ := Aside0.mk (bz_ BK508 hb); have n3_ := Aside0.mk (bz_ BK539 hb); have n4_ := Aside0.mk (bz_ BK540 hb); have n5_ := Aside0.mk (bz_ BK545 hb); have n6_ := Aside0.mk (bz_ BK550 hb); have n7_ := Aside0.mk (bz_ BK556 hb); have n8_ := Aside0.mk (bz_ BK561 hb); have n9_ := Aside0.mk (bz_ BK565 hb); have n10_ := Aside0.mk (bs_ HB.out hb); clear BK498; clear BK503; clear BK508; clear BK539; clear BK540; clear BK545; clear BK550; clear BK556; clear BK561; clear BK565; clear HB; have BK498 := n0_; have BK503 := n1_; have BK508 := n2_; have BK539 := n3_; have BK540 := n4_; have BK545 := n5_; have BK550 := n6_; have BK556 := n7_; have BK561 := n8_; have BK565 := n9_; have HB := n10_; clear n0_ n1_ n2_ n3_ n4_ n5_ n6_ n7_ n8_ n9_ n10_; (try clear hb); (try clear hb2); (try clear hk); (try clear hi)))
            go_meet
            case rel => exact ⟨_, (t568), (t569), (by first | rfl | (simp; done) | (simp [*]; done)), (by first | rfl | (simp; done) | (simp [*]; done)), H', ⟨by have := HJ6.out; have := HJ29.out; have := HJ112.out; have := HJ149.out; first | omega | exact Nat.le_refl _⟩, ⟨by (with_reducible repeat (first | refine blk_drewN ?_ _ | refine blk_drew ?_ | refine blk_alloc ?_ _)); exact BK498.out⟩, ⟨by (with_reducible repeat (first | refine blk_drewN ?_ _ | refine blk_drew ?_ | refine blk_alloc ?_ _)); exact BK503.out⟩, ⟨by (with_reducible repeat (first | refine blk_drewN ?_ _ | refine blk_drew ?_ | refine blk_alloc ?_ _)); exact BK508.out⟩, ⟨by (with_reducible repeat (first | refine blk_drewN ?_ _ | refine blk_drew ?_ | refine blk_alloc ?_ _)); exact BK539.out⟩, ⟨by (with_reducible repeat (first | refine blk_drewN ?_ _ | refine blk_drew ?_ | refine blk_alloc ?_ _)); exact BK540.out⟩, ⟨by (with_reducible repeat (first | refine blk_drewN ?_ _ | refine blk_drew ?_ | refine blk_alloc ?_ _)); exact BK545.out⟩, ⟨by (with_reducible repeat (first | refine blk_drewN ?_ _ | refine blk_drew ?_ | refine blk_alloc ?_ _)); exact BK550.out⟩, ⟨by (with_reducible repeat (first | refine blk_drewN ?_ _ | refine blk_drew ?_ | refine blk_alloc ?_ _)); exact BK556.out⟩, ⟨by (with_reducible repeat (first | refine blk_drewN ?_ _ | refine blk_drew ?_ | refine blk_alloc ?_ _)); exact BK561.out⟩, ⟨by (with_reducible repeat (first | refine blk_drewN ?_ _ | refine blk_drew ?_ | refine blk_alloc ?_ _)); exact BK565.out⟩, ⟨by repeat (first | (with_reducible first | exact HB.out | apply below_alloc | apply pw_below_drewN | apply below_drew1 | refine below_set ?_ GE498.out | refine below_set ?_ GE503.out | refine below_set ?_ GE508.out | refine below_set ?_ GE539.out | refine below_set ?_ GE540.out | refine below_set ?_ GE545.out | refine below_set ?_ GE550.out | refine below_set ?_ GE556.out | refine below_set ?_ GE561.out | refine below_set ?_ GE565.out) | exact HB.out)⟩⟩
           case rest =>
            clear HC196
            try clear c3; try clear c29; try clear hcz121_0; try clear hcz121_1; try clear hcz121_2; try clear hcz125_0; try clear hcz125_1; try clear hcz125_2; try clear hcz133_0; try clear hcz133_1; try clear hcz133_2; try clear hcz134_0; try clear hcz134_1; try clear hcz134_2; try clear hcz135_0; try clear hcz135_1; try clear hcz135_2; try clear hcz144_0; try clear hcz144_1; try clear hcz144_2; try clear hcz160_0
            try clear hcz160_1; try clear hcz160_2; try clear hcz171_0; try clear hcz171_1; try clear hcz171_2; try clear hcz183_0; try clear hcz183_1; try clear hcz183_2; try clear hfz121_0; try clear hfz121_1; try clear hfz121_2; try clear hfz125_0; try clear hfz125_1; try clear hfz125_2; try clear hfz133_0; try clear hfz133_1; try clear hfz133_2; try clear hfz134_0; try clear hfz134_1; try clear hfz134_2
            try clear hfz135_0; try clear hfz135_1; try clear hfz135_2; try clear hfz144_0; try clear hfz144_1; try clear hfz144_2; try clear hfz160_0; try clear hfz160_1; try clear hfz160_2; try clear hfz171_0; try clear hfz171_1; try clear hfz171_2; try clear hfz183_0; try clear hfz183_1; try clear hfz183_2
            obtain ⟨kq, x34_195, x35_195, rfl, rfl, HA, HJ195, BK498, BK503, BK508, BK539, BK540, BK545, BK550, BK556, BK561, BK565, HB⟩ := hcut
            cases kq with
            | zero => exact absurd HA.out (by simp [laws_FnMixes.j6])
            | succ kj195 =>
             have H := HA.out
             clear HA
             simp only [laws_FnMixes.j6] at H
             have HC209 := Aside0.mk H
             clear H
             go_upto_region 25 with (fail)
             go_cut [4] (fun v4 wc => ∃ (kq : Nat) (x4_208 : Bool), v4 = .bool x4_208 ∧ Aside0 (laws_FnMixes.j7 kq x4_208 = some r) ∧ Aside0 (kq ≤ kj195) ∧ Aside0 (wc.heap[gb498]? = some (.cells #[.int .i64 t494, .int .i64 t495, .int .i64 t496] 23 (0, 0))) ∧ Aside0 (wc.heap[gb503]? = some (.cells #[.int .i64 t499, .int .i64 t500, .int .i64 t501] 23 (0, 0))) ∧ Aside0 (wc.heap[gb508]? = some (.cells #[.int .i64 t504, .int .i64 t505, .int .i64 t506] 23 (0, 0))) ∧ Aside0 (wc.heap[gb539]? = some (.cells #[.int .i64 t533, .int .i64 t534, .int .i64 t535] 23 (0, 0))) ∧ Aside0 (wc.heap[gb540]? = some (.cells #[.int .i64 t536, .int .i64 t537, .int .i64 t538] 23 (0, 0))) ∧ Aside0 (wc.heap[gb545]? = some (.cells #[.int .i64 t541, .int .i64 t542, .int .i64 t543] 23 (0, 0))) ∧ Aside0 (wc.heap[gb550]? = some (.cells #[.int .i64 t546, .int .i64 t547, .int .i64 t548] 23 (0, 0))) ∧ Aside0 (wc.heap[gb556]? = some (.cells #[.int .i64 t552, .int .i64 t553, .int .i64 t554] 23 (0, 0))) ∧ Aside0 (wc.heap[gb561]? = some (.cells #[.int .i64 t557, .int .i64 t558, .int .i64 t559] 23 (0, 0))) ∧ Aside0 (wc.heap[gb565]? = some (.cells #[.int .i64 t562, .int .i64 t563, .int .i64 t564] 23 (0, 0))) ∧ Aside0 (Below w.heap.size w wc))
             case first =>
              as_aux_lemma =>
              have H := HC209.out
              clear HC209
              by_cases c210 : (t544 == t549) = true
              ·rw [if_pos c210] at H
               have c210b0 : (t544 == t549) = true := c210
               (try (have c210b1 : decide (t544 = t549) = true := by simpa using c210))
               (try (have c210b2 : (t544 == t549) = true := by simpa using c210))
               clear c210
               (first | rw [c210b0] | (simp only [i64_w, i32_w]; rw [c210b0]) | rw [c210b1] | skip)
               by_cases c211 : (t541 == t546 && (t542 == t547 && (t543 == t548))) = true
               ·rw [if_pos c211] at H
                have c211b0 : (t541 == t546 && (t542 == t547 && (t543 == t548))) = true := c211
                (try (have c211b1 : decide (t541 = t546 && (t542 == t547 && (t543 == t548))) = true := by simpa using c211))
                (try (have c211b2 : (t541 == t546 && (t542 == t547 && (t543 == t548))) = true := by simpa using c211))
                clear c211
                by_cases c212 : (t555 == t560) = true
                ·rw [if_pos c212] at H
                 have c212b0 : (t555 == t560) = true := c212
                 (try (have c212b1 : decide (t555 = t560) = true := by simpa using c212))
                 (try (have c212b2 : (t555 == t560) = true := by simpa using c212))
                 clear c212
                 by_cases c213 : (t552 == t557 && (t553 == t558 && (t554 == t559))) = true
                 ·rw [if_pos c213] at H
                  have c213b0 : (t552 == t557 && (t553 == t558 && (t554 == t559))) = true := c213
                  (try (have c213b1 : decide (t552 = t557 && (t553 == t558 && (t554 == t559))) = true := by simpa using c213))
                  (try (have c213b2 : (t552 == t557 && (t553 == t558 && (t554 == t559))) = true := by simpa using c213))
                  clear c213
                  by_cases c214 : (x33_149 == x35_195) = true
                  ·rw [if_pos c214] at H
                   have c214b0 : (x33_149 == x35_195) = true := c214
                   (try (have c214b1 : decide (x33_149 = x35_195) = true := by simpa using c214))
                   (try (have c214b2 : (x33_149 == x35_195) = true := by simpa using c214))
                   clear c214
                   by_cases c215 : x32_149.toList = x34_195.toList
                   ·rw [if_pos c215] at H
                    have c215b0 : (x32_149.toList == x34_195.toList) = true := beq_iff_eq.mpr c215
                    have c215b1 : (x32_149.toList != x34_195.toList) = false := bne_eq_false_iff_eq.mpr c215
                    clear c215
                    by_cases c216 : x33_149 = true
                    ·subst c216
                     have H1 : (laws_FnMixes.j7 kj195 ((x32_149.size : Int) == 4)) = some r := by rw [if_pos rfl] at H; exact H
                     clear H
                     have H := H1
                     clear H1
                     have H' := Aside0.mk H
                     clear H
                     have hnb217 := NB545_498.out
                     have hnc217 := NB498_545.out
                     have hnb218 := NB545_503.out
                     have hnc218 := NB503_545.out
                     have hnb219 := NB545_508.out
                     have hnc219 := NB508_545.out
                     have hnb220 := NB545_539.out
                     have hnc220 := NB539_545.out
                     have hnb221 := NB545_540.out
                     have hnc221 := NB540_545.out
                     have hnb222 := NB545_550.out
                     have hnc222 := NB550_545.out
                     have hnb223 := NB545_556.out
                     have hnc223 := NB556_545.out
                     have hnb224 := NB545_561.out
                     have hnc224 := NB561_545.out
                     have hnb225 := NB545_565.out
                     have hnc225 := NB565_545.out
                     have hcz226_0 : wc.cell? ⟨gb545, 0, none⟩ = some (.int .i64 t541) := (blk_cell BK545.out 0).trans rfl
                     have hcz226_1 : wc.cell? ⟨gb545, 1, none⟩ = some (.int .i64 t542) := (blk_cell BK545.out 1).trans rfl
                     have hcz226_2 : wc.cell? ⟨gb545, 2, none⟩ = some (.int .i64 t543) := (blk_cell BK545.out 2).trans rfl
                     have hfz226_0 := blk_frozen BK545.out 0
                     have hfz226_1 := blk_frozen BK545.out 1
                     have hfz226_2 := blk_frozen BK545.out 2
                     have hnb227 := NB550_498.out
                     have hnc227 := NB498_550.out
                     have hnb228 := NB550_503.out
                     have hnc228 := NB503_550.out
                     have hnb229 := NB550_508.out
                     have hnc229 := NB508_550.out
                     have hnb230 := NB550_539.out
                     have hnc230 := NB539_550.out
                     have hnb231 := NB550_540.out
                     have hnc231 := NB540_550.out
                     have hnb232 := NB550_556.out
                     have hnc232 := NB556_550.out
                     have hnb233 := NB550_561.out
                     have hnc233 := NB561_550.out
                     have hnb234 := NB550_565.out
                     have hnc234 := NB565_550.out
                     have hcz235_0 : wc.cell? ⟨gb550, 0, none⟩ = some (.int .i64 t546) := (blk_cell BK550.out 0).trans rfl
                     have hcz235_1 : wc.cell? ⟨gb550, 1, none⟩ = some (.int .i64 t547) := (blk_cell BK550.out 1).trans rfl
                     have hcz235_2 : wc.cell? ⟨gb550, 2, none⟩ = some (.int .i64 t548) := (blk_cell BK550.out 2).trans rfl
                     have hfz235_0 := blk_frozen BK550.out 0
                     have hfz235_1 := blk_frozen BK550.out 1
                     have hfz235_2 := blk_frozen BK550.out 2
                     have hnb236 := NB556_498.out
                     have hnc236 := NB498_556.out
                     have hnb237 := NB556_503.out
                     have hnc237 := NB503_556.out
                     have hnb238 := NB556_508.out
                     have hnc238 := NB508_556.out
                     have hnb239 := NB556_539.out
                     have hnc239 := NB539_556.out
                     have hnb240 := NB556_540.out
                     have hnc240 := NB540_556.out
                     have hnb241 := NB556_561.out
                     have hnc241 := NB561_556.out
                     have hnb242 := NB556_565.out
                     have hnc242 := NB565_556.out
                     have hcz243_0 : wc.cell? ⟨gb556, 0, none⟩ = some (.int .i64 t552) := (blk_cell BK556.out 0).trans rfl
                     have hcz243_1 : wc.cell? ⟨gb556, 1, none⟩ = some (.int .i64 t553) := (blk_cell BK556.out 1).trans rfl
                     have hcz243_2 : wc.cell? ⟨gb556, 2, none⟩ = some (.int .i64 t554) := (blk_cell BK556.out 2).trans rfl
                     have hfz243_0 := blk_frozen BK556.out 0
                     have hfz243_1 := blk_frozen BK556.out 1
                     have hfz243_2 := blk_frozen BK556.out 2
                     have hnb244 := NB561_498.out
                     have hnc244 := NB498_561.out
                     have hnb245 := NB561_503.out
                     have hnc245 := NB503_561.out
                     have hnb246 := NB561_508.out
                     have hnc246 := NB508_561.out
                     have hnb247 := NB561_539.out
                     have hnc247 := NB539_561.out
                     have hnb248 := NB561_540.out
                     have hnc248 := NB540_561.out
                     have hnb249 := NB561_565.out
                     have hnc249 := NB565_561.out
                     have hcz250_0 : wc.cell? ⟨gb561, 0, none⟩ = some (.int .i64 t557) := (blk_cell BK561.out 0).trans rfl
                     have hcz250_1 : wc.cell? ⟨gb561, 1, none⟩ = some (.int .i64 t558) := (blk_cell BK561.out 1).trans rfl
                     have hcz250_2 : wc.cell? ⟨gb561, 2, none⟩ = some (.int .i64 t559) := (blk_cell BK561.out 2).trans rfl
                     have hfz250_0 := blk_frozen BK561.out 0
                     have hfz250_1 := blk_frozen BK561.out 1
                     have hfz250_2 := blk_frozen BK561.out 2
                     go_wp2
                     go_meet
                     case rel => exact ⟨_, (((x32_149.size : Int) == 4)), (by first | rfl | (simp; done) | (simp [*]; done)), H', ⟨by have := HJ6.out; have := HJ29.out; have := HJ112.out; have := HJ149.out; have := HJ195.out; first | omega | exact Nat.le_refl _⟩, ⟨by (with_reducible repeat (first | refine blk_drewN ?_ _ | refine blk_drew ?_ | refine blk_alloc ?_ _)); exact BK498.out⟩, ⟨by (with_reducible repeat (first | refine blk_drewN ?_ _ | refine blk_drew ?_ | refine blk_alloc ?_ _)); exact BK503.out⟩, ⟨by (with_reducible repeat (first | refine blk_drewN ?_ _ | refine blk_drew ?_ | refine blk_alloc ?_ _)); exact BK508.out⟩, ⟨by (with_reducible repeat (first | refine blk_drewN ?_ _ | refine blk_drew ?_ | refine blk_alloc ?_ _)); exact BK539.out⟩, ⟨by (with_reducible repeat (first | refine blk_drewN ?_ _ | refine blk_drew ?_ | refine blk_alloc ?_ _)); exact BK540.out⟩, ⟨by (with_reducible repeat (first | refine blk_drewN ?_ _ | refine blk_drew ?_ | refine blk_alloc ?_ _)); exact BK545.out⟩, ⟨by (with_reducible repeat (first | refine blk_drewN ?_ _ | refine blk_drew ?_ | refine blk_alloc ?_ _)); exact BK550.out⟩, ⟨by (with_reducible repeat (first | refine blk_drewN ?_ _ | refine blk_drew ?_ | refine blk_alloc ?_ _)); exact BK556.out⟩, ⟨by (with_reducible repeat (first | refine blk_drewN ?_ _ | refine blk_drew ?_ | refine blk_alloc ?_ _)); exact BK561.out⟩, ⟨by (with_reducible repeat (first | refine blk_drewN ?_ _ | refine blk_drew ?_ | refine blk_alloc ?_ _)); exact BK565.out⟩, ⟨by repeat (first | (with_reducible first | exact HB.out | apply below_alloc | apply pw_below_drewN | apply below_drew1 | refine below_set ?_ GE498.out | refine below_set ?_ GE503.out | refine below_set ?_ GE508.out | refine below_set ?_ GE539.out | refine below_set ?_ GE540.out | refine below_set ?_ GE545.out | refine below_set ?_ GE550.out | refine below_set ?_ GE556.out | refine below_set ?_ GE561.out | refine below_set ?_ GE565.out) | exact HB.out)⟩⟩
                    ·replace c216 := Bool.eq_false_iff.mpr c216
                     subst c216
                     have H1 : (laws_FnMixes.j7 kj195 true) = some r := by rw [if_neg (show ¬ (false = true) by decide)] at H; exact H
                     clear H
                     have H := H1
                     clear H1
                     have H' := Aside0.mk H
                     clear H
                     have hnb251 := NB545_498.out
                     have hnc251 := NB498_545.out
                     have hnb252 := NB545_503.out
                     have hnc252 := NB503_545.out
                     have hnb253 := NB545_508.out
                     have hnc253 := NB508_545.out
                     have hnb254 := NB545_539.out
                     have hnc254 := NB539_545.out
                     have hnb255 := NB545_540.out
                     have hnc255 := NB540_545.out
                     have hnb256 := NB545_550.out
                     have hnc256 := NB550_545.out
                     have hnb257 := NB545_556.out
                     have hnc257 := NB556_545.out
                     have hnb258 := NB545_561.out
                     have hnc258 := NB561_545.out
                     have hnb259 := NB545_565.out
                     have hnc259 := NB565_545.out
                     have hcz260_0 : wc.cell? ⟨gb545, 0, none⟩ = some (.int .i64 t541) := (blk_cell BK545.out 0).trans rfl
                     have hcz260_1 : wc.cell? ⟨gb545, 1, none⟩ = some (.int .i64 t542) := (blk_cell BK545.out 1).trans rfl
                     have hcz260_2 : wc.cell? ⟨gb545, 2, none⟩ = some (.int .i64 t543) := (blk_cell BK545.out 2).trans rfl
                     have hfz260_0 := blk_frozen BK545.out 0
                     have hfz260_1 := blk_frozen BK545.out 1
                     have hfz260_2 := blk_frozen BK545.out 2
                     have hnb261 := NB550_498.out
                     have hnc261 := NB498_550.out
                     have hnb262 := NB550_503.out
                     have hnc262 := NB503_550.out
                     have hnb263 := NB550_508.out
                     have hnc263 := NB508_550.out
                     have hnb264 := NB550_539.out
                     have hnc264 := NB539_550.out
                     have hnb265 := NB550_540.out
                     have hnc265 := NB540_550.out
                     have hnb266 := NB550_556.out
                     have hnc266 := NB556_550.out
                     have hnb267 := NB550_561.out
                     have hnc267 := NB561_550.out
                     have hnb268 := NB550_565.out
                     have hnc268 := NB565_550.out
                     have hcz269_0 : wc.cell? ⟨gb550, 0, none⟩ = some (.int .i64 t546) := (blk_cell BK550.out 0).trans rfl
                     have hcz269_1 : wc.cell? ⟨gb550, 1, none⟩ = some (.int .i64 t547) := (blk_cell BK550.out 1).trans rfl
                     have hcz269_2 : wc.cell? ⟨gb550, 2, none⟩ = some (.int .i64 t548) := (blk_cell BK550.out 2).trans rfl
                     have hfz269_0 := blk_frozen BK550.out 0
                     have hfz269_1 := blk_frozen BK550.out 1
                     have hfz269_2 := blk_frozen BK550.out 2
                     have hnb270 := NB556_498.out
                     have hnc270 := NB498_556.out
                     have hnb271 := NB556_503.out
                     have hnc271 := NB503_556.out
                     have hnb272 := NB556_508.out
                     have hnc272 := NB508_556.out
                     have hnb273 := NB556_539.out
                     have hnc273 := NB539_556.out
                     have hnb274 := NB556_540.out
                     have hnc274 := NB540_556.out
                     have hnb275 := NB556_561.out
                     have hnc275 := NB561_556.out
                     have hnb276 := NB556_565.out
                     have hnc276 := NB565_556.out
                     have hcz277_0 : wc.cell? ⟨gb556, 0, none⟩ = some (.int .i64 t552) := (blk_cell BK556.out 0).trans rfl
                     have hcz277_1 : wc.cell? ⟨gb556, 1, none⟩ = some (.int .i64 t553) := (blk_cell BK556.out 1).trans rfl
                     have hcz277_2 : wc.cell? ⟨gb556, 2, none⟩ = some (.int .i64 t554) := (blk_cell BK556.out 2).trans rfl
                     have hfz277_0 := blk_frozen BK556.out 0
                     have hfz277_1 := blk_frozen BK556.out 1
                     have hfz277_2 := blk_frozen BK556.out 2
                     have hnb278 := NB561_498.out
                     have hnc278 := NB498_561.out
                     have hnb279 := NB561_503.out
                     have hnc279 := NB503_561.out
                     have hnb280 := NB561_508.out
                     have hnc280 := NB508_561.out
                     have hnb281 := NB561_539.out
                     have hnc281 := NB539_561.out
                     have hnb282 := NB561_540.out
                     have hnc282 := NB540_561.out
                     have hnb283 := NB561_565.out
                     have hnc283 := NB565_561.out
                     have hcz284_0 : wc.cell? ⟨gb561, 0, none⟩ = some (.int .i64 t557) := (blk_cell BK561.out 0).trans rfl
                     have hcz284_1 : wc.cell? ⟨gb561, 1, none⟩ = some (.int .i64 t558) := (blk_cell BK561.out 1).trans rfl
                     have hcz284_2 : wc.cell? ⟨gb561, 2, none⟩ = some (.int .i64 t559) := (blk_cell BK561.out 2).trans rfl
                     have hfz284_0 := blk_frozen BK561.out 0
                     have hfz284_1 := blk_frozen BK561.out 1
                     have hfz284_2 := blk_frozen BK561.out 2
                     go_wp2
                     go_meet
                     case rel => exact ⟨_, (true), (by first | rfl | (simp; done) | (simp [*]; done)), H', ⟨by have := HJ6.out; have := HJ29.out; have := HJ112.out; have := HJ149.out; have := HJ195.out; first | omega | exact Nat.le_refl _⟩, ⟨by (with_reducible repeat (first | refine blk_drewN ?_ _ | refine blk_drew ?_ | refine blk_alloc ?_ _)); exact BK498.out⟩, ⟨by (with_reducible repeat (first | refine blk_drewN ?_ _ | refine blk_drew ?_ | refine blk_alloc ?_ _)); exact BK503.out⟩, ⟨by (with_reducible repeat (first | refine blk_drewN ?_ _ | refine blk_drew ?_ | refine blk_alloc ?_ _)); exact BK508.out⟩, ⟨by (with_reducible repeat (first | refine blk_drewN ?_ _ | refine blk_drew ?_ | refine blk_alloc ?_ _)); exact BK539.out⟩, ⟨by (with_reducible repeat (first | refine blk_drewN ?_ _ | refine blk_drew ?_ | refine blk_alloc ?_ _)); exact BK540.out⟩, ⟨by (with_reducible repeat (first | refine blk_drewN ?_ _ | refine blk_drew ?_ | refine blk_alloc ?_ _)); exact BK545.out⟩, ⟨by (with_reducible repeat (first | refine blk_drewN ?_ _ | refine blk_drew ?_ | refine blk_alloc ?_ _)); exact BK550.out⟩, ⟨by (with_reducible repeat (first | refine blk_drewN ?_ _ | refine blk_drew ?_ | refine blk_alloc ?_ _)); exact BK556.out⟩, ⟨by (with_reducible repeat (first | refine blk_drewN ?_ _ | refine blk_drew ?_ | refine blk_alloc ?_ _)); exact BK561.out⟩, ⟨by (with_reducible repeat (first | refine blk_drewN ?_ _ | refine blk_drew ?_ | refine blk_alloc ?_ _)); exact BK565.out⟩, ⟨by repeat (first | (with_reducible first | exact HB.out | apply below_alloc | apply pw_below_drewN | apply below_drew1 | refine below_set ?_ GE498.out | refine below_set ?_ GE503.out | refine below_set ?_ GE508.out | refine below_set ?_ GE539.out | refine below_set ?_ GE540.out | refine below_set ?_ GE545.out | refine below_set ?_ GE550.out | refine below_set ?_ GE556.out | refine below_set ?_ GE561.out | refine below_set ?_ GE565.out) | exact HB.out)⟩⟩
                   ·rw [if_neg c215] at H
                    have c215b0 : (x32_149.toList == x34_195.toList) = false := beq_eq_false_iff_ne.mpr c215
                    have c215b1 : (x32_149.toList != x34_195.toList) = true := bne_iff_ne.mpr c215
                    have H' := Aside0.mk H
                    clear H
                    have hnb285 := NB545_498.out
                    have hnc285 := NB498_545.out
                    have hnb286 := NB545_503.out
                    have hnc286 := NB503_545.out
                    have hnb287 := NB545_508.out
                    have hnc287 := NB508_545.out
                    have hnb288 := NB545_539.out
                    have hnc288 := NB539_545.out
                    have hnb289 := NB545_540.out
                    have hnc289 := NB540_545.out
                    have hnb290 := NB545_550.out
                    have hnc290 := NB550_545.out
                    have hnb291 := NB545_556.out
                    have hnc291 := NB556_545.out
                    have hnb292 := NB545_561.out
                    have hnc292 := NB561_545.out
                    have hnb293 := NB545_565.out
                    have hnc293 := NB565_545.out
                    have hcz294_0 : wc.cell? ⟨gb545, 0, none⟩ = some (.int .i64 t541) := (blk_cell BK545.out 0).trans rfl
                    have hcz294_1 : wc.cell? ⟨gb545, 1, none⟩ = some (.int .i64 t542) := (blk_cell BK545.out 1).trans rfl
                    have hcz294_2 : wc.cell? ⟨gb545, 2, none⟩ = some (.int .i64 t543) := (blk_cell BK545.out 2).trans rfl
                    have hfz294_0 := blk_frozen BK545.out 0
                    have hfz294_1 := blk_frozen BK545.out 1
                    have hfz294_2 := blk_frozen BK545.out 2
                    have hnb295 := NB550_498.out
                    have hnc295 := NB498_550.out
                    have hnb296 := NB550_503.out
                    have hnc296 := NB503_550.out
                    have hnb297 := NB550_508.out
                    have hnc297 := NB508_550.out
                    have hnb298 := NB550_539.out
                    have hnc298 := NB539_550.out
                    have hnb299 := NB550_540.out
                    have hnc299 := NB540_550.out
                    have hnb300 := NB550_556.out
                    have hnc300 := NB556_550.out
                    have hnb301 := NB550_561.out
                    have hnc301 := NB561_550.out
                    have hnb302 := NB550_565.out
                    have hnc302 := NB565_550.out
                    have hcz303_0 : wc.cell? ⟨gb550, 0, none⟩ = some (.int .i64 t546) := (blk_cell BK550.out 0).trans rfl
                    have hcz303_1 : wc.cell? ⟨gb550, 1, none⟩ = some (.int .i64 t547) := (blk_cell BK550.out 1).trans rfl
                    have hcz303_2 : wc.cell? ⟨gb550, 2, none⟩ = some (.int .i64 t548) := (blk_cell BK550.out 2).trans rfl
                    have hfz303_0 := blk_frozen BK550.out 0
                    have hfz303_1 := blk_frozen BK550.out 1
                    have hfz303_2 := blk_frozen BK550.out 2
                    have hnb304 := NB556_498.out
                    have hnc304 := NB498_556.out
                    have hnb305 := NB556_503.out
                    have hnc305 := NB503_556.out
                    have hnb306 := NB556_508.out
                    have hnc306 := NB508_556.out
                    have hnb307 := NB556_539.out
                    have hnc307 := NB539_556.out
                    have hnb308 := NB556_540.out
                    have hnc308 := NB540_556.out
                    have hnb309 := NB556_561.out
                    have hnc309 := NB561_556.out
                    have hnb310 := NB556_565.out
                    have hnc310 := NB565_556.out
                    have hcz311_0 : wc.cell? ⟨gb556, 0, none⟩ = some (.int .i64 t552) := (blk_cell BK556.out 0).trans rfl
                    have hcz311_1 : wc.cell? ⟨gb556, 1, none⟩ = some (.int .i64 t553) := (blk_cell BK556.out 1).trans rfl
                    have hcz311_2 : wc.cell? ⟨gb556, 2, none⟩ = some (.int .i64 t554) := (blk_cell BK556.out 2).trans rfl
                    have hfz311_0 := blk_frozen BK556.out 0
                    have hfz311_1 := blk_frozen BK556.out 1
                    have hfz311_2 := blk_frozen BK556.out 2
                    have hnb312 := NB561_498.out
                    have hnc312 := NB498_561.out
                    have hnb313 := NB561_503.out
                    have hnc313 := NB503_561.out
                    have hnb314 := NB561_508.out
                    have hnc314 := NB508_561.out
                    have hnb315 := NB561_539.out
                    have hnc315 := NB539_561.out
                    have hnb316 := NB561_540.out
                    have hnc316 := NB540_561.out
                    have hnb317 := NB561_565.out
                    have hnc317 := NB565_561.out
                    have hcz318_0 : wc.cell? ⟨gb561, 0, none⟩ = some (.int .i64 t557) := (blk_cell BK561.out 0).trans rfl
                    have hcz318_1 : wc.cell? ⟨gb561, 1, none⟩ = some (.int .i64 t558) := (blk_cell BK561.out 1).trans rfl
                    have hcz318_2 : wc.cell? ⟨gb561, 2, none⟩ = some (.int .i64 t559) := (blk_cell BK561.out 2).trans rfl
                    have hfz318_0 := blk_frozen BK561.out 0
                    have hfz318_1 := blk_frozen BK561.out 1
                    have hfz318_2 := blk_frozen BK561.out 2
                    go_wp2
                    go_meet
                    case rel => exact ⟨_, (false), (by first | rfl | (simp; done) | (simp [*]; done)), H', ⟨by have := HJ6.out; have := HJ29.out; have := HJ112.out; have := HJ149.out; have := HJ195.out; first | omega | exact Nat.le_refl _⟩, ⟨by (with_reducible repeat (first | refine blk_drewN ?_ _ | refine blk_drew ?_ | refine blk_alloc ?_ _)); exact BK498.out⟩, ⟨by (with_reducible repeat (first | refine blk_drewN ?_ _ | refine blk_drew ?_ | refine blk_alloc ?_ _)); exact BK503.out⟩, ⟨by (with_reducible repeat (first | refine blk_drewN ?_ _ | refine blk_drew ?_ | refine blk_alloc ?_ _)); exact BK508.out⟩, ⟨by (with_reducible repeat (first | refine blk_drewN ?_ _ | refine blk_drew ?_ | refine blk_alloc ?_ _)); exact BK539.out⟩, ⟨by (with_reducible repeat (first | refine blk_drewN ?_ _ | refine blk_drew ?_ | refine blk_alloc ?_ _)); exact BK540.out⟩, ⟨by (with_reducible repeat (first | refine blk_drewN ?_ _ | refine blk_drew ?_ | refine blk_alloc ?_ _)); exact BK545.out⟩, ⟨by (with_reducible repeat (first | refine blk_drewN ?_ _ | refine blk_drew ?_ | refine blk_alloc ?_ _)); exact BK550.out⟩, ⟨by (with_reducible repeat (first | refine blk_drewN ?_ _ | refine blk_drew ?_ | refine blk_alloc ?_ _)); exact BK556.out⟩, ⟨by (with_reducible repeat (first | refine blk_drewN ?_ _ | refine blk_drew ?_ | refine blk_alloc ?_ _)); exact BK561.out⟩, ⟨by (with_reducible repeat (first | refine blk_drewN ?_ _ | refine blk_drew ?_ | refine blk_alloc ?_ _)); exact BK565.out⟩, ⟨by repeat (first | (with_reducible first | exact HB.out | apply below_alloc | apply pw_below_drewN | apply below_drew1 | refine below_set ?_ GE498.out | refine below_set ?_ GE503.out | refine below_set ?_ GE508.out | refine below_set ?_ GE539.out | refine below_set ?_ GE540.out | refine below_set ?_ GE545.out | refine below_set ?_ GE550.out | refine below_set ?_ GE556.out | refine below_set ?_ GE561.out | refine below_set ?_ GE565.out) | exact HB.out)⟩⟩
                  ·rw [if_neg c214] at H
                   have c214b0 : (x33_149 == x35_195) = false := by simpa using c214
                   (try (have c214b1 : decide (x33_149 = x35_195) = false := by simpa using c214))
                   (try (have c214b2 : (x33_149 == x35_195) = false := by simpa using c214))
                   (try (have c214b3 : ¬ (x33_149 = x35_195) := by simpa using c214))
                   clear c214
                   have H' := Aside0.mk H
                   clear H
                   have hnb319 := NB545_498.out
                   have hnc319 := NB498_545.out
                   have hnb320 := NB545_503.out
                   have hnc320 := NB503_545.out
                   have hnb321 := NB545_508.out
                   have hnc321 := NB508_545.out
                   have hnb322 := NB545_539.out
                   have hnc322 := NB539_545.out
                   have hnb323 := NB545_540.out
                   have hnc323 := NB540_545.out
                   have hnb324 := NB545_550.out
                   have hnc324 := NB550_545.out
                   have hnb325 := NB545_556.out
                   have hnc325 := NB556_545.out
                   have hnb326 := NB545_561.out
                   have hnc326 := NB561_545.out
                   have hnb327 := NB545_565.out
                   have hnc327 := NB565_545.out
                   have hcz328_0 : wc.cell? ⟨gb545, 0, none⟩ = some (.int .i64 t541) := (blk_cell BK545.out 0).trans rfl
                   have hcz328_1 : wc.cell? ⟨gb545, 1, none⟩ = some (.int .i64 t542) := (blk_cell BK545.out 1).trans rfl
                   have hcz328_2 : wc.cell? ⟨gb545, 2, none⟩ = some (.int .i64 t543) := (blk_cell BK545.out 2).trans rfl
                   have hfz328_0 := blk_frozen BK545.out 0
                   have hfz328_1 := blk_frozen BK545.out 1
                   have hfz328_2 := blk_frozen BK545.out 2
                   have hnb329 := NB550_498.out
                   have hnc329 := NB498_550.out
                   have hnb330 := NB550_503.out
                   have hnc330 := NB503_550.out
                   have hnb331 := NB550_508.out
                   have hnc331 := NB508_550.out
                   have hnb332 := NB550_539.out
                   have hnc332 := NB539_550.out
                   have hnb333 := NB550_540.out
                   have hnc333 := NB540_550.out
                   have hnb334 := NB550_556.out
                   have hnc334 := NB556_550.out
                   have hnb335 := NB550_561.out
                   have hnc335 := NB561_550.out
                   have hnb336 := NB550_565.out
                   have hnc336 := NB565_550.out
                   have hcz337_0 : wc.cell? ⟨gb550, 0, none⟩ = some (.int .i64 t546) := (blk_cell BK550.out 0).trans rfl
                   have hcz337_1 : wc.cell? ⟨gb550, 1, none⟩ = some (.int .i64 t547) := (blk_cell BK550.out 1).trans rfl
                   have hcz337_2 : wc.cell? ⟨gb550, 2, none⟩ = some (.int .i64 t548) := (blk_cell BK550.out 2).trans rfl
                   have hfz337_0 := blk_frozen BK550.out 0
                   have hfz337_1 := blk_frozen BK550.out 1
                   have hfz337_2 := blk_frozen BK550.out 2
                   have hnb338 := NB556_498.out
                   have hnc338 := NB498_556.out
                   have hnb339 := NB556_503.out
                   have hnc339 := NB503_556.out
                   have hnb340 := NB556_508.out
                   have hnc340 := NB508_556.out
                   have hnb341 := NB556_539.out
                   have hnc341 := NB539_556.out
                   have hnb342 := NB556_540.out
                   have hnc342 := NB540_556.out
                   have hnb343 := NB556_561.out
                   have hnc343 := NB561_556.out
                   have hnb344 := NB556_565.out
                   have hnc344 := NB565_556.out
                   have hcz345_0 : wc.cell? ⟨gb556, 0, none⟩ = some (.int .i64 t552) := (blk_cell BK556.out 0).trans rfl
                   have hcz345_1 : wc.cell? ⟨gb556, 1, none⟩ = some (.int .i64 t553) := (blk_cell BK556.out 1).trans rfl
                   have hcz345_2 : wc.cell? ⟨gb556, 2, none⟩ = some (.int .i64 t554) := (blk_cell BK556.out 2).trans rfl
                   have hfz345_0 := blk_frozen BK556.out 0
                   have hfz345_1 := blk_frozen BK556.out 1
                   have hfz345_2 := blk_frozen BK556.out 2
                   have hnb346 := NB561_498.out
                   have hnc346 := NB498_561.out
                   have hnb347 := NB561_503.out
                   have hnc347 := NB503_561.out
                   have hnb348 := NB561_508.out
                   have hnc348 := NB508_561.out
                   have hnb349 := NB561_539.out
                   have hnc349 := NB539_561.out
                   have hnb350 := NB561_540.out
                   have hnc350 := NB540_561.out
                   have hnb351 := NB561_565.out
                   have hnc351 := NB565_561.out
                   have hcz352_0 : wc.cell? ⟨gb561, 0, none⟩ = some (.int .i64 t557) := (blk_cell BK561.out 0).trans rfl
                   have hcz352_1 : wc.cell? ⟨gb561, 1, none⟩ = some (.int .i64 t558) := (blk_cell BK561.out 1).trans rfl
                   have hcz352_2 : wc.cell? ⟨gb561, 2, none⟩ = some (.int .i64 t559) := (blk_cell BK561.out 2).trans rfl
                   have hfz352_0 := blk_frozen BK561.out 0
                   have hfz352_1 := blk_frozen BK561.out 1
                   have hfz352_2 := blk_frozen BK561.out 2
                   go_wp2
                   go_meet
                   case rel => exact ⟨_, (false), (by first | rfl | (simp; done) | (simp [*]; done)), H', ⟨by have := HJ6.out; have := HJ29.out; have := HJ112.out; have := HJ149.out; have := HJ195.out; first | omega | exact Nat.le_refl _⟩, ⟨by (with_reducible repeat (first | refine blk_drewN ?_ _ | refine blk_drew ?_ | refine blk_alloc ?_ _)); exact BK498.out⟩, ⟨by (with_reducible repeat (first | refine blk_drewN ?_ _ | refine blk_drew ?_ | refine blk_alloc ?_ _)); exact BK503.out⟩, ⟨by (with_reducible repeat (first | refine blk_drewN ?_ _ | refine blk_drew ?_ | refine blk_alloc ?_ _)); exact BK508.out⟩, ⟨by (with_reducible repeat (first | refine blk_drewN ?_ _ | refine blk_drew ?_ | refine blk_alloc ?_ _)); exact BK539.out⟩, ⟨by (with_reducible repeat (first | refine blk_drewN ?_ _ | refine blk_drew ?_ | refine blk_alloc ?_ _)); exact BK540.out⟩, ⟨by (with_reducible repeat (first | refine blk_drewN ?_ _ | refine blk_drew ?_ | refine blk_alloc ?_ _)); exact BK545.out⟩, ⟨by (with_reducible repeat (first | refine blk_drewN ?_ _ | refine blk_drew ?_ | refine blk_alloc ?_ _)); exact BK550.out⟩, ⟨by (with_reducible repeat (first | refine blk_drewN ?_ _ | refine blk_drew ?_ | refine blk_alloc ?_ _)); exact BK556.out⟩, ⟨by (with_reducible repeat (first | refine blk_drewN ?_ _ | refine blk_drew ?_ | refine blk_alloc ?_ _)); exact BK561.out⟩, ⟨by (with_reducible repeat (first | refine blk_drewN ?_ _ | refine blk_drew ?_ | refine blk_alloc ?_ _)); exact BK565.out⟩, ⟨by repeat (first | (with_reducible first | exact HB.out | apply below_alloc | apply pw_below_drewN | apply below_drew1 | refine below_set ?_ GE498.out | refine below_set ?_ GE503.out | refine below_set ?_ GE508.out | refine below_set ?_ GE539.out | refine below_set ?_ GE540.out | refine below_set ?_ GE545.out | refine below_set ?_ GE550.out | refine below_set ?_ GE556.out | refine below_set ?_ GE561.out | refine below_set ?_ GE565.out) | exact HB.out)⟩⟩
                 ·rw [if_neg c213] at H
                  have c213b0 : (t552 == t557 && (t553 == t558 && (t554 == t559))) = false := by simpa using c213
                  (try (have c213b1 : decide (t552 = t557 && (t553 == t558 && (t554 == t559))) = false := by simpa using c213))
                  (try (have c213b2 : (t552 == t557 && (t553 == t558 && (t554 == t559))) = false := by simpa using c213))
                  (try (have c213b3 : ¬ (t552 = t557 && (t553 == t558 && (t554 == t559))) := by simpa using c213))
                  clear c213
                  have H' := Aside0.mk H
                  clear H
                  have hnb353 := NB545_498.out
                  have hnc353 := NB498_545.out
                  have hnb354 := NB545_503.out
                  have hnc354 := NB503_545.out
                  have hnb355 := NB545_508.out
                  have hnc355 := NB508_545.out
                  have hnb356 := NB545_539.out
                  have hnc356 := NB539_545.out
                  have hnb357 := NB545_540.out
                  have hnc357 := NB540_545.out
                  have hnb358 := NB545_550.out
                  have hnc358 := NB550_545.out
                  have hnb359 := NB545_556.out
                  have hnc359 := NB556_545.out
                  have hnb360 := NB545_561.out
                  have hnc360 := NB561_545.out
                  have hnb361 := NB545_565.out
                  have hnc361 := NB565_545.out
                  have hcz362_0 : wc.cell? ⟨gb545, 0, none⟩ = some (.int .i64 t541) := (blk_cell BK545.out 0).trans rfl
                  have hcz362_1 : wc.cell? ⟨gb545, 1, none⟩ = some (.int .i64 t542) := (blk_cell BK545.out 1).trans rfl
                  have hcz362_2 : wc.cell? ⟨gb545, 2, none⟩ = some (.int .i64 t543) := (blk_cell BK545.out 2).trans rfl
                  have hfz362_0 := blk_frozen BK545.out 0
                  have hfz362_1 := blk_frozen BK545.out 1
                  have hfz362_2 := blk_frozen BK545.out 2
                  have hnb363 := NB550_498.out
                  have hnc363 := NB498_550.out
                  have hnb364 := NB550_503.out
                  have hnc364 := NB503_550.out
                  have hnb365 := NB550_508.out
                  have hnc365 := NB508_550.out
                  have hnb366 := NB550_539.out
                  have hnc366 := NB539_550.out
                  have hnb367 := NB550_540.out
                  have hnc367 := NB540_550.out
                  have hnb368 := NB550_556.out
                  have hnc368 := NB556_550.out
                  have hnb369 := NB550_561.out
                  have hnc369 := NB561_550.out
                  have hnb370 := NB550_565.out
                  have hnc370 := NB565_550.out
                  have hcz371_0 : wc.cell? ⟨gb550, 0, none⟩ = some (.int .i64 t546) := (blk_cell BK550.out 0).trans rfl
                  have hcz371_1 : wc.cell? ⟨gb550, 1, none⟩ = some (.int .i64 t547) := (blk_cell BK550.out 1).trans rfl
                  have hcz371_2 : wc.cell? ⟨gb550, 2, none⟩ = some (.int .i64 t548) := (blk_cell BK550.out 2).trans rfl
                  have hfz371_0 := blk_frozen BK550.out 0
                  have hfz371_1 := blk_frozen BK550.out 1
                  have hfz371_2 := blk_frozen BK550.out 2
                  have hnb372 := NB556_498.out
                  have hnc372 := NB498_556.out
                  have hnb373 := NB556_503.out
                  have hnc373 := NB503_556.out
                  have hnb374 := NB556_508.out
                  have hnc374 := NB508_556.out
                  have hnb375 := NB556_539.out
                  have hnc375 := NB539_556.out
                  have hnb376 := NB556_540.out
                  have hnc376 := NB540_556.out
                  have hnb377 := NB556_561.out
                  have hnc377 := NB561_556.out
                  have hnb378 := NB556_565.out
                  have hnc378 := NB565_556.out
                  have hcz379_0 : wc.cell? ⟨gb556, 0, none⟩ = some (.int .i64 t552) := (blk_cell BK556.out 0).trans rfl
                  have hcz379_1 : wc.cell? ⟨gb556, 1, none⟩ = some (.int .i64 t553) := (blk_cell BK556.out 1).trans rfl
                  have hcz379_2 : wc.cell? ⟨gb556, 2, none⟩ = some (.int .i64 t554) := (blk_cell BK556.out 2).trans rfl
                  have hfz379_0 := blk_frozen BK556.out 0
                  have hfz379_1 := blk_frozen BK556.out 1
                  have hfz379_2 := blk_frozen BK556.out 2
                  have hnb380 := NB561_498.out
                  have hnc380 := NB498_561.out
                  have hnb381 := NB561_503.out
                  have hnc381 := NB503_561.out
                  have hnb382 := NB561_508.out
                  have hnc382 := NB508_561.out
                  have hnb383 := NB561_539.out
                  have hnc383 := NB539_561.out
                  have hnb384 := NB561_540.out
                  have hnc384 := NB540_561.out
                  have hnb385 := NB561_565.out
                  have hnc385 := NB565_561.out
                  have hcz386_0 : wc.cell? ⟨gb561, 0, none⟩ = some (.int .i64 t557) := (blk_cell BK561.out 0).trans rfl
                  have hcz386_1 : wc.cell? ⟨gb561, 1, none⟩ = some (.int .i64 t558) := (blk_cell BK561.out 1).trans rfl
                  have hcz386_2 : wc.cell? ⟨gb561, 2, none⟩ = some (.int .i64 t559) := (blk_cell BK561.out 2).trans rfl
                  have hfz386_0 := blk_frozen BK561.out 0
                  have hfz386_1 := blk_frozen BK561.out 1
                  have hfz386_2 := blk_frozen BK561.out 2
                  go_wp2
                  go_meet
                  case rel => exact ⟨_, (false), (by first | rfl | (simp; done) | (simp [*]; done)), H', ⟨by have := HJ6.out; have := HJ29.out; have := HJ112.out; have := HJ149.out; have := HJ195.out; first | omega | exact Nat.le_refl _⟩, ⟨by (with_reducible repeat (first | refine blk_drewN ?_ _ | refine blk_drew ?_ | refine blk_alloc ?_ _)); exact BK498.out⟩, ⟨by (with_reducible repeat (first | refine blk_drewN ?_ _ | refine blk_drew ?_ | refine blk_alloc ?_ _)); exact BK503.out⟩, ⟨by (with_reducible repeat (first | refine blk_drewN ?_ _ | refine blk_drew ?_ | refine blk_alloc ?_ _)); exact BK508.out⟩, ⟨by (with_reducible repeat (first | refine blk_drewN ?_ _ | refine blk_drew ?_ | refine blk_alloc ?_ _)); exact BK539.out⟩, ⟨by (with_reducible repeat (first | refine blk_drewN ?_ _ | refine blk_drew ?_ | refine blk_alloc ?_ _)); exact BK540.out⟩, ⟨by (with_reducible repeat (first | refine blk_drewN ?_ _ | refine blk_drew ?_ | refine blk_alloc ?_ _)); exact BK545.out⟩, ⟨by (with_reducible repeat (first | refine blk_drewN ?_ _ | refine blk_drew ?_ | refine blk_alloc ?_ _)); exact BK550.out⟩, ⟨by (with_reducible repeat (first | refine blk_drewN ?_ _ | refine blk_drew ?_ | refine blk_alloc ?_ _)); exact BK556.out⟩, ⟨by (with_reducible repeat (first | refine blk_drewN ?_ _ | refine blk_drew ?_ | refine blk_alloc ?_ _)); exact BK561.out⟩, ⟨by (with_reducible repeat (first | refine blk_drewN ?_ _ | refine blk_drew ?_ | refine blk_alloc ?_ _)); exact BK565.out⟩, ⟨by repeat (first | (with_reducible first | exact HB.out | apply below_alloc | apply pw_below_drewN | apply below_drew1 | refine below_set ?_ GE498.out | refine below_set ?_ GE503.out | refine below_set ?_ GE508.out | refine below_set ?_ GE539.out | refine below_set ?_ GE540.out | refine below_set ?_ GE545.out | refine below_set ?_ GE550.out | refine below_set ?_ GE556.out | refine below_set ?_ GE561.out | refine below_set ?_ GE565.out) | exact HB.out)⟩⟩
                ·rw [if_neg c212] at H
                 have c212b0 : (t555 == t560) = false := by simpa using c212
                 (try (have c212b1 : decide (t555 = t560) = false := by simpa using c212))
                 (try (have c212b2 : (t555 == t560) = false := by simpa using c212))
                 (try (have c212b3 : ¬ (t555 = t560) := by simpa using c212))
                 clear c212
                 have H' := Aside0.mk H
                 clear H
                 have hnb387 := NB545_498.out
                 have hnc387 := NB498_545.out
                 have hnb388 := NB545_503.out
                 have hnc388 := NB503_545.out
                 have hnb389 := NB545_508.out
                 have hnc389 := NB508_545.out
                 have hnb390 := NB545_539.out
                 have hnc390 := NB539_545.out
                 have hnb391 := NB545_540.out
                 have hnc391 := NB540_545.out
                 have hnb392 := NB545_550.out
                 have hnc392 := NB550_545.out
                 have hnb393 := NB545_556.out
                 have hnc393 := NB556_545.out
                 have hnb394 := NB545_561.out
                 have hnc394 := NB561_545.out
                 have hnb395 := NB545_565.out
                 have hnc395 := NB565_545.out
                 have hcz396_0 : wc.cell? ⟨gb545, 0, none⟩ = some (.int .i64 t541) := (blk_cell BK545.out 0).trans rfl
                 have hcz396_1 : wc.cell? ⟨gb545, 1, none⟩ = some (.int .i64 t542) := (blk_cell BK545.out 1).trans rfl
                 have hcz396_2 : wc.cell? ⟨gb545, 2, none⟩ = some (.int .i64 t543) := (blk_cell BK545.out 2).trans rfl
                 have hfz396_0 := blk_frozen BK545.out 0
                 have hfz396_1 := blk_frozen BK545.out 1
                 have hfz396_2 := blk_frozen BK545.out 2
                 have hnb397 := NB550_498.out
                 have hnc397 := NB498_550.out
                 have hnb398 := NB550_503.out
                 have hnc398 := NB503_550.out
                 have hnb399 := NB550_508.out
                 have hnc399 := NB508_550.out
                 have hnb400 := NB550_539.out
                 have hnc400 := NB539_550.out
                 have hnb401 := NB550_540.out
                 have hnc401 := NB540_550.out
                 have hnb402 := NB550_556.out
                 have hnc402 := NB556_550.out
                 have hnb403 := NB550_561.out
                 have hnc403 := NB561_550.out
                 have hnb404 := NB550_565.out
                 have hnc404 := NB565_550.out
                 have hcz405_0 : wc.cell? ⟨gb550, 0, none⟩ = some (.int .i64 t546) := (blk_cell BK550.out 0).trans rfl
                 have hcz405_1 : wc.cell? ⟨gb550, 1, none⟩ = some (.int .i64 t547) := (blk_cell BK550.out 1).trans rfl
                 have hcz405_2 : wc.cell? ⟨gb550, 2, none⟩ = some (.int .i64 t548) := (blk_cell BK550.out 2).trans rfl
                 have hfz405_0 := blk_frozen BK550.out 0
                 have hfz405_1 := blk_frozen BK550.out 1
                 have hfz405_2 := blk_frozen BK550.out 2
                 go_wp2
                 go_meet
                 case rel => exact ⟨_, (false), (by first | rfl | (simp; done) | (simp [*]; done)), H', ⟨by have := HJ6.out; have := HJ29.out; have := HJ112.out; have := HJ149.out; have := HJ195.out; first | omega | exact Nat.le_refl _⟩, ⟨by (with_reducible repeat (first | refine blk_drewN ?_ _ | refine blk_drew ?_ | refine blk_alloc ?_ _)); exact BK498.out⟩, ⟨by (with_reducible repeat (first | refine blk_drewN ?_ _ | refine blk_drew ?_ | refine blk_alloc ?_ _)); exact BK503.out⟩, ⟨by (with_reducible repeat (first | refine blk_drewN ?_ _ | refine blk_drew ?_ | refine blk_alloc ?_ _)); exact BK508.out⟩, ⟨by (with_reducible repeat (first | refine blk_drewN ?_ _ | refine blk_drew ?_ | refine blk_alloc ?_ _)); exact BK539.out⟩, ⟨by (with_reducible repeat (first | refine blk_drewN ?_ _ | refine blk_drew ?_ | refine blk_alloc ?_ _)); exact BK540.out⟩, ⟨by (with_reducible repeat (first | refine blk_drewN ?_ _ | refine blk_drew ?_ | refine blk_alloc ?_ _)); exact BK545.out⟩, ⟨by (with_reducible repeat (first | refine blk_drewN ?_ _ | refine blk_drew ?_ | refine blk_alloc ?_ _)); exact BK550.out⟩, ⟨by (with_reducible repeat (first | refine blk_drewN ?_ _ | refine blk_drew ?_ | refine blk_alloc ?_ _)); exact BK556.out⟩, ⟨by (with_reducible repeat (first | refine blk_drewN ?_ _ | refine blk_drew ?_ | refine blk_alloc ?_ _)); exact BK561.out⟩, ⟨by (with_reducible repeat (first | refine blk_drewN ?_ _ | refine blk_drew ?_ | refine blk_alloc ?_ _)); exact BK565.out⟩, ⟨by repeat (first | (with_reducible first | exact HB.out | apply below_alloc | apply pw_below_drewN | apply below_drew1 | refine below_set ?_ GE498.out | refine below_set ?_ GE503.out | refine below_set ?_ GE508.out | refine below_set ?_ GE539.out | refine below_set ?_ GE540.out | refine below_set ?_ GE545.out | refine below_set ?_ GE550.out | refine below_set ?_ GE556.out | refine below_set ?_ GE561.out | refine below_set ?_ GE565.out) | exact HB.out)⟩⟩
               ·rw [if_neg c211] at H
                have c211b0 : (t541 == t546 && (t542 == t547 && (t543 == t548))) = false := by simpa using c211
                (try (have c211b1 : decide (t541 = t546 && (t542 == t547 && (t543 == t548))) = false := by simpa using c211))
                (try (have c211b2 : (t541 == t546 && (t542 == t547 && (t543 == t548))) = false := by simpa using c211))
                (try (have c211b3 : ¬ (t541 = t546 && (t542 == t547 && (t543 == t548))) := by simpa using c211))
                clear c211
                have H' := Aside0.mk H
                clear H
                have hnb406 := NB545_498.out
                have hnc406 := NB498_545.out
                have hnb407 := NB545_503.out
                have hnc407 := NB503_545.out
                have hnb408 := NB545_508.out
                have hnc408 := NB508_545.out
                have hnb409 := NB545_539.out
                have hnc409 := NB539_545.out
                have hnb410 := NB545_540.out
                have hnc410 := NB540_545.out
                have hnb411 := NB545_550.out
                have hnc411 := NB550_545.out
                have hnb412 := NB545_556.out
                have hnc412 := NB556_545.out
                have hnb413 := NB545_561.out
                have hnc413 := NB561_545.out
                have hnb414 := NB545_565.out
                have hnc414 := NB565_545.out
                have hcz415_0 : wc.cell? ⟨gb545, 0, none⟩ = some (.int .i64 t541) := (blk_cell BK545.out 0).trans rfl
                have hcz415_1 : wc.cell? ⟨gb545, 1, none⟩ = some (.int .i64 t542) := (blk_cell BK545.out 1).trans rfl
                have hcz415_2 : wc.cell? ⟨gb545, 2, none⟩ = some (.int .i64 t543) := (blk_cell BK545.out 2).trans rfl
                have hfz415_0 := blk_frozen BK545.out 0
                have hfz415_1 := blk_frozen BK545.out 1
                have hfz415_2 := blk_frozen BK545.out 2
                have hnb416 := NB550_498.out
                have hnc416 := NB498_550.out
                have hnb417 := NB550_503.out
                have hnc417 := NB503_550.out
                have hnb418 := NB550_508.out
                have hnc418 := NB508_550.out
                have hnb419 := NB550_539.out
                have hnc419 := NB539_550.out
                have hnb420 := NB550_540.out
                have hnc420 := NB540_550.out
                have hnb421 := NB550_556.out
                have hnc421 := NB556_550.out
                have hnb422 := NB550_561.out
                have hnc422 := NB561_550.out
                have hnb423 := NB550_565.out
                have hnc423 := NB565_550.out
                have hcz424_0 : wc.cell? ⟨gb550, 0, none⟩ = some (.int .i64 t546) := (blk_cell BK550.out 0).trans rfl
                have hcz424_1 : wc.cell? ⟨gb550, 1, none⟩ = some (.int .i64 t547) := (blk_cell BK550.out 1).trans rfl
                have hcz424_2 : wc.cell? ⟨gb550, 2, none⟩ = some (.int .i64 t548) := (blk_cell BK550.out 2).trans rfl
                have hfz424_0 := blk_frozen BK550.out 0
                have hfz424_1 := blk_frozen BK550.out 1
                have hfz424_2 := blk_frozen BK550.out 2
                go_wp2
                go_meet
                case rel => exact ⟨_, (false), (by first | rfl | (simp; done) | (simp [*]; done)), H', ⟨by have := HJ6.out; have := HJ29.out; have := HJ112.out; have := HJ149.out; have := HJ195.out; first | omega | exact Nat.le_refl _⟩, ⟨by (with_reducible repeat (first | refine blk_drewN ?_ _ | refine blk_drew ?_ | refine blk_alloc ?_ _)); exact BK498.out⟩, ⟨by (with_reducible repeat (first | refine blk_drewN ?_ _ | refine blk_drew ?_ | refine blk_alloc ?_ _)); exact BK503.out⟩, ⟨by (with_reducible repeat (first | refine blk_drewN ?_ _ | refine blk_drew ?_ | refine blk_alloc ?_ _)); exact BK508.out⟩, ⟨by (with_reducible repeat (first | refine blk_drewN ?_ _ | refine blk_drew ?_ | refine blk_alloc ?_ _)); exact BK539.out⟩, ⟨by (with_reducible repeat (first | refine blk_drewN ?_ _ | refine blk_drew ?_ | refine blk_alloc ?_ _)); exact BK540.out⟩, ⟨by (with_reducible repeat (first | refine blk_drewN ?_ _ | refine blk_drew ?_ | refine blk_alloc ?_ _)); exact BK545.out⟩, ⟨by (with_reducible repeat (first | refine blk_drewN ?_ _ | refine blk_drew ?_ | refine blk_alloc ?_ _)); exact BK550.out⟩, ⟨by (with_reducible repeat (first | refine blk_drewN ?_ _ | refine blk_drew ?_ | refine blk_alloc ?_ _)); exact BK556.out⟩, ⟨by (with_reducible repeat (first | refine blk_drewN ?_ _ | refine blk_drew ?_ | refine blk_alloc ?_ _)); exact BK561.out⟩, ⟨by (with_reducible repeat (first | refine blk_drewN ?_ _ | refine blk_drew ?_ | refine blk_alloc ?_ _)); exact BK565.out⟩, ⟨by repeat (first | (with_reducible first | exact HB.out | apply below_alloc | apply pw_below_drewN | apply below_drew1 | refine below_set ?_ GE498.out | refine below_set ?_ GE503.out | refine below_set ?_ GE508.out | refine below_set ?_ GE539.out | refine below_set ?_ GE540.out | refine below_set ?_ GE545.out | refine below_set ?_ GE550.out | refine below_set ?_ GE556.out | refine below_set ?_ GE561.out | refine below_set ?_ GE565.out) | exact HB.out)⟩⟩
              ·rw [if_neg c210] at H
               have c210b0 : (t544 == t549) = false := by simpa using c210
               (try (have c210b1 : decide (t544 = t549) = false := by simpa using c210))
               (try (have c210b2 : (t544 == t549) = false := by simpa using c210))
               (try (have c210b3 : ¬ (t544 = t549) := by simpa using c210))
               clear c210
               (first | rw [c210b0] | (simp only [i64_w, i32_w]; rw [c210b0]) | rw [c210b1] | skip)
               have H' := Aside0.mk H
               clear H
               go_wp2
               go_meet
               case rel => exact ⟨_, (false), (by first | rfl | (simp; done) | (simp [*]; done)), H', ⟨by have := HJ6.out; have := HJ29.out; have := HJ112.out; have := HJ149.out; have := HJ195.out; first | omega | exact Nat.le_refl _⟩, ⟨by (with_reducible repeat (first | refine blk_drewN ?_ _ | refine blk_drew ?_ | refine blk_alloc ?_ _)); exact BK498.out⟩, ⟨by (with_reducible repeat (first | refine blk_drewN ?_ _ | refine blk_drew ?_ | refine blk_alloc ?_ _)); exact BK503.out⟩, ⟨by (with_reducible repeat (first | refine blk_drewN ?_ _ | refine blk_drew ?_ | refine blk_alloc ?_ _)); exact BK508.out⟩, ⟨by (with_reducible repeat (first | refine blk_drewN ?_ _ | refine blk_drew ?_ | refine blk_alloc ?_ _)); exact BK539.out⟩, ⟨by (with_reducible repeat (first | refine blk_drewN ?_ _ | refine blk_drew ?_ | refine blk_alloc ?_ _)); exact BK540.out⟩, ⟨by (with_reducible repeat (first | refine blk_drewN ?_ _ | refine blk_drew ?_ | refine blk_alloc ?_ _)); exact BK545.out⟩, ⟨by (with_reducible repeat (first | refine blk_drewN ?_ _ | refine blk_drew ?_ | refine blk_alloc ?_ _)); exact BK550.out⟩, ⟨by (with_reducible repeat (first | refine blk_drewN ?_ _ | refine blk_drew ?_ | refine blk_alloc ?_ _)); exact BK556.out⟩, ⟨by (with_reducible repeat (first | refine blk_drewN ?_ _ | refine blk_drew ?_ | refine blk_alloc ?_ _)); exact BK561.out⟩, ⟨by (with_reducible repeat (first | refine blk_drewN ?_ _ | refine blk_drew ?_ | refine blk_alloc ?_ _)); exact BK565.out⟩, ⟨by repeat (first | (with_reducible first | exact HB.out | apply below_alloc | apply pw_below_drewN | apply below_drew1 | refine below_set ?_ GE498.out | refine below_set ?_ GE503.out | refine below_set ?_ GE508.out | refine below_set ?_ GE539.out | refine below_set ?_ GE540.out | refine below_set ?_ GE545.out | refine below_set ?_ GE550.out | refine below_set ?_ GE556.out | refine below_set ?_ GE561.out | refine below_set ?_ GE565.out) | exact HB.out)⟩⟩
             case rest =>
              clear HC209
              try clear c3; try clear c29
              obtain ⟨kq, x4_208, rfl, HA, HJ208, BK498, BK503, BK508, BK539, BK540, BK545, BK550, BK556, BK561, BK565, HB⟩ := hcut
              cases kq with
              | zero => exact absurd HA.out (by simp [laws_FnMixes.j7])
              | succ kj208 =>
               have H := HA.out
               clear HA
               simp only [laws_FnMixes.j7] at H
               obtain rfl := Option.some.inj H
               go_wp2
               go_ret
               exact ⟨by first | rfl | (simp [errW_none, errW_some] <;> rfl) | (simp [*, errW_none, errW_some] <;> rfl), by repeat (first | (with_reducible first | exact HB.out | apply below_alloc | apply pw_below_drewN | apply below_drew1 | refine below_set ?_ GE498.out | refine below_set ?_ GE503.out | refine below_set ?_ GE508.out | refine below_set ?_ GE539.out | refine below_set ?_ GE540.out | refine below_set ?_ GE545.out | refine below_set ?_ GE550.out | refine below_set ?_ GE556.out | refine below_set ?_ GE561.out | refine below_set ?_ GE565.out) | exact HB.out)⟩

end Go.Proofs.Ythkbaaclbjnkiaa.Fn
