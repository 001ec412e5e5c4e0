/- Part 6 of the walks and words that FnSums uses. No conditions of its own. -/
import Derived.Laws.BitsAllLaws
import Derived.Test.YthliooccgclbjaaMFnSums5

-- written by a program of this session's (wip/pp)
namespace Go.Proofs.Ythliooccgclbjaa.P
open Go.RowKit Go.Proofs.YthliooccgclbjaaW.PrintWords Go.Proofs.YthliooccgclbjaaW.PrintLast Go.Proofs.YthliooccgclbjaaW.PrintMore
attribute [local go_sem] max2_int min2_int max_two min_two max_three min_three max_four min_four   -- for this text's walks alone
set_option linter.unusedVariables false
set_option linter.unusedSimpArgs false

/-! ### laws_FnSums: function 6 -/
mutual
def laws_FnSums.j0 : Nat → List Int → Bool → Bool → Int → Int → Int → Int → List Int → Bool → Int → Int → Int → Int → List Int → Bool → Int → Int → Int → Int → List Int → Bool → Option (Bool)
 | 0, _, _, _, _, _, _, _, _, _, _, _, _, _, _, _, _, _, _, _, _, _ => none
 | k + 1, x1, x8, x72, x118000, x118001, x118002, x118003, x118004, x118005, x119000, x119001, x119002, x119003, x119004, x119005, x129000, x129001, x129002, x129003, x129004, x129005 => if x72 = true then (some false) else (if x8 = true then ((spec_DrawAggBytes.f k x1).bind fun bt151 => ((impl_AggBytes.f k bt151.1 bt151.2.1 bt151.2.2.1 bt151.2.2.2.1 bt151.2.2.2.2.1 bt151.2.2.2.2.2).bind fun bt160 => ((spec_GoodAgg.f k bt151.1 bt151.2.1 bt151.2.2.1 bt151.2.2.2.1 bt151.2.2.2.2.1 bt151.2.2.2.2.2).bind fun t164 => (if (bt160.2 != t164) = true then (some false) else (if bt160.2 = true then ((impl_ReadAgg.f k bt160.1).bind fun bt165 => (if bt165.2.2.2.2.2.2 = true then ((laws_sameAggs.f k bt165.1 bt165.2.1 bt165.2.2.1 bt165.2.2.2.1 bt165.2.2.2.2.1 bt165.2.2.2.2.2.1 bt151.1 bt151.2.1 bt151.2.2.1 bt151.2.2.2.1 bt151.2.2.2.2.1 bt151.2.2.2.2.2).bind fun t175 => (laws_FnSums.j1 k (!t175) x118000 x118001 x118002 x118003 x118004 x118005 x119000 x119001 x119002 x119003 x119004 x119005 x129000 x129001 x129002 x129003 x129004 x129005 bt151.1 bt151.2.1 bt151.2.2.1 bt151.2.2.2.1 bt151.2.2.2.2.1 bt151.2.2.2.2.2)) else (laws_FnSums.j1 k true x118000 x118001 x118002 x118003 x118004 x118005 x119000 x119001 x119002 x119003 x119004 x119005 x129000 x129001 x129002 x129003 x129004 x129005 bt151.1 bt151.2.1 bt151.2.2.1 bt151.2.2.2.1 bt151.2.2.2.2.1 bt151.2.2.2.2.2))) else (some true)))))) else (some true))
def laws_FnSums.j1 : Nat → Bool → Int → Int → Int → Int → List Int → Bool → Int → Int → Int → Int → List Int → Bool → Int → Int → Int → Int → List Int → Bool → Int → Int → Int → Int → List Int → Bool → Option (Bool)
 | 0, _, _, _, _, _, _, _, _, _, _, _, _, _, _, _, _, _, _, _, _, _, _, _, _, _ => none
 | k + 1, x100, x118000, x118001, x118002, x118003, x118004, x118005, x119000, x119001, x119002, x119003, x119004, x119005, x129000, x129001, x129002, x129003, x129004, x129005, x160000, x160001, x160002, x160003, x160004, x160005 => if x100 = true then (some false) else ((impl_JoinAggs.f k x129000 x129001 x129002 x129003 x129004 x129005 x160000 x160001 x160002 x160003 x160004 x160005).bind fun bt176 => ((impl_JoinAggs.f k x119000 x119001 x119002 x119003 x119004 x119005 x160000 x160001 x160002 x160003 x160004 x160005).bind fun bt186 => ((impl_JoinAggs.f k x118000 x118001 x118002 x118003 x118004 x118005 bt186.1 bt186.2.1 bt186.2.2.1 bt186.2.2.2.1 bt186.2.2.2.2.1 bt186.2.2.2.2.2.1).bind fun bt196 => (if bt176.2.2.2.2.2.2 = true then (if bt186.2.2.2.2.2.2 = true then (if bt196.2.2.2.2.2.2 = true then ((impl_GoodAgg.f k bt176.1 bt176.2.1 bt176.2.2.1 bt176.2.2.2.1 bt176.2.2.2.2.1 bt176.2.2.2.2.2.1).bind fun t206 => (if t206 = true then ((laws_sameAggs.f k bt176.1 bt176.2.1 bt176.2.2.1 bt176.2.2.2.1 bt176.2.2.2.2.1 bt176.2.2.2.2.2.1 bt196.1 bt196.2.1 bt196.2.2.1 bt196.2.2.2.1 bt196.2.2.2.2.1 bt196.2.2.2.2.2.1).bind fun t207 => (some t207)) else (some false))) else (some false)) else (some false)) else (some false)))))
end
def laws_FnSums.f (k : Nat) (l0 : List Int) (l1 : List Int) : Option (Bool) := if (wrap64 ((l0.length : Int) + (l1.length : Int))) > 1048576 then (some true) else ((spec_DrawJoinAggs.f k l0).bind fun bt101 => ((impl_JoinAggs.f k bt101.1 bt101.2.1 bt101.2.2.1 bt101.2.2.2.1 bt101.2.2.2.2.1 bt101.2.2.2.2.2.1 bt101.2.2.2.2.2.2.1 bt101.2.2.2.2.2.2.2.1 bt101.2.2.2.2.2.2.2.2.1 bt101.2.2.2.2.2.2.2.2.2.1 bt101.2.2.2.2.2.2.2.2.2.2.1 bt101.2.2.2.2.2.2.2.2.2.2.2).bind fun bt119 => ((impl_JoinAggs.f k bt101.2.2.2.2.2.2.1 bt101.2.2.2.2.2.2.2.1 bt101.2.2.2.2.2.2.2.2.1 bt101.2.2.2.2.2.2.2.2.2.1 bt101.2.2.2.2.2.2.2.2.2.2.1 bt101.2.2.2.2.2.2.2.2.2.2.2 bt101.1 bt101.2.1 bt101.2.2.1 bt101.2.2.2.1 bt101.2.2.2.2.1 bt101.2.2.2.2.2.1).bind fun bt129 => ((spec_JoinAggs.f k bt101.1 bt101.2.1 bt101.2.2.1 bt101.2.2.2.1 bt101.2.2.2.2.1 bt101.2.2.2.2.2.1 bt101.2.2.2.2.2.2.1 bt101.2.2.2.2.2.2.2.1 bt101.2.2.2.2.2.2.2.2.1 bt101.2.2.2.2.2.2.2.2.2.1 bt101.2.2.2.2.2.2.2.2.2.2.1 bt101.2.2.2.2.2.2.2.2.2.2.2).bind fun bt139 => (if (bt119.2.2.2.2.2.2 != bt139.2.2.2.2.2.2) = true then (laws_FnSums.j0 k l1 bt119.2.2.2.2.2.2 true bt101.1 bt101.2.1 bt101.2.2.1 bt101.2.2.2.1 bt101.2.2.2.2.1 bt101.2.2.2.2.2.1 bt101.2.2.2.2.2.2.1 bt101.2.2.2.2.2.2.2.1 bt101.2.2.2.2.2.2.2.2.1 bt101.2.2.2.2.2.2.2.2.2.1 bt101.2.2.2.2.2.2.2.2.2.2.1 bt101.2.2.2.2.2.2.2.2.2.2.2 bt119.1 bt119.2.1 bt119.2.2.1 bt119.2.2.2.1 bt119.2.2.2.2.1 bt119.2.2.2.2.2.1) else (if (bt129.2.2.2.2.2.2 != bt139.2.2.2.2.2.2) = true then (laws_FnSums.j0 k l1 bt119.2.2.2.2.2.2 true bt101.1 bt101.2.1 bt101.2.2.1 bt101.2.2.2.1 bt101.2.2.2.2.1 bt101.2.2.2.2.2.1 bt101.2.2.2.2.2.2.1 bt101.2.2.2.2.2.2.2.1 bt101.2.2.2.2.2.2.2.2.1 bt101.2.2.2.2.2.2.2.2.2.1 bt101.2.2.2.2.2.2.2.2.2.2.1 bt101.2.2.2.2.2.2.2.2.2.2.2 bt119.1 bt119.2.1 bt119.2.2.1 bt119.2.2.2.1 bt119.2.2.2.2.1 bt119.2.2.2.2.2.1) else ((laws_sameAggs.f k bt119.1 bt119.2.1 bt119.2.2.1 bt119.2.2.2.1 bt119.2.2.2.2.1 bt119.2.2.2.2.2.1 bt139.1 bt139.2.1 bt139.2.2.1 bt139.2.2.2.1 bt139.2.2.2.2.1 bt139.2.2.2.2.2.1).bind fun t149 => (if t149 = true then ((laws_sameAggs.f k bt129.1 bt129.2.1 bt129.2.2.1 bt129.2.2.2.1 bt129.2.2.2.2.1 bt129.2.2.2.2.2.1 bt139.1 bt139.2.1 bt139.2.2.1 bt139.2.2.2.1 bt139.2.2.2.2.1 bt139.2.2.2.2.2.1).bind fun t150 => (laws_FnSums.j0 k l1 bt119.2.2.2.2.2.2 (!t150) bt101.1 bt101.2.1 bt101.2.2.1 bt101.2.2.2.1 bt101.2.2.2.2.1 bt101.2.2.2.2.2.1 bt101.2.2.2.2.2.2.1 bt101.2.2.2.2.2.2.2.1 bt101.2.2.2.2.2.2.2.2.1 bt101.2.2.2.2.2.2.2.2.2.1 bt101.2.2.2.2.2.2.2.2.2.2.1 bt101.2.2.2.2.2.2.2.2.2.2.2 bt119.1 bt119.2.1 bt119.2.2.1 bt119.2.2.2.1 bt119.2.2.2.2.1 bt119.2.2.2.2.2.1)) else (laws_FnSums.j0 k l1 bt119.2.2.2.2.2.2 true bt101.1 bt101.2.1 bt101.2.2.1 bt101.2.2.2.1 bt101.2.2.2.2.1 bt101.2.2.2.2.2.1 bt101.2.2.2.2.2.2.1 bt101.2.2.2.2.2.2.2.1 bt101.2.2.2.2.2.2.2.2.1 bt101.2.2.2.2.2.2.2.2.2.1 bt101.2.2.2.2.2.2.2.2.2.2.1 bt101.2.2.2.2.2.2.2.2.2.2.2 bt119.1 bt119.2.1 bt119.2.2.1 bt119.2.2.2.1 bt119.2.2.2.2.1 bt119.2.2.2.2.2.1)))))))))
theorem laws_FnSums.mono_l : ∀ k, (∀ y0 y1 y2 y3 y4 y5 y6 y7 y8 y9 y10 y11 y12 y13 y14 y15 y16 y17 y18 y19 y20, LeO (laws_FnSums.j0 k y0 y1 y2 y3 y4 y5 y6 y7 y8 y9 y10 y11 y12 y13 y14 y15 y16 y17 y18 y19 y20) (laws_FnSums.j0 (k + 1) y0 y1 y2 y3 y4 y5 y6 y7 y8 y9 y10 y11 y12 y13 y14 y15 y16 y17 y18 y19 y20)) ∧ (∀ y0 y1 y2 y3 y4 y5 y6 y7 y8 y9 y10 y11 y12 y13 y14 y15 y16 y17 y18 y19 y20 y21 y22 y23 y24, LeO (laws_FnSums.j1 k y0 y1 y2 y3 y4 y5 y6 y7 y8 y9 y10 y11 y12 y13 y14 y15 y16 y17 y18 y19 y20 y21 y22 y23 y24) (laws_FnSums.j1 (k + 1) y0 y1 y2 y3 y4 y5 y6 y7 y8 y9 y10 y11 y12 y13 y14 y15 y16 y17 y18 y19 y20 y21 y22 y23 y24))
 | 0 => ⟨fun _ _ _ _ _ _ _ _ _ _ _ _ _ _ _ _ _ _ _ _ _ r h => by simp [laws_FnSums.j0] at h, fun _ _ _ _ _ _ _ _ _ _ _ _ _ _ _ _ _ _ _ _ _ _ _ _ _ r h => by simp [laws_FnSums.j1] at h⟩
 | k + 1 => by
  obtain ⟨ih0, ih1⟩ := laws_FnSums.mono_l k
  refine ⟨?_, ?_⟩
  · intro y0 y1 y2 y3 y4 y5 y6 y7 y8 y9 y10 y11 y12 y13 y14 y15 y16 y17 y18 y19 y20
    unfold laws_FnSums.j0
    repeat' first
     | (with_reducible first | exact ih0 .. | exact ih1 .. | exact impl_AggBytes.mono .. | exact impl_GoodAgg.mono .. | exact impl_JoinAggs.mono .. | exact impl_ReadAgg.mono .. | exact laws_sameAggs.mono .. | exact spec_DrawAggBytes.mono .. | exact spec_DrawJoinAggs.mono .. | exact spec_GoodAgg.mono .. | exact spec_JoinAggs.mono .. | exact LeO.refl _ | exact LeO.none _ | refine LeO.ite ?_ ?_ | refine LeO.bind ?_ (fun _ => ?_))
     | exact LeO.none _
     | refine LeO.ite ?_ ?_
     | refine LeO.bind ?_ (fun _ => ?_)
  · intro y0 y1 y2 y3 y4 y5 y6 y7 y8 y9 y10 y11 y12 y13 y14 y15 y16 y17 y18 y19 y20 y21 y22 y23 y24
    unfold laws_FnSums.j1
    repeat' first
     | (with_reducible first | exact ih0 .. | exact ih1 .. | exact impl_AggBytes.mono .. | exact impl_GoodAgg.mono .. | exact impl_JoinAggs.mono .. | exact impl_ReadAgg.mono .. | exact laws_sameAggs.mono .. | exact spec_DrawAggBytes.mono .. | exact spec_DrawJoinAggs.mono .. | exact spec_GoodAgg.mono .. | exact spec_JoinAggs.mono .. | exact LeO.refl _ | exact LeO.none _ | refine LeO.ite ?_ ?_ | refine LeO.bind ?_ (fun _ => ?_))
     | exact LeO.none _
     | refine LeO.ite ?_ ?_
     | refine LeO.bind ?_ (fun _ => ?_)
theorem laws_FnSums.mono : ∀ a0 a1 k, LeO (laws_FnSums.f k a0 a1) (laws_FnSums.f (k + 1) a0 a1) := by
 intro a0 a1 k
 obtain ⟨ih0, ih1⟩ := laws_FnSums.mono_l k
 unfold laws_FnSums.f
 repeat' first
  | (with_reducible first | exact ih0 .. | exact ih1 .. | exact impl_AggBytes.mono .. | exact impl_GoodAgg.mono .. | exact impl_JoinAggs.mono .. | exact impl_ReadAgg.mono .. | exact laws_sameAggs.mono .. | exact spec_DrawAggBytes.mono .. | exact spec_DrawJoinAggs.mono .. | exact spec_GoodAgg.mono .. | exact spec_JoinAggs.mono .. | exact LeO.refl _ | exact LeO.none _ | refine LeO.ite ?_ ?_ | refine LeO.bind ?_ (fun _ => ?_))
  | exact LeO.none _
  | refine LeO.ite ?_ ?_
  | refine LeO.bind ?_ (fun _ => ?_)
set_option maxHeartbeats 8000000 in
set_option maxRecDepth 100000 in
theorem laws_FnSums.calls (k : Nat) (A0 : Option Addr) (c0 : Nat) (l0 : List Int) (A1 : Option Addr) (c1 : Nat) (l1 : List Int) (r : Bool) (w : World) (hr0 : Kd.C (Kd.int .u8) w A0 l0.length l0) (hc0 : l0.length ≤ c0) (hr1 : Kd.C (Kd.int .u8) w A1 l1.length l1) (hc1 : l1.length ≤ c1) (h : laws_FnSums.f k l0 l1 = some r) :
 Calls Try.prog 6 #[.slice A0 l0.length c0, .slice A1 l1.length c1] w fun e w' => e = .returned (.bool r) ∧ Below w.heap.size w w' := by
 have hu54 := Try.underlying54
 have HR0 := aM hr0
 have HC0 := aM hc0
 clear hr0 hc0
 have HR1 := aM hr1
 have HC1 := aM hc1
 clear hr1 hc1
 have HB := aM (Below.refl w.heap.size w)
 have H : (if (wrap64 ((l0.length : Int) + (l1.length : Int))) > 1048576 then (some true) else ((spec_DrawJoinAggs.f k l0).bind fun bt101 => ((impl_JoinAggs.f k bt101.1 bt101.2.1 bt101.2.2.1 bt101.2.2.2.1 bt101.2.2.2.2.1 bt101.2.2.2.2.2.1 bt101.2.2.2.2.2.2.1 bt101.2.2.2.2.2.2.2.1 bt101.2.2.2.2.2.2.2.2.1 bt101.2.2.2.2.2.2.2.2.2.1 bt101.2.2.2.2.2.2.2.2.2.2.1 bt101.2.2.2.2.2.2.2.2.2.2.2).bind fun bt119 => ((impl_JoinAggs.f k bt101.2.2.2.2.2.2.1 bt101.2.2.2.2.2.2.2.1 bt101.2.2.2.2.2.2.2.2.1 bt101.2.2.2.2.2.2.2.2.2.1 bt101.2.2.2.2.2.2.2.2.2.2.1 bt101.2.2.2.2.2.2.2.2.2.2.2 bt101.1 bt101.2.1 bt101.2.2.1 bt101.2.2.2.1 bt101.2.2.2.2.1 bt101.2.2.2.2.2.1).bind fun bt129 => ((spec_JoinAggs.f k bt101.1 bt101.2.1 bt101.2.2.1 bt101.2.2.2.1 bt101.2.2.2.2.1 bt101.2.2.2.2.2.1 bt101.2.2.2.2.2.2.1 bt101.2.2.2.2.2.2.2.1 bt101.2.2.2.2.2.2.2.2.1 bt101.2.2.2.2.2.2.2.2.2.1 bt101.2.2.2.2.2.2.2.2.2.2.1 bt101.2.2.2.2.2.2.2.2.2.2.2).bind fun bt139 => (if (bt119.2.2.2.2.2.2 != bt139.2.2.2.2.2.2) = true then (laws_FnSums.j0 k l1 bt119.2.2.2.2.2.2 true bt101.1 bt101.2.1 bt101.2.2.1 bt101.2.2.2.1 bt101.2.2.2.2.1 bt101.2.2.2.2.2.1 bt101.2.2.2.2.2.2.1 bt101.2.2.2.2.2.2.2.1 bt101.2.2.2.2.2.2.2.2.1 bt101.2.2.2.2.2.2.2.2.2.1 bt101.2.2.2.2.2.2.2.2.2.2.1 bt101.2.2.2.2.2.2.2.2.2.2.2 bt119.1 bt119.2.1 bt119.2.2.1 bt119.2.2.2.1 bt119.2.2.2.2.1 bt119.2.2.2.2.2.1) else (if (bt129.2.2.2.2.2.2 != bt139.2.2.2.2.2.2) = true then (laws_FnSums.j0 k l1 bt119.2.2.2.2.2.2 true bt101.1 bt101.2.1 bt101.2.2.1 bt101.2.2.2.1 bt101.2.2.2.2.1 bt101.2.2.2.2.2.1 bt101.2.2.2.2.2.2.1 bt101.2.2.2.2.2.2.2.1 bt101.2.2.2.2.2.2.2.2.1 bt101.2.2.2.2.2.2.2.2.2.1 bt101.2.2.2.2.2.2.2.2.2.2.1 bt101.2.2.2.2.2.2.2.2.2.2.2 bt119.1 bt119.2.1 bt119.2.2.1 bt119.2.2.2.1 bt119.2.2.2.2.1 bt119.2.2.2.2.2.1) else ((laws_sameAggs.f k bt119.1 bt119.2.1 bt119.2.2.1 bt119.2.2.2.1 bt119.2.2.2.2.1 bt119.2.2.2.2.2.1 bt139.1 bt139.2.1 bt139.2.2.1 bt139.2.2.2.1 bt139.2.2.2.2.1 bt139.2.2.2.2.2.1).bind fun t149 => (if t149 = true then ((laws_sameAggs.f k bt129.1 bt129.2.1 bt129.2.2.1 bt129.2.2.2.1 bt129.2.2.2.2.1 bt129.2.2.2.2.2.1 bt139.1 bt139.2.1 bt139.2.2.1 bt139.2.2.2.1 bt139.2.2.2.2.1 bt139.2.2.2.2.2.1).bind fun t150 => (laws_FnSums.j0 k l1 bt119.2.2.2.2.2.2 (!t150) bt101.1 bt101.2.1 bt101.2.2.1 bt101.2.2.2.1 bt101.2.2.2.2.1 bt101.2.2.2.2.2.1 bt101.2.2.2.2.2.2.1 bt101.2.2.2.2.2.2.2.1 bt101.2.2.2.2.2.2.2.2.1 bt101.2.2.2.2.2.2.2.2.2.1 bt101.2.2.2.2.2.2.2.2.2.2.1 bt101.2.2.2.2.2.2.2.2.2.2.2 bt119.1 bt119.2.1 bt119.2.2.1 bt119.2.2.2.1 bt119.2.2.2.2.1 bt119.2.2.2.2.2.1)) else (laws_FnSums.j0 k l1 bt119.2.2.2.2.2.2 true bt101.1 bt101.2.1 bt101.2.2.1 bt101.2.2.2.1 bt101.2.2.2.2.1 bt101.2.2.2.2.2.1 bt101.2.2.2.2.2.2.1 bt101.2.2.2.2.2.2.2.1 bt101.2.2.2.2.2.2.2.2.1 bt101.2.2.2.2.2.2.2.2.2.1 bt101.2.2.2.2.2.2.2.2.2.2.1 bt101.2.2.2.2.2.2.2.2.2.2.2 bt119.1 bt119.2.1 bt119.2.2.1 bt119.2.2.2.1 bt119.2.2.2.2.1 bt119.2.2.2.2.2.1)))))))))) = some r := h
 clear h
 by_cases c3 : (wrap64 ((l0.length : Int) + (l1.length : Int))) > 1048576
 · rw [if_pos c3] at H
   have c3b0 : decide (1048576 < (wrap64 ((l0.length : Int) + (l1.length : Int)))) = true := decide_eq_true c3
   clear c3
   obtain rfl := Option.some.inj H
   go_enter Try.func6, Try.ntmps6
   go_wp2
   go_ret
   exact ⟨z674d, z5acd⟩
 · rw [if_neg c3] at H
   have c3b0 : decide (1048576 < (wrap64 ((l0.length : Int) + (l1.length : Int)))) = false := decide_eq_false c3
   clear c3
   replace H := Option.bind_eq_some_iff.mp H
   obtain ⟨⟨t101, t102, t103, t104, t105, t108, t109, t110, t111, t112, t113, t116⟩, A40, H⟩ := H
   try dsimp only at H
   have A4 := aM A40
   clear A40
   replace H := Option.bind_eq_some_iff.mp H
   obtain ⟨⟨t119, t120, t121, t122, t123, t126, t127⟩, A50, H⟩ := H
   try dsimp only at H
   have A5 := aM A50
   clear A50
   replace H := Option.bind_eq_some_iff.mp H
   obtain ⟨⟨t129, t130, t131, t132, t133, t136, t137⟩, A60, H⟩ := H
   try dsimp only at H
   have A6 := aM A60
   clear A60
   replace H := Option.bind_eq_some_iff.mp H
   obtain ⟨⟨t139, t140, t141, t142, t143, t146, t147⟩, A70, H⟩ := H
   try dsimp only at H
   have A7 := aM A70
   clear A70
   have HC8 := aM H
   clear H
   go_enter Try.func6, Try.ntmps6
   go_upto_region 7 with (first | ((with_reducible refine gate_callee (f := 26) rfl ?_); refine goesL_ (some 32) rfl rfl Try.func26 (by kernel_rfl) rfl #[.slice A0 l0.length c0] rfl zee81 ?_; (with_reducible refine (spec_DrawJoinAggs.calls k _ _ l0 t101 t102 t103 t104 t105 t108 t109 t110 t111 t112 t113 t116 _ ?side1 ?side2 A4.out).mono ?_); (case side1 => exact z4195); (case side2 => exact HC0.out); rintro e w9 ⟨v106, v114, rfl, ho0, ho1, hb⟩; refine ⟨_, rfl, ?_⟩; have _ := aM (Kd.Q_lower ho0 (below_size hbZ)); have _ := aM (Kd.Q_lower ho1 (below_size hbZ)); have _ := aM (below_step hbZ hb); clear HB; rename_i HO107 HO115 HB; (try clear hb); (try clear ho0); (try clear ho1)) | ((with_reducible refine gate_dst (N := 5) rfl ?_); refine box_event ?hg (N := 5) ?hd (cs := #[.int .i64 0, .int .i64 0, .int .i64 0, .int .i64 0, .slice none 0 0, .bool false]) (t := 54) ?hr ?_; (case hd => rfl); (case hg => rfl); (case hr => first | (go_simp; done) | (go_simp; rfl)); intro gb117 hg w10 hbox hb; have _ := aM (Kd.Q_below (kZ HO107.out) hb); have _ := aM (Kd.Q_below (kZ HO115.out) hb); have _ := aM (below_step hbZ hb); have _ := aM hbox; have _ := szZ hg; have _ := szZ hg; clear HO107 HO115 HB; rename_i HO107 HO115 HB BK117 GW117 GE117; clear hb hbox hg) | ((with_reducible refine gate_dst (N := 6) rfl ?_); refine box_event ?hg (N := 6) ?hd (cs := #[.int .i64 0, .int .i64 0, .int .i64 0, .int .i64 0, .slice none 0 0, .bool false]) (t := 54) ?hr ?_; (case hd => rfl); (case hg => rfl); (case hr => first | (go_simp; done) | (go_simp; rfl)); intro gb118 hg w11 hbox hb; have _ := aM (Kd.Q_below (kZ HO107.out) hb); have _ := aM (Kd.Q_below (kZ HO115.out) hb); have _ := bB gb117 hb; have _ := aM (below_step hbZ hb); have _ := aM hbox; have _ := szZ hg; have _ := szZ hg; have ⟨_, _⟩ := nbB gb117 hg; clear HO107 HO115 BK117 HB; rename_i HO107 HO115 BK117 HB BK118 GW118 GE118 NB117_118 NB118_117; clear hb hbox hg; have hnb12 := NB117_118.out; have hnc12 := NB118_117.out; obtain ⟨hcz13_0, hcz13_1, hcz13_2, hcz13_3, hcz13_4, hcz13_5, hfz13_0, hfz13_1, hfz13_2, hfz13_3, hfz13_4, hfz13_5⟩ := cellsZ6 BK117.out; obtain ⟨Ao14, co14, eo14, _⟩ := Kd.Q_slice HO107.out; subst eo14; obtain ⟨hcz15_0, hcz15_1, hcz15_2, hcz15_3, hcz15_4, hcz15_5, hfz15_0, hfz15_1, hfz15_2, hfz15_3, hfz15_4, hfz15_5⟩ := cellsZ6 BK118.out; obtain ⟨Ao16, co16, eo16, _⟩ := Kd.Q_slice HO115.out; subst eo16) | ((with_reducible refine gate_callee (f := 27) rfl ?_); refine goesL_ (some 38) rfl rfl Try.func27 (by kernel_rfl) rfl #[.agg #[.int .i64 t101, .int .i64 t102, .int .i64 t103, .int .i64 t104, .slice Ao14 t105.length co14, .bool t108], .agg #[.int .i64 t109, .int .i64 t110, .int .i64 t111, .int .i64 t112, .slice Ao16 t113.length co16, .bool t116]] rfl zee81 ?_; (with_reducible refine (impl_JoinAggs.calls k t101 t102 t103 t104 _ _ t105 t108 t109 t110 t111 t112 _ _ t113 t116 t119 t120 t121 t122 t123 t126 t127 _ ?side1 ?side2 ?side3 ?side4 A5.out).mono ?_); (case side1 => refine (Kd.Q_reads' (e := 3) (base := w.heap.size) (ok := fun k_ => some k_ ≠ (.slice Ao16 t113.length co16 : Value).ownBlock) (n := t105.length) (c := co14) ?_).2.2; exact (by (with_reducible repeat (first | apply Kd.Q_alloc | apply Kd.Q_drewN | apply Kd.Q_drew)); exact (Kd.Q_mono (Kd.Q_mono (Kd.Q_far (p := ⟨gb118, 5, none⟩) (Kd.Q_far (p := ⟨gb118, 4, none⟩) (Kd.Q_far (p := ⟨gb118, 3, none⟩) (Kd.Q_far (p := ⟨gb118, 2, none⟩) (Kd.Q_far (p := ⟨gb118, 1, none⟩) (Kd.Q_far (p := ⟨gb118, 0, none⟩) (Kd.Q_far (p := ⟨gb117, 5, none⟩) (Kd.Q_far (p := ⟨gb117, 4, none⟩) (Kd.Q_far (p := ⟨gb117, 3, none⟩) (Kd.Q_far (p := ⟨gb117, 2, none⟩) (Kd.Q_far (p := ⟨gb117, 1, none⟩) (Kd.Q_far (p := ⟨gb117, 0, none⟩) (Kd.Q_types (Kd.Q_types HO107.out BK117.out (by decide)) BK118.out (by decide)) (fun _ hk => hk.1.2) (.int .i64 t101)) (fun _ hk => hk.1.2) (.int .i64 t102)) (fun _ hk => hk.1.2) (.int .i64 t103)) (fun _ hk => hk.1.2) (.int .i64 t104)) (fun _ hk => hk.1.2) (.slice Ao14 t105.length co14)) (fun _ hk => hk.1.2) (.bool t108)) (fun _ hk => hk.2) (.int .i64 t109)) (fun _ hk => hk.2) (.int .i64 t110)) (fun _ hk => hk.2) (.int .i64 t111)) (fun _ hk => hk.2) (.int .i64 t112)) (fun _ hk => hk.2) (.slice Ao16 t113.length co16)) (fun _ hk => hk.2) (.bool t116)) (fun _ h_ => h_.1)) (fun _ h_ => h_.1)))); (case side2 => exact (Kd.Q_reads' HO107.out).2.1); (case side3 => refine (Kd.Q_reads' (e := 3) (base := w.heap.size) (ok := fun k_ => some k_ ≠ (.slice Ao14 t105.length co14 : Value).ownBlock) (n := t113.length) (c := co16) ?_).2.2; exact (by (with_reducible repeat (first | apply Kd.Q_alloc | apply Kd.Q_drewN | apply Kd.Q_drew)); exact (Kd.Q_mono (Kd.Q_mono (Kd.Q_far (p := ⟨gb118, 5, none⟩) (Kd.Q_far (p := ⟨gb118, 4, none⟩) (Kd.Q_far (p := ⟨gb118, 3, none⟩) (Kd.Q_far (p := ⟨gb118, 2, none⟩) (Kd.Q_far (p := ⟨gb118, 1, none⟩) (Kd.Q_far (p := ⟨gb118, 0, none⟩) (Kd.Q_far (p := ⟨gb117, 5, none⟩) (Kd.Q_far (p := ⟨gb117, 4, none⟩) (Kd.Q_far (p := ⟨gb117, 3, none⟩) (Kd.Q_far (p := ⟨gb117, 2, none⟩) (Kd.Q_far (p := ⟨gb117, 1, none⟩) (Kd.Q_far (p := ⟨gb117, 0, none⟩) (Kd.Q_types (Kd.Q_types HO115.out BK117.out (by decide)) BK118.out (by decide)) (fun _ hk => hk.1.2) (.int .i64 t101)) (fun _ hk => hk.1.2) (.int .i64 t102)) (fun _ hk => hk.1.2) (.int .i64 t103)) (fun _ hk => hk.1.2) (.int .i64 t104)) (fun _ hk => hk.1.2) (.slice Ao14 t105.length co14)) (fun _ hk => hk.1.2) (.bool t108)) (fun _ hk => hk.2) (.int .i64 t109)) (fun _ hk => hk.2) (.int .i64 t110)) (fun _ hk => hk.2) (.int .i64 t111)) (fun _ hk => hk.2) (.int .i64 t112)) (fun _ hk => hk.2) (.slice Ao16 t113.length co16)) (fun _ hk => hk.2) (.bool t116)) (fun _ h_ => h_.1)) (fun _ h_ => h_.1)))); (case side4 => exact (Kd.Q_reads' HO115.out).2.1); rintro e w17 ⟨v124, rfl, ho0, hb⟩; refine ⟨_, rfl, ?_⟩; have _ := aM (Kd.Q_elder' (by (with_reducible repeat (first | apply Kd.Q_alloc | apply Kd.Q_drewN | apply Kd.Q_drew)); exact (Kd.Q_mono (Kd.Q_mono (Kd.Q_far (p := ⟨gb118, 5, none⟩) (Kd.Q_far (p := ⟨gb118, 4, none⟩) (Kd.Q_far (p := ⟨gb118, 3, none⟩) (Kd.Q_far (p := ⟨gb118, 2, none⟩) (Kd.Q_far (p := ⟨gb118, 1, none⟩) (Kd.Q_far (p := ⟨gb118, 0, none⟩) (Kd.Q_far (p := ⟨gb117, 5, none⟩) (Kd.Q_far (p := ⟨gb117, 4, none⟩) (Kd.Q_far (p := ⟨gb117, 3, none⟩) (Kd.Q_far (p := ⟨gb117, 2, none⟩) (Kd.Q_far (p := ⟨gb117, 1, none⟩) (Kd.Q_far (p := ⟨gb117, 0, none⟩) (Kd.Q_types (Kd.Q_types HO107.out BK117.out (by decide)) BK118.out (by decide)) (fun _ hk => hk.1.2) (.int .i64 t101)) (fun _ hk => hk.1.2) (.int .i64 t102)) (fun _ hk => hk.1.2) (.int .i64 t103)) (fun _ hk => hk.1.2) (.int .i64 t104)) (fun _ hk => hk.1.2) (.slice Ao14 t105.length co14)) (fun _ hk => hk.1.2) (.bool t108)) (fun _ hk => hk.2) (.int .i64 t109)) (fun _ hk => hk.2) (.int .i64 t110)) (fun _ hk => hk.2) (.int .i64 t111)) (fun _ hk => hk.2) (.int .i64 t112)) (fun _ hk => hk.2) (.slice Ao16 t113.length co16)) (fun _ hk => hk.2) (.bool t116)) (fun _ h_ => h_.1)) (fun _ h_ => h_.1))) (Kd.R_base ho0) hb); have _ := aM (Kd.Q_elder' (by (with_reducible repeat (first | apply Kd.Q_alloc | apply Kd.Q_drewN | apply Kd.Q_drew)); exact (Kd.Q_mono (Kd.Q_mono (Kd.Q_far (p := ⟨gb118, 5, none⟩) (Kd.Q_far (p := ⟨gb118, 4, none⟩) (Kd.Q_far (p := ⟨gb118, 3, none⟩) (Kd.Q_far (p := ⟨gb118, 2, none⟩) (Kd.Q_far (p := ⟨gb118, 1, none⟩) (Kd.Q_far (p := ⟨gb118, 0, none⟩) (Kd.Q_far (p := ⟨gb117, 5, none⟩) (Kd.Q_far (p := ⟨gb117, 4, none⟩) (Kd.Q_far (p := ⟨gb117, 3, none⟩) (Kd.Q_far (p := ⟨gb117, 2, none⟩) (Kd.Q_far (p := ⟨gb117, 1, none⟩) (Kd.Q_far (p := ⟨gb117, 0, none⟩) (Kd.Q_types (Kd.Q_types HO115.out BK117.out (by decide)) BK118.out (by decide)) (fun _ hk => hk.1.2) (.int .i64 t101)) (fun _ hk => hk.1.2) (.int .i64 t102)) (fun _ hk => hk.1.2) (.int .i64 t103)) (fun _ hk => hk.1.2) (.int .i64 t104)) (fun _ hk => hk.1.2) (.slice Ao14 t105.length co14)) (fun _ hk => hk.1.2) (.bool t108)) (fun _ hk => hk.2) (.int .i64 t109)) (fun _ hk => hk.2) (.int .i64 t110)) (fun _ hk => hk.2) (.int .i64 t111)) (fun _ hk => hk.2) (.int .i64 t112)) (fun _ hk => hk.2) (.slice Ao16 t113.length co16)) (fun _ hk => hk.2) (.bool t116)) (fun _ h_ => h_.1)) (fun _ h_ => h_.1))) (Kd.R_base ho0) hb); have _ := aM (Kd.R_lower (Kd.R_new' (Kd.R_new' ho0 (Kd.Q_lt (by (with_reducible repeat (first | apply Kd.Q_alloc | apply Kd.Q_drewN | apply Kd.Q_drew)); exact (Kd.Q_mono (Kd.Q_mono (Kd.Q_far (p := ⟨gb118, 5, none⟩) (Kd.Q_far (p := ⟨gb118, 4, none⟩) (Kd.Q_far (p := ⟨gb118, 3, none⟩) (Kd.Q_far (p := ⟨gb118, 2, none⟩) (Kd.Q_far (p := ⟨gb118, 1, none⟩) (Kd.Q_far (p := ⟨gb118, 0, none⟩) (Kd.Q_far (p := ⟨gb117, 5, none⟩) (Kd.Q_far (p := ⟨gb117, 4, none⟩) (Kd.Q_far (p := ⟨gb117, 3, none⟩) (Kd.Q_far (p := ⟨gb117, 2, none⟩) (Kd.Q_far (p := ⟨gb117, 1, none⟩) (Kd.Q_far (p := ⟨gb117, 0, none⟩) (Kd.Q_types (Kd.Q_types HO107.out BK117.out (by decide)) BK118.out (by decide)) (fun _ hk => hk.1.2) (.int .i64 t101)) (fun _ hk => hk.1.2) (.int .i64 t102)) (fun _ hk => hk.1.2) (.int .i64 t103)) (fun _ hk => hk.1.2) (.int .i64 t104)) (fun _ hk => hk.1.2) (.slice Ao14 t105.length co14)) (fun _ hk => hk.1.2) (.bool t108)) (fun _ hk => hk.2) (.int .i64 t109)) (fun _ hk => hk.2) (.int .i64 t110)) (fun _ hk => hk.2) (.int .i64 t111)) (fun _ hk => hk.2) (.int .i64 t112)) (fun _ hk => hk.2) (.slice Ao16 t113.length co16)) (fun _ hk => hk.2) (.bool t116)) (fun _ h_ => h_.1)) (fun _ h_ => h_.1))))) (Kd.Q_lt (by (with_reducible repeat (first | apply Kd.Q_alloc | apply Kd.Q_drewN | apply Kd.Q_drew)); exact (Kd.Q_mono (Kd.Q_mono (Kd.Q_far (p := ⟨gb118, 5, none⟩) (Kd.Q_far (p := ⟨gb118, 4, none⟩) (Kd.Q_far (p := ⟨gb118, 3, none⟩) (Kd.Q_far (p := ⟨gb118, 2, none⟩) (Kd.Q_far (p := ⟨gb118, 1, none⟩) (Kd.Q_far (p := ⟨gb118, 0, none⟩) (Kd.Q_far (p := ⟨gb117, 5, none⟩) (Kd.Q_far (p := ⟨gb117, 4, none⟩) (Kd.Q_far (p := ⟨gb117, 3, none⟩) (Kd.Q_far (p := ⟨gb117, 2, none⟩) (Kd.Q_far (p := ⟨gb117, 1, none⟩) (Kd.Q_far (p := ⟨gb117, 0, none⟩) (Kd.Q_types (Kd.Q_types HO115.out BK117.out (by decide)) BK118.out (by decide)) (fun _ hk => hk.1.2) (.int .i64 t101)) (fun _ hk => hk.1.2) (.int .i64 t102)) (fun _ hk => hk.1.2) (.int .i64 t103)) (fun _ hk => hk.1.2) (.int .i64 t104)) (fun _ hk => hk.1.2) (.slice Ao14 t105.length co14)) (fun _ hk => hk.1.2) (.bool t108)) (fun _ hk => hk.2) (.int .i64 t109)) (fun _ hk => hk.2) (.int .i64 t110)) (fun _ hk => hk.2) (.int .i64 t111)) (fun _ hk => hk.2) (.int .i64 t112)) (fun _ hk => hk.2) (.slice Ao16 t113.length co16)) (fun _ hk => hk.2) (.bool t116)) (fun _ h_ => h_.1)) (fun _ h_ => h_.1))))) (below_size hbZ)); have _ := aM (blk_below (g := gb117) (o := .cells #[.int .i64 t101, .int .i64 t102, .int .i64 t103, .int .i64 t104, .slice Ao14 t105.length co14, .bool t108] 54 (0, 0)) bkZ hb); have _ := aM (blk_below (g := gb118) (o := .cells #[.int .i64 t109, .int .i64 t110, .int .i64 t111, .int .i64 t112, .slice Ao16 t113.length co16, .bool t116] 54 (0, 0)) bkZ hb); have _ := aM (below_step hbZ hb); clear HO107 HO115 BK117 BK118 HB; rename_i HO107 HO115 HO125 BK117 BK118 HB; (try clear hb); (try clear ho0)) | ((with_reducible refine gate_dst (N := 7) rfl ?_); refine box_event ?hg (N := 7) ?hd (cs := #[.int .i64 0, .int .i64 0, .int .i64 0, .int .i64 0, .slice none 0 0, .bool false]) (t := 54) ?hr ?_; (case hd => rfl); (case hg => rfl); (case hr => first | (go_simp; done) | (go_simp; rfl)); intro gb128 hg w18 hbox hb; have _ := aM (Kd.Q_below (kZ HO107.out) hb); have _ := aM (Kd.Q_below (kZ HO115.out) hb); have _ := aM (Kd.R_below (rZ HO125.out) hb); have _ := bB gb117 hb; have _ := bB gb118 hb; have _ := aM (below_step hbZ hb); have _ := aM hbox; have _ := szZ hg; have _ := szZ hg; have ⟨_, _⟩ := nbB gb117 hg; have ⟨_, _⟩ := nbB gb118 hg; clear HO107 HO115 HO125 BK117 BK118 HB; rename_i HO107 HO115 HO125 BK117 BK118 HB BK128 GW128 GE128 NB117_128 NB128_117 NB118_128 NB128_118; clear hb hbox hg; have hnb19 := NB128_117.out; have hnc19 := NB117_128.out; have hnb20 := NB128_118.out; have hnc20 := NB118_128.out; obtain ⟨hcz21_0, hcz21_1, hcz21_2, hcz21_3, hcz21_4, hcz21_5, hfz21_0, hfz21_1, hfz21_2, hfz21_3, hfz21_4, hfz21_5⟩ := cellsZ6 BK128.out; obtain ⟨Ao22, co22, eo22⟩ := Kd.R_slice HO125.out; subst eo22; obtain ⟨hcz23_0, hcz23_1, hcz23_2, hcz23_3, hcz23_4, hcz23_5, hfz23_0, hfz23_1, hfz23_2, hfz23_3, hfz23_4, hfz23_5⟩ := cellsZ6 BK118.out; obtain ⟨hcz24_0, hcz24_1, hcz24_2, hcz24_3, hcz24_4, hcz24_5, hfz24_0, hfz24_1, hfz24_2, hfz24_3, hfz24_4, hfz24_5⟩ := cellsZ6 BK117.out) | ((with_reducible refine gate_callee (f := 27) rfl ?_); refine goesL_ (some 44) rfl rfl Try.func27 (by kernel_rfl) rfl #[.agg #[.int .i64 t109, .int .i64 t110, .int .i64 t111, .int .i64 t112, .slice Ao16 t113.length co16, .bool t116], .agg #[.int .i64 t101, .int .i64 t102, .int .i64 t103, .int .i64 t104, .slice Ao14 t105.length co14, .bool t108]] rfl zee81 ?_; (with_reducible refine (impl_JoinAggs.calls k t109 t110 t111 t112 _ _ t113 t116 t101 t102 t103 t104 _ _ t105 t108 t129 t130 t131 t132 t133 t136 t137 _ ?side1 ?side2 ?side3 ?side4 A6.out).mono ?_); (case side1 => refine (Kd.Q_reads' (e := 3) (base := w.heap.size) (ok := fun k_ => (some k_ ≠ (.slice Ao14 t105.length co14 : Value).ownBlock ∧ some k_ ≠ (.slice Ao22 t123.length co22 : Value).ownBlock)) (n := t113.length) (c := co16) ?_).2.2; exact (kZ (qF6 HO115.out BK128.out))); (case side2 => exact (Kd.Q_reads' HO115.out).2.1); (case side3 => refine (Kd.Q_reads' (e := 3) (base := w.heap.size) (ok := fun k_ => (some k_ ≠ (.slice Ao16 t113.length co16 : Value).ownBlock ∧ some k_ ≠ (.slice Ao22 t123.length co22 : Value).ownBlock)) (n := t105.length) (c := co14) ?_).2.2; exact (kZ (qF6 HO107.out BK128.out))); (case side4 => exact (Kd.Q_reads' HO107.out).2.1); rintro e w25 ⟨v134, rfl, ho0, hb⟩; refine ⟨_, rfl, ?_⟩; have _ := aM (Kd.Q_elder' (kZ (qF6 HO107.out BK128.out)) (Kd.R_base ho0) hb); have _ := aM (Kd.Q_elder' (kZ (qF6 HO115.out BK128.out)) (Kd.R_base ho0) hb); have _ := aM (Kd.R_elder' (rZ (rF6 HO125.out BK128.out)) (Kd.R_base ho0) hb); have _ := aM (Kd.R_lower (Kd.R_new' (Kd.R_new' (Kd.R_new' ho0 (Kd.Q_lt (kZ (qF6 HO107.out BK128.out)))) (Kd.Q_lt (kZ (qF6 HO115.out BK128.out)))) (Kd.R_lt (rZ (rF6 HO125.out BK128.out)))) (below_size hbZ)); have _ := bB gb117 hb; have _ := bB gb118 hb; have _ := aM (blk_below (g := gb128) (o := .cells #[.int .i64 t119, .int .i64 t120, .int .i64 t121, .int .i64 t122, .slice Ao22 t123.length co22, .bool t126] 54 (0, 0)) bkZ hb); have _ := aM (below_step hbZ hb); clear HO107 HO115 HO125 BK117 BK118 BK128 HB; rename_i HO107 HO115 HO125 HO135 BK117 BK118 BK128 HB; (try clear hb); (try clear ho0)) | ((with_reducible refine gate_dst (N := 9) rfl ?_); refine box_event ?hg (N := 9) ?hd (cs := #[.int .i64 0, .int .i64 0, .int .i64 0, .int .i64 0, .slice none 0 0, .bool false]) (t := 54) ?hr ?_; (case hd => rfl); (case hg => rfl); (case hr => first | (go_simp; done) | (go_simp; rfl)); intro gb138 hg w26 hbox hb; have _ := aM (Kd.Q_below (kZ HO107.out) hb); have _ := aM (Kd.Q_below (kZ HO115.out) hb); have _ := aM (Kd.R_below (rZ HO125.out) hb); have _ := aM (Kd.R_below (rZ HO135.out) hb); have _ := bB gb117 hb; have _ := bB gb118 hb; have _ := bB gb128 hb; have _ := aM (below_step hbZ hb); have _ := aM hbox; have _ := szZ hg; have _ := szZ hg; have ⟨_, _⟩ := nbB gb117 hg; have ⟨_, _⟩ := nbB gb118 hg; have ⟨_, _⟩ := nbB gb128 hg; clear HO107 HO115 HO125 HO135 BK117 BK118 BK128 HB; rename_i HO107 HO115 HO125 HO135 BK117 BK118 BK128 HB BK138 GW138 GE138 NB117_138 NB138_117 NB118_138 NB138_118 NB128_138 NB138_128; clear hb hbox hg; have hnb27 := NB138_117.out; have hnc27 := NB117_138.out; have hnb28 := NB138_118.out; have hnc28 := NB118_138.out; have hnb29 := NB138_128.out; have hnc29 := NB128_138.out; obtain ⟨hcz30_0, hcz30_1, hcz30_2, hcz30_3, hcz30_4, hcz30_5, hfz30_0, hfz30_1, hfz30_2, hfz30_3, hfz30_4, hfz30_5⟩ := cellsZ6 BK138.out; obtain ⟨Ao31, co31, eo31⟩ := Kd.R_slice HO135.out; subst eo31; obtain ⟨hcz32_0, hcz32_1, hcz32_2, hcz32_3, hcz32_4, hcz32_5, hfz32_0, hfz32_1, hfz32_2, hfz32_3, hfz32_4, hfz32_5⟩ := cellsZ6 BK117.out; obtain ⟨hcz33_0, hcz33_1, hcz33_2, hcz33_3, hcz33_4, hcz33_5, hfz33_0, hfz33_1, hfz33_2, hfz33_3, hfz33_4, hfz33_5⟩ := cellsZ6 BK118.out) | ((with_reducible refine gate_callee (f := 28) rfl ?_); refine goesL_ (some 50) rfl rfl Try.func28 (by kernel_rfl) rfl #[.agg #[.int .i64 t101, .int .i64 t102, .int .i64 t103, .int .i64 t104, .slice Ao14 t105.length co14, .bool t108], .agg #[.int .i64 t109, .int .i64 t110, .int .i64 t111, .int .i64 t112, .slice Ao16 t113.length co16, .bool t116]] rfl zee81 ?_; (with_reducible refine (spec_JoinAggs.calls k t101 t102 t103 t104 _ _ t105 t108 t109 t110 t111 t112 _ _ t113 t116 t139 t140 t141 t142 t143 t146 t147 _ ?side1 ?side2 ?side3 ?side4 A7.out).mono ?_); (case side1 => refine (Kd.Q_reads' (e := 3) (base := w.heap.size) (ok := fun k_ => ((some k_ ≠ (.slice Ao16 t113.length co16 : Value).ownBlock ∧ some k_ ≠ (.slice Ao22 t123.length co22 : Value).ownBlock) ∧ some k_ ≠ (.slice Ao31 t133.length co31 : Value).ownBlock)) (n := t105.length) (c := co14) ?_).2.2; exact (kZ (qF6 HO107.out BK138.out))); (case side2 => exact (Kd.Q_reads' HO107.out).2.1); (case side3 => refine (Kd.Q_reads' (e := 3) (base := w.heap.size) (ok := fun k_ => ((some k_ ≠ (.slice Ao14 t105.length co14 : Value).ownBlock ∧ some k_ ≠ (.slice Ao22 t123.length co22 : Value).ownBlock) ∧ some k_ ≠ (.slice Ao31 t133.length co31 : Value).ownBlock)) (n := t113.length) (c := co16) ?_).2.2; exact (kZ (qF6 HO115.out BK138.out))); (case side4 => exact (Kd.Q_reads' HO115.out).2.1); rintro e w34 ⟨v144, rfl, ho0, hb⟩; refine ⟨_, rfl, ?_⟩; have _ := aM (Kd.Q_elder' (kZ (qF6 HO107.out BK138.out)) (Kd.R_base ho0) hb); have _ := aM (Kd.Q_elder' (kZ (qF6 HO115.out BK138.out)) (Kd.R_base ho0) hb); have _ := aM (Kd.R_elder' (rZ (rF6 HO125.out BK138.out)) (Kd.R_base ho0) hb); have _ := aM (Kd.R_elder' (rZ (rF6 HO135.out BK138.out)) (Kd.R_base ho0) hb); have _ := aM (Kd.R_lower (Kd.R_new' (Kd.R_new' (Kd.R_new' (Kd.R_new' ho0 (Kd.Q_lt (kZ (qF6 HO107.out BK138.out)))) (Kd.Q_lt (kZ (qF6 HO115.out BK138.out)))) (Kd.R_lt (rZ (rF6 HO125.out BK138.out)))) (Kd.R_lt (rZ (rF6 HO135.out BK138.out)))) (below_size hbZ)); have _ := bB gb117 hb; have _ := bB gb118 hb; have _ := bB gb128 hb; have _ := aM (blk_below (g := gb138) (o := .cells #[.int .i64 t129, .int .i64 t130, .int .i64 t131, .int .i64 t132, .slice Ao31 t133.length co31, .bool t136] 54 (0, 0)) bkZ hb); have _ := aM (below_step hbZ hb); clear HO107 HO115 HO125 HO135 BK117 BK118 BK128 BK138 HB; rename_i HO107 HO115 HO125 HO135 HO145 BK117 BK118 BK128 BK138 HB; (try clear hb); (try clear ho0)) | ((with_reducible refine gate_dst (N := 11) rfl ?_); refine box_event ?hg (N := 11) ?hd (cs := #[.int .i64 0, .int .i64 0, .int .i64 0, .int .i64 0, .slice none 0 0, .bool false]) (t := 54) ?hr ?_; (case hd => rfl); (case hg => rfl); (case hr => first | (go_simp; done) | (go_simp; rfl)); intro gb148 hg w35 hbox hb; have _ := aM (Kd.Q_below (kZ HO107.out) hb); have _ := aM (Kd.Q_below (kZ HO115.out) hb); have _ := aM (Kd.R_below (rZ HO125.out) hb); have _ := aM (Kd.R_below (rZ HO135.out) hb); have _ := aM (Kd.R_below (rZ HO145.out) hb); have _ := bB gb117 hb; have _ := bB gb118 hb; have _ := bB gb128 hb; have _ := bB gb138 hb; have _ := aM (below_step hbZ hb); have _ := aM hbox; have _ := szZ hg; have _ := szZ hg; have ⟨_, _⟩ := nbB gb117 hg; have ⟨_, _⟩ := nbB gb118 hg; have ⟨_, _⟩ := nbB gb128 hg; have ⟨_, _⟩ := nbB gb138 hg; clear HO107 HO115 HO125 HO135 HO145 BK117 BK118 BK128 BK138 HB; rename_i HO107 HO115 HO125 HO135 HO145 BK117 BK118 BK128 BK138 HB BK148 GW148 GE148 NB117_148 NB148_117 NB118_148 NB148_118 NB128_148 NB148_128 NB138_148 NB148_138; clear hb hbox hg; have hnb36 := NB148_117.out; have hnc36 := NB117_148.out; have hnb37 := NB148_118.out; have hnc37 := NB118_148.out; have hnb38 := NB148_128.out; have hnc38 := NB128_148.out; have hnb39 := NB148_138.out; have hnc39 := NB138_148.out; obtain ⟨hcz40_0, hcz40_1, hcz40_2, hcz40_3, hcz40_4, hcz40_5, hfz40_0, hfz40_1, hfz40_2, hfz40_3, hfz40_4, hfz40_5⟩ := cellsZ6 BK148.out; obtain ⟨Ao41, co41, eo41⟩ := Kd.R_slice HO145.out; subst eo41))
   (try simp only [Act.put, List.setIfInBounds_toArray, List.set_cons_zero, List.set_cons_succ])
   go_cut [72] (fun v72 wc => ∃ (kq : Nat) (x72_7 : Bool), v72 = .bool x72_7 ∧ Aside0 (laws_FnSums.j0 kq l1 t127 x72_7 t101 t102 t103 t104 t105 t108 t109 t110 t111 t112 t113 t116 t119 t120 t121 t122 t123 t126 = some r) ∧ Aside0 (kq ≤ k) ∧ Aside0 (Kd.Q (Kd.int .i64) 3 wc w.heap.size (fun k_ => some k_ ≠ ((.slice Ao16 t113.length co16) : Value).ownBlock ∧ some k_ ≠ ((.slice Ao22 t123.length co22) : Value).ownBlock ∧ some k_ ≠ ((.slice Ao31 t133.length co31) : Value).ownBlock ∧ some k_ ≠ ((.slice Ao41 t143.length co41) : Value).ownBlock) (.slice Ao14 t105.length co14) t105) ∧ Aside0 (Kd.Q (Kd.int .i64) 3 wc w.heap.size (fun k_ => some k_ ≠ ((.slice Ao14 t105.length co14) : Value).ownBlock ∧ some k_ ≠ ((.slice Ao22 t123.length co22) : Value).ownBlock ∧ some k_ ≠ ((.slice Ao31 t133.length co31) : Value).ownBlock ∧ some k_ ≠ ((.slice Ao41 t143.length co41) : Value).ownBlock) (.slice Ao16 t113.length co16) t113) ∧ Aside0 (Kd.Q (Kd.int .i64) 3 wc w.heap.size (fun k_ => some k_ ≠ ((.slice Ao14 t105.length co14) : Value).ownBlock ∧ some k_ ≠ ((.slice Ao16 t113.length co16) : Value).ownBlock ∧ some k_ ≠ ((.slice Ao31 t133.length co31) : Value).ownBlock ∧ some k_ ≠ ((.slice Ao41 t143.length co41) : Value).ownBlock) (.slice Ao22 t123.length co22) t123) ∧ Aside0 (Kd.Q (Kd.int .i64) 3 wc w.heap.size (fun k_ => some k_ ≠ ((.slice Ao14 t105.length co14) : Value).ownBlock ∧ some k_ ≠ ((.slice Ao16 t113.length co16) : Value).ownBlock ∧ some k_ ≠ ((.slice Ao22 t123.length co22) : Value).ownBlock ∧ some k_ ≠ ((.slice Ao41 t143.length co41) : Value).ownBlock) (.slice Ao31 t133.length co31) t133) ∧ Aside0 (Kd.Q (Kd.int .i64) 3 wc w.heap.size (fun k_ => some k_ ≠ ((.slice Ao14 t105.length co14) : Value).ownBlock ∧ some k_ ≠ ((.slice Ao16 t113.length co16) : Value).ownBlock ∧ some k_ ≠ ((.slice Ao22 t123.length co22) : Value).ownBlock ∧ some k_ ≠ ((.slice Ao31 t133.length co31) : Value).ownBlock) (.slice Ao41 t143.length co41) t143) ∧ Aside0 (wc.heap[gb117]? = some (.cells #[.int .i64 t101, .int .i64 t102, .int .i64 t103, .int .i64 t104, (.slice Ao14 t105.length co14), .bool t108] 54 (0, 0))) ∧ Aside0 (wc.heap[gb118]? = some (.cells #[.int .i64 t109, .int .i64 t110, .int .i64 t111, .int .i64 t112, (.slice Ao16 t113.length co16), .bool t116] 54 (0, 0))) ∧ Aside0 (wc.heap[gb128]? = some (.cells #[.int .i64 t119, .int .i64 t120, .int .i64 t121, .int .i64 t122, (.slice Ao22 t123.length co22), .bool t126] 54 (0, 0))) ∧ Aside0 (wc.heap[gb138]? = some (.cells #[.int .i64 t129, .int .i64 t130, .int .i64 t131, .int .i64 t132, (.slice Ao31 t133.length co31), .bool t136] 54 (0, 0))) ∧ Aside0 (wc.heap[gb148]? = some (.cells #[.int .i64 t139, .int .i64 t140, .int .i64 t141, .int .i64 t142, (.slice Ao41 t143.length co41), .bool t146] 54 (0, 0))) ∧ Aside0 (Below w.heap.size w wc))
   case first =>
    have H := HC8.out
    clear HC8
    by_cases c42 : (t127 != t147) = true
    · rw [if_pos c42] at H
      have c42b0 : (t127 != t147) = true := c42
      (try (have c42b1 : decide (t127 = t147) = false := by simpa using c42))
      (try (have c42b2 : (t127 == t147) = false := by simpa using c42))
      (try (have c42b3 : ¬ (t127 = t147) := by simpa using c42))
      clear c42
      (first | rw [c42b0] | (simp only [i64_w, i32_w]; rw [c42b0]) | skip)
      have H' := aM H
      clear H
      go_wp2
      go_meet
      case rel => exact ⟨_, (true), z4458, H', ⟨zb79b⟩, ⟨by (with_reducible repeat (first | apply Kd.Q_alloc | apply Kd.Q_drewN | apply Kd.Q_drew)); exact Kd.Q_mono (Kd.Q_far (p := ⟨gb148, 5, none⟩) (Kd.Q_far (p := ⟨gb148, 4, none⟩) (Kd.Q_far (p := ⟨gb148, 3, none⟩) (Kd.Q_far (p := ⟨gb148, 2, none⟩) (Kd.Q_far (p := ⟨gb148, 1, none⟩) (Kd.Q_far (p := ⟨gb148, 0, none⟩) (Kd.Q_types HO107.out BK148.out (by decide)) (fun _ hk => hk.2) (.int .i64 t139)) (fun _ hk => hk.2) (.int .i64 t140)) (fun _ hk => hk.2) (.int .i64 t141)) (fun _ hk => hk.2) (.int .i64 t142)) (fun _ hk => hk.2) (.slice Ao41 t143.length co41)) (fun _ hk => hk.2) (.bool t146)) (fun _ hk => ⟨hk.1.1.1.1, ⟨hk.1.1.1.2, ⟨hk.1.1.2, hk.1.2⟩⟩⟩)⟩, ⟨by (with_reducible repeat (first | apply Kd.Q_alloc | apply Kd.Q_drewN | apply Kd.Q_drew)); exact Kd.Q_mono (Kd.Q_far (p := ⟨gb148, 5, none⟩) (Kd.Q_far (p := ⟨gb148, 4, none⟩) (Kd.Q_far (p := ⟨gb148, 3, none⟩) (Kd.Q_far (p := ⟨gb148, 2, none⟩) (Kd.Q_far (p := ⟨gb148, 1, none⟩) (Kd.Q_far (p := ⟨gb148, 0, none⟩) (Kd.Q_types HO115.out BK148.out (by decide)) (fun _ hk => hk.2) (.int .i64 t139)) (fun _ hk => hk.2) (.int .i64 t140)) (fun _ hk => hk.2) (.int .i64 t141)) (fun _ hk => hk.2) (.int .i64 t142)) (fun _ hk => hk.2) (.slice Ao41 t143.length co41)) (fun _ hk => hk.2) (.bool t146)) (fun _ hk => ⟨hk.1.1.1.1, ⟨hk.1.1.1.2, ⟨hk.1.1.2, hk.1.2⟩⟩⟩)⟩, ⟨Kd.Q_of_R (by (with_reducible repeat (first | apply Kd.R_alloc | apply Kd.R_drewN | apply Kd.R_drew)); exact Kd.R_mono (Kd.R_far (p := ⟨gb148, 5, none⟩) (Kd.R_far (p := ⟨gb148, 4, none⟩) (Kd.R_far (p := ⟨gb148, 3, none⟩) (Kd.R_far (p := ⟨gb148, 2, none⟩) (Kd.R_far (p := ⟨gb148, 1, none⟩) (Kd.R_far (p := ⟨gb148, 0, none⟩) (Kd.R_types HO125.out BK148.out (by decide)) (fun _ hk => hk.2) (.int .i64 t139)) (fun _ hk => hk.2) (.int .i64 t140)) (fun _ hk => hk.2) (.int .i64 t141)) (fun _ hk => hk.2) (.int .i64 t142)) (fun _ hk => hk.2) (.slice Ao41 t143.length co41)) (fun _ hk => hk.2) (.bool t146)) (fun _ hk => ⟨hk.1.1.1.1.2, ⟨hk.1.1.1.2, ⟨hk.1.1.2, hk.1.2⟩⟩⟩))⟩, ⟨Kd.Q_of_R (by (with_reducible repeat (first | apply Kd.R_alloc | apply Kd.R_drewN | apply Kd.R_drew)); exact Kd.R_mono (Kd.R_far (p := ⟨gb148, 5, none⟩) (Kd.R_far (p := ⟨gb148, 4, none⟩) (Kd.R_far (p := ⟨gb148, 3, none⟩) (Kd.R_far (p := ⟨gb148, 2, none⟩) (Kd.R_far (p := ⟨gb148, 1, none⟩) (Kd.R_far (p := ⟨gb148, 0, none⟩) (Kd.R_types HO135.out BK148.out (by decide)) (fun _ hk => hk.2) (.int .i64 t139)) (fun _ hk => hk.2) (.int .i64 t140)) (fun _ hk => hk.2) (.int .i64 t141)) (fun _ hk => hk.2) (.int .i64 t142)) (fun _ hk => hk.2) (.slice Ao41 t143.length co41)) (fun _ hk => hk.2) (.bool t146)) (fun _ hk => ⟨hk.1.1.1.1.2, ⟨hk.1.1.1.2, ⟨hk.1.1.2, hk.1.2⟩⟩⟩))⟩, ⟨Kd.Q_of_R (by (with_reducible repeat (first | apply Kd.R_alloc | apply Kd.R_drewN | apply Kd.R_drew)); exact Kd.R_mono (Kd.R_far (p := ⟨gb148, 5, none⟩) (Kd.R_far (p := ⟨gb148, 4, none⟩) (Kd.R_far (p := ⟨gb148, 3, none⟩) (Kd.R_far (p := ⟨gb148, 2, none⟩) (Kd.R_far (p := ⟨gb148, 1, none⟩) (Kd.R_far (p := ⟨gb148, 0, none⟩) (Kd.R_types HO145.out BK148.out (by decide)) (fun _ hk => hk.2) (.int .i64 t139)) (fun _ hk => hk.2) (.int .i64 t140)) (fun _ hk => hk.2) (.int .i64 t141)) (fun _ hk => hk.2) (.int .i64 t142)) (fun _ hk => hk.2) (.slice Ao41 t143.length co41)) (fun _ hk => hk.2) (.bool t146)) (fun _ hk => ⟨hk.1.1.1.1.2, ⟨hk.1.1.1.2, ⟨hk.1.1.2, hk.1.2⟩⟩⟩))⟩, ⟨bkZ⟩, ⟨bkZ⟩, ⟨bkZ⟩, ⟨bkZ⟩, ⟨bkZ⟩, ⟨zcb41⟩⟩
    · rw [if_neg c42] at H
      have c42b0 : (t127 != t147) = false := by simpa using c42
      (try (have c42b1 : decide (t127 = t147) = true := by simpa using c42))
      (try (have c42b2 : (t127 == t147) = true := by simpa using c42))
      clear c42
      (first | rw [c42b0] | (simp only [i64_w, i32_w]; rw [c42b0]) | skip)
      by_cases c43 : (t137 != t147) = true
      · rw [if_pos c43] at H
        have c43b0 : (t137 != t147) = true := c43
        (try (have c43b1 : decide (t137 = t147) = false := by simpa using c43))
        (try (have c43b2 : (t137 == t147) = false := by simpa using c43))
        (try (have c43b3 : ¬ (t137 = t147) := by simpa using c43))
        clear c43
        have H' := aM H
        clear H
        go_wp2
        go_meet
        case rel => exact ⟨_, (true), z4458, H', ⟨zb79b⟩, ⟨by (with_reducible repeat (first | apply Kd.Q_alloc | apply Kd.Q_drewN | apply Kd.Q_drew)); exact Kd.Q_mono (Kd.Q_far (p := ⟨gb148, 5, none⟩) (Kd.Q_far (p := ⟨gb148, 4, none⟩) (Kd.Q_far (p := ⟨gb148, 3, none⟩) (Kd.Q_far (p := ⟨gb148, 2, none⟩) (Kd.Q_far (p := ⟨gb148, 1, none⟩) (Kd.Q_far (p := ⟨gb148, 0, none⟩) (Kd.Q_types HO107.out BK148.out (by decide)) (fun _ hk => hk.2) (.int .i64 t139)) (fun _ hk => hk.2) (.int .i64 t140)) (fun _ hk => hk.2) (.int .i64 t141)) (fun _ hk => hk.2) (.int .i64 t142)) (fun _ hk => hk.2) (.slice Ao41 t143.length co41)) (fun _ hk => hk.2) (.bool t146)) (fun _ hk => ⟨hk.1.1.1.1, ⟨hk.1.1.1.2, ⟨hk.1.1.2, hk.1.2⟩⟩⟩)⟩, ⟨by (with_reducible repeat (first | apply Kd.Q_alloc | apply Kd.Q_drewN | apply Kd.Q_drew)); exact Kd.Q_mono (Kd.Q_far (p := ⟨gb148, 5, none⟩) (Kd.Q_far (p := ⟨gb148, 4, none⟩) (Kd.Q_far (p := ⟨gb148, 3, none⟩) (Kd.Q_far (p := ⟨gb148, 2, none⟩) (Kd.Q_far (p := ⟨gb148, 1, none⟩) (Kd.Q_far (p := ⟨gb148, 0, none⟩) (Kd.Q_types HO115.out BK148.out (by decide)) (fun _ hk => hk.2) (.int .i64 t139)) (fun _ hk => hk.2) (.int .i64 t140)) (fun _ hk => hk.2) (.int .i64 t141)) (fun _ hk => hk.2) (.int .i64 t142)) (fun _ hk => hk.2) (.slice Ao41 t143.length co41)) (fun _ hk => hk.2) (.bool t146)) (fun _ hk => ⟨hk.1.1.1.1, ⟨hk.1.1.1.2, ⟨hk.1.1.2, hk.1.2⟩⟩⟩)⟩, ⟨Kd.Q_of_R (by (with_reducible repeat (first | apply Kd.R_alloc | apply Kd.R_drewN | apply Kd.R_drew)); exact Kd.R_mono (Kd.R_far (p := ⟨gb148, 5, none⟩) (Kd.R_far (p := ⟨gb148, 4, none⟩) (Kd.R_far (p := ⟨gb148, 3, none⟩) (Kd.R_far (p := ⟨gb148, 2, none⟩) (Kd.R_far (p := ⟨gb148, 1, none⟩) (Kd.R_far (p := ⟨gb148, 0, none⟩) (Kd.R_types HO125.out BK148.out (by decide)) (fun _ hk => hk.2) (.int .i64 t139)) (fun _ hk => hk.2) (.int .i64 t140)) (fun _ hk => hk.2) (.int .i64 t141)) (fun _ hk => hk.2) (.int .i64 t142)) (fun _ hk => hk.2) (.slice Ao41 t143.length co41)) (fun _ hk => hk.2) (.bool t146)) (fun _ hk => ⟨hk.1.1.1.1.2, ⟨hk.1.1.1.2, ⟨hk.1.1.2, hk.1.2⟩⟩⟩))⟩, ⟨Kd.Q_of_R (by (with_reducible repeat (first | apply Kd.R_alloc | apply Kd.R_drewN | apply Kd.R_drew)); exact Kd.R_mono (Kd.R_far (p := ⟨gb148, 5, none⟩) (Kd.R_far (p := ⟨gb148, 4, none⟩) (Kd.R_far (p := ⟨gb148, 3, none⟩) (Kd.R_far (p := ⟨gb148, 2, none⟩) (Kd.R_far (p := ⟨gb148, 1, none⟩) (Kd.R_far (p := ⟨gb148, 0, none⟩) (Kd.R_types HO135.out BK148.out (by decide)) (fun _ hk => hk.2) (.int .i64 t139)) (fun _ hk => hk.2) (.int .i64 t140)) (fun _ hk => hk.2) (.int .i64 t141)) (fun _ hk => hk.2) (.int .i64 t142)) (fun _ hk => hk.2) (.slice Ao41 t143.length co41)) (fun _ hk => hk.2) (.bool t146)) (fun _ hk => ⟨hk.1.1.1.1.2, ⟨hk.1.1.1.2, ⟨hk.1.1.2, hk.1.2⟩⟩⟩))⟩, ⟨Kd.Q_of_R (by (with_reducible repeat (first | apply Kd.R_alloc | apply Kd.R_drewN | apply Kd.R_drew)); exact Kd.R_mono (Kd.R_far (p := ⟨gb148, 5, none⟩) (Kd.R_far (p := ⟨gb148, 4, none⟩) (Kd.R_far (p := ⟨gb148, 3, none⟩) (Kd.R_far (p := ⟨gb148, 2, none⟩) (Kd.R_far (p := ⟨gb148, 1, none⟩) (Kd.R_far (p := ⟨gb148, 0, none⟩) (Kd.R_types HO145.out BK148.out (by decide)) (fun _ hk => hk.2) (.int .i64 t139)) (fun _ hk => hk.2) (.int .i64 t140)) (fun _ hk => hk.2) (.int .i64 t141)) (fun _ hk => hk.2) (.int .i64 t142)) (fun _ hk => hk.2) (.slice Ao41 t143.length co41)) (fun _ hk => hk.2) (.bool t146)) (fun _ hk => ⟨hk.1.1.1.1.2, ⟨hk.1.1.1.2, ⟨hk.1.1.2, hk.1.2⟩⟩⟩))⟩, ⟨bkZ⟩, ⟨bkZ⟩, ⟨bkZ⟩, ⟨bkZ⟩, ⟨bkZ⟩, ⟨zcb41⟩⟩
      · rw [if_neg c43] at H
        have c43b0 : (t137 != t147) = false := by simpa using c43
        (try (have c43b1 : decide (t137 = t147) = true := by simpa using c43))
        (try (have c43b2 : (t137 == t147) = true := by simpa using c43))
        clear c43
        replace H := Option.bind_eq_some_iff.mp H
        obtain ⟨t149, A440, H⟩ := H
        try dsimp only at H
        have A44 := aM A440
        clear A440
        by_cases c45 : t149 = true
        · subst c45
          have H1 : ((laws_sameAggs.f k t129 t130 t131 t132 t133 t136 t139 t140 t141 t142 t143 t146).bind fun t150 => (laws_FnSums.j0 k l1 t127 (!t150) t101 t102 t103 t104 t105 t108 t109 t110 t111 t112 t113 t116 t119 t120 t121 t122 t123 t126)) = some r := by rw [if_pos rfl] at H; exact H
          clear H
          have H := H1
          clear H1
          replace H := Option.bind_eq_some_iff.mp H
          obtain ⟨t150, A460, H⟩ := H
          try dsimp only at H
          have A46 := aM A460
          clear A460
          have H' := aM H
          clear H
          have hnb47 := NB128_117.out
          have hnc47 := NB117_128.out
          have hnb48 := NB128_118.out
          have hnc48 := NB118_128.out
          have hnb49 := NB128_138.out
          have hnc49 := NB138_128.out
          have hnb50 := NB128_148.out
          have hnc50 := NB148_128.out
          obtain ⟨hcz51_0, hcz51_1, hcz51_2, hcz51_3, hcz51_4, hcz51_5, hfz51_0, hfz51_1, hfz51_2, hfz51_3, hfz51_4, hfz51_5⟩ := cellsZ6 BK128.out
          have hnb52 := NB148_117.out
          have hnc52 := NB117_148.out
          have hnb53 := NB148_118.out
          have hnc53 := NB118_148.out
          have hnb54 := NB148_138.out
          have hnc54 := NB138_148.out
          obtain ⟨hcz55_0, hcz55_1, hcz55_2, hcz55_3, hcz55_4, hcz55_5, hfz55_0, hfz55_1, hfz55_2, hfz55_3, hfz55_4, hfz55_5⟩ := cellsZ6 BK148.out
          go_wp2_with (first | (go_at_call 29; (with_reducible refine (laws_sameAggs.calls k t119 t120 t121 t122 _ _ t123 t126 t139 t140 t141 t142 _ _ t143 t146 true _ ?side1 ?side2 ?side3 ?side4 A44.out).mono ?_); (case side1 => refine (Kd.R_reads' (e := 3) (base := w.heap.size) (ok := fun k_ => ((((True ∧ some k_ ≠ (.slice Ao14 t105.length co14 : Value).ownBlock) ∧ some k_ ≠ (.slice Ao16 t113.length co16 : Value).ownBlock) ∧ some k_ ≠ (.slice Ao31 t133.length co31 : Value).ownBlock) ∧ some k_ ≠ (.slice Ao41 t143.length co41 : Value).ownBlock)) (n := t123.length) (c := co22) ?_).2.2; exact (rZ (rF6 HO125.out BK148.out))); (case side2 => exact (Kd.R_reads' HO125.out).2.1); (case side3 => refine (Kd.R_reads' (e := 3) (base := w.heap.size) (ok := fun k_ => ((((True ∧ some k_ ≠ (.slice Ao14 t105.length co14 : Value).ownBlock) ∧ some k_ ≠ (.slice Ao16 t113.length co16 : Value).ownBlock) ∧ some k_ ≠ (.slice Ao22 t123.length co22 : Value).ownBlock) ∧ some k_ ≠ (.slice Ao31 t133.length co31 : Value).ownBlock)) (n := t143.length) (c := co41) ?_).2.2; exact (rZ (rF6 HO145.out BK148.out))); (case side4 => exact (Kd.R_reads' HO145.out).2.1); rintro e w56 ⟨rfl, hb⟩; have _ := aM (Kd.Q_below (kZ (qF6 HO107.out BK148.out)) hb); have _ := aM (Kd.Q_below (kZ (qF6 HO115.out BK148.out)) hb); have _ := aM (Kd.R_below (rZ (rF6 HO125.out BK148.out)) hb); have _ := aM (Kd.R_below (rZ (rF6 HO135.out BK148.out)) hb); have _ := aM (Kd.R_below (rZ (rF6 HO145.out BK148.out)) hb); have _ := bB gb117 hb; have _ := bB gb118 hb; have _ := bB gb128 hb; have _ := bB gb138 hb; have _ := aM (blk_below (g := gb148) (o := .cells #[.int .i64 t139, .int .i64 t140, .int .i64 t141, .int .i64 t142, .slice Ao41 t143.length co41, .bool t146] 54 (0, 0)) bkZ hb); have _ := aM (below_step hbZ hb); clear HO107 HO115 HO125 HO135 HO145 BK117 BK118 BK128 BK138 BK148 HB; rename_i HO107 HO115 HO125 HO135 HO145 BK117 BK118 BK128 BK138 BK148 HB; (try clear hb); have hnb57 := NB138_117.out; have hnc57 := NB117_138.out; have hnb58 := NB138_118.out; have hnc58 := NB118_138.out; obtain ⟨hcz59_0, hcz59_1, hcz59_2, hcz59_3, hcz59_4, hcz59_5, hfz59_0, hfz59_1, hfz59_2, hfz59_3, hfz59_4, hfz59_5⟩ := cellsZ6 BK138.out; obtain ⟨hcz60_0, hcz60_1, hcz60_2, hcz60_3, hcz60_4, hcz60_5, hfz60_0, hfz60_1, hfz60_2, hfz60_3, hfz60_4, hfz60_5⟩ := cellsZ6 BK148.out) | (go_at_call 29; (with_reducible refine (laws_sameAggs.calls k t129 t130 t131 t132 _ _ t133 t136 t139 t140 t141 t142 _ _ t143 t146 t150 _ ?side1 ?side2 ?side3 ?side4 A46.out).mono ?_); (case side1 => exact (by repeat (first | exact (Kd.R_reads' HO135.out).2.2 | (with_reducible refine Kd.C_alloc ?_ _) | (with_reducible refine Kd.C_drewN ?_ _) | (with_reducible refine Kd.C_drew ?_)))); (case side2 => exact (Kd.R_reads' HO135.out).2.1); (case side3 => exact (by repeat (first | exact (Kd.R_reads' HO145.out).2.2 | (with_reducible refine Kd.C_alloc ?_ _) | (with_reducible refine Kd.C_drewN ?_ _) | (with_reducible refine Kd.C_drew ?_)))); (case side4 => exact (Kd.R_reads' HO145.out).2.1); rintro e w61 ⟨rfl, hb⟩; have _ := aM (Kd.Q_below (kZ HO107.out) hb); have _ := aM (Kd.Q_below (kZ HO115.out) hb); have _ := aM (Kd.R_below (rZ HO125.out) hb); have _ := aM (Kd.R_below (rZ HO135.out) hb); have _ := aM (Kd.R_below (rZ HO145.out) hb); have _ := bB gb117 hb; have _ := bB gb118 hb; have _ := bB gb128 hb; have _ := bB gb138 hb; have _ := bB gb148 hb; have _ := aM (below_step hbZ hb); clear HO107 HO115 HO125 HO135 HO145 BK117 BK118 BK128 BK138 BK148 HB; rename_i HO107 HO115 HO125 HO135 HO145 BK117 BK118 BK128 BK138 BK148 HB; (try clear hb)))
          go_meet
          case rel => exact ⟨_, (!t150), z4458, H', ⟨zb79b⟩, ⟨by (with_reducible repeat (first | apply Kd.Q_alloc | apply Kd.Q_drewN | apply Kd.Q_drew)); exact Kd.Q_mono HO107.out (fun _ hk => ⟨hk.1.1.1, ⟨hk.1.1.2, ⟨hk.1.2, hk.2⟩⟩⟩)⟩, ⟨by (with_reducible repeat (first | apply Kd.Q_alloc | apply Kd.Q_drewN | apply Kd.Q_drew)); exact Kd.Q_mono HO115.out (fun _ hk => ⟨hk.1.1.1, ⟨hk.1.1.2, ⟨hk.1.2, hk.2⟩⟩⟩)⟩, ⟨Kd.Q_of_R (by (with_reducible repeat (first | apply Kd.R_alloc | apply Kd.R_drewN | apply Kd.R_drew)); exact Kd.R_mono HO125.out (fun _ hk => ⟨hk.1.1.1.2, ⟨hk.1.1.2, ⟨hk.1.2, hk.2⟩⟩⟩))⟩, ⟨Kd.Q_of_R (by (with_reducible repeat (first | apply Kd.R_alloc | apply Kd.R_drewN | apply Kd.R_drew)); exact Kd.R_mono HO135.out (fun _ hk => ⟨hk.1.1.1.2, ⟨hk.1.1.2, ⟨hk.1.2, hk.2⟩⟩⟩))⟩, ⟨Kd.Q_of_R (by (with_reducible repeat (first | apply Kd.R_alloc | apply Kd.R_drewN | apply Kd.R_drew)); exact Kd.R_mono HO145.out (fun _ hk => ⟨hk.1.1.1.2, ⟨hk.1.1.2, ⟨hk.1.2, hk.2⟩⟩⟩))⟩, ⟨bkZ⟩, ⟨bkZ⟩, ⟨bkZ⟩, ⟨bkZ⟩, ⟨bkZ⟩, ⟨zcb41⟩⟩
        · replace c45 := Bool.eq_false_iff.mpr c45
          subst c45
          have H1 : (laws_FnSums.j0 k l1 t127 true t101 t102 t103 t104 t105 t108 t109 t110 t111 t112 t113 t116 t119 t120 t121 t122 t123 t126) = some r := by rw [if_neg (show ¬ (false = true) by decide)] at H; exact H
          clear H
          have H := H1
          clear H1
          have H' := aM H
          clear H
          have hnb62 := NB128_117.out
          have hnc62 := NB117_128.out
          have hnb63 := NB128_118.out
          have hnc63 := NB118_128.out
          have hnb64 := NB128_138.out
          have hnc64 := NB138_128.out
          have hnb65 := NB128_148.out
          have hnc65 := NB148_128.out
          obtain ⟨hcz66_0, hcz66_1, hcz66_2, hcz66_3, hcz66_4, hcz66_5, hfz66_0, hfz66_1, hfz66_2, hfz66_3, hfz66_4, hfz66_5⟩ := cellsZ6 BK128.out
          have hnb67 := NB148_117.out
          have hnc67 := NB117_148.out
          have hnb68 := NB148_118.out
          have hnc68 := NB118_148.out
          have hnb69 := NB148_138.out
          have hnc69 := NB138_148.out
          obtain ⟨hcz70_0, hcz70_1, hcz70_2, hcz70_3, hcz70_4, hcz70_5, hfz70_0, hfz70_1, hfz70_2, hfz70_3, hfz70_4, hfz70_5⟩ := cellsZ6 BK148.out
          go_wp2_with (first | (go_at_call 29; (with_reducible refine (laws_sameAggs.calls k t119 t120 t121 t122 _ _ t123 t126 t139 t140 t141 t142 _ _ t143 t146 false _ ?side1 ?side2 ?side3 ?side4 A44.out).mono ?_); (case side1 => refine (Kd.R_reads' (e := 3) (base := w.heap.size) (ok := fun k_ => ((((True ∧ some k_ ≠ (.slice Ao14 t105.length co14 : Value).ownBlock) ∧ some k_ ≠ (.slice Ao16 t113.length co16 : Value).ownBlock) ∧ some k_ ≠ (.slice Ao31 t133.length co31 : Value).ownBlock) ∧ some k_ ≠ (.slice Ao41 t143.length co41 : Value).ownBlock)) (n := t123.length) (c := co22) ?_).2.2; exact (rZ (rF6 HO125.out BK148.out))); (case side2 => exact (Kd.R_reads' HO125.out).2.1); (case side3 => refine (Kd.R_reads' (e := 3) (base := w.heap.size) (ok := fun k_ => ((((True ∧ some k_ ≠ (.slice Ao14 t105.length co14 : Value).ownBlock) ∧ some k_ ≠ (.slice Ao16 t113.length co16 : Value).ownBlock) ∧ some k_ ≠ (.slice Ao22 t123.length co22 : Value).ownBlock) ∧ some k_ ≠ (.slice Ao31 t133.length co31 : Value).ownBlock)) (n := t143.length) (c := co41) ?_).2.2; exact (rZ (rF6 HO145.out BK148.out))); (case side4 => exact (Kd.R_reads' HO145.out).2.1); rintro e w71 ⟨rfl, hb⟩; have _ := aM (Kd.Q_below (kZ (qF6 HO107.out BK148.out)) hb); have _ := aM (Kd.Q_below (kZ (qF6 HO115.out BK148.out)) hb); have _ := aM (Kd.R_below (rZ (rF6 HO125.out BK148.out)) hb); have _ := aM (Kd.R_below (rZ (rF6 HO135.out BK148.out)) hb); have _ := aM (Kd.R_below (rZ (rF6 HO145.out BK148.out)) hb); have _ := bB gb117 hb; have _ := bB gb118 hb; have _ := bB gb128 hb; have _ := bB gb138 hb; have _ := aM (blk_below (g := gb148) (o := .cells #[.int .i64 t139, .int .i64 t140, .int .i64 t141, .int .i64 t142, .slice Ao41 t143.length co41, .bool t146] 54 (0, 0)) bkZ hb); have _ := aM (below_step hbZ hb); clear HO107 HO115 HO125 HO135 HO145 BK117 BK118 BK128 BK138 BK148 HB; rename_i HO107 HO115 HO125 HO135 HO145 BK117 BK118 BK128 BK138 BK148 HB; (try clear hb)))
          go_meet
          case rel => exact ⟨_, (true), z4458, H', ⟨zb79b⟩, ⟨by (with_reducible repeat (first | apply Kd.Q_alloc | apply Kd.Q_drewN | apply Kd.Q_drew)); exact Kd.Q_mono HO107.out (fun _ hk => ⟨hk.1.1.1, ⟨hk.1.1.2, ⟨hk.1.2, hk.2⟩⟩⟩)⟩, ⟨by (with_reducible repeat (first | apply Kd.Q_alloc | apply Kd.Q_drewN | apply Kd.Q_drew)); exact Kd.Q_mono HO115.out (fun _ hk => ⟨hk.1.1.1, ⟨hk.1.1.2, ⟨hk.1.2, hk.2⟩⟩⟩)⟩, ⟨Kd.Q_of_R (by (with_reducible repeat (first | apply Kd.R_alloc | apply Kd.R_drewN | apply Kd.R_drew)); exact Kd.R_mono HO125.out (fun _ hk => ⟨hk.1.1.1.2, ⟨hk.1.1.2, ⟨hk.1.2, hk.2⟩⟩⟩))⟩, ⟨Kd.Q_of_R (by (with_reducible repeat (first | apply Kd.R_alloc | apply Kd.R_drewN | apply Kd.R_drew)); exact Kd.R_mono HO135.out (fun _ hk => ⟨hk.1.1.1.2, ⟨hk.1.1.2, ⟨hk.1.2, hk.2⟩⟩⟩))⟩, ⟨Kd.Q_of_R (by (with_reducible repeat (first | apply Kd.R_alloc | apply Kd.R_drewN | apply Kd.R_drew)); exact Kd.R_mono HO145.out (fun _ hk => ⟨hk.1.1.1.2, ⟨hk.1.1.2, ⟨hk.1.2, hk.2⟩⟩⟩))⟩, ⟨bkZ⟩, ⟨bkZ⟩, ⟨bkZ⟩, ⟨bkZ⟩, ⟨bkZ⟩, ⟨zcb41⟩⟩
   case rest =>
    clear HC8
    try clear c1
    try clear c2
    try clear p2
    try clear c3
    try clear c3b0
    try clear c4
    try clear c5
    try clear c6
    try clear p6
    try clear c12
    try clear c19
    try clear c20
    try clear c26
    try clear c27
    try clear c28
    try clear c29
    try clear c36
    try clear c37
    try clear c38
    try clear c39
    try clear c42
    try clear c42b0
    try clear c42b1
    try clear c42b2
    try clear c43
    try clear c43b0
    try clear c43b1
    try clear c43b2
    try clear c45
    try clear c47
    try clear c48
    try clear c49
    try clear c50
    try clear c52
    try clear c53
    try clear c54
    try clear c57
    try clear c58
    try clear c62
    try clear c63
    try clear c64
    try clear p64
    try clear c65
    try clear c67
    try clear c68
    try clear c69
    try clear hcz13_0 hcz13_1 hcz13_2 hcz13_3 hcz13_4 hcz13_5
    try clear hcz15_0 hcz15_1 hcz15_2 hcz15_3 hcz15_4 hcz15_5
    try clear hcz21_0 hcz21_1 hcz21_2 hcz21_3 hcz21_4 hcz21_5
    try clear hcz23_0 hcz23_1 hcz23_2 hcz23_3 hcz23_4 hcz23_5
    try clear hcz24_0 hcz24_1 hcz24_2 hcz24_3 hcz24_4 hcz24_5
    try clear hcz30_0 hcz30_1 hcz30_2 hcz30_3 hcz30_4 hcz30_5
    try clear hcz32_0 hcz32_1 hcz32_2 hcz32_3 hcz32_4 hcz32_5
    try clear hcz33_0 hcz33_1 hcz33_2 hcz33_3 hcz33_4 hcz33_5
    try clear hcz40_0 hcz40_1 hcz40_2 hcz40_3 hcz40_4 hcz40_5
    try clear hcz51_0 hcz51_1 hcz51_2 hcz51_3 hcz51_4 hcz51_5
    try clear hcz55_0 hcz55_1 hcz55_2 hcz55_3 hcz55_4 hcz55_5
    try clear hcz59_0 hcz59_1 hcz59_2 hcz59_3 hcz59_4 hcz59_5
    try clear hcz60_0 hcz60_1 hcz60_2 hcz60_3 hcz60_4 hcz60_5
    try clear hcz66_0 hcz66_1 hcz66_2 hcz66_3 hcz66_4 hcz66_5
    try clear hcz70_0 hcz70_1 hcz70_2 hcz70_3 hcz70_4 hcz70_5
    try clear hfz13_0 hfz13_1 hfz13_2 hfz13_3 hfz13_4 hfz13_5
    try clear hfz15_0 hfz15_1 hfz15_2 hfz15_3 hfz15_4 hfz15_5
    try clear hfz21_0 hfz21_1 hfz21_2 hfz21_3 hfz21_4 hfz21_5
    try clear hfz23_0 hfz23_1 hfz23_2 hfz23_3 hfz23_4 hfz23_5
    try clear hfz24_0 hfz24_1 hfz24_2 hfz24_3 hfz24_4 hfz24_5
    try clear hfz30_0 hfz30_1 hfz30_2 hfz30_3 hfz30_4 hfz30_5
    try clear hfz32_0 hfz32_1 hfz32_2 hfz32_3 hfz32_4 hfz32_5
    try clear hfz33_0 hfz33_1 hfz33_2 hfz33_3 hfz33_4 hfz33_5
    try clear hfz40_0 hfz40_1 hfz40_2 hfz40_3 hfz40_4 hfz40_5
    try clear hfz51_0 hfz51_1 hfz51_2 hfz51_3 hfz51_4 hfz51_5
    try clear hfz55_0 hfz55_1 hfz55_2 hfz55_3 hfz55_4 hfz55_5
    try clear hfz59_0 hfz59_1 hfz59_2 hfz59_3 hfz59_4 hfz59_5
    try clear hfz60_0 hfz60_1 hfz60_2 hfz60_3 hfz60_4 hfz60_5
    try clear hfz66_0 hfz66_1 hfz66_2 hfz66_3 hfz66_4 hfz66_5
    try clear hfz70_0 hfz70_1 hfz70_2 hfz70_3 hfz70_4 hfz70_5
    obtain ⟨kq, x72_7, rfl, HA, HJ7, HO_118004, HO_119004, HO_129004, HO_139004, HO_149004, BK117, BK118, BK128, BK138, BK148, HB⟩ := hcut
    cases kq with
    | zero => exact absurd HA.out (by simp [laws_FnSums.j0])
    | succ kj7 =>
     have H := HA.out
     clear HA
     simp only [laws_FnSums.j0] at H
     by_cases c72 : x72_7 = true
     · subst c72
       have H1 : (some false) = some r := by rw [if_pos rfl] at H; exact H
       clear H
       have H := H1
       clear H1
       obtain rfl := Option.some.inj H
       go_wp2
       go_ret
       exact ⟨z674d, zcb41⟩
     · replace c72 := Bool.eq_false_iff.mpr c72
       subst c72
       have H1 : (if t127 = true then ((spec_DrawAggBytes.f kj7 l1).bind fun bt151 => ((impl_AggBytes.f kj7 bt151.1 bt151.2.1 bt151.2.2.1 bt151.2.2.2.1 bt151.2.2.2.2.1 bt151.2.2.2.2.2).bind fun bt160 => ((spec_GoodAgg.f kj7 bt151.1 bt151.2.1 bt151.2.2.1 bt151.2.2.2.1 bt151.2.2.2.2.1 bt151.2.2.2.2.2).bind fun t164 => (if (bt160.2 != t164) = true then (some false) else (if bt160.2 = true then ((impl_ReadAgg.f kj7 bt160.1).bind fun bt165 => (if bt165.2.2.2.2.2.2 = true then ((laws_sameAggs.f kj7 bt165.1 bt165.2.1 bt165.2.2.1 bt165.2.2.2.1 bt165.2.2.2.2.1 bt165.2.2.2.2.2.1 bt151.1 bt151.2.1 bt151.2.2.1 bt151.2.2.2.1 bt151.2.2.2.2.1 bt151.2.2.2.2.2).bind fun t175 => (laws_FnSums.j1 kj7 (!t175) t101 t102 t103 t104 t105 t108 t109 t110 t111 t112 t113 t116 t119 t120 t121 t122 t123 t126 bt151.1 bt151.2.1 bt151.2.2.1 bt151.2.2.2.1 bt151.2.2.2.2.1 bt151.2.2.2.2.2)) else (laws_FnSums.j1 kj7 true t101 t102 t103 t104 t105 t108 t109 t110 t111 t112 t113 t116 t119 t120 t121 t122 t123 t126 bt151.1 bt151.2.1 bt151.2.2.1 bt151.2.2.2.1 bt151.2.2.2.2.1 bt151.2.2.2.2.2))) else (some true)))))) else (some true)) = some r := by rw [if_neg (show ¬ (false = true) by decide)] at H; exact H
       clear H
       have H := H1
       clear H1
       by_cases c73 : t127 = true
       · subst c73
         have H1 : ((spec_DrawAggBytes.f kj7 l1).bind fun bt151 => ((impl_AggBytes.f kj7 bt151.1 bt151.2.1 bt151.2.2.1 bt151.2.2.2.1 bt151.2.2.2.2.1 bt151.2.2.2.2.2).bind fun bt160 => ((spec_GoodAgg.f kj7 bt151.1 bt151.2.1 bt151.2.2.1 bt151.2.2.2.1 bt151.2.2.2.2.1 bt151.2.2.2.2.2).bind fun t164 => (if (bt160.2 != t164) = true then (some false) else (if bt160.2 = true then ((impl_ReadAgg.f kj7 bt160.1).bind fun bt165 => (if bt165.2.2.2.2.2.2 = true then ((laws_sameAggs.f kj7 bt165.1 bt165.2.1 bt165.2.2.1 bt165.2.2.2.1 bt165.2.2.2.2.1 bt165.2.2.2.2.2.1 bt151.1 bt151.2.1 bt151.2.2.1 bt151.2.2.2.1 bt151.2.2.2.2.1 bt151.2.2.2.2.2).bind fun t175 => (laws_FnSums.j1 kj7 (!t175) t101 t102 t103 t104 t105 t108 t109 t110 t111 t112 t113 t116 t119 t120 t121 t122 t123 t126 bt151.1 bt151.2.1 bt151.2.2.1 bt151.2.2.2.1 bt151.2.2.2.2.1 bt151.2.2.2.2.2)) else (laws_FnSums.j1 kj7 true t101 t102 t103 t104 t105 t108 t109 t110 t111 t112 t113 t116 t119 t120 t121 t122 t123 t126 bt151.1 bt151.2.1 bt151.2.2.1 bt151.2.2.2.1 bt151.2.2.2.2.1 bt151.2.2.2.2.2))) else (some true)))))) = some r := by rw [if_pos rfl] at H; exact H
         clear H
         have H := H1
         clear H1
         replace H := Option.bind_eq_some_iff.mp H
         obtain ⟨⟨t151, t152, t153, t154, t155, t158⟩, A740, H⟩ := H
         try dsimp only at H
         have A74 := aM A740
         clear A740
         replace H := Option.bind_eq_some_iff.mp H
         obtain ⟨⟨t160, t163⟩, A750, H⟩ := H
         try dsimp only at H
         have A75 := aM A750
         clear A750
         replace H := Option.bind_eq_some_iff.mp H
         obtain ⟨t164, A760, H⟩ := H
         try dsimp only at H
         have A76 := aM A760
         clear A760
         by_cases c77 : (t163 != t164) = true
         · rw [if_pos c77] at H
           have c77b0 : (t163 != t164) = true := c77
           (try (have c77b1 : decide (t163 = t164) = false := by simpa using c77))
           (try (have c77b2 : (t163 == t164) = false := by simpa using c77))
           (try (have c77b3 : ¬ (t163 = t164) := by simpa using c77))
           clear c77
           obtain rfl := Option.some.inj H
           go_wp2_with (first | ((with_reducible refine gate_callee (f := 30) rfl ?_); refine goesL_ (some 76) rfl rfl Try.func30 (by kernel_rfl) rfl #[.slice A1 l1.length c1] rfl zee81 ?_; (with_reducible refine (spec_DrawAggBytes.calls kj7 _ _ l1 t151 t152 t153 t154 t155 t158 _ ?side1 ?side2 A74.out).mono ?_); (case side1 => exact (cZ (Kd.C_below HR1.out HB.out))); (case side2 => exact HC1.out); rintro e w78 ⟨v156, rfl, ho0, hb⟩; refine ⟨_, rfl, ?_⟩; have _ := aM (Kd.Q_elder' (kZ HO_118004.out) (Kd.Q_base ho0) hb); have _ := aM (Kd.Q_elder' (kZ HO_119004.out) (Kd.Q_base ho0) hb); have _ := aM (Kd.Q_elder' (kZ HO_129004.out) (Kd.Q_base ho0) hb); have _ := aM (Kd.Q_elder' (kZ HO_139004.out) (Kd.Q_base ho0) hb); have _ := aM (Kd.Q_elder' (kZ HO_149004.out) (Kd.Q_base ho0) hb); have _ := aM (Kd.Q_lower (Kd.Q_new' (Kd.Q_new' (Kd.Q_new' (Kd.Q_new' (Kd.Q_new' ho0 (Kd.Q_lt (kZ HO_118004.out))) (Kd.Q_lt (kZ HO_119004.out))) (Kd.Q_lt (kZ HO_129004.out))) (Kd.Q_lt (kZ HO_139004.out))) (Kd.Q_lt (kZ HO_149004.out))) (below_size hbZ)); have _ := bB gb117 hb; have _ := bB gb118 hb; have _ := bB gb128 hb; have _ := bB gb138 hb; have _ := bB gb148 hb; have _ := aM (below_step hbZ hb); clear HO_118004 HO_119004 HO_129004 HO_139004 HO_149004 BK117 BK118 BK128 BK138 BK148 HB; rename_i HO_118004 HO_119004 HO_129004 HO_139004 HO_149004 HO157 BK117 BK118 BK128 BK138 BK148 HB; (try clear hb); (try clear ho0)) | ((with_reducible refine gate_dst (N := 13) rfl ?_); refine box_event ?hg (N := 13) ?hd (cs := #[.int .i64 0, .int .i64 0, .int .i64 0, .int .i64 0, .slice none 0 0, .bool false]) (t := 54) ?hr ?_; (case hd => rfl); (case hg => rfl); (case hr => first | (go_simp; done) | (go_simp; rfl)); intro gb159 hg w79 hbox hb; have _ := aM (Kd.Q_below (kZ HO_118004.out) hb); have _ := aM (Kd.Q_below (kZ HO_119004.out) hb); have _ := aM (Kd.Q_below (kZ HO_129004.out) hb); have _ := aM (Kd.Q_below (kZ HO_139004.out) hb); have _ := aM (Kd.Q_below (kZ HO_149004.out) hb); have _ := aM (Kd.Q_below (kZ HO157.out) hb); have _ := bB gb117 hb; have _ := bB gb118 hb; have _ := bB gb128 hb; have _ := bB gb138 hb; have _ := bB gb148 hb; have _ := aM (below_step hbZ hb); have _ := aM hbox; have _ := szZ hg; have _ := szZ hg; have ⟨_, _⟩ := nbB gb117 hg; have ⟨_, _⟩ := nbB gb118 hg; have ⟨_, _⟩ := nbB gb128 hg; have ⟨_, _⟩ := nbB gb138 hg; have ⟨_, _⟩ := nbB gb148 hg; clear HO_118004 HO_119004 HO_129004 HO_139004 HO_149004 HO157 BK117 BK118 BK128 BK138 BK148 HB; rename_i HO_118004 HO_119004 HO_129004 HO_139004 HO_149004 HO157 BK117 BK118 BK128 BK138 BK148 HB BK159 GW159 GE159 NB117_159 NB159_117 NB118_159 NB159_118 NB128_159 NB159_128 NB138_159 NB159_138 NB148_159 NB159_148; clear hb hbox hg; have hnb80 := NB159_117.out; have hnc80 := NB117_159.out; have hnb81 := NB159_118.out; have hnc81 := NB118_159.out; have hnb82 := NB159_128.out; have hnc82 := NB128_159.out; have hnb83 := NB159_138.out; have hnc83 := NB138_159.out; have hnb84 := NB159_148.out; have hnc84 := NB148_159.out; obtain ⟨hcz85_0, hcz85_1, hcz85_2, hcz85_3, hcz85_4, hcz85_5, hfz85_0, hfz85_1, hfz85_2, hfz85_3, hfz85_4, hfz85_5⟩ := cellsZ6 BK159.out; obtain ⟨Ao86, co86, eo86, _⟩ := Kd.Q_slice HO157.out; subst eo86) | ((with_reducible refine gate_callee (f := 31) rfl ?_); refine goesL_ (some 79) rfl rfl Try.func31 (by kernel_rfl) rfl #[.agg #[.int .i64 t151, .int .i64 t152, .int .i64 t153, .int .i64 t154, .slice Ao86 t155.length co86, .bool t158]] rfl zee81 ?_; (with_reducible refine (impl_AggBytes.calls kj7 t151 t152 t153 t154 _ _ t155 t158 t160 t163 _ ?side1 ?side2 A75.out).mono ?_); (case side1 => refine (Kd.Q_reads' (e := 3) (base := w.heap.size) (ok := fun k_ => (((((True ∧ some k_ ≠ (.slice Ao14 t105.length co14 : Value).ownBlock) ∧ some k_ ≠ (.slice Ao16 t113.length co16 : Value).ownBlock) ∧ some k_ ≠ (.slice Ao22 t123.length co22 : Value).ownBlock) ∧ some k_ ≠ (.slice Ao31 t133.length co31 : Value).ownBlock) ∧ some k_ ≠ (.slice Ao41 t143.length co41 : Value).ownBlock)) (n := t155.length) (c := co86) ?_).2.2; exact (kZ (qF6 HO157.out BK159.out))); (case side2 => exact (Kd.Q_reads' HO157.out).2.1); rintro e w87 ⟨v161, rfl, ho0, hb⟩; refine ⟨_, rfl, ?_⟩; have _ := aM (Kd.Q_below (kZ (qF6 HO_118004.out BK159.out)) hb); have _ := aM (Kd.Q_below (kZ (qF6 HO_119004.out BK159.out)) hb); have _ := aM (Kd.Q_below (kZ (qF6 HO_129004.out BK159.out)) hb); have _ := aM (Kd.Q_below (kZ (qF6 HO_139004.out BK159.out)) hb); have _ := aM (Kd.Q_below (kZ (qF6 HO_149004.out BK159.out)) hb); have _ := aM (Kd.Q_below (kZ (qF6 HO157.out BK159.out)) hb); have _ := aM (Kd.R_lower ho0 (below_size hbZ)); have _ := bB gb117 hb; have _ := bB gb118 hb; have _ := bB gb128 hb; have _ := bB gb138 hb; have _ := bB gb148 hb; have _ := aM (blk_below (g := gb159) (o := .cells #[.int .i64 t151, .int .i64 t152, .int .i64 t153, .int .i64 t154, .slice Ao86 t155.length co86, .bool t158] 54 (0, 0)) bkZ hb); have _ := aM (below_step hbZ hb); clear HO_118004 HO_119004 HO_129004 HO_139004 HO_149004 HO157 BK117 BK118 BK128 BK138 BK148 BK159 HB; rename_i HO_118004 HO_119004 HO_129004 HO_139004 HO_149004 HO157 HO162 BK117 BK118 BK128 BK138 BK148 BK159 HB; (try clear hb); (try clear ho0); obtain ⟨hcz88_0, hcz88_1, hcz88_2, hcz88_3, hcz88_4, hcz88_5, hfz88_0, hfz88_1, hfz88_2, hfz88_3, hfz88_4, hfz88_5⟩ := cellsZ6 BK159.out) | ((with_reducible refine gate_callee (f := 32) rfl ?_); refine goesL_ (some 84) rfl rfl Try.func32 (by kernel_rfl) rfl #[.agg #[.int .i64 t151, .int .i64 t152, .int .i64 t153, .int .i64 t154, .slice Ao86 t155.length co86, .bool t158]] rfl zee81 ?_; (with_reducible refine (spec_GoodAgg.calls kj7 t151 t152 t153 t154 _ _ t155 t158 t164 _ ?side1 ?side2 A76.out).mono ?_); (case side1 => exact (by repeat (first | exact (Kd.Q_reads' HO157.out).2.2 | (with_reducible refine Kd.C_alloc ?_ _) | (with_reducible refine Kd.C_drewN ?_ _) | (with_reducible refine Kd.C_drew ?_)))); (case side2 => exact (Kd.Q_reads' HO157.out).2.1); rintro e w89 ⟨rfl, hb⟩; refine ⟨_, rfl, ?_⟩; have _ := aM (Kd.Q_below (kZ HO_118004.out) hb); have _ := aM (Kd.Q_below (kZ HO_119004.out) hb); have _ := aM (Kd.Q_below (kZ HO_129004.out) hb); have _ := aM (Kd.Q_below (kZ HO_139004.out) hb); have _ := aM (Kd.Q_below (kZ HO_149004.out) hb); have _ := aM (Kd.Q_below (kZ HO157.out) hb); have _ := aM (Kd.R_below (rZ HO162.out) hb); have _ := bB gb117 hb; have _ := bB gb118 hb; have _ := bB gb128 hb; have _ := bB gb138 hb; have _ := bB gb148 hb; have _ := bB gb159 hb; have _ := aM (below_step hbZ hb); clear HO_118004 HO_119004 HO_129004 HO_139004 HO_149004 HO157 HO162 BK117 BK118 BK128 BK138 BK148 BK159 HB; rename_i HO_118004 HO_119004 HO_129004 HO_139004 HO_149004 HO157 HO162 BK117 BK118 BK128 BK138 BK148 BK159 HB; (try clear hb)))
           go_ret
           exact ⟨z674d, zcb41⟩
         · rw [if_neg c77] at H
           have c77b0 : (t163 != t164) = false := by simpa using c77
           (try (have c77b1 : decide (t163 = t164) = true := by simpa using c77))
           (try (have c77b2 : (t163 == t164) = true := by simpa using c77))
           clear c77
           by_cases c90 : t163 = true
           · subst c90
             have H1 : ((impl_ReadAgg.f kj7 t160).bind fun bt165 => (if bt165.2.2.2.2.2.2 = true then ((laws_sameAggs.f kj7 bt165.1 bt165.2.1 bt165.2.2.1 bt165.2.2.2.1 bt165.2.2.2.2.1 bt165.2.2.2.2.2.1 t151 t152 t153 t154 t155 t158).bind fun t175 => (laws_FnSums.j1 kj7 (!t175) t101 t102 t103 t104 t105 t108 t109 t110 t111 t112 t113 t116 t119 t120 t121 t122 t123 t126 t151 t152 t153 t154 t155 t158)) else (laws_FnSums.j1 kj7 true t101 t102 t103 t104 t105 t108 t109 t110 t111 t112 t113 t116 t119 t120 t121 t122 t123 t126 t151 t152 t153 t154 t155 t158))) = some r := by rw [if_pos rfl] at H; exact H
             clear H
             have H := H1
             clear H1
             replace H := Option.bind_eq_some_iff.mp H
             obtain ⟨⟨t165, t166, t167, t168, t169, t172, t173⟩, A910, H⟩ := H
             try dsimp only at H
             have A91 := aM A910
             clear A910
             have HC92 := aM H
             clear H
             go_upto_region 18 with (first | ((with_reducible refine gate_callee (f := 30) rfl ?_); refine goesL_ (some 76) rfl rfl Try.func30 (by kernel_rfl) rfl #[.slice A1 l1.length c1] rfl zee81 ?_; (with_reducible refine (spec_DrawAggBytes.calls kj7 _ _ l1 t151 t152 t153 t154 t155 t158 _ ?side1 ?side2 A74.out).mono ?_); (case side1 => exact (cZ (Kd.C_below HR1.out HB.out))); (case side2 => exact HC1.out); rintro e w93 ⟨v156, rfl, ho0, hb⟩; refine ⟨_, rfl, ?_⟩; have _ := aM (Kd.Q_elder' (kZ HO_118004.out) (Kd.Q_base ho0) hb); have _ := aM (Kd.Q_elder' (kZ HO_119004.out) (Kd.Q_base ho0) hb); have _ := aM (Kd.Q_elder' (kZ HO_129004.out) (Kd.Q_base ho0) hb); have _ := aM (Kd.Q_elder' (kZ HO_139004.out) (Kd.Q_base ho0) hb); have _ := aM (Kd.Q_elder' (kZ HO_149004.out) (Kd.Q_base ho0) hb); have _ := aM (Kd.Q_lower (Kd.Q_new' (Kd.Q_new' (Kd.Q_new' (Kd.Q_new' (Kd.Q_new' ho0 (Kd.Q_lt (kZ HO_118004.out))) (Kd.Q_lt (kZ HO_119004.out))) (Kd.Q_lt (kZ HO_129004.out))) (Kd.Q_lt (kZ HO_139004.out))) (Kd.Q_lt (kZ HO_149004.out))) (below_size hbZ)); have _ := bB gb117 hb; have _ := bB gb118 hb; have _ := bB gb128 hb; have _ := bB gb138 hb; have _ := bB gb148 hb; have _ := aM (below_step hbZ hb); clear HO_118004 HO_119004 HO_129004 HO_139004 HO_149004 BK117 BK118 BK128 BK138 BK148 HB; rename_i HO_118004 HO_119004 HO_129004 HO_139004 HO_149004 HO157 BK117 BK118 BK128 BK138 BK148 HB; (try clear hb); (try clear ho0)) | ((with_reducible refine gate_dst (N := 13) rfl ?_); refine box_event ?hg (N := 13) ?hd (cs := #[.int .i64 0, .int .i64 0, .int .i64 0, .int .i64 0, .slice none 0 0, .bool false]) (t := 54) ?hr ?_; (case hd => rfl); (case hg => rfl); (case hr => first | (go_simp; done) | (go_simp; rfl)); intro gb159 hg w94 hbox hb; have _ := aM (Kd.Q_below (kZ HO_118004.out) hb); have _ := aM (Kd.Q_below (kZ HO_119004.out) hb); have _ := aM (Kd.Q_below (kZ HO_129004.out) hb); have _ := aM (Kd.Q_below (kZ HO_139004.out) hb); have _ := aM (Kd.Q_below (kZ HO_149004.out) hb); have _ := aM (Kd.Q_below (kZ HO157.out) hb); have _ := bB gb117 hb; have _ := bB gb118 hb; have _ := bB gb128 hb; have _ := bB gb138 hb; have _ := bB gb148 hb; have _ := aM (below_step hbZ hb); have _ := aM hbox; have _ := szZ hg; have _ := szZ hg; have ⟨_, _⟩ := nbB gb117 hg; have ⟨_, _⟩ := nbB gb118 hg; have ⟨_, _⟩ := nbB gb128 hg; have ⟨_, _⟩ := nbB gb138 hg; have ⟨_, _⟩ := nbB gb148 hg; clear HO_118004 HO_119004 HO_129004 HO_139004 HO_149004 HO157 BK117 BK118 BK128 BK138 BK148 HB; rename_i HO_118004 HO_119004 HO_129004 HO_139004 HO_149004 HO157 BK117 BK118 BK128 BK138 BK148 HB BK159 GW159 GE159 NB117_159 NB159_117 NB118_159 NB159_118 NB128_159 NB159_128 NB138_159 NB159_138 NB148_159 NB159_148; clear hb hbox hg; have hnb95 := NB159_117.out; have hnc95 := NB117_159.out; have hnb96 := NB159_118.out; have hnc96 := NB118_159.out; have hnb97 := NB159_128.out; have hnc97 := NB128_159.out; have hnb98 := NB159_138.out; have hnc98 := NB138_159.out; have hnb99 := NB159_148.out; have hnc99 := NB148_159.out; obtain ⟨hcz100_0, hcz100_1, hcz100_2, hcz100_3, hcz100_4, hcz100_5, hfz100_0, hfz100_1, hfz100_2, hfz100_3, hfz100_4, hfz100_5⟩ := cellsZ6 BK159.out; obtain ⟨Ao101, co101, eo101, _⟩ := Kd.Q_slice HO157.out; subst eo101) | ((with_reducible refine gate_callee (f := 31) rfl ?_); refine goesL_ (some 79) rfl rfl Try.func31 (by kernel_rfl) rfl #[.agg #[.int .i64 t151, .int .i64 t152, .int .i64 t153, .int .i64 t154, .slice Ao101 t155.length co101, .bool t158]] rfl zee81 ?_; (with_reducible refine (impl_AggBytes.calls kj7 t151 t152 t153 t154 _ _ t155 t158 t160 true _ ?side1 ?side2 A75.out).mono ?_); (case side1 => refine (Kd.Q_reads' (e := 3) (base := w.heap.size) (ok := fun k_ => (((((True ∧ some k_ ≠ (.slice Ao14 t105.length co14 : Value).ownBlock) ∧ some k_ ≠ (.slice Ao16 t113.length co16 : Value).ownBlock) ∧ some k_ ≠ (.slice Ao22 t123.length co22 : Value).ownBlock) ∧ some k_ ≠ (.slice Ao31 t133.length co31 : Value).ownBlock) ∧ some k_ ≠ (.slice Ao41 t143.length co41 : Value).ownBlock)) (n := t155.length) (c := co101) ?_).2.2; exact (kZ (qF6 HO157.out BK159.out))); (case side2 => exact (Kd.Q_reads' HO157.out).2.1); rintro e w102 ⟨v161, rfl, ho0, hb⟩; refine ⟨_, rfl, ?_⟩; have _ := aM (Kd.Q_below (kZ (qF6 HO_118004.out BK159.out)) hb); have _ := aM (Kd.Q_below (kZ (qF6 HO_119004.out BK159.out)) hb); have _ := aM (Kd.Q_below (kZ (qF6 HO_129004.out BK159.out)) hb); have _ := aM (Kd.Q_below (kZ (qF6 HO_139004.out BK159.out)) hb); have _ := aM (Kd.Q_below (kZ (qF6 HO_149004.out BK159.out)) hb); have _ := aM (Kd.Q_below (kZ (qF6 HO157.out BK159.out)) hb); have _ := aM (Kd.R_lower ho0 (below_size hbZ)); have _ := bB gb117 hb; have _ := bB gb118 hb; have _ := bB gb128 hb; have _ := bB gb138 hb; have _ := bB gb148 hb; have _ := aM (blk_below (g := gb159) (o := .cells #[.int .i64 t151, .int .i64 t152, .int .i64 t153, .int .i64 t154, .slice Ao101 t155.length co101, .bool t158] 54 (0, 0)) bkZ hb); have _ := aM (below_step hbZ hb); clear HO_118004 HO_119004 HO_129004 HO_139004 HO_149004 HO157 BK117 BK118 BK128 BK138 BK148 BK159 HB; rename_i HO_118004 HO_119004 HO_129004 HO_139004 HO_149004 HO157 HO162 BK117 BK118 BK128 BK138 BK148 BK159 HB; (try clear hb); (try clear ho0); obtain ⟨hcz103_0, hcz103_1, hcz103_2, hcz103_3, hcz103_4, hcz103_5, hfz103_0, hfz103_1, hfz103_2, hfz103_3, hfz103_4, hfz103_5⟩ := cellsZ6 BK159.out) | ((with_reducible refine gate_callee (f := 32) rfl ?_); refine goesL_ (some 84) rfl rfl Try.func32 (by kernel_rfl) rfl #[.agg #[.int .i64 t151, .int .i64 t152, .int .i64 t153, .int .i64 t154, .slice Ao101 t155.length co101, .bool t158]] rfl zee81 ?_; (with_reducible refine (spec_GoodAgg.calls kj7 t151 t152 t153 t154 _ _ t155 t158 t164 _ ?side1 ?side2 A76.out).mono ?_); (case side1 => exact (by repeat (first | exact (Kd.Q_reads' HO157.out).2.2 | (with_reducible refine Kd.C_alloc ?_ _) | (with_reducible refine Kd.C_drewN ?_ _) | (with_reducible refine Kd.C_drew ?_)))); (case side2 => exact (Kd.Q_reads' HO157.out).2.1); rintro e w104 ⟨rfl, hb⟩; refine ⟨_, rfl, ?_⟩; have _ := aM (Kd.Q_below (kZ HO_118004.out) hb); have _ := aM (Kd.Q_below (kZ HO_119004.out) hb); have _ := aM (Kd.Q_below (kZ HO_129004.out) hb); have _ := aM (Kd.Q_below (kZ HO_139004.out) hb); have _ := aM (Kd.Q_below (kZ HO_149004.out) hb); have _ := aM (Kd.Q_below (kZ HO157.out) hb); have _ := aM (Kd.R_below (rZ HO162.out) hb); have _ := bB gb117 hb; have _ := bB gb118 hb; have _ := bB gb128 hb; have _ := bB gb138 hb; have _ := bB gb148 hb; have _ := bB gb159 hb; have _ := aM (below_step hbZ hb); clear HO_118004 HO_119004 HO_129004 HO_139004 HO_149004 HO157 HO162 BK117 BK118 BK128 BK138 BK148 BK159 HB; rename_i HO_118004 HO_119004 HO_129004 HO_139004 HO_149004 HO157 HO162 BK117 BK118 BK128 BK138 BK148 BK159 HB; (try clear hb); obtain ⟨Ao105, co105, eo105⟩ := Kd.R_slice HO162.out; subst eo105) | ((with_reducible refine gate_callee (f := 33) rfl ?_); refine goesL_ (some 90) rfl rfl Try.func33 (by kernel_rfl) rfl #[.slice Ao105 t160.length co105] rfl zee81 ?_; (with_reducible refine (impl_ReadAgg.calls kj7 _ _ t160 t165 t166 t167 t168 t169 t172 t173 _ ?side1 ?side2 A91.out).mono ?_); (case side1 => exact (by repeat (first | exact (Kd.R_reads' HO162.out).2.2 | (with_reducible refine Kd.C_alloc ?_ _) | (with_reducible refine Kd.C_drewN ?_ _) | (with_reducible refine Kd.C_drew ?_)))); (case side2 => exact (Kd.R_reads' HO162.out).2.1); rintro e w106 ⟨v170, rfl, ho0, hb⟩; refine ⟨_, rfl, ?_⟩; have _ := aM (Kd.Q_elder' (kZ HO_118004.out) (Kd.Q_base ho0) hb); have _ := aM (Kd.Q_elder' (kZ HO_119004.out) (Kd.Q_base ho0) hb); have _ := aM (Kd.Q_elder' (kZ HO_129004.out) (Kd.Q_base ho0) hb); have _ := aM (Kd.Q_elder' (kZ HO_139004.out) (Kd.Q_base ho0) hb); have _ := aM (Kd.Q_elder' (kZ HO_149004.out) (Kd.Q_base ho0) hb); have _ := aM (Kd.Q_elder' (kZ HO157.out) (Kd.Q_base ho0) hb); have _ := aM (Kd.R_below (rZ HO162.out) hb); have _ := aM (Kd.Q_lower (Kd.Q_new' (Kd.Q_new' (Kd.Q_new' (Kd.Q_new' (Kd.Q_new' (Kd.Q_new' ho0 (Kd.Q_lt (kZ HO_118004.out))) (Kd.Q_lt (kZ HO_119004.out))) (Kd.Q_lt (kZ HO_129004.out))) (Kd.Q_lt (kZ HO_139004.out))) (Kd.Q_lt (kZ HO_149004.out))) (Kd.Q_lt (kZ HO157.out))) (below_size hbZ)); have _ := bB gb117 hb; have _ := bB gb118 hb; have _ := bB gb128 hb; have _ := bB gb138 hb; have _ := bB gb148 hb; have _ := bB gb159 hb; have _ := aM (below_step hbZ hb); clear HO_118004 HO_119004 HO_129004 HO_139004 HO_149004 HO157 HO162 BK117 BK118 BK128 BK138 BK148 BK159 HB; rename_i HO_118004 HO_119004 HO_129004 HO_139004 HO_149004 HO157 HO162 HO171 BK117 BK118 BK128 BK138 BK148 BK159 HB; (try clear hb); (try clear ho0)) | ((with_reducible refine gate_dst (N := 16) rfl ?_); refine box_event ?hg (N := 16) ?hd (cs := #[.int .i64 0, .int .i64 0, .int .i64 0, .int .i64 0, .slice none 0 0, .bool false]) (t := 54) ?hr ?_; (case hd => rfl); (case hg => rfl); (case hr => first | (go_simp; done) | (go_simp; rfl)); intro gb174 hg w107 hbox hb; have _ := aM (Kd.Q_below (kZ HO_118004.out) hb); have _ := aM (Kd.Q_below (kZ HO_119004.out) hb); have _ := aM (Kd.Q_below (kZ HO_129004.out) hb); have _ := aM (Kd.Q_below (kZ HO_139004.out) hb); have _ := aM (Kd.Q_below (kZ HO_149004.out) hb); have _ := aM (Kd.Q_below (kZ HO157.out) hb); have _ := aM (Kd.R_below (rZ HO162.out) hb); have _ := aM (Kd.Q_below (kZ HO171.out) hb); have _ := bB gb117 hb; have _ := bB gb118 hb; have _ := bB gb128 hb; have _ := bB gb138 hb; have _ := bB gb148 hb; have _ := bB gb159 hb; have _ := aM (below_step hbZ hb); have _ := aM hbox; have _ := szZ hg; have _ := szZ hg; have ⟨_, _⟩ := nbB gb117 hg; have ⟨_, _⟩ := nbB gb118 hg; have ⟨_, _⟩ := nbB gb128 hg; have ⟨_, _⟩ := nbB gb138 hg; have ⟨_, _⟩ := nbB gb148 hg; have ⟨_, _⟩ := nbB gb159 hg; clear HO_118004 HO_119004 HO_129004 HO_139004 HO_149004 HO157 HO162 HO171 BK117 BK118 BK128 BK138 BK148 BK159 HB; rename_i HO_118004 HO_119004 HO_129004 HO_139004 HO_149004 HO157 HO162 HO171 BK117 BK118 BK128 BK138 BK148 BK159 HB BK174 GW174 GE174 NB117_174 NB174_117 NB118_174 NB174_118 NB128_174 NB174_128 NB138_174 NB174_138 NB148_174 NB174_148 NB159_174 NB174_159; clear hb hbox hg; have hnb108 := NB174_117.out; have hnc108 := NB117_174.out; have hnb109 := NB174_118.out; have hnc109 := NB118_174.out; have hnb110 := NB174_128.out; have hnc110 := NB128_174.out; have hnb111 := NB174_138.out; have hnc111 := NB138_174.out; have hnb112 := NB174_148.out; have hnc112 := NB148_174.out; have hnb113 := NB174_159.out; have hnc113 := NB159_174.out; obtain ⟨hcz114_0, hcz114_1, hcz114_2, hcz114_3, hcz114_4, hcz114_5, hfz114_0, hfz114_1, hfz114_2, hfz114_3, hfz114_4, hfz114_5⟩ := cellsZ6 BK174.out; obtain ⟨Ao115, co115, eo115, _⟩ := Kd.Q_slice HO171.out; subst eo115))
             (try simp only [Act.put, List.setIfInBounds_toArray, List.set_cons_zero, List.set_cons_succ])
             go_cut [100] (fun v100 wc => ∃ (kq : Nat) (x100_91 : Bool), v100 = .bool x100_91 ∧ Aside0 (laws_FnSums.j1 kq x100_91 t101 t102 t103 t104 t105 t108 t109 t110 t111 t112 t113 t116 t119 t120 t121 t122 t123 t126 t151 t152 t153 t154 t155 t158 = some r) ∧ Aside0 (kq ≤ kj7) ∧ Aside0 (Kd.Q (Kd.int .i64) 3 wc w.heap.size (fun k_ => some k_ ≠ ((.slice Ao16 t113.length co16) : Value).ownBlock ∧ some k_ ≠ ((.slice Ao22 t123.length co22) : Value).ownBlock ∧ some k_ ≠ ((.slice Ao31 t133.length co31) : Value).ownBlock ∧ some k_ ≠ ((.slice Ao41 t143.length co41) : Value).ownBlock ∧ some k_ ≠ ((.slice Ao101 t155.length co101) : Value).ownBlock ∧ some k_ ≠ ((.slice Ao115 t169.length co115) : Value).ownBlock) (.slice Ao14 t105.length co14) t105) ∧ Aside0 (Kd.Q (Kd.int .i64) 3 wc w.heap.size (fun k_ => some k_ ≠ ((.slice Ao14 t105.length co14) : Value).ownBlock ∧ some k_ ≠ ((.slice Ao22 t123.length co22) : Value).ownBlock ∧ some k_ ≠ ((.slice Ao31 t133.length co31) : Value).ownBlock ∧ some k_ ≠ ((.slice Ao41 t143.length co41) : Value).ownBlock ∧ some k_ ≠ ((.slice Ao101 t155.length co101) : Value).ownBlock ∧ some k_ ≠ ((.slice Ao115 t169.length co115) : Value).ownBlock) (.slice Ao16 t113.length co16) t113) ∧ Aside0 (Kd.Q (Kd.int .i64) 3 wc w.heap.size (fun k_ => some k_ ≠ ((.slice Ao14 t105.length co14) : Value).ownBlock ∧ some k_ ≠ ((.slice Ao16 t113.length co16) : Value).ownBlock ∧ some k_ ≠ ((.slice Ao31 t133.length co31) : Value).ownBlock ∧ some k_ ≠ ((.slice Ao41 t143.length co41) : Value).ownBlock ∧ some k_ ≠ ((.slice Ao101 t155.length co101) : Value).ownBlock ∧ some k_ ≠ ((.slice Ao115 t169.length co115) : Value).ownBlock) (.slice Ao22 t123.length co22) t123) ∧ Aside0 (Kd.Q (Kd.int .i64) 3 wc w.heap.size (fun k_ => some k_ ≠ ((.slice Ao14 t105.length co14) : Value).ownBlock ∧ some k_ ≠ ((.slice Ao16 t113.length co16) : Value).ownBlock ∧ some k_ ≠ ((.slice Ao22 t123.length co22) : Value).ownBlock ∧ some k_ ≠ ((.slice Ao41 t143.length co41) : Value).ownBlock ∧ some k_ ≠ ((.slice Ao101 t155.length co101) : Value).ownBlock ∧ some k_ ≠ ((.slice Ao115 t169.length co115) : Value).ownBlock) (.slice Ao31 t133.length co31) t133) ∧ Aside0 (Kd.Q (Kd.int .i64) 3 wc w.heap.size (fun k_ => some k_ ≠ ((.slice Ao14 t105.length co14) : Value).ownBlock ∧ some k_ ≠ ((.slice Ao16 t113.length co16) : Value).ownBlock ∧ some k_ ≠ ((.slice Ao22 t123.length co22) : Value).ownBlock ∧ some k_ ≠ ((.slice Ao31 t133.length co31) : Value).ownBlock ∧ some k_ ≠ ((.slice Ao101 t155.length co101) : Value).ownBlock ∧ some k_ ≠ ((.slice Ao115 t169.length co115) : Value).ownBlock) (.slice Ao41 t143.length co41) t143) ∧ Aside0 (Kd.Q (Kd.int .i64) 3 wc w.heap.size (fun k_ => some k_ ≠ ((.slice Ao14 t105.length co14) : Value).ownBlock ∧ some k_ ≠ ((.slice Ao16 t113.length co16) : Value).ownBlock ∧ some k_ ≠ ((.slice Ao22 t123.length co22) : Value).ownBlock ∧ some k_ ≠ ((.slice Ao31 t133.length co31) : Value).ownBlock ∧ some k_ ≠ ((.slice Ao41 t143.length co41) : Value).ownBlock ∧ some k_ ≠ ((.slice Ao115 t169.length co115) : Value).ownBlock) (.slice Ao101 t155.length co101) t155) ∧ Aside0 (Kd.Q (Kd.int .i64) 3 wc w.heap.size (fun k_ => some k_ ≠ ((.slice Ao14 t105.length co14) : Value).ownBlock ∧ some k_ ≠ ((.slice Ao16 t113.length co16) : Value).ownBlock ∧ some k_ ≠ ((.slice Ao22 t123.length co22) : Value).ownBlock ∧ some k_ ≠ ((.slice Ao31 t133.length co31) : Value).ownBlock ∧ some k_ ≠ ((.slice Ao41 t143.length co41) : Value).ownBlock ∧ some k_ ≠ ((.slice Ao101 t155.length co101) : Value).ownBlock) (.slice Ao115 t169.length co115) t169) ∧ Aside0 (wc.heap[gb117]? = some (.cells #[.int .i64 t101, .int .i64 t102, .int .i64 t103, .int .i64 t104, (.slice Ao14 t105.length co14), .bool t108] 54 (0, 0))) ∧ Aside0 (wc.heap[gb118]? = some (.cells #[.int .i64 t109, .int .i64 t110, .int .i64 t111, .int .i64 t112, (.slice Ao16 t113.length co16), .bool t116] 54 (0, 0))) ∧ Aside0 (wc.heap[gb128]? = some (.cells #[.int .i64 t119, .int .i64 t120, .int .i64 t121, .int .i64 t122, (.slice Ao22 t123.length co22), .bool t126] 54 (0, 0))) ∧ Aside0 (wc.heap[gb138]? = some (.cells #[.int .i64 t129, .int .i64 t130, .int .i64 t131, .int .i64 t132, (.slice Ao31 t133.length co31), .bool t136] 54 (0, 0))) ∧ Aside0 (wc.heap[gb148]? = some (.cells #[.int .i64 t139, .int .i64 t140, .int .i64 t141, .int .i64 t142, (.slice Ao41 t143.length co41), .bool t146] 54 (0, 0))) ∧ Aside0 (wc.heap[gb159]? = some (.cells #[.int .i64 t151, .int .i64 t152, .int .i64 t153, .int .i64 t154, (.slice Ao101 t155.length co101), .bool t158] 54 (0, 0))) ∧ Aside0 (wc.heap[gb174]? = some (.cells #[.int .i64 t165, .int .i64 t166, .int .i64 t167, .int .i64 t168, (.slice Ao115 t169.length co115), .bool t172] 54 (0, 0))) ∧ Aside0 (Below w.heap.size w wc))
             case first =>
              have H := HC92.out
              clear HC92
              by_cases c116 : t173 = true
              · subst c116
                have H1 : ((laws_sameAggs.f kj7 t165 t166 t167 t168 t169 t172 t151 t152 t153 t154 t155 t158).bind fun t175 => (laws_FnSums.j1 kj7 (!t175) t101 t102 t103 t104 t105 t108 t109 t110 t111 t112 t113 t116 t119 t120 t121 t122 t123 t126 t151 t152 t153 t154 t155 t158)) = some r := by rw [if_pos rfl] at H; exact H
                clear H
                have H := H1
                clear H1
                replace H := Option.bind_eq_some_iff.mp H
                obtain ⟨t175, A1170, H⟩ := H
                try dsimp only at H
                have A117 := aM A1170
                clear A1170
                have H' := aM H
                clear H
                have hnb118 := NB174_117.out
                have hnc118 := NB117_174.out
                have hnb119 := NB174_118.out
                have hnc119 := NB118_174.out
                have hnb120 := NB174_128.out
                have hnc120 := NB128_174.out
                have hnb121 := NB174_138.out
                have hnc121 := NB138_174.out
                have hnb122 := NB174_148.out
                have hnc122 := NB148_174.out
                have hnb123 := NB174_159.out
                have hnc123 := NB159_174.out
                obtain ⟨hcz124_0, hcz124_1, hcz124_2, hcz124_3, hcz124_4, hcz124_5, hfz124_0, hfz124_1, hfz124_2, hfz124_3, hfz124_4, hfz124_5⟩ := cellsZ6 BK174.out
                have hnb125 := NB159_117.out
                have hnc125 := NB117_159.out
                have hnb126 := NB159_118.out
                have hnc126 := NB118_159.out
                have hnb127 := NB159_128.out
                have hnc127 := NB128_159.out
                have hnb128 := NB159_138.out
                have hnc128 := NB138_159.out
                have hnb129 := NB159_148.out
                have hnc129 := NB148_159.out
                obtain ⟨hcz130_0, hcz130_1, hcz130_2, hcz130_3, hcz130_4, hcz130_5, hfz130_0, hfz130_1, hfz130_2, hfz130_3, hfz130_4, hfz130_5⟩ := cellsZ6 BK159.out
                go_wp2_with (first | (go_at_call 29; (with_reducible refine (laws_sameAggs.calls kj7 t165 t166 t167 t168 _ _ t169 t172 t151 t152 t153 t154 _ _ t155 t158 t175 _ ?side1 ?side2 ?side3 ?side4 A117.out).mono ?_); (case side1 => refine (Kd.Q_reads' (e := 3) (base := w.heap.size) (ok := fun k_ => ((((((True ∧ some k_ ≠ (.slice Ao14 t105.length co14 : Value).ownBlock) ∧ some k_ ≠ (.slice Ao16 t113.length co16 : Value).ownBlock) ∧ some k_ ≠ (.slice Ao22 t123.length co22 : Value).ownBlock) ∧ some k_ ≠ (.slice Ao31 t133.length co31 : Value).ownBlock) ∧ some k_ ≠ (.slice Ao41 t143.length co41 : Value).ownBlock) ∧ some k_ ≠ (.slice Ao101 t155.length co101 : Value).ownBlock)) (n := t169.length) (c := co115) ?_).2.2; exact (kZ (qF6 HO171.out BK174.out))); (case side2 => exact (Kd.Q_reads' HO171.out).2.1); (case side3 => refine (Kd.Q_reads' (e := 3) (base := w.heap.size) (ok := fun k_ => ((((((True ∧ some k_ ≠ (.slice Ao14 t105.length co14 : Value).ownBlock) ∧ some k_ ≠ (.slice Ao16 t113.length co16 : Value).ownBlock) ∧ some k_ ≠ (.slice Ao22 t123.length co22 : Value).ownBlock) ∧ some k_ ≠ (.slice Ao31 t133.length co31 : Value).ownBlock) ∧ some k_ ≠ (.slice Ao41 t143.length co41 : Value).ownBlock) ∧ some k_ ≠ (.slice Ao115 t169.length co115 : Value).ownBlock)) (n := t155.length) (c := co101) ?_).2.2; exact (kZ (qF6 HO157.out BK174.out))); (case side4 => exact (Kd.Q_reads' HO157.out).2.1); rintro e w131 ⟨rfl, hb⟩; have _ := aM (Kd.Q_below (kZ (qF6 HO_118004.out BK174.out)) hb); have _ := aM (Kd.Q_below (kZ (qF6 HO_119004.out BK174.out)) hb); have _ := aM (Kd.Q_below (kZ (qF6 HO_129004.out BK174.out)) hb); have _ := aM (Kd.Q_below (kZ (qF6 HO_139004.out BK174.out)) hb); have _ := aM (Kd.Q_below (kZ (qF6 HO_149004.out BK174.out)) hb); have _ := aM (Kd.Q_below (kZ (qF6 HO157.out BK174.out)) hb); have _ := aM (Kd.R_below (rZ (rF6 HO162.out BK174.out)) hb); have _ := aM (Kd.Q_below (kZ (qF6 HO171.out BK174.out)) hb); have _ := bB gb117 hb; have _ := bB gb118 hb; have _ := bB gb128 hb; have _ := bB gb138 hb; have _ := bB gb148 hb; have _ := bB gb159 hb; have _ := aM (blk_below (g := gb174) (o := .cells #[.int .i64 t165, .int .i64 t166, .int .i64 t167, .int .i64 t168, .slice Ao115 t169.length co115, .bool t172] 54 (0, 0)) bkZ hb); have _ := aM (below_step hbZ hb); clear HO_118004 HO_119004 HO_129004 HO_139004 HO_149004 HO157 HO162 HO171 BK117 BK118 BK128 BK138 BK148 BK159 BK174 HB; rename_i HO_118004 HO_119004 HO_129004 HO_139004 HO_149004 HO157 HO162 HO171 BK117 BK118 BK128 BK138 BK148 BK159 BK174 HB; (try clear hb)))
                go_meet
                case rel => exact ⟨_, (!t175), z4458, H', ⟨by have := HJ7.out; first | omega | exact Nat.le_refl _⟩, ⟨by (with_reducible repeat (first | apply Kd.Q_alloc | apply Kd.Q_drewN | apply Kd.Q_drew)); exact Kd.Q_mono HO_118004.out (fun _ hk => ⟨hk.1.1.1, ⟨hk.1.1.2.1, ⟨hk.1.1.2.2.1, ⟨hk.1.1.2.2.2, ⟨hk.1.2, hk.2⟩⟩⟩⟩⟩)⟩, ⟨by (with_reducible repeat (first | apply Kd.Q_alloc | apply Kd.Q_drewN | apply Kd.Q_drew)); exact Kd.Q_mono HO_119004.out (fun _ hk => ⟨hk.1.1.1, ⟨hk.1.1.2.1, ⟨hk.1.1.2.2.1, ⟨hk.1.1.2.2.2, ⟨hk.1.2, hk.2⟩⟩⟩⟩⟩)⟩, ⟨by (with_reducible repeat (first | apply Kd.Q_alloc | apply Kd.Q_drewN | apply Kd.Q_drew)); exact Kd.Q_mono HO_129004.out (fun _ hk => ⟨hk.1.1.1, ⟨hk.1.1.2.1, ⟨hk.1.1.2.2.1, ⟨hk.1.1.2.2.2, ⟨hk.1.2, hk.2⟩⟩⟩⟩⟩)⟩, ⟨by (with_reducible repeat (first | apply Kd.Q_alloc | apply Kd.Q_drewN | apply Kd.Q_drew)); exact Kd.Q_mono HO_139004.out (fun _ hk => ⟨hk.1.1.1, ⟨hk.1.1.2.1, ⟨hk.1.1.2.2.1, ⟨hk.1.1.2.2.2, ⟨hk.1.2, hk.2⟩⟩⟩⟩⟩)⟩, ⟨by (with_reducible repeat (first | apply Kd.Q_alloc | apply Kd.Q_drewN | apply Kd.Q_drew)); exact Kd.Q_mono HO_149004.out (fun _ hk => ⟨hk.1.1.1, ⟨hk.1.1.2.1, ⟨hk.1.1.2.2.1, ⟨hk.1.1.2.2.2, ⟨hk.1.2, hk.2⟩⟩⟩⟩⟩)⟩, ⟨by (with_reducible repeat (first | apply Kd.Q_alloc | apply Kd.Q_drewN | apply Kd.Q_drew)); exact Kd.Q_mono HO157.out (fun _ hk => ⟨hk.1.1.1.1.1.2, ⟨hk.1.1.1.1.2, ⟨hk.1.1.1.2, ⟨hk.1.1.2, ⟨hk.1.2, hk.2⟩⟩⟩⟩⟩)⟩, ⟨by (with_reducible repeat (first | apply Kd.Q_alloc | apply Kd.Q_drewN | apply Kd.Q_drew)); exact Kd.Q_mono HO171.out (fun _ hk => ⟨hk.1.1.1.1.1.2, ⟨hk.1.1.1.1.2, ⟨hk.1.1.1.2, ⟨hk.1.1.2, ⟨hk.1.2, hk.2⟩⟩⟩⟩⟩)⟩, ⟨bkZ⟩, ⟨bkZ⟩, ⟨bkZ⟩, ⟨bkZ⟩, ⟨bkZ⟩, ⟨bkZ⟩, ⟨bkZ⟩, ⟨zcb41⟩⟩
              · replace c116 := Bool.eq_false_iff.mpr c116
                subst c116
                have H1 : (laws_FnSums.j1 kj7 true t101 t102 t103 t104 t105 t108 t109 t110 t111 t112 t113 t116 t119 t120 t121 t122 t123 t126 t151 t152 t153 t154 t155 t158) = some r := by rw [if_neg (show ¬ (false = true) by decide)] at H; exact H
                clear H
                have H := H1
                clear H1
                have H' := aM H
                clear H
                go_wp2
                go_meet
                case rel => exact ⟨_, (true), z4458, H', ⟨by have := HJ7.out; first | omega | exact Nat.le_refl _⟩, ⟨by (with_reducible repeat (first | apply Kd.Q_alloc | apply Kd.Q_drewN | apply Kd.Q_drew)); exact Kd.Q_mono (Kd.Q_far (p := ⟨gb174, 5, none⟩) (Kd.Q_far (p := ⟨gb174, 4, none⟩) (Kd.Q_far (p := ⟨gb174, 3, none⟩) (Kd.Q_far (p := ⟨gb174, 2, none⟩) (Kd.Q_far (p := ⟨gb174, 1, none⟩) (Kd.Q_far (p := ⟨gb174, 0, none⟩) (Kd.Q_types HO_118004.out BK174.out (by decide)) (fun _ hk => hk.2) (.int .i64 t165)) (fun _ hk => hk.2) (.int .i64 t166)) (fun _ hk => hk.2) (.int .i64 t167)) (fun _ hk => hk.2) (.int .i64 t168)) (fun _ hk => hk.2) (.slice Ao115 t169.length co115)) (fun _ hk => hk.2) (.bool t172)) (fun _ hk => ⟨hk.1.1.1.1, ⟨hk.1.1.1.2.1, ⟨hk.1.1.1.2.2.1, ⟨hk.1.1.1.2.2.2, ⟨hk.1.1.2, hk.1.2⟩⟩⟩⟩⟩)⟩, ⟨by (with_reducible repeat (first | apply Kd.Q_alloc | apply Kd.Q_drewN | apply Kd.Q_drew)); exact Kd.Q_mono (Kd.Q_far (p := ⟨gb174, 5, none⟩) (Kd.Q_far (p := ⟨gb174, 4, none⟩) (Kd.Q_far (p := ⟨gb174, 3, none⟩) (Kd.Q_far (p := ⟨gb174, 2, none⟩) (Kd.Q_far (p := ⟨gb174, 1, none⟩) (Kd.Q_far (p := ⟨gb174, 0, none⟩) (Kd.Q_types HO_119004.out BK174.out (by decide)) (fun _ hk => hk.2) (.int .i64 t165)) (fun _ hk => hk.2) (.int .i64 t166)) (fun _ hk => hk.2) (.int .i64 t167)) (fun _ hk => hk.2) (.int .i64 t168)) (fun _ hk => hk.2) (.slice Ao115 t169.length co115)) (fun _ hk => hk.2) (.bool t172)) (fun _ hk => ⟨hk.1.1.1.1, ⟨hk.1.1.1.2.1, ⟨hk.1.1.1.2.2.1, ⟨hk.1.1.1.2.2.2, ⟨hk.1.1.2, hk.1.2⟩⟩⟩⟩⟩)⟩, ⟨by (with_reducible repeat (first | apply Kd.Q_alloc | apply Kd.Q_drewN | apply Kd.Q_drew)); exact Kd.Q_mono (Kd.Q_far (p := ⟨gb174, 5, none⟩) (Kd.Q_far (p := ⟨gb174, 4, none⟩) (Kd.Q_far (p := ⟨gb174, 3, none⟩) (Kd.Q_far (p := ⟨gb174, 2, none⟩) (Kd.Q_far (p := ⟨gb174, 1, none⟩) (Kd.Q_far (p := ⟨gb174, 0, none⟩) (Kd.Q_types HO_129004.out BK174.out (by decide)) (fun _ hk => hk.2) (.int .i64 t165)) (fun _ hk => hk.2) (.int .i64 t166)) (fun _ hk => hk.2) (.int .i64 t167)) (fun _ hk => hk.2) (.int .i64 t168)) (fun _ hk => hk.2) (.slice Ao115 t169.length co115)) (fun _ hk => hk.2) (.bool t172)) (fun _ hk => ⟨hk.1.1.1.1, ⟨hk.1.1.1.2.1, ⟨hk.1.1.1.2.2.1, ⟨hk.1.1.1.2.2.2, ⟨hk.1.1.2, hk.1.2⟩⟩⟩⟩⟩)⟩, ⟨by (with_reducible repeat (first | apply Kd.Q_alloc | apply Kd.Q_drewN | apply Kd.Q_drew)); exact Kd.Q_mono (Kd.Q_far (p := ⟨gb174, 5, none⟩) (Kd.Q_far (p := ⟨gb174, 4, none⟩) (Kd.Q_far (p := ⟨gb174, 3, none⟩) (Kd.Q_far (p := ⟨gb174, 2, none⟩) (Kd.Q_far (p := ⟨gb174, 1, none⟩) (Kd.Q_far (p := ⟨gb174, 0, none⟩) (Kd.Q_types HO_139004.out BK174.out (by decide)) (fun _ hk => hk.2) (.int .i64 t165)) (fun _ hk => hk.2) (.int .i64 t166)) (fun _ hk => hk.2) (.int .i64 t167)) (fun _ hk => hk.2) (.int .i64 t168)) (fun _ hk => hk.2) (.slice Ao115 t169.length co115)) (fun _ hk => hk.2) (.bool t172)) (fun _ hk => ⟨hk.1.1.1.1, ⟨hk.1.1.1.2.1, ⟨hk.1.1.1.2.2.1, ⟨hk.1.1.1.2.2.2, ⟨hk.1.1.2, hk.1.2⟩⟩⟩⟩⟩)⟩, ⟨by (with_reducible repeat (first | apply Kd.Q_alloc | apply Kd.Q_drewN | apply Kd.Q_drew)); exact Kd.Q_mono (Kd.Q_far (p := ⟨gb174, 5, none⟩) (Kd.Q_far (p := ⟨gb174, 4, none⟩) (Kd.Q_far (p := ⟨gb174, 3, none⟩) (Kd.Q_far (p := ⟨gb174, 2, none⟩) (Kd.Q_far (p := ⟨gb174, 1, none⟩) (Kd.Q_far (p := ⟨gb174, 0, none⟩) (Kd.Q_types HO_149004.out BK174.out (by decide)) (fun _ hk => hk.2) (.int .i64 t165)) (fun _ hk => hk.2) (.int .i64 t166)) (fun _ hk => hk.2) (.int .i64 t167)) (fun _ hk => hk.2) (.int .i64 t168)) (fun _ hk => hk.2) (.slice Ao115 t169.length co115)) (fun _ hk => hk.2) (.bool t172)) (fun _ hk => ⟨hk.1.1.1.1, ⟨hk.1.1.1.2.1, ⟨hk.1.1.1.2.2.1, ⟨hk.1.1.1.2.2.2, ⟨hk.1.1.2, hk.1.2⟩⟩⟩⟩⟩)⟩, ⟨by (with_reducible repeat (first | apply Kd.Q_alloc | apply Kd.Q_drewN | apply Kd.Q_drew)); exact Kd.Q_mono (Kd.Q_far (p := ⟨gb174, 5, none⟩) (Kd.Q_far (p := ⟨gb174, 4, none⟩) (Kd.Q_far (p := ⟨gb174, 3, none⟩) (Kd.Q_far (p := ⟨gb174, 2, none⟩) (Kd.Q_far (p := ⟨gb174, 1, none⟩) (Kd.Q_far (p := ⟨gb174, 0, none⟩) (Kd.Q_types HO157.out BK174.out (by decide)) (fun _ hk => hk.2) (.int .i64 t165)) (fun _ hk => hk.2) (.int .i64 t166)) (fun _ hk => hk.2) (.int .i64 t167)) (fun _ hk => hk.2) (.int .i64 t168)) (fun _ hk => hk.2) (.slice Ao115 t169.length co115)) (fun _ hk => hk.2) (.bool t172)) (fun _ hk => ⟨hk.1.1.1.1.1.1.2, ⟨hk.1.1.1.1.1.2, ⟨hk.1.1.1.1.2, ⟨hk.1.1.1.2, ⟨hk.1.1.2, hk.1.2⟩⟩⟩⟩⟩)⟩, ⟨by (with_reducible repeat (first | apply Kd.Q_alloc | apply Kd.Q_drewN | apply Kd.Q_drew)); exact Kd.Q_mono (Kd.Q_far (p := ⟨gb174, 5, none⟩) (Kd.Q_far (p := ⟨gb174, 4, none⟩) (Kd.Q_far (p := ⟨gb174, 3, none⟩) (Kd.Q_far (p := ⟨gb174, 2, none⟩) (Kd.Q_far (p := ⟨gb174, 1, none⟩) (Kd.Q_far (p := ⟨gb174, 0, none⟩) (Kd.Q_types HO171.out BK174.out (by decide)) (fun _ hk => hk.2) (.int .i64 t165)) (fun _ hk => hk.2) (.int .i64 t166)) (fun _ hk => hk.2) (.int .i64 t167)) (fun _ hk => hk.2) (.int .i64 t168)) (fun _ hk => hk.2) (.slice Ao115 t169.length co115)) (fun _ hk => hk.2) (.bool t172)) (fun _ hk => ⟨hk.1.1.1.1.1.1.2, ⟨hk.1.1.1.1.1.2, ⟨hk.1.1.1.1.2, ⟨hk.1.1.1.2, ⟨hk.1.1.2, hk.1.2⟩⟩⟩⟩⟩)⟩, ⟨bkZ⟩, ⟨bkZ⟩, ⟨bkZ⟩, ⟨bkZ⟩, ⟨bkZ⟩, ⟨bkZ⟩, ⟨bkZ⟩, ⟨zcb41⟩⟩
             case rest =>
              clear HC92
              try clear c1
              try clear c2
              try clear p2
              try clear c3
              try clear c3b0
              try clear c4
              try clear c5
              try clear c6
              try clear p6
              try clear c7
              try clear c8
              try clear c9
              try clear c10
              try clear c11
              try clear c12
              try clear c19
              try clear c20
              try clear c26
              try clear c27
              try clear c28
              try clear c29
              try clear c30
              try clear c31
              try clear c32
              try clear c33
              try clear c36
              try clear c37
              try clear c38
              try clear c39
              try clear c42
              try clear c42b0
              try clear c42b1
              try clear c42b2
              try clear c43
              try clear c43b0
              try clear c43b1
              try clear c43b2
              try clear c45
              try clear c47
              try clear c48
              try clear c49
              try clear c50
              try clear c52
              try clear c53
              try clear c54
              try clear c57
              try clear c58
              try clear c62
              try clear c63
              try clear c64
              try clear p64
              try clear c65
              try clear c67
              try clear c68
              try clear c69
              try clear c72
              try clear c73
              try clear c77
              try clear c77b0
              try clear c77b1
              try clear c77b2
              try clear c80
              try clear c81
              try clear c82
              try clear c83
              try clear c84
              try clear c90
              try clear c95
              try clear c96
              try clear c97
              try clear c98
              try clear c99
              try clear c108
              try clear c109
              try clear c110
              try clear c111
              try clear c112
              try clear c113
              try clear c116
              try clear c118
              try clear c119
              try clear c120
              try clear c121
              try clear c122
              try clear c123
              try clear c125
              try clear c126
              try clear c127
              try clear c128
              try clear c129
              try clear hcz100_0 hcz100_1 hcz100_2 hcz100_3 hcz100_4 hcz100_5
              try clear hcz103_0 hcz103_1 hcz103_2 hcz103_3 hcz103_4 hcz103_5
              try clear hcz114_0 hcz114_1 hcz114_2 hcz114_3 hcz114_4 hcz114_5
              try clear hcz124_0 hcz124_1 hcz124_2 hcz124_3 hcz124_4 hcz124_5
              try clear hcz130_0 hcz130_1 hcz130_2 hcz130_3 hcz130_4 hcz130_5
              try clear hcz13_0 hcz13_1 hcz13_2 hcz13_3 hcz13_4 hcz13_5
              try clear hcz15_0 hcz15_1 hcz15_2 hcz15_3 hcz15_4 hcz15_5
              try clear hcz21_0 hcz21_1 hcz21_2 hcz21_3 hcz21_4 hcz21_5
              try clear hcz23_0 hcz23_1 hcz23_2 hcz23_3 hcz23_4 hcz23_5
              try clear hcz24_0 hcz24_1 hcz24_2 hcz24_3 hcz24_4 hcz24_5
              try clear hcz30_0 hcz30_1 hcz30_2 hcz30_3 hcz30_4 hcz30_5
              try clear hcz32_0 hcz32_1 hcz32_2 hcz32_3 hcz32_4 hcz32_5
              try clear hcz33_0 hcz33_1 hcz33_2 hcz33_3 hcz33_4 hcz33_5
              try clear hcz40_0 hcz40_1 hcz40_2 hcz40_3 hcz40_4 hcz40_5
              try clear hcz51_0 hcz51_1 hcz51_2 hcz51_3 hcz51_4 hcz51_5
              try clear hcz55_0 hcz55_1 hcz55_2 hcz55_3 hcz55_4 hcz55_5
              try clear hcz59_0 hcz59_1 hcz59_2 hcz59_3 hcz59_4 hcz59_5
              try clear hcz60_0 hcz60_1 hcz60_2 hcz60_3 hcz60_4 hcz60_5
              try clear hcz66_0 hcz66_1 hcz66_2 hcz66_3 hcz66_4 hcz66_5
              try clear hcz70_0 hcz70_1 hcz70_2 hcz70_3 hcz70_4 hcz70_5
              try clear hcz85_0 hcz85_1 hcz85_2 hcz85_3 hcz85_4 hcz85_5
              try clear hcz88_0 hcz88_1 hcz88_2 hcz88_3 hcz88_4 hcz88_5
              try clear hfz100_0 hfz100_1 hfz100_2 hfz100_3 hfz100_4 hfz100_5
              try clear hfz103_0 hfz103_1 hfz103_2 hfz103_3 hfz103_4 hfz103_5
              try clear hfz114_0 hfz114_1 hfz114_2 hfz114_3 hfz114_4 hfz114_5
              try clear hfz124_0 hfz124_1 hfz124_2 hfz124_3 hfz124_4 hfz124_5
              try clear hfz130_0 hfz130_1 hfz130_2 hfz130_3 hfz130_4 hfz130_5
              try clear hfz13_0 hfz13_1 hfz13_2 hfz13_3 hfz13_4 hfz13_5
              try clear hfz15_0 hfz15_1 hfz15_2 hfz15_3 hfz15_4 hfz15_5
              try clear hfz21_0 hfz21_1 hfz21_2 hfz21_3 hfz21_4 hfz21_5
              try clear hfz23_0 hfz23_1 hfz23_2 hfz23_3 hfz23_4 hfz23_5
              try clear hfz24_0 hfz24_1 hfz24_2 hfz24_3 hfz24_4 hfz24_5
              try clear hfz30_0 hfz30_1 hfz30_2 hfz30_3 hfz30_4 hfz30_5
              try clear hfz32_0 hfz32_1 hfz32_2 hfz32_3 hfz32_4 hfz32_5
              try clear hfz33_0 hfz33_1 hfz33_2 hfz33_3 hfz33_4 hfz33_5
              try clear hfz40_0 hfz40_1 hfz40_2 hfz40_3 hfz40_4 hfz40_5
              try clear hfz51_0 hfz51_1 hfz51_2 hfz51_3 hfz51_4 hfz51_5
              try clear hfz55_0 hfz55_1 hfz55_2 hfz55_3 hfz55_4 hfz55_5
              try clear hfz59_0 hfz59_1 hfz59_2 hfz59_3 hfz59_4 hfz59_5
              try clear hfz60_0 hfz60_1 hfz60_2 hfz60_3 hfz60_4 hfz60_5
              try clear hfz66_0 hfz66_1 hfz66_2 hfz66_3 hfz66_4 hfz66_5
              try clear hfz70_0 hfz70_1 hfz70_2 hfz70_3 hfz70_4 hfz70_5
              try clear hfz85_0 hfz85_1 hfz85_2 hfz85_3 hfz85_4 hfz85_5
              try clear hfz88_0 hfz88_1 hfz88_2 hfz88_3 hfz88_4 hfz88_5
              try clear p2
              try clear p6
              try clear p64
              obtain ⟨kq, x100_91, rfl, HA, HJ91, HO_118004, HO_119004, HO_129004, HO_139004, HO_149004, HO_160004, HO_175004, BK117, BK118, BK128, BK138, BK148, BK159, BK174, HB⟩ := hcut
              cases kq with
              | zero => exact absurd HA.out (by simp [laws_FnSums.j1])
              | succ kj91 =>
               have H := HA.out
               clear HA
               simp only [laws_FnSums.j1] at H
               by_cases c132 : x100_91 = true
               · subst c132
                 have H1 : (some false) = some r := by rw [if_pos rfl] at H; exact H
                 clear H
                 have H := H1
                 clear H1
                 obtain rfl := Option.some.inj H
                 go_wp2
                 go_ret
                 exact ⟨z674d, zcb41⟩
               · replace c132 := Bool.eq_false_iff.mpr c132
                 subst c132
                 have H1 : ((impl_JoinAggs.f kj91 t119 t120 t121 t122 t123 t126 t151 t152 t153 t154 t155 t158).bind fun bt176 => ((impl_JoinAggs.f kj91 t109 t110 t111 t112 t113 t116 t151 t152 t153 t154 t155 t158).bind fun bt186 => ((impl_JoinAggs.f kj91 t101 t102 t103 t104 t105 t108 bt186.1 bt186.2.1 bt186.2.2.1 bt186.2.2.2.1 bt186.2.2.2.2.1 bt186.2.2.2.2.2.1).bind fun bt196 => (if bt176.2.2.2.2.2.2 = true then (if bt186.2.2.2.2.2.2 = true then (if bt196.2.2.2.2.2.2 = true then ((impl_GoodAgg.f kj91 bt176.1 bt176.2.1 bt176.2.2.1 bt176.2.2.2.1 bt176.2.2.2.2.1 bt176.2.2.2.2.2.1).bind fun t206 => (if t206 = true then ((laws_sameAggs.f kj91 bt176.1 bt176.2.1 bt176.2.2.1 bt176.2.2.2.1 bt176.2.2.2.2.1 bt176.2.2.2.2.2.1 bt196.1 bt196.2.1 bt196.2.2.1 bt196.2.2.2.1 bt196.2.2.2.2.1 bt196.2.2.2.2.2.1).bind fun t207 => (some t207)) else (some false))) else (some false)) else (some false)) else (some false))))) = some r := by rw [if_neg (show ¬ (false = true) by decide)] at H; exact H
                 clear H
                 have H := H1
                 clear H1
                 replace H := Option.bind_eq_some_iff.mp H
                 obtain ⟨⟨t176, t177, t178, t179, t180, t183, t184⟩, A1330, H⟩ := H
                 try dsimp only at H
                 have A133 := aM A1330
                 clear A1330
                 replace H := Option.bind_eq_some_iff.mp H
                 obtain ⟨⟨t186, t187, t188, t189, t190, t193, t194⟩, A1340, H⟩ := H
                 try dsimp only at H
                 have A134 := aM A1340
                 clear A1340
                 replace H := Option.bind_eq_some_iff.mp H
                 obtain ⟨⟨t196, t197, t198, t199, t200, t203, t204⟩, A1350, H⟩ := H
                 try dsimp only at H
                 have A135 := aM A1350
                 clear A1350
                 by_cases c136 : t184 = true
                 · subst c136
                   have H1 : (if t194 = true then (if t204 = true then ((impl_GoodAgg.f kj91 t176 t177 t178 t179 t180 t183).bind fun t206 => (if t206 = true then ((laws_sameAggs.f kj91 t176 t177 t178 t179 t180 t183 t196 t197 t198 t199 t200 t203).bind fun t207 => (some t207)) else (some false))) else (some false)) else (some false)) = some r := by rw [if_pos rfl] at H; exact H
                   clear H
                   have H := H1
                   clear H1
                   by_cases c137 : t194 = true
                   · subst c137
                     have H1 : (if t204 = true then ((impl_GoodAgg.f kj91 t176 t177 t178 t179 t180 t183).bind fun t206 => (if t206 = true then ((laws_sameAggs.f kj91 t176 t177 t178 t179 t180 t183 t196 t197 t198 t199 t200 t203).bind fun t207 => (some t207)) else (some false))) else (some false)) = some r := by rw [if_pos rfl] at H; exact H
                     clear H
                     have H := H1
                     clear H1
                     by_cases c138 : t204 = true
                     · subst c138
                       have H1 : ((impl_GoodAgg.f kj91 t176 t177 t178 t179 t180 t183).bind fun t206 => (if t206 = true then ((laws_sameAggs.f kj91 t176 t177 t178 t179 t180 t183 t196 t197 t198 t199 t200 t203).bind fun t207 => (some t207)) else (some false))) = some r := by rw [if_pos rfl] at H; exact H
                       clear H
                       have H := H1
                       clear H1
                       replace H := Option.bind_eq_some_iff.mp H
                       obtain ⟨t206, A1390, H⟩ := H
                       try dsimp only at H
                       have A139 := aM A1390
                       clear A1390
                       by_cases c140 : t206 = true
                       · subst c140
                         have H1 : ((laws_sameAggs.f kj91 t176 t177 t178 t179 t180 t183 t196 t197 t198 t199 t200 t203).bind fun t207 => (some t207)) = some r := by rw [if_pos rfl] at H; exact H
                         clear H
                         have H := H1
                         clear H1
                         replace H := Option.bind_eq_some_iff.mp H
                         obtain ⟨t207, A1410, H⟩ := H
                         try dsimp only at H
                         have A141 := aM A1410
                         clear A1410
                         obtain rfl := Option.some.inj H
                         have hnb142 := NB128_117.out
                         have hnc142 := NB117_128.out
                         have hnb143 := NB128_118.out
                         have hnc143 := NB118_128.out
                         have hnb144 := NB128_138.out
                         have hnc144 := NB138_128.out
                         have hnb145 := NB128_148.out
                         have hnc145 := NB148_128.out
                         have hnb146 := NB128_159.out
                         have hnc146 := NB159_128.out
                         have hnb147 := NB128_174.out
                         have hnc147 := NB174_128.out
                         obtain ⟨hcz148_0, hcz148_1, hcz148_2, hcz148_3, hcz148_4, hcz148_5, hfz148_0, hfz148_1, hfz148_2, hfz148_3, hfz148_4, hfz148_5⟩ := cellsZ6 BK128.out
                         have hnb149 := NB159_117.out
                         have hnc149 := NB117_159.out
                         have hnb150 := NB159_118.out
                         have hnc150 := NB118_159.out
                         have hnb151 := NB159_138.out
                         have hnc151 := NB138_159.out
                         have hnb152 := NB159_148.out
                         have hnc152 := NB148_159.out
                         have hnb153 := NB159_174.out
                         have hnc153 := NB174_159.out
                         obtain ⟨hcz154_0, hcz154_1, hcz154_2, hcz154_3, hcz154_4, hcz154_5, hfz154_0, hfz154_1, hfz154_2, hfz154_3, hfz154_4, hfz154_5⟩ := cellsZ6 BK159.out
                         go_wp2_with (first | ((with_reducible refine gate_callee (f := 27) rfl ?_); refine goesL_ (some 104) rfl rfl Try.func27 (by kernel_rfl) rfl #[.agg #[.int .i64 t119, .int .i64 t120, .int .i64 t121, .int .i64 t122, .slice Ao22 t123.length co22, .bool t126], .agg #[.int .i64 t151, .int .i64 t152, .int .i64 t153, .int .i64 t154, .slice Ao101 t155.length co101, .bool t158]] rfl zee81 ?_; (with_reducible refine (impl_JoinAggs.calls kj91 t119 t120 t121 t122 _ _ t123 t126 t151 t152 t153 t154 _ _ t155 t158 t176 t177 t178 t179 t180 t183 true _ ?side1 ?side2 ?side3 ?side4 A133.out).mono ?_); (case side1 => exact (by repeat (first | exact (Kd.Q_reads' HO_129004.out).2.2 | (with_reducible refine Kd.C_alloc ?_ _) | (with_reducible refine Kd.C_drewN ?_ _) | (with_reducible refine Kd.C_drew ?_)))); (case side2 => exact (Kd.Q_reads' HO_129004.out).2.1); (case side3 => exact (by repeat (first | exact (Kd.Q_reads' HO_160004.out).2.2 | (with_reducible refine Kd.C_alloc ?_ _) | (with_reducible refine Kd.C_drewN ?_ _) | (with_reducible refine Kd.C_drew ?_)))); (case side4 => exact (Kd.Q_reads' HO_160004.out).2.1); rintro e w155 ⟨v181, rfl, ho0, hb⟩; refine ⟨_, rfl, ?_⟩; have _ := aM (Kd.Q_elder' (kZ HO_118004.out) (Kd.R_base ho0) hb); have _ := aM (Kd.Q_elder' (kZ HO_119004.out) (Kd.R_base ho0) hb); have _ := aM (Kd.Q_elder' (kZ HO_129004.out) (Kd.R_base ho0) hb); have _ := aM (Kd.Q_elder' (kZ HO_139004.out) (Kd.R_base ho0) hb); have _ := aM (Kd.Q_elder' (kZ HO_149004.out) (Kd.R_base ho0) hb); have _ := aM (Kd.Q_elder' (kZ HO_160004.out) (Kd.R_base ho0) hb); have _ := aM (Kd.Q_elder' (kZ HO_175004.out) (Kd.R_base ho0) hb); have _ := aM (Kd.R_lower (Kd.R_new' (Kd.R_new' (Kd.R_new' (Kd.R_new' (Kd.R_new' (Kd.R_new' (Kd.R_new' ho0 (Kd.Q_lt (kZ HO_118004.out))) (Kd.Q_lt (kZ HO_119004.out))) (Kd.Q_lt (kZ HO_129004.out))) (Kd.Q_lt (kZ HO_139004.out))) (Kd.Q_lt (kZ HO_149004.out))) (Kd.Q_lt (kZ HO_160004.out))) (Kd.Q_lt (kZ HO_175004.out))) (below_size hbZ)); have _ := bB gb117 hb; have _ := bB gb118 hb; have _ := bB gb128 hb; have _ := bB gb138 hb; have _ := bB gb148 hb; have _ := bB gb159 hb; have _ := bB gb174 hb; have _ := aM (below_step hbZ hb); clear HO_118004 HO_119004 HO_129004 HO_139004 HO_149004 HO_160004 HO_175004 BK117 BK118 BK128 BK138 BK148 BK159 BK174 HB; rename_i HO_118004 HO_119004 HO_129004 HO_139004 HO_149004 HO_160004 HO_175004 HO182 BK117 BK118 BK128 BK138 BK148 BK159 BK174 HB; (try clear hb); (try clear ho0)) | ((with_reducible refine gate_dst (N := 18) rfl ?_); refine box_event ?hg (N := 18) ?hd (cs := #[.int .i64 0, .int .i64 0, .int .i64 0, .int .i64 0, .slice none 0 0, .bool false]) (t := 54) ?hr ?_; (case hd => rfl); (case hg => rfl); (case hr => first | (go_simp; done) | (go_simp; rfl)); intro gb185 hg w156 hbox hb; have _ := aM (Kd.Q_below (kZ HO_118004.out) hb); have _ := aM (Kd.Q_below (kZ HO_119004.out) hb); have _ := aM (Kd.Q_below (kZ HO_129004.out) hb); have _ := aM (Kd.Q_below (kZ HO_139004.out) hb); have _ := aM (Kd.Q_below (kZ HO_149004.out) hb); have _ := aM (Kd.Q_below (kZ HO_160004.out) hb); have _ := aM (Kd.Q_below (kZ HO_175004.out) hb); have _ := aM (Kd.R_below (rZ HO182.out) hb); have _ := bB gb117 hb; have _ := bB gb118 hb; have _ := bB gb128 hb; have _ := bB gb138 hb; have _ := bB gb148 hb; have _ := bB gb159 hb; have _ := bB gb174 hb; have _ := aM (below_step hbZ hb); have _ := aM hbox; have _ := szZ hg; have _ := szZ hg; have ⟨_, _⟩ := nbB gb117 hg; have ⟨_, _⟩ := nbB gb118 hg; have ⟨_, _⟩ := nbB gb128 hg; have ⟨_, _⟩ := nbB gb138 hg; have ⟨_, _⟩ := nbB gb148 hg; have ⟨_, _⟩ := nbB gb159 hg; have ⟨_, _⟩ := nbB gb174 hg; clear HO_118004 HO_119004 HO_129004 HO_139004 HO_149004 HO_160004 HO_175004 HO182 BK117 BK118 BK128 BK138 BK148 BK159 BK174 HB; rename_i HO_118004 HO_119004 HO_129004 HO_139004 HO_149004 HO_160004 HO_175004 HO182 BK117 BK118 BK128 BK138 BK148 BK159 BK174 HB BK185 GW185 GE185 NB117_185 NB185_117 NB118_185 NB185_118 NB128_185 NB185_128 NB138_185 NB185_138 NB148_185 NB185_148 NB159_185 NB185_159 NB174_185 NB185_174; clear hb hbox hg; have hnb157 := NB185_117.out; have hnc157 := NB117_185.out; have hnb158 := NB185_118.out; have hnc158 := NB118_185.out; have hnb159 := NB185_128.out; have hnc159 := NB128_185.out; have hnb160 := NB185_138.out; have hnc160 := NB138_185.out; have hnb161 := NB185_148.out; have hnc161 := NB148_185.out; have hnb162 := NB185_159.out; have hnc162 := NB159_185.out; have hnb163 := NB185_174.out; have hnc163 := NB174_185.out; obtain ⟨hcz164_0, hcz164_1, hcz164_2, hcz164_3, hcz164_4, hcz164_5, hfz164_0, hfz164_1, hfz164_2, hfz164_3, hfz164_4, hfz164_5⟩ := cellsZ6 BK185.out; obtain ⟨Ao165, co165, eo165⟩ := Kd.R_slice HO182.out; subst eo165; have hnb166 := NB118_117.out; have hnc166 := NB117_118.out; have hnb167 := NB118_138.out; have hnc167 := NB138_118.out; have hnb168 := NB118_148.out; have hnc168 := NB148_118.out; have hnb169 := NB118_174.out; have hnc169 := NB174_118.out; obtain ⟨hcz170_0, hcz170_1, hcz170_2, hcz170_3, hcz170_4, hcz170_5, hfz170_0, hfz170_1, hfz170_2, hfz170_3, hfz170_4, hfz170_5⟩ := cellsZ6 BK118.out; obtain ⟨hcz171_0, hcz171_1, hcz171_2, hcz171_3, hcz171_4, hcz171_5, hfz171_0, hfz171_1, hfz171_2, hfz171_3, hfz171_4, hfz171_5⟩ := cellsZ6 BK159.out) | ((with_reducible refine gate_callee (f := 27) rfl ?_); refine goesL_ (some 110) rfl rfl Try.func27 (by kernel_rfl) rfl #[.agg #[.int .i64 t109, .int .i64 t110, .int .i64 t111, .int .i64 t112, .slice Ao16 t113.length co16, .bool t116], .agg #[.int .i64 t151, .int .i64 t152, .int .i64 t153, .int .i64 t154, .slice Ao101 t155.length co101, .bool t158]] rfl zee81 ?_; (with_reducible refine (impl_JoinAggs.calls kj91 t109 t110 t111 t112 _ _ t113 t116 t151 t152 t153 t154 _ _ t155 t158 t186 t187 t188 t189 t190 t193 true _ ?side1 ?side2 ?side3 ?side4 A134.out).mono ?_); (case side1 => refine (Kd.Q_reads' (e := 3) (base := w.heap.size) (ok := fun k_ => ((some k_ ≠ (.slice Ao14 t105.length co14 : Value).ownBlock ∧ (some k_ ≠ (.slice Ao22 t123.length co22 : Value).ownBlock ∧ (some k_ ≠ (.slice Ao31 t133.length co31 : Value).ownBlock ∧ (some k_ ≠ (.slice Ao41 t143.length co41 : Value).ownBlock ∧ (some k_ ≠ (.slice Ao101 t155.length co101 : Value).ownBlock ∧ some k_ ≠ (.slice Ao115 t169.length co115 : Value).ownBlock))))) ∧ some k_ ≠ (.slice Ao165 t180.length co165 : Value).ownBlock)) (n := t113.length) (c := co16) ?_).2.2; exact (kZ (qF6 HO_119004.out BK185.out))); (case side2 => exact (Kd.Q_reads' HO_119004.out).2.1); (case side3 => refine (Kd.Q_reads' (e := 3) (base := w.heap.size) (ok := fun k_ => ((some k_ ≠ (.slice Ao14 t105.length co14 : Value).ownBlock ∧ (some k_ ≠ (.slice Ao16 t113.length co16 : Value).ownBlock ∧ (some k_ ≠ (.slice Ao22 t123.length co22 : Value).ownBlock ∧ (some k_ ≠ (.slice Ao31 t133.length co31 : Value).ownBlock ∧ (some k_ ≠ (.slice Ao41 t143.length co41 : Value).ownBlock ∧ some k_ ≠ (.slice Ao115 t169.length co115 : Value).ownBlock))))) ∧ some k_ ≠ (.slice Ao165 t180.length co165 : Value).ownBlock)) (n := t155.length) (c := co101) ?_).2.2; exact (kZ (qF6 HO_160004.out BK185.out))); (case side4 => exact (Kd.Q_reads' HO_160004.out).2.1); rintro e w172 ⟨v191, rfl, ho0, hb⟩; refine ⟨_, rfl, ?_⟩; have _ := aM (Kd.Q_elder' (kZ (qF6 HO_118004.out BK185.out)) (Kd.R_base ho0) hb); have _ := aM (Kd.Q_elder' (kZ (qF6 HO_119004.out BK185.out)) (Kd.R_base ho0) hb); have _ := aM (Kd.Q_elder' (kZ (qF6 HO_129004.out BK185.out)) (Kd.R_base ho0) hb); have _ := aM (Kd.Q_elder' (kZ (qF6 HO_139004.out BK185.out)) (Kd.R_base ho0) hb); have _ := aM (Kd.Q_elder' (kZ (qF6 HO_149004.out BK185.out)) (Kd.R_base ho0) hb); have _ := aM (Kd.Q_elder' (kZ (qF6 HO_160004.out BK185.out)) (Kd.R_base ho0) hb); have _ := aM (Kd.Q_elder' (kZ (qF6 HO_175004.out BK185.out)) (Kd.R_base ho0) hb); have _ := aM (Kd.R_elder' (rZ (rF6 HO182.out BK185.out)) (Kd.R_base ho0) hb); have _ := aM (Kd.R_lower (Kd.R_new' (Kd.R_new' (Kd.R_new' (Kd.R_new' (Kd.R_new' (Kd.R_new' (Kd.R_new' (Kd.R_new' ho0 (Kd.Q_lt (kZ (qF6 HO_118004.out BK185.out)))) (Kd.Q_lt (kZ (qF6 HO_119004.out BK185.out)))) (Kd.Q_lt (kZ (qF6 HO_129004.out BK185.out)))) (Kd.Q_lt (kZ (qF6 HO_139004.out BK185.out)))) (Kd.Q_lt (kZ (qF6 HO_149004.out BK185.out)))) (Kd.Q_lt (kZ (qF6 HO_160004.out BK185.out)))) (Kd.Q_lt (kZ (qF6 HO_175004.out BK185.out)))) (Kd.R_lt (rZ (rF6 HO182.out BK185.out)))) (below_size hbZ)); have _ := bB gb117 hb; have _ := bB gb118 hb; have _ := bB gb128 hb; have _ := bB gb138 hb; have _ := bB gb148 hb; have _ := bB gb159 hb; have _ := bB gb174 hb; have _ := aM (blk_below (g := gb185) (o := .cells #[.int .i64 t176, .int .i64 t177, .int .i64 t178, .int .i64 t179, .slice Ao165 t180.length co165, .bool t183] 54 (0, 0)) bkZ hb); have _ := aM (below_step hbZ hb); clear HO_118004 HO_119004 HO_129004 HO_139004 HO_149004 HO_160004 HO_175004 HO182 BK117 BK118 BK128 BK138 BK148 BK159 BK174 BK185 HB; rename_i HO_118004 HO_119004 HO_129004 HO_139004 HO_149004 HO_160004 HO_175004 HO182 HO192 BK117 BK118 BK128 BK138 BK148 BK159 BK174 BK185 HB; (try clear hb); (try clear ho0)) | ((with_reducible refine gate_dst (N := 20) rfl ?_); refine box_event ?hg (N := 20) ?hd (cs := #[.int .i64 0, .int .i64 0, .int .i64 0, .int .i64 0, .slice none 0 0, .bool false]) (t := 54) ?hr ?_; (case hd => rfl); (case hg => rfl); (case hr => first | (go_simp; done) | (go_simp; rfl)); intro gb195 hg w173 hbox hb; have _ := aM (Kd.Q_below (kZ HO_118004.out) hb); have _ := aM (Kd.Q_below (kZ HO_119004.out) hb); have _ := aM (Kd.Q_below (kZ HO_129004.out) hb); have _ := aM (Kd.Q_below (kZ HO_139004.out) hb); have _ := aM (Kd.Q_below (kZ HO_149004.out) hb); have _ := aM (Kd.Q_below (kZ HO_160004.out) hb); have _ := aM (Kd.Q_below (kZ HO_175004.out) hb); have _ := aM (Kd.R_below (rZ HO182.out) hb); have _ := aM (Kd.R_below (rZ HO192.out) hb); have _ := bB gb117 hb; have _ := bB gb118 hb; have _ := bB gb128 hb; have _ := bB gb138 hb; have _ := bB gb148 hb; have _ := bB gb159 hb; have _ := bB gb174 hb; have _ := bB gb185 hb; have _ := aM (below_step hbZ hb); have _ := aM hbox; have _ := szZ hg; have _ := szZ hg; have ⟨_, _⟩ := nbB gb117 hg; have ⟨_, _⟩ := nbB gb118 hg; have ⟨_, _⟩ := nbB gb128 hg; have ⟨_, _⟩ := nbB gb138 hg; have ⟨_, _⟩ := nbB gb148 hg; have ⟨_, _⟩ := nbB gb159 hg; have ⟨_, _⟩ := nbB gb174 hg; have ⟨_, _⟩ := nbB gb185 hg; clear HO_118004 HO_119004 HO_129004 HO_139004 HO_149004 HO_160004 HO_175004 HO182 HO192 BK117 BK118 BK128 BK138 BK148 BK159 BK174 BK185 HB; rename_i HO_118004 HO_119004 HO_129004 HO_139004 HO_149004 HO_160004 HO_175004 HO182 HO192 BK117 BK118 BK128 BK138 BK148 BK159 BK174 BK185 HB BK195 GW195 GE195 NB117_195 NB195_117 NB118_195 NB195_118 NB128_195 NB195_128 NB138_195 NB195_138 NB148_195 NB195_148 NB159_195 NB195_159 NB174_195 NB195_174 NB185_195 NB195_185; clear hb hbox hg; have hnb174 := NB195_117.out; have hnc174 := NB117_195.out; have hnb175 := NB195_118.out; have hnc175 := NB118_195.out; have hnb176 := NB195_128.out; have hnc176 := NB128_195.out; have hnb177 := NB195_138.out; have hnc177 := NB138_195.out; have hnb178 := NB195_148.out; have hnc178 := NB148_195.out; have hnb179 := NB195_159.out; have hnc179 := NB159_195.out; have hnb180 := NB195_174.out; have hnc180 := NB174_195.out; have hnb181 := NB195_185.out; have hnc181 := NB185_195.out; obtain ⟨hcz182_0, hcz182_1, hcz182_2, hcz182_3, hcz182_4, hcz182_5, hfz182_0, hfz182_1, hfz182_2, hfz182_3, hfz182_4, hfz182_5⟩ := cellsZ6 BK195.out; obtain ⟨Ao183, co183, eo183⟩ := Kd.R_slice HO192.out; subst eo183; have hnb184 := NB117_138.out; have hnc184 := NB138_117.out; have hnb185 := NB117_148.out; have hnc185 := NB148_117.out; have hnb186 := NB117_174.out; have hnc186 := NB174_117.out; obtain ⟨hcz187_0, hcz187_1, hcz187_2, hcz187_3, hcz187_4, hcz187_5, hfz187_0, hfz187_1, hfz187_2, hfz187_3, hfz187_4, hfz187_5⟩ := cellsZ6 BK117.out) | ((with_reducible refine gate_callee (f := 27) rfl ?_); refine goesL_ (some 116) rfl rfl Try.func27 (by kernel_rfl) rfl #[.agg #[.int .i64 t101, .int .i64 t102, .int .i64 t103, .int .i64 t104, .slice Ao14 t105.length co14, .bool t108], .agg #[.int .i64 t186, .int .i64 t187, .int .i64 t188, .int .i64 t189, .slice Ao183 t190.length co183, .bool t193]] rfl zee81 ?_; (with_reducible refine (impl_JoinAggs.calls kj91 t101 t102 t103 t104 _ _ t105 t108 t186 t187 t188 t189 _ _ t190 t193 t196 t197 t198 t199 t200 t203 true _ ?side1 ?side2 ?side3 ?side4 A135.out).mono ?_); (case side1 => refine (Kd.Q_reads' (e := 3) (base := w.heap.size) (ok := fun k_ => (((some k_ ≠ (.slice Ao16 t113.length co16 : Value).ownBlock ∧ (some k_ ≠ (.slice Ao22 t123.length co22 : Value).ownBlock ∧ (some k_ ≠ (.slice Ao31 t133.length co31 : Value).ownBlock ∧ (some k_ ≠ (.slice Ao41 t143.length co41 : Value).ownBlock ∧ (some k_ ≠ (.slice Ao101 t155.length co101 : Value).ownBlock ∧ some k_ ≠ (.slice Ao115 t169.length co115 : Value).ownBlock))))) ∧ some k_ ≠ (.slice Ao165 t180.length co165 : Value).ownBlock) ∧ some k_ ≠ (.slice Ao183 t190.length co183 : Value).ownBlock)) (n := t105.length) (c := co14) ?_).2.2; exact (kZ (qF6 HO_118004.out BK195.out))); (case side2 => exact (Kd.Q_reads' HO_118004.out).2.1); (case side3 => refine (Kd.R_reads' (e := 3) (base := w.heap.size) (ok := fun k_ => ((((((((True ∧ some k_ ≠ (.slice Ao14 t105.length co14 : Value).ownBlock) ∧ some k_ ≠ (.slice Ao16 t113.length co16 : Value).ownBlock) ∧ some k_ ≠ (.slice Ao22 t123.length co22 : Value).ownBlock) ∧ some k_ ≠ (.slice Ao31 t133.length co31 : Value).ownBlock) ∧ some k_ ≠ (.slice Ao41 t143.length co41 : Value).ownBlock) ∧ some k_ ≠ (.slice Ao101 t155.length co101 : Value).ownBlock) ∧ some k_ ≠ (.slice Ao115 t169.length co115 : Value).ownBlock) ∧ some k_ ≠ (.slice Ao165 t180.length co165 : Value).ownBlock)) (n := t190.length) (c := co183) ?_).2.2; exact (rZ (rF6 HO192.out BK195.out))); (case side4 => exact (Kd.R_reads' HO192.out).2.1); rintro e w188 ⟨v201, rfl, ho0, hb⟩; refine ⟨_, rfl, ?_⟩; have _ := aM (Kd.Q_elder' (kZ (qF6 HO_118004.out BK195.out)) (Kd.R_base ho0) hb); have _ := aM (Kd.Q_elder' (kZ (qF6 HO_119004.out BK195.out)) (Kd.R_base ho0) hb); have _ := aM (Kd.Q_elder' (kZ (qF6 HO_129004.out BK195.out)) (Kd.R_base ho0) hb); have _ := aM (Kd.Q_elder' (kZ (qF6 HO_139004.out BK195.out)) (Kd.R_base ho0) hb); have _ := aM (Kd.Q_elder' (kZ (qF6 HO_149004.out BK195.out)) (Kd.R_base ho0) hb); have _ := aM (Kd.Q_elder' (kZ (qF6 HO_160004.out BK195.out)) (Kd.R_base ho0) hb); have _ := aM (Kd.Q_elder' (kZ (qF6 HO_175004.out BK195.out)) (Kd.R_base ho0) hb); have _ := aM (Kd.R_elder' (rZ (rF6 HO182.out BK195.out)) (Kd.R_base ho0) hb); have _ := aM (Kd.R_elder' (rZ (rF6 HO192.out BK195.out)) (Kd.R_base ho0) hb); have _ := aM (Kd.R_lower (Kd.R_new' (Kd.R_new' (Kd.R_new' (Kd.R_new' (Kd.R_new' (Kd.R_new' (Kd.R_new' (Kd.R_new' (Kd.R_new' ho0 (Kd.Q_lt (kZ (qF6 HO_118004.out BK195.out)))) (Kd.Q_lt (kZ (qF6 HO_119004.out BK195.out)))) (Kd.Q_lt (kZ (qF6 HO_129004.out BK195.out)))) (Kd.Q_lt (kZ (qF6 HO_139004.out BK195.out)))) (Kd.Q_lt (kZ (qF6 HO_149004.out BK195.out)))) (Kd.Q_lt (kZ (qF6 HO_160004.out BK195.out)))) (Kd.Q_lt (kZ (qF6 HO_175004.out BK195.out)))) (Kd.R_lt (rZ (rF6 HO182.out BK195.out)))) (Kd.R_lt (rZ (rF6 HO192.out BK195.out)))) (below_size hbZ)); have _ := bB gb117 hb; have _ := bB gb118 hb; have _ := bB gb128 hb; have _ := bB gb138 hb; have _ := bB gb148 hb; have _ := bB gb159 hb; have _ := bB gb174 hb; have _ := bB gb185 hb; have _ := aM (blk_below (g := gb195) (o := .cells #[.int .i64 t186, .int .i64 t187, .int .i64 t188, .int .i64 t189, .slice Ao183 t190.length co183, .bool t193] 54 (0, 0)) bkZ hb); have _ := aM (below_step hbZ hb); clear HO_118004 HO_119004 HO_129004 HO_139004 HO_149004 HO_160004 HO_175004 HO182 HO192 BK117 BK118 BK128 BK138 BK148 BK159 BK174 BK185 BK195 HB; rename_i HO_118004 HO_119004 HO_129004 HO_139004 HO_149004 HO_160004 HO_175004 HO182 HO192 HO202 BK117 BK118 BK128 BK138 BK148 BK159 BK174 BK185 BK195 HB; (try clear hb); (try clear ho0)) | ((with_reducible refine gate_dst (N := 22) rfl ?_); refine box_event ?hg (N := 22) ?hd (cs := #[.int .i64 0, .int .i64 0, .int .i64 0, .int .i64 0, .slice none 0 0, .bool false]) (t := 54) ?hr ?_; (case hd => rfl); (case hg => rfl); (case hr => first | (go_simp; done) | (go_simp; rfl)); intro gb205 hg w189 hbox hb; have _ := aM (Kd.Q_below (kZ HO_118004.out) hb); have _ := aM (Kd.Q_below (kZ HO_119004.out) hb); have _ := aM (Kd.Q_below (kZ HO_129004.out) hb); have _ := aM (Kd.Q_below (kZ HO_139004.out) hb); have _ := aM (Kd.Q_below (kZ HO_149004.out) hb); have _ := aM (Kd.Q_below (kZ HO_160004.out) hb); have _ := aM (Kd.Q_below (kZ HO_175004.out) hb); have _ := aM (Kd.R_below (rZ HO182.out) hb); have _ := aM (Kd.R_below (rZ HO192.out) hb); have _ := aM (Kd.R_below (rZ HO202.out) hb); have _ := bB gb117 hb; have _ := bB gb118 hb; have _ := bB gb128 hb; have _ := bB gb138 hb; have _ := bB gb148 hb; have _ := bB gb159 hb; have _ := bB gb174 hb; have _ := bB gb185 hb; have _ := bB gb195 hb; have _ := aM (below_step hbZ hb); have _ := aM hbox; have _ := szZ hg; have _ := szZ hg; have ⟨_, _⟩ := nbB gb117 hg; have ⟨_, _⟩ := nbB gb118 hg; have ⟨_, _⟩ := nbB gb128 hg; have ⟨_, _⟩ := nbB gb138 hg; have ⟨_, _⟩ := nbB gb148 hg; have ⟨_, _⟩ := nbB gb159 hg; have ⟨_, _⟩ := nbB gb174 hg; have ⟨_, _⟩ := nbB gb185 hg; have ⟨_, _⟩ := nbB gb195 hg; clear HO_118004 HO_119004 HO_129004 HO_139004 HO_149004 HO_160004 HO_175004 HO182 HO192 HO202 BK117 BK118 BK128 BK138 BK148 BK159 BK174 BK185 BK195 HB; rename_i HO_118004 HO_119004 HO_129004 HO_139004 HO_149004 HO_160004 HO_175004 HO182 HO192 HO202 BK117 BK118 BK128 BK138 BK148 BK159 BK174 BK185 BK195 HB BK205 GW205 GE205 NB117_205 NB205_117 NB118_205 NB205_118 NB128_205 NB205_128 NB138_205 NB205_138 NB148_205 NB205_148 NB159_205 NB205_159 NB174_205 NB205_174 NB185_205 NB205_185 NB195_205 NB205_195; clear hb hbox hg; have hnb190 := NB205_117.out; have hnc190 := NB117_205.out; have hnb191 := NB205_118.out; have hnc191 := NB118_205.out; have hnb192 := NB205_128.out; have hnc192 := NB128_205.out; have hnb193 := NB205_138.out; have hnc193 := NB138_205.out; have hnb194 := NB205_148.out; have hnc194 := NB148_205.out; have hnb195 := NB205_159.out; have hnc195 := NB159_205.out; have hnb196 := NB205_174.out; have hnc196 := NB174_205.out; have hnb197 := NB205_185.out; have hnc197 := NB185_205.out; have hnb198 := NB205_195.out; have hnc198 := NB195_205.out; obtain ⟨hcz199_0, hcz199_1, hcz199_2, hcz199_3, hcz199_4, hcz199_5, hfz199_0, hfz199_1, hfz199_2, hfz199_3, hfz199_4, hfz199_5⟩ := cellsZ6 BK205.out; obtain ⟨Ao200, co200, eo200⟩ := Kd.R_slice HO202.out; subst eo200; obtain ⟨hcz201_0, hcz201_1, hcz201_2, hcz201_3, hcz201_4, hcz201_5, hfz201_0, hfz201_1, hfz201_2, hfz201_3, hfz201_4, hfz201_5⟩ := cellsZ6 BK185.out) | (go_at_call 34; (with_reducible refine (impl_GoodAgg.calls kj91 t176 t177 t178 t179 _ _ t180 t183 true _ ?side1 ?side2 A139.out).mono ?_); (case side1 => refine (Kd.R_reads' (e := 3) (base := w.heap.size) (ok := fun k_ => (((((((((True ∧ some k_ ≠ (.slice Ao14 t105.length co14 : Value).ownBlock) ∧ some k_ ≠ (.slice Ao16 t113.length co16 : Value).ownBlock) ∧ some k_ ≠ (.slice Ao22 t123.length co22 : Value).ownBlock) ∧ some k_ ≠ (.slice Ao31 t133.length co31 : Value).ownBlock) ∧ some k_ ≠ (.slice Ao41 t143.length co41 : Value).ownBlock) ∧ some k_ ≠ (.slice Ao101 t155.length co101 : Value).ownBlock) ∧ some k_ ≠ (.slice Ao115 t169.length co115 : Value).ownBlock) ∧ some k_ ≠ (.slice Ao183 t190.length co183 : Value).ownBlock) ∧ some k_ ≠ (.slice Ao200 t200.length co200 : Value).ownBlock)) (n := t180.length) (c := co165) ?_).2.2; exact (rZ (rF6 HO182.out BK205.out))); (case side2 => exact (Kd.R_reads' HO182.out).2.1); rintro e w202 ⟨rfl, hb⟩; have _ := aM (Kd.Q_below (kZ (qF6 HO_118004.out BK205.out)) hb); have _ := aM (Kd.Q_below (kZ (qF6 HO_119004.out BK205.out)) hb); have _ := aM (Kd.Q_below (kZ (qF6 HO_129004.out BK205.out)) hb); have _ := aM (Kd.Q_below (kZ (qF6 HO_139004.out BK205.out)) hb); have _ := aM (Kd.Q_below (kZ (qF6 HO_149004.out BK205.out)) hb); have _ := aM (Kd.Q_below (kZ (qF6 HO_160004.out BK205.out)) hb); have _ := aM (Kd.Q_below (kZ (qF6 HO_175004.out BK205.out)) hb); have _ := aM (Kd.R_below (rZ (rF6 HO182.out BK205.out)) hb); have _ := aM (Kd.R_below (rZ (rF6 HO192.out BK205.out)) hb); have _ := aM (Kd.R_below (rZ (rF6 HO202.out BK205.out)) hb); have _ := bB gb117 hb; have _ := bB gb118 hb; have _ := bB gb128 hb; have _ := bB gb138 hb; have _ := bB gb148 hb; have _ := bB gb159 hb; have _ := bB gb174 hb; have _ := bB gb185 hb; have _ := bB gb195 hb; have _ := aM (blk_below (g := gb205) (o := .cells #[.int .i64 t196, .int .i64 t197, .int .i64 t198, .int .i64 t199, .slice Ao200 t200.length co200, .bool t203] 54 (0, 0)) bkZ hb); have _ := aM (below_step hbZ hb); clear HO_118004 HO_119004 HO_129004 HO_139004 HO_149004 HO_160004 HO_175004 HO182 HO192 HO202 BK117 BK118 BK128 BK138 BK148 BK159 BK174 BK185 BK195 BK205 HB; rename_i HO_118004 HO_119004 HO_129004 HO_139004 HO_149004 HO_160004 HO_175004 HO182 HO192 HO202 BK117 BK118 BK128 BK138 BK148 BK159 BK174 BK185 BK195 BK205 HB; (try clear hb); obtain ⟨hcz203_0, hcz203_1, hcz203_2, hcz203_3, hcz203_4, hcz203_5, hfz203_0, hfz203_1, hfz203_2, hfz203_3, hfz203_4, hfz203_5⟩ := cellsZ6 BK185.out; obtain ⟨hcz204_0, hcz204_1, hcz204_2, hcz204_3, hcz204_4, hcz204_5, hfz204_0, hfz204_1, hfz204_2, hfz204_3, hfz204_4, hfz204_5⟩ := cellsZ6 BK205.out) | ((with_reducible refine gate_callee (f := 29) rfl ?_); refine goesL_ (some 136) rfl rfl Try.func29 (by kernel_rfl) rfl #[.agg #[.int .i64 t176, .int .i64 t177, .int .i64 t178, .int .i64 t179, .slice Ao165 t180.length co165, .bool t183], .agg #[.int .i64 t196, .int .i64 t197, .int .i64 t198, .int .i64 t199, .slice Ao200 t200.length co200, .bool t203]] rfl zee81 ?_; (with_reducible refine (laws_sameAggs.calls kj91 t176 t177 t178 t179 _ _ t180 t183 t196 t197 t198 t199 _ _ t200 t203 t207 _ ?side1 ?side2 ?side3 ?side4 A141.out).mono ?_); (case side1 => exact (by repeat (first | exact (Kd.R_reads' HO182.out).2.2 | (with_reducible refine Kd.C_alloc ?_ _) | (with_reducible refine Kd.C_drewN ?_ _) | (with_reducible refine Kd.C_drew ?_)))); (case side2 => exact (Kd.R_reads' HO182.out).2.1); (case side3 => exact (by repeat (first | exact (Kd.R_reads' HO202.out).2.2 | (with_reducible refine Kd.C_alloc ?_ _) | (with_reducible refine Kd.C_drewN ?_ _) | (with_reducible refine Kd.C_drew ?_)))); (case side4 => exact (Kd.R_reads' HO202.out).2.1); rintro e w205 ⟨rfl, hb⟩; refine ⟨_, rfl, ?_⟩; have _ := aM (Kd.Q_below (kZ HO_118004.out) hb); have _ := aM (Kd.Q_below (kZ HO_119004.out) hb); have _ := aM (Kd.Q_below (kZ HO_129004.out) hb); have _ := aM (Kd.Q_below (kZ HO_139004.out) hb); have _ := aM (Kd.Q_below (kZ HO_149004.out) hb); have _ := aM (Kd.Q_below (kZ HO_160004.out) hb); have _ := aM (Kd.Q_below (kZ HO_175004.out) hb); have _ := aM (Kd.R_below (rZ HO182.out) hb); have _ := aM (Kd.R_below (rZ HO192.out) hb); have _ := aM (Kd.R_below (rZ HO202.out) hb); have _ := bB gb117 hb; have _ := bB gb118 hb; have _ := bB gb128 hb; have _ := bB gb138 hb; have _ := bB gb148 hb; have _ := bB gb159 hb; have _ := bB gb174 hb; have _ := bB gb185 hb; have _ := bB gb195 hb; have _ := bB gb205 hb; have _ := aM (below_step hbZ hb); clear HO_118004 HO_119004 HO_129004 HO_139004 HO_149004 HO_160004 HO_175004 HO182 HO192 HO202 BK117 BK118 BK128 BK138 BK148 BK159 BK174 BK185 BK195 BK205 HB; rename_i HO_118004 HO_119004 HO_129004 HO_139004 HO_149004 HO_160004 HO_175004 HO182 HO192 HO202 BK117 BK118 BK128 BK138 BK148 BK159 BK174 BK185 BK195 BK205 HB; (try clear hb)))
                         go_ret
                         exact ⟨z674d, zcb41⟩
                       · replace c140 := Bool.eq_false_iff.mpr c140
                         subst c140
                         have H1 : (some false) = some r := by rw [if_neg (show ¬ (false = true) by decide)] at H; exact H
                         clear H
                         have H := H1
                         clear H1
                         obtain rfl := Option.some.inj H
                         have hnb206 := NB128_117.out
                         have hnc206 := NB117_128.out
                         have hnb207 := NB128_118.out
                         have hnc207 := NB118_128.out
                         have hnb208 := NB128_138.out
                         have hnc208 := NB138_128.out
                         have hnb209 := NB128_148.out
                         have hnc209 := NB148_128.out
                         have hnb210 := NB128_159.out
                         have hnc210 := NB159_128.out
                         have hnb211 := NB128_174.out
                         have hnc211 := NB174_128.out
                         obtain ⟨hcz212_0, hcz212_1, hcz212_2, hcz212_3, hcz212_4, hcz212_5, hfz212_0, hfz212_1, hfz212_2, hfz212_3, hfz212_4, hfz212_5⟩ := cellsZ6 BK128.out
                         have hnb213 := NB159_117.out
                         have hnc213 := NB117_159.out
                         have hnb214 := NB159_118.out
                         have hnc214 := NB118_159.out
                         have hnb215 := NB159_138.out
                         have hnc215 := NB138_159.out
                         have hnb216 := NB159_148.out
                         have hnc216 := NB148_159.out
                         have hnb217 := NB159_174.out
                         have hnc217 := NB174_159.out
                         obtain ⟨hcz218_0, hcz218_1, hcz218_2, hcz218_3, hcz218_4, hcz218_5, hfz218_0, hfz218_1, hfz218_2, hfz218_3, hfz218_4, hfz218_5⟩ := cellsZ6 BK159.out
                         go_wp2_with (first | ((with_reducible refine gate_callee (f := 27) rfl ?_); refine goesL_ (some 104) rfl rfl Try.func27 (by kernel_rfl) rfl #[.agg #[.int .i64 t119, .int .i64 t120, .int .i64 t121, .int .i64 t122, .slice Ao22 t123.length co22, .bool t126], .agg #[.int .i64 t151, .int .i64 t152, .int .i64 t153, .int .i64 t154, .slice Ao101 t155.length co101, .bool t158]] rfl zee81 ?_; (with_reducible refine (impl_JoinAggs.calls kj91 t119 t120 t121 t122 _ _ t123 t126 t151 t152 t153 t154 _ _ t155 t158 t176 t177 t178 t179 t180 t183 true _ ?side1 ?side2 ?side3 ?side4 A133.out).mono ?_); (case side1 => exact (by repeat (first | exact (Kd.Q_reads' HO_129004.out).2.2 | (with_reducible refine Kd.C_alloc ?_ _) | (with_reducible refine Kd.C_drewN ?_ _) | (with_reducible refine Kd.C_drew ?_)))); (case side2 => exact (Kd.Q_reads' HO_129004.out).2.1); (case side3 => exact (by repeat (first | exact (Kd.Q_reads' HO_160004.out).2.2 | (with_reducible refine Kd.C_alloc ?_ _) | (with_reducible refine Kd.C_drewN ?_ _) | (with_reducible refine Kd.C_drew ?_)))); (case side4 => exact (Kd.Q_reads' HO_160004.out).2.1); rintro e w219 ⟨v181, rfl, ho0, hb⟩; refine ⟨_, rfl, ?_⟩; have _ := aM (Kd.Q_elder' (kZ HO_118004.out) (Kd.R_base ho0) hb); have _ := aM (Kd.Q_elder' (kZ HO_119004.out) (Kd.R_base ho0) hb); have _ := aM (Kd.Q_elder' (kZ HO_129004.out) (Kd.R_base ho0) hb); have _ := aM (Kd.Q_elder' (kZ HO_139004.out) (Kd.R_base ho0) hb); have _ := aM (Kd.Q_elder' (kZ HO_149004.out) (Kd.R_base ho0) hb); have _ := aM (Kd.Q_elder' (kZ HO_160004.out) (Kd.R_base ho0) hb); have _ := aM (Kd.Q_elder' (kZ HO_175004.out) (Kd.R_base ho0) hb); have _ := aM (Kd.R_lower (Kd.R_new' (Kd.R_new' (Kd.R_new' (Kd.R_new' (Kd.R_new' (Kd.R_new' (Kd.R_new' ho0 (Kd.Q_lt (kZ HO_118004.out))) (Kd.Q_lt (kZ HO_119004.out))) (Kd.Q_lt (kZ HO_129004.out))) (Kd.Q_lt (kZ HO_139004.out))) (Kd.Q_lt (kZ HO_149004.out))) (Kd.Q_lt (kZ HO_160004.out))) (Kd.Q_lt (kZ HO_175004.out))) (below_size hbZ)); have _ := bB gb117 hb; have _ := bB gb118 hb; have _ := bB gb128 hb; have _ := bB gb138 hb; have _ := bB gb148 hb; have _ := bB gb159 hb; have _ := bB gb174 hb; have _ := aM (below_step hbZ hb); clear HO_118004 HO_119004 HO_129004 HO_139004 HO_149004 HO_160004 HO_175004 BK117 BK118 BK128 BK138 BK148 BK159 BK174 HB; rename_i HO_118004 HO_119004 HO_129004 HO_139004 HO_149004 HO_160004 HO_175004 HO182 BK117 BK118 BK128 BK138 BK148 BK159 BK174 HB; (try clear hb); (try clear ho0)) | ((with_reducible refine gate_dst (N := 18) rfl ?_); refine box_event ?hg (N := 18) ?hd (cs := #[.int .i64 0, .int .i64 0, .int .i64 0, .int .i64 0, .slice none 0 0, .bool false]) (t := 54) ?hr ?_; (case hd => rfl); (case hg => rfl); (case hr => first | (go_simp; done) | (go_simp; rfl)); intro gb185 hg w220 hbox hb; have _ := aM (Kd.Q_below (kZ HO_118004.out) hb); have _ := aM (Kd.Q_below (kZ HO_119004.out) hb); have _ := aM (Kd.Q_below (kZ HO_129004.out) hb); have _ := aM (Kd.Q_below (kZ HO_139004.out) hb); have _ := aM (Kd.Q_below (kZ HO_149004.out) hb); have _ := aM (Kd.Q_below (kZ HO_160004.out) hb); have _ := aM (Kd.Q_below (kZ HO_175004.out) hb); have _ := aM (Kd.R_below (rZ HO182.out) hb); have _ := bB gb117 hb; have _ := bB gb118 hb; have _ := bB gb128 hb; have _ := bB gb138 hb; have _ := bB gb148 hb; have _ := bB gb159 hb; have _ := bB gb174 hb; have _ := aM (below_step hbZ hb); have _ := aM hbox; have _ := szZ hg; have _ := szZ hg; have ⟨_, _⟩ := nbB gb117 hg; have ⟨_, _⟩ := nbB gb118 hg; have ⟨_, _⟩ := nbB gb128 hg; have ⟨_, _⟩ := nbB gb138 hg; have ⟨_, _⟩ := nbB gb148 hg; have ⟨_, _⟩ := nbB gb159 hg; have ⟨_, _⟩ := nbB gb174 hg; clear HO_118004 HO_119004 HO_129004 HO_139004 HO_149004 HO_160004 HO_175004 HO182 BK117 BK118 BK128 BK138 BK148 BK159 BK174 HB; rename_i HO_118004 HO_119004 HO_129004 HO_139004 HO_149004 HO_160004 HO_175004 HO182 BK117 BK118 BK128 BK138 BK148 BK159 BK174 HB BK185 GW185 GE185 NB117_185 NB185_117 NB118_185 NB185_118 NB128_185 NB185_128 NB138_185 NB185_138 NB148_185 NB185_148 NB159_185 NB185_159 NB174_185 NB185_174; clear hb hbox hg; have hnb221 := NB185_117.out; have hnc221 := NB117_185.out; have hnb222 := NB185_118.out; have hnc222 := NB118_185.out; have hnb223 := NB185_128.out; have hnc223 := NB128_185.out; have hnb224 := NB185_138.out; have hnc224 := NB138_185.out; have hnb225 := NB185_148.out; have hnc225 := NB148_185.out; have hnb226 := NB185_159.out; have hnc226 := NB159_185.out; have hnb227 := NB185_174.out; have hnc227 := NB174_185.out; obtain ⟨hcz228_0, hcz228_1, hcz228_2, hcz228_3, hcz228_4, hcz228_5, hfz228_0, hfz228_1, hfz228_2, hfz228_3, hfz228_4, hfz228_5⟩ := cellsZ6 BK185.out; obtain ⟨Ao229, co229, eo229⟩ := Kd.R_slice HO182.out; subst eo229; have hnb230 := NB118_117.out; have hnc230 := NB117_118.out; have hnb231 := NB118_138.out; have hnc231 := NB138_118.out; have hnb232 := NB118_148.out; have hnc232 := NB148_118.out; have hnb233 := NB118_174.out; have hnc233 := NB174_118.out; obtain ⟨hcz234_0, hcz234_1, hcz234_2, hcz234_3, hcz234_4, hcz234_5, hfz234_0, hfz234_1, hfz234_2, hfz234_3, hfz234_4, hfz234_5⟩ := cellsZ6 BK118.out; obtain ⟨hcz235_0, hcz235_1, hcz235_2, hcz235_3, hcz235_4, hcz235_5, hfz235_0, hfz235_1, hfz235_2, hfz235_3, hfz235_4, hfz235_5⟩ := cellsZ6 BK159.out) | ((with_reducible refine gate_callee (f := 27) rfl ?_); refine goesL_ (some 110) rfl rfl Try.func27 (by kernel_rfl) rfl #[.agg #[.int .i64 t109, .int .i64 t110, .int .i64 t111, .int .i64 t112, .slice Ao16 t113.length co16, .bool t116], .agg #[.int .i64 t151, .int .i64 t152, .int .i64 t153, .int .i64 t154, .slice Ao101 t155.length co101, .bool t158]] rfl zee81 ?_; (with_reducible refine (impl_JoinAggs.calls kj91 t109 t110 t111 t112 _ _ t113 t116 t151 t152 t153 t154 _ _ t155 t158 t186 t187 t188 t189 t190 t193 true _ ?side1 ?side2 ?side3 ?side4 A134.out).mono ?_); (case side1 => refine (Kd.Q_reads' (e := 3) (base := w.heap.size) (ok := fun k_ => ((some k_ ≠ (.slice Ao14 t105.length co14 : Value).ownBlock ∧ (some k_ ≠ (.slice Ao22 t123.length co22 : Value).ownBlock ∧ (some k_ ≠ (.slice Ao31 t133.length co31 : Value).ownBlock ∧ (some k_ ≠ (.slice Ao41 t143.length co41 : Value).ownBlock ∧ (some k_ ≠ (.slice Ao101 t155.length co101 : Value).ownBlock ∧ some k_ ≠ (.slice Ao115 t169.length co115 : Value).ownBlock))))) ∧ some k_ ≠ (.slice Ao229 t180.length co229 : Value).ownBlock)) (n := t113.length) (c := co16) ?_).2.2; exact (kZ (qF6 HO_119004.out BK185.out))); (case side2 => exact (Kd.Q_reads' HO_119004.out).2.1); (case side3 => refine (Kd.Q_reads' (e := 3) (base := w.heap.size) (ok := fun k_ => ((some k_ ≠ (.slice Ao14 t105.length co14 : Value).ownBlock ∧ (some k_ ≠ (.slice Ao16 t113.length co16 : Value).ownBlock ∧ (some k_ ≠ (.slice Ao22 t123.length co22 : Value).ownBlock ∧ (some k_ ≠ (.slice Ao31 t133.length co31 : Value).ownBlock ∧ (some k_ ≠ (.slice Ao41 t143.length co41 : Value).ownBlock ∧ some k_ ≠ (.slice Ao115 t169.length co115 : Value).ownBlock))))) ∧ some k_ ≠ (.slice Ao229 t180.length co229 : Value).ownBlock)) (n := t155.length) (c := co101) ?_).2.2; exact (kZ (qF6 HO_160004.out BK185.out))); (case side4 => exact (Kd.Q_reads' HO_160004.out).2.1); rintro e w236 ⟨v191, rfl, ho0, hb⟩; refine ⟨_, rfl, ?_⟩; have _ := aM (Kd.Q_elder' (kZ (qF6 HO_118004.out BK185.out)) (Kd.R_base ho0) hb); have _ := aM (Kd.Q_elder' (kZ (qF6 HO_119004.out BK185.out)) (Kd.R_base ho0) hb); have _ := aM (Kd.Q_elder' (kZ (qF6 HO_129004.out BK185.out)) (Kd.R_base ho0) hb); have _ := aM (Kd.Q_elder' (kZ (qF6 HO_139004.out BK185.out)) (Kd.R_base ho0) hb); have _ := aM (Kd.Q_elder' (kZ (qF6 HO_149004.out BK185.out)) (Kd.R_base ho0) hb); have _ := aM (Kd.Q_elder' (kZ (qF6 HO_160004.out BK185.out)) (Kd.R_base ho0) hb); have _ := aM (Kd.Q_elder' (kZ (qF6 HO_175004.out BK185.out)) (Kd.R_base ho0) hb); have _ := aM (Kd.R_elder' (rZ (rF6 HO182.out BK185.out)) (Kd.R_base ho0) hb); have _ := aM (Kd.R_lower (Kd.R_new' (Kd.R_new' (Kd.R_new' (Kd.R_new' (Kd.R_new' (Kd.R_new' (Kd.R_new' (Kd.R_new' ho0 (Kd.Q_lt (kZ (qF6 HO_118004.out BK185.out)))) (Kd.Q_lt (kZ (qF6 HO_119004.out BK185.out)))) (Kd.Q_lt (kZ (qF6 HO_129004.out BK185.out)))) (Kd.Q_lt (kZ (qF6 HO_139004.out BK185.out)))) (Kd.Q_lt (kZ (qF6 HO_149004.out BK185.out)))) (Kd.Q_lt (kZ (qF6 HO_160004.out BK185.out)))) (Kd.Q_lt (kZ (qF6 HO_175004.out BK185.out)))) (Kd.R_lt (rZ (rF6 HO182.out BK185.out)))) (below_size hbZ)); have _ := bB gb117 hb; have _ := bB gb118 hb; have _ := bB gb128 hb; have _ := bB gb138 hb; have _ := bB gb148 hb; have _ := bB gb159 hb; have _ := bB gb174 hb; have _ := aM (blk_below (g := gb185) (o := .cells #[.int .i64 t176, .int .i64 t177, .int .i64 t178, .int .i64 t179, .slice Ao229 t180.length co229, .bool t183] 54 (0, 0)) bkZ hb); have _ := aM (below_step hbZ hb); clear HO_118004 HO_119004 HO_129004 HO_139004 HO_149004 HO_160004 HO_175004 HO182 BK117 BK118 BK128 BK138 BK148 BK159 BK174 BK185 HB; rename_i HO_118004 HO_119004 HO_129004 HO_139004 HO_149004 HO_160004 HO_175004 HO182 HO192 BK117 BK118 BK128 BK138 BK148 BK159 BK174 BK185 HB; (try clear hb); (try clear ho0)) | ((with_reducible refine gate_dst (N := 20) rfl ?_); refine box_event ?hg (N := 20) ?hd (cs := #[.int .i64 0, .int .i64 0, .int .i64 0, .int .i64 0, .slice none 0 0, .bool false]) (t := 54) ?hr ?_; (case hd => rfl); (case hg => rfl); (case hr => first | (go_simp; done) | (go_simp; rfl)); intro gb195 hg w237 hbox hb; have _ := aM (Kd.Q_below (kZ HO_118004.out) hb); have _ := aM (Kd.Q_below (kZ HO_119004.out) hb); have _ := aM (Kd.Q_below (kZ HO_129004.out) hb); have _ := aM (Kd.Q_below (kZ HO_139004.out) hb); have _ := aM (Kd.Q_below (kZ HO_149004.out) hb); have _ := aM (Kd.Q_below (kZ HO_160004.out) hb); have _ := aM (Kd.Q_below (kZ HO_175004.out) hb); have _ := aM (Kd.R_below (rZ HO182.out) hb); have _ := aM (Kd.R_below (rZ HO192.out) hb); have _ := bB gb117 hb; have _ := bB gb118 hb; have _ := bB gb128 hb; have _ := bB gb138 hb; have _ := bB gb148 hb; have _ := bB gb159 hb; have _ := bB gb174 hb; have _ := bB gb185 hb; have _ := aM (below_step hbZ hb); have _ := aM hbox; have _ := szZ hg; have _ := szZ hg; have ⟨_, _⟩ := nbB gb117 hg; have ⟨_, _⟩ := nbB gb118 hg; have ⟨_, _⟩ := nbB gb128 hg; have ⟨_, _⟩ := nbB gb138 hg; have ⟨_, _⟩ := nbB gb148 hg; have ⟨_, _⟩ := nbB gb159 hg; have ⟨_, _⟩ := nbB gb174 hg; have ⟨_, _⟩ := nbB gb185 hg; clear HO_118004 HO_119004 HO_129004 HO_139004 HO_149004 HO_160004 HO_175004 HO182 HO192 BK117 BK118 BK128 BK138 BK148 BK159 BK174 BK185 HB; rename_i HO_118004 HO_119004 HO_129004 HO_139004 HO_149004 HO_160004 HO_175004 HO182 HO192 BK117 BK118 BK128 BK138 BK148 BK159 BK174 BK185 HB BK195 GW195 GE195 NB117_195 NB195_117 NB118_195 NB195_118 NB128_195 NB195_128 NB138_195 NB195_138 NB148_195 NB195_148 NB159_195 NB195_159 NB174_195 NB195_174 NB185_195 NB195_185; clear hb hbox hg; have hnb238 := NB195_117.out; have hnc238 := NB117_195.out; have hnb239 := NB195_118.out; have hnc239 := NB118_195.out; have hnb240 := NB195_128.out; have hnc240 := NB128_195.out; have hnb241 := NB195_138.out; have hnc241 := NB138_195.out; have hnb242 := NB195_148.out; have hnc242 := NB148_195.out; have hnb243 := NB195_159.out; have hnc243 := NB159_195.out; have hnb244 := NB195_174.out; have hnc244 := NB174_195.out; have hnb245 := NB195_185.out; have hnc245 := NB185_195.out; obtain ⟨hcz246_0, hcz246_1, hcz246_2, hcz246_3, hcz246_4, hcz246_5, hfz246_0, hfz246_1, hfz246_2, hfz246_3, hfz246_4, hfz246_5⟩ := cellsZ6 BK195.out; obtain ⟨Ao247, co247, eo247⟩ := Kd.R_slice HO192.out; subst eo247; have hnb248 := NB117_138.out; have hnc248 := NB138_117.out; have hnb249 := NB117_148.out; have hnc249 := NB148_117.out; have hnb250 := NB117_174.out; have hnc250 := NB174_117.out; obtain ⟨hcz251_0, hcz251_1, hcz251_2, hcz251_3, hcz251_4, hcz251_5, hfz251_0, hfz251_1, hfz251_2, hfz251_3, hfz251_4, hfz251_5⟩ := cellsZ6 BK117.out) | ((with_reducible refine gate_callee (f := 27) rfl ?_); refine goesL_ (some 116) rfl rfl Try.func27 (by kernel_rfl) rfl #[.agg #[.int .i64 t101, .int .i64 t102, .int .i64 t103, .int .i64 t104, .slice Ao14 t105.length co14, .bool t108], .agg #[.int .i64 t186, .int .i64 t187, .int .i64 t188, .int .i64 t189, .slice Ao247 t190.length co247, .bool t193]] rfl zee81 ?_; (with_reducible refine (impl_JoinAggs.calls kj91 t101 t102 t103 t104 _ _ t105 t108 t186 t187 t188 t189 _ _ t190 t193 t196 t197 t198 t199 t200 t203 true _ ?side1 ?side2 ?side3 ?side4 A135.out).mono ?_); (case side1 => refine (Kd.Q_reads' (e := 3) (base := w.heap.size) (ok := fun k_ => (((some k_ ≠ (.slice Ao16 t113.length co16 : Value).ownBlock ∧ (some k_ ≠ (.slice Ao22 t123.length co22 : Value).ownBlock ∧ (some k_ ≠ (.slice Ao31 t133.length co31 : Value).ownBlock ∧ (some k_ ≠ (.slice Ao41 t143.length co41 : Value).ownBlock ∧ (some k_ ≠ (.slice Ao101 t155.length co101 : Value).ownBlock ∧ some k_ ≠ (.slice Ao115 t169.length co115 : Value).ownBlock))))) ∧ some k_ ≠ (.slice Ao229 t180.length co229 : Value).ownBlock) ∧ some k_ ≠ (.slice Ao247 t190.length co247 : Value).ownBlock)) (n := t105.length) (c := co14) ?_).2.2; exact (kZ (qF6 HO_118004.out BK195.out))); (case side2 => exact (Kd.Q_reads' HO_118004.out).2.1); (case side3 => refine (Kd.R_reads' (e := 3) (base := w.heap.size) (ok := fun k_ => ((((((((True ∧ some k_ ≠ (.slice Ao14 t105.length co14 : Value).ownBlock) ∧ some k_ ≠ (.slice Ao16 t113.length co16 : Value).ownBlock) ∧ some k_ ≠ (.slice Ao22 t123.length co22 : Value).ownBlock) ∧ some k_ ≠ (.slice Ao31 t133.length co31 : Value).ownBlock) ∧ some k_ ≠ (.slice Ao41 t143.length co41 : Value).ownBlock) ∧ some k_ ≠ (.slice Ao101 t155.length co101 : Value).ownBlock) ∧ some k_ ≠ (.slice Ao115 t169.length co115 : Value).ownBlock) ∧ some k_ ≠ (.slice Ao229 t180.length co229 : Value).ownBlock)) (n := t190.length) (c := co247) ?_).2.2; exact (rZ (rF6 HO192.out BK195.out))); (case side4 => exact (Kd.R_reads' HO192.out).2.1); rintro e w252 ⟨v201, rfl, ho0, hb⟩; refine ⟨_, rfl, ?_⟩; have _ := aM (Kd.Q_elder' (kZ (qF6 HO_118004.out BK195.out)) (Kd.R_base ho0) hb); have _ := aM (Kd.Q_elder' (kZ (qF6 HO_119004.out BK195.out)) (Kd.R_base ho0) hb); have _ := aM (Kd.Q_elder' (kZ (qF6 HO_129004.out BK195.out)) (Kd.R_base ho0) hb); have _ := aM (Kd.Q_elder' (kZ (qF6 HO_139004.out BK195.out)) (Kd.R_base ho0) hb); have _ := aM (Kd.Q_elder' (kZ (qF6 HO_149004.out BK195.out)) (Kd.R_base ho0) hb); have _ := aM (Kd.Q_elder' (kZ (qF6 HO_160004.out BK195.out)) (Kd.R_base ho0) hb); have _ := aM (Kd.Q_elder' (kZ (qF6 HO_175004.out BK195.out)) (Kd.R_base ho0) hb); have _ := aM (Kd.R_elder' (rZ (rF6 HO182.out BK195.out)) (Kd.R_base ho0) hb); have _ := aM (Kd.R_elder' (rZ (rF6 HO192.out BK195.out)) (Kd.R_base ho0) hb); have _ := aM (Kd.R_lower (Kd.R_new' (Kd.R_new' (Kd.R_new' (Kd.R_new' (Kd.R_new' (Kd.R_new' (Kd.R_new' (Kd.R_new' (Kd.R_new' ho0 (Kd.Q_lt (kZ (qF6 HO_118004.out BK195.out)))) (Kd.Q_lt (kZ (qF6 HO_119004.out BK195.out)))) (Kd.Q_lt (kZ (qF6 HO_129004.out BK195.out)))) (Kd.Q_lt (kZ (qF6 HO_139004.out BK195.out)))) (Kd.Q_lt (kZ (qF6 HO_149004.out BK195.out)))) (Kd.Q_lt (kZ (qF6 HO_160004.out BK195.out)))) (Kd.Q_lt (kZ (qF6 HO_175004.out BK195.out)))) (Kd.R_lt (rZ (rF6 HO182.out BK195.out)))) (Kd.R_lt (rZ (rF6 HO192.out BK195.out)))) (below_size hbZ)); have _ := bB gb117 hb; have _ := bB gb118 hb; have _ := bB gb128 hb; have _ := bB gb138 hb; have _ := bB gb148 hb; have _ := bB gb159 hb; have _ := bB gb174 hb; have _ := bB gb185 hb; have _ := aM (blk_below (g := gb195) (o := .cells #[.int .i64 t186, .int .i64 t187, .int .i64 t188, .int .i64 t189, .slice Ao247 t190.length co247, .bool t193] 54 (0, 0)) bkZ hb); have _ := aM (below_step hbZ hb); clear HO_118004 HO_119004 HO_129004 HO_139004 HO_149004 HO_160004 HO_175004 HO182 HO192 BK117 BK118 BK128 BK138 BK148 BK159 BK174 BK185 BK195 HB; rename_i HO_118004 HO_119004 HO_129004 HO_139004 HO_149004 HO_160004 HO_175004 HO182 HO192 HO202 BK117 BK118 BK128 BK138 BK148 BK159 BK174 BK185 BK195 HB; (try clear hb); (try clear ho0)) | ((with_reducible refine gate_dst (N := 22) rfl ?_); refine box_event ?hg (N := 22) ?hd (cs := #[.int .i64 0, .int .i64 0, .int .i64 0, .int .i64 0, .slice none 0 0, .bool false]) (t := 54) ?hr ?_; (case hd => rfl); (case hg => rfl); (case hr => first | (go_simp; done) | (go_simp; rfl)); intro gb205 hg w253 hbox hb; have _ := aM (Kd.Q_below (kZ HO_118004.out) hb); have _ := aM (Kd.Q_below (kZ HO_119004.out) hb); have _ := aM (Kd.Q_below (kZ HO_129004.out) hb); have _ := aM (Kd.Q_below (kZ HO_139004.out) hb); have _ := aM (Kd.Q_below (kZ HO_149004.out) hb); have _ := aM (Kd.Q_below (kZ HO_160004.out) hb); have _ := aM (Kd.Q_below (kZ HO_175004.out) hb); have _ := aM (Kd.R_below (rZ HO182.out) hb); have _ := aM (Kd.R_below (rZ HO192.out) hb); have _ := aM (Kd.R_below (rZ HO202.out) hb); have _ := bB gb117 hb; have _ := bB gb118 hb; have _ := bB gb128 hb; have _ := bB gb138 hb; have _ := bB gb148 hb; have _ := bB gb159 hb; have _ := bB gb174 hb; have _ := bB gb185 hb; have _ := bB gb195 hb; have _ := aM (below_step hbZ hb); have _ := aM hbox; have _ := szZ hg; have _ := szZ hg; have ⟨_, _⟩ := nbB gb117 hg; have ⟨_, _⟩ := nbB gb118 hg; have ⟨_, _⟩ := nbB gb128 hg; have ⟨_, _⟩ := nbB gb138 hg; have ⟨_, _⟩ := nbB gb148 hg; have ⟨_, _⟩ := nbB gb159 hg; have ⟨_, _⟩ := nbB gb174 hg; have ⟨_, _⟩ := nbB gb185 hg; have ⟨_, _⟩ := nbB gb195 hg; clear HO_118004 HO_119004 HO_129004 HO_139004 HO_149004 HO_160004 HO_175004 HO182 HO192 HO202 BK117 BK118 BK128 BK138 BK148 BK159 BK174 BK185 BK195 HB; rename_i HO_118004 HO_119004 HO_129004 HO_139004 HO_149004 HO_160004 HO_175004 HO182 HO192 HO202 BK117 BK118 BK128 BK138 BK148 BK159 BK174 BK185 BK195 HB BK205 GW205 GE205 NB117_205 NB205_117 NB118_205 NB205_118 NB128_205 NB205_128 NB138_205 NB205_138 NB148_205 NB205_148 NB159_205 NB205_159 NB174_205 NB205_174 NB185_205 NB205_185 NB195_205 NB205_195; clear hb hbox hg; have hnb254 := NB205_117.out; have hnc254 := NB117_205.out; have hnb255 := NB205_118.out; have hnc255 := NB118_205.out; have hnb256 := NB205_128.out; have hnc256 := NB128_205.out; have hnb257 := NB205_138.out; have hnc257 := NB138_205.out; have hnb258 := NB205_148.out; have hnc258 := NB148_205.out; have hnb259 := NB205_159.out; have hnc259 := NB159_205.out; have hnb260 := NB205_174.out; have hnc260 := NB174_205.out; have hnb261 := NB205_185.out; have hnc261 := NB185_205.out; have hnb262 := NB205_195.out; have hnc262 := NB195_205.out; obtain ⟨hcz263_0, hcz263_1, hcz263_2, hcz263_3, hcz263_4, hcz263_5, hfz263_0, hfz263_1, hfz263_2, hfz263_3, hfz263_4, hfz263_5⟩ := cellsZ6 BK205.out; obtain ⟨Ao264, co264, eo264⟩ := Kd.R_slice HO202.out; subst eo264; obtain ⟨hcz265_0, hcz265_1, hcz265_2, hcz265_3, hcz265_4, hcz265_5, hfz265_0, hfz265_1, hfz265_2, hfz265_3, hfz265_4, hfz265_5⟩ := cellsZ6 BK185.out) | (go_at_call 34; (with_reducible refine (impl_GoodAgg.calls kj91 t176 t177 t178 t179 _ _ t180 t183 false _ ?side1 ?side2 A139.out).mono ?_); (case side1 => refine (Kd.R_reads' (e := 3) (base := w.heap.size) (ok := fun k_ => (((((((((True ∧ some k_ ≠ (.slice Ao14 t105.length co14 : Value).ownBlock) ∧ some k_ ≠ (.slice Ao16 t113.length co16 : Value).ownBlock) ∧ some k_ ≠ (.slice Ao22 t123.length co22 : Value).ownBlock) ∧ some k_ ≠ (.slice Ao31 t133.length co31 : Value).ownBlock) ∧ some k_ ≠ (.slice Ao41 t143.length co41 : Value).ownBlock) ∧ some k_ ≠ (.slice Ao101 t155.length co101 : Value).ownBlock) ∧ some k_ ≠ (.slice Ao115 t169.length co115 : Value).ownBlock) ∧ some k_ ≠ (.slice Ao247 t190.length co247 : Value).ownBlock) ∧ some k_ ≠ (.slice Ao264 t200.length co264 : Value).ownBlock)) (n := t180.length) (c := co229) ?_).2.2; exact (rZ (rF6 HO182.out BK205.out))); (case side2 => exact (Kd.R_reads' HO182.out).2.1); rintro e w266 ⟨rfl, hb⟩; have _ := aM (Kd.Q_below (kZ (qF6 HO_118004.out BK205.out)) hb); have _ := aM (Kd.Q_below (kZ (qF6 HO_119004.out BK205.out)) hb); have _ := aM (Kd.Q_below (kZ (qF6 HO_129004.out BK205.out)) hb); have _ := aM (Kd.Q_below (kZ (qF6 HO_139004.out BK205.out)) hb); have _ := aM (Kd.Q_below (kZ (qF6 HO_149004.out BK205.out)) hb); have _ := aM (Kd.Q_below (kZ (qF6 HO_160004.out BK205.out)) hb); have _ := aM (Kd.Q_below (kZ (qF6 HO_175004.out BK205.out)) hb); have _ := aM (Kd.R_below (rZ (rF6 HO182.out BK205.out)) hb); have _ := aM (Kd.R_below (rZ (rF6 HO192.out BK205.out)) hb); have _ := aM (Kd.R_below (rZ (rF6 HO202.out BK205.out)) hb); have _ := bB gb117 hb; have _ := bB gb118 hb; have _ := bB gb128 hb; have _ := bB gb138 hb; have _ := bB gb148 hb; have _ := bB gb159 hb; have _ := bB gb174 hb; have _ := bB gb185 hb; have _ := bB gb195 hb; have _ := aM (blk_below (g := gb205) (o := .cells #[.int .i64 t196, .int .i64 t197, .int .i64 t198, .int .i64 t199, .slice Ao264 t200.length co264, .bool t203] 54 (0, 0)) bkZ hb); have _ := aM (below_step hbZ hb); clear HO_118004 HO_119004 HO_129004 HO_139004 HO_149004 HO_160004 HO_175004 HO182 HO192 HO202 BK117 BK118 BK128 BK138 BK148 BK159 BK174 BK185 BK195 BK205 HB; rename_i HO_118004 HO_119004 HO_129004 HO_139004 HO_149004 HO_160004 HO_175004 HO182 HO192 HO202 BK117 BK118 BK128 BK138 BK148 BK159 BK174 BK185 BK195 BK205 HB; (try clear hb)))
                         go_ret
                         exact ⟨z674d, zcb41⟩
                     · replace c138 := Bool.eq_false_iff.mpr c138
                       subst c138
                       have H1 : (some false) = some r := by rw [if_neg (show ¬ (false = true) by decide)] at H; exact H
                       clear H
                       have H := H1
                       clear H1
                       obtain rfl := Option.some.inj H
                       have hnb267 := NB128_117.out
                       have hnc267 := NB117_128.out
                       have hnb268 := NB128_118.out
                       have hnc268 := NB118_128.out
                       have hnb269 := NB128_138.out
                       have hnc269 := NB138_128.out
                       have hnb270 := NB128_148.out
                       have hnc270 := NB148_128.out
                       have hnb271 := NB128_159.out
                       have hnc271 := NB159_128.out
                       have hnb272 := NB128_174.out
                       have hnc272 := NB174_128.out
                       obtain ⟨hcz273_0, hcz273_1, hcz273_2, hcz273_3, hcz273_4, hcz273_5, hfz273_0, hfz273_1, hfz273_2, hfz273_3, hfz273_4, hfz273_5⟩ := cellsZ6 BK128.out
                       have hnb274 := NB159_117.out
                       have hnc274 := NB117_159.out
                       have hnb275 := NB159_118.out
                       have hnc275 := NB118_159.out
                       have hnb276 := NB159_138.out
                       have hnc276 := NB138_159.out
                       have hnb277 := NB159_148.out
                       have hnc277 := NB148_159.out
                       have hnb278 := NB159_174.out
                       have hnc278 := NB174_159.out
                       obtain ⟨hcz279_0, hcz279_1, hcz279_2, hcz279_3, hcz279_4, hcz279_5, hfz279_0, hfz279_1, hfz279_2, hfz279_3, hfz279_4, hfz279_5⟩ := cellsZ6 BK159.out
                       go_wp2_with (first | ((with_reducible refine gate_callee (f := 27) rfl ?_); refine goesL_ (some 104) rfl rfl Try.func27 (by kernel_rfl) rfl #[.agg #[.int .i64 t119, .int .i64 t120, .int .i64 t121, .int .i64 t122, .slice Ao22 t123.length co22, .bool t126], .agg #[.int .i64 t151, .int .i64 t152, .int .i64 t153, .int .i64 t154, .slice Ao101 t155.length co101, .bool t158]] rfl zee81 ?_; (with_reducible refine (impl_JoinAggs.calls kj91 t119 t120 t121 t122 _ _ t123 t126 t151 t152 t153 t154 _ _ t155 t158 t176 t177 t178 t179 t180 t183 true _ ?side1 ?side2 ?side3 ?side4 A133.out).mono ?_); (case side1 => exact (by repeat (first | exact (Kd.Q_reads' HO_129004.out).2.2 | (with_reducible refine Kd.C_alloc ?_ _) | (with_reducible refine Kd.C_drewN ?_ _) | (with_reducible refine Kd.C_drew ?_)))); (case side2 => exact (Kd.Q_reads' HO_129004.out).2.1); (case side3 => exact (by repeat (first | exact (Kd.Q_reads' HO_160004.out).2.2 | (with_reducible refine Kd.C_alloc ?_ _) | (with_reducible refine Kd.C_drewN ?_ _) | (with_reducible refine Kd.C_drew ?_)))); (case side4 => exact (Kd.Q_reads' HO_160004.out).2.1); rintro e w280 ⟨v181, rfl, ho0, hb⟩; refine ⟨_, rfl, ?_⟩; have _ := aM (Kd.Q_elder' (kZ HO_118004.out) (Kd.R_base ho0) hb); have _ := aM (Kd.Q_elder' (kZ HO_119004.out) (Kd.R_base ho0) hb); have _ := aM (Kd.Q_elder' (kZ HO_129004.out) (Kd.R_base ho0) hb); have _ := aM (Kd.Q_elder' (kZ HO_139004.out) (Kd.R_base ho0) hb); have _ := aM (Kd.Q_elder' (kZ HO_149004.out) (Kd.R_base ho0) hb); have _ := aM (Kd.Q_elder' (kZ HO_160004.out) (Kd.R_base ho0) hb); have _ := aM (Kd.Q_elder' (kZ HO_175004.out) (Kd.R_base ho0) hb); have _ := aM (Kd.R_lower (Kd.R_new' (Kd.R_new' (Kd.R_new' (Kd.R_new' (Kd.R_new' (Kd.R_new' (Kd.R_new' ho0 (Kd.Q_lt (kZ HO_118004.out))) (Kd.Q_lt (kZ HO_119004.out))) (Kd.Q_lt (kZ HO_129004.out))) (Kd.Q_lt (kZ HO_139004.out))) (Kd.Q_lt (kZ HO_149004.out))) (Kd.Q_lt (kZ HO_160004.out))) (Kd.Q_lt (kZ HO_175004.out))) (below_size hbZ)); have _ := bB gb117 hb; have _ := bB gb118 hb; have _ := bB gb128 hb; have _ := bB gb138 hb; have _ := bB gb148 hb; have _ := bB gb159 hb; have _ := bB gb174 hb; have _ := aM (below_step hbZ hb); clear HO_118004 HO_119004 HO_129004 HO_139004 HO_149004 HO_160004 HO_175004 BK117 BK118 BK128 BK138 BK148 BK159 BK174 HB; rename_i HO_118004 HO_119004 HO_129004 HO_139004 HO_149004 HO_160004 HO_175004 HO182 BK117 BK118 BK128 BK138 BK148 BK159 BK174 HB; (try clear hb); (try clear ho0)) | ((with_reducible refine gate_dst (N := 18) rfl ?_); refine box_event ?hg (N := 18) ?hd (cs := #[.int .i64 0, .int .i64 0, .int .i64 0, .int .i64 0, .slice none 0 0, .bool false]) (t := 54) ?hr ?_; (case hd => rfl); (case hg => rfl); (case hr => first | (go_simp; done) | (go_simp; rfl)); intro gb185 hg w281 hbox hb; have _ := aM (Kd.Q_below (kZ HO_118004.out) hb); have _ := aM (Kd.Q_below (kZ HO_119004.out) hb); have _ := aM (Kd.Q_below (kZ HO_129004.out) hb); have _ := aM (Kd.Q_below (kZ HO_139004.out) hb); have _ := aM (Kd.Q_below (kZ HO_149004.out) hb); have _ := aM (Kd.Q_below (kZ HO_160004.out) hb); have _ := aM (Kd.Q_below (kZ HO_175004.out) hb); have _ := aM (Kd.R_below (rZ HO182.out) hb); have _ := bB gb117 hb; have _ := bB gb118 hb; have _ := bB gb128 hb; have _ := bB gb138 hb; have _ := bB gb148 hb; have _ := bB gb159 hb; have _ := bB gb174 hb; have _ := aM (below_step hbZ hb); have _ := aM hbox; have _ := szZ hg; have _ := szZ hg; have ⟨_, _⟩ := nbB gb117 hg; have ⟨_, _⟩ := nbB gb118 hg; have ⟨_, _⟩ := nbB gb128 hg; have ⟨_, _⟩ := nbB gb138 hg; have ⟨_, _⟩ := nbB gb148 hg; have ⟨_, _⟩ := nbB gb159 hg; have ⟨_, _⟩ := nbB gb174 hg; clear HO_118004 HO_119004 HO_129004 HO_139004 HO_149004 HO_160004 HO_175004 HO182 BK117 BK118 BK128 BK138 BK148 BK159 BK174 HB; rename_i HO_118004 HO_119004 HO_129004 HO_139004 HO_149004 HO_160004 HO_175004 HO182 BK117 BK118 BK128 BK138 BK148 BK159 BK174 HB BK185 GW185 GE185 NB117_185 NB185_117 NB118_185 NB185_118 NB128_185 NB185_128 NB138_185 NB185_138 NB148_185 NB185_148 NB159_185 NB185_159 NB174_185 NB185_174; clear hb hbox hg; have hnb282 := NB185_117.out; have hnc282 := NB117_185.out; have hnb283 := NB185_118.out; have hnc283 := NB118_185.out; have hnb284 := NB185_128.out; have hnc284 := NB128_185.out; have hnb285 := NB185_138.out; have hnc285 := NB138_185.out; have hnb286 := NB185_148.out; have hnc286 := NB148_185.out; have hnb287 := NB185_159.out; have hnc287 := NB159_185.out; have hnb288 := NB185_174.out; have hnc288 := NB174_185.out; obtain ⟨hcz289_0, hcz289_1, hcz289_2, hcz289_3, hcz289_4, hcz289_5, hfz289_0, hfz289_1, hfz289_2, hfz289_3, hfz289_4, hfz289_5⟩ := cellsZ6 BK185.out; obtain ⟨Ao290, co290, eo290⟩ := Kd.R_slice HO182.out; subst eo290; have hnb291 := NB118_117.out; have hnc291 := NB117_118.out; have hnb292 := NB118_138.out; have hnc292 := NB138_118.out; have hnb293 := NB118_148.out; have hnc293 := NB148_118.out; have hnb294 := NB118_174.out; have hnc294 := NB174_118.out; obtain ⟨hcz295_0, hcz295_1, hcz295_2, hcz295_3, hcz295_4, hcz295_5, hfz295_0, hfz295_1, hfz295_2, hfz295_3, hfz295_4, hfz295_5⟩ := cellsZ6 BK118.out; obtain ⟨hcz296_0, hcz296_1, hcz296_2, hcz296_3, hcz296_4, hcz296_5, hfz296_0, hfz296_1, hfz296_2, hfz296_3, hfz296_4, hfz296_5⟩ := cellsZ6 BK159.out) | ((with_reducible refine gate_callee (f := 27) rfl ?_); refine goesL_ (some 110) rfl rfl Try.func27 (by kernel_rfl) rfl #[.agg #[.int .i64 t109, .int .i64 t110, .int .i64 t111, .int .i64 t112, .slice Ao16 t113.length co16, .bool t116], .agg #[.int .i64 t151, .int .i64 t152, .int .i64 t153, .int .i64 t154, .slice Ao101 t155.length co101, .bool t158]] rfl zee81 ?_; (with_reducible refine (impl_JoinAggs.calls kj91 t109 t110 t111 t112 _ _ t113 t116 t151 t152 t153 t154 _ _ t155 t158 t186 t187 t188 t189 t190 t193 true _ ?side1 ?side2 ?side3 ?side4 A134.out).mono ?_); (case side1 => refine (Kd.Q_reads' (e := 3) (base := w.heap.size) (ok := fun k_ => ((some k_ ≠ (.slice Ao14 t105.length co14 : Value).ownBlock ∧ (some k_ ≠ (.slice Ao22 t123.length co22 : Value).ownBlock ∧ (some k_ ≠ (.slice Ao31 t133.length co31 : Value).ownBlock ∧ (some k_ ≠ (.slice Ao41 t143.length co41 : Value).ownBlock ∧ (some k_ ≠ (.slice Ao101 t155.length co101 : Value).ownBlock ∧ some k_ ≠ (.slice Ao115 t169.length co115 : Value).ownBlock))))) ∧ some k_ ≠ (.slice Ao290 t180.length co290 : Value).ownBlock)) (n := t113.length) (c := co16) ?_).2.2; exact (kZ (qF6 HO_119004.out BK185.out))); (case side2 => exact (Kd.Q_reads' HO_119004.out).2.1); (case side3 => refine (Kd.Q_reads' (e := 3) (base := w.heap.size) (ok := fun k_ => ((some k_ ≠ (.slice Ao14 t105.length co14 : Value).ownBlock ∧ (some k_ ≠ (.slice Ao16 t113.length co16 : Value).ownBlock ∧ (some k_ ≠ (.slice Ao22 t123.length co22 : Value).ownBlock ∧ (some k_ ≠ (.slice Ao31 t133.length co31 : Value).ownBlock ∧ (some k_ ≠ (.slice Ao41 t143.length co41 : Value).ownBlock ∧ some k_ ≠ (.slice Ao115 t169.length co115 : Value).ownBlock))))) ∧ some k_ ≠ (.slice Ao290 t180.length co290 : Value).ownBlock)) (n := t155.length) (c := co101) ?_).2.2; exact (kZ (qF6 HO_160004.out BK185.out))); (case side4 => exact (Kd.Q_reads' HO_160004.out).2.1); rintro e w297 ⟨v191, rfl, ho0, hb⟩; refine ⟨_, rfl, ?_⟩; have _ := aM (Kd.Q_elder' (kZ (qF6 HO_118004.out BK185.out)) (Kd.R_base ho0) hb); have _ := aM (Kd.Q_elder' (kZ (qF6 HO_119004.out BK185.out)) (Kd.R_base ho0) hb); have _ := aM (Kd.Q_elder' (kZ (qF6 HO_129004.out BK185.out)) (Kd.R_base ho0) hb); have _ := aM (Kd.Q_elder' (kZ (qF6 HO_139004.out BK185.out)) (Kd.R_base ho0) hb); have _ := aM (Kd.Q_elder' (kZ (qF6 HO_149004.out BK185.out)) (Kd.R_base ho0) hb); have _ := aM (Kd.Q_elder' (kZ (qF6 HO_160004.out BK185.out)) (Kd.R_base ho0) hb); have _ := aM (Kd.Q_elder' (kZ (qF6 HO_175004.out BK185.out)) (Kd.R_base ho0) hb); have _ := aM (Kd.R_elder' (rZ (rF6 HO182.out BK185.out)) (Kd.R_base ho0) hb); have _ := aM (Kd.R_lower (Kd.R_new' (Kd.R_new' (Kd.R_new' (Kd.R_new' (Kd.R_new' (Kd.R_new' (Kd.R_new' (Kd.R_new' ho0 (Kd.Q_lt (kZ (qF6 HO_118004.out BK185.out)))) (Kd.Q_lt (kZ (qF6 HO_119004.out BK185.out)))) (Kd.Q_lt (kZ (qF6 HO_129004.out BK185.out)))) (Kd.Q_lt (kZ (qF6 HO_139004.out BK185.out)))) (Kd.Q_lt (kZ (qF6 HO_149004.out BK185.out)))) (Kd.Q_lt (kZ (qF6 HO_160004.out BK185.out)))) (Kd.Q_lt (kZ (qF6 HO_175004.out BK185.out)))) (Kd.R_lt (rZ (rF6 HO182.out BK185.out)))) (below_size hbZ)); have _ := bB gb117 hb; have _ := bB gb118 hb; have _ := bB gb128 hb; have _ := bB gb138 hb; have _ := bB gb148 hb; have _ := bB gb159 hb; have _ := bB gb174 hb; have _ := aM (blk_below (g := gb185) (o := .cells #[.int .i64 t176, .int .i64 t177, .int .i64 t178, .int .i64 t179, .slice Ao290 t180.length co290, .bool t183] 54 (0, 0)) bkZ hb); have _ := aM (below_step hbZ hb); clear HO_118004 HO_119004 HO_129004 HO_139004 HO_149004 HO_160004 HO_175004 HO182 BK117 BK118 BK128 BK138 BK148 BK159 BK174 BK185 HB; rename_i HO_118004 HO_119004 HO_129004 HO_139004 HO_149004 HO_160004 HO_175004 HO182 HO192 BK117 BK118 BK128 BK138 BK148 BK159 BK174 BK185 HB; (try clear hb); (try clear ho0)) | ((with_reducible refine gate_dst (N := 20) rfl ?_); refine box_event ?hg (N := 20) ?hd (cs := #[.int .i64 0, .int .i64 0, .int .i64 0, .int .i64 0, .slice none 0 0, .bool false]) (t := 54) ?hr ?_; (case hd => rfl); (case hg => rfl); (case hr => first | (go_simp; done) | (go_simp; rfl)); intro gb195 hg w298 hbox hb; have _ := aM (Kd.Q_below (kZ HO_118004.out) hb); have _ := aM (Kd.Q_below (kZ HO_119004.out) hb); have _ := aM (Kd.Q_below (kZ HO_129004.out) hb); have _ := aM (Kd.Q_below (kZ HO_139004.out) hb); have _ := aM (Kd.Q_below (kZ HO_149004.out) hb); have _ := aM (Kd.Q_below (kZ HO_160004.out) hb); have _ := aM (Kd.Q_below (kZ HO_175004.out) hb); have _ := aM (Kd.R_below (rZ HO182.out) hb); have _ := aM (Kd.R_below (rZ HO192.out) hb); have _ := bB gb117 hb; have _ := bB gb118 hb; have _ := bB gb128 hb; have _ := bB gb138 hb; have _ := bB gb148 hb; have _ := bB gb159 hb; have _ := bB gb174 hb; have _ := bB gb185 hb; have _ := aM (below_step hbZ hb); have _ := aM hbox; have _ := szZ hg; have _ := szZ hg; have ⟨_, _⟩ := nbB gb117 hg; have ⟨_, _⟩ := nbB gb118 hg; have ⟨_, _⟩ := nbB gb128 hg; have ⟨_, _⟩ := nbB gb138 hg; have ⟨_, _⟩ := nbB gb148 hg; have ⟨_, _⟩ := nbB gb159 hg; have ⟨_, _⟩ := nbB gb174 hg; have ⟨_, _⟩ := nbB gb185 hg; clear HO_118004 HO_119004 HO_129004 HO_139004 HO_149004 HO_160004 HO_175004 HO182 HO192 BK117 BK118 BK128 BK138 BK148 BK159 BK174 BK185 HB; rename_i HO_118004 HO_119004 HO_129004 HO_139004 HO_149004 HO_160004 HO_175004 HO182 HO192 BK117 BK118 BK128 BK138 BK148 BK159 BK174 BK185 HB BK195 GW195 GE195 NB117_195 NB195_117 NB118_195 NB195_118 NB128_195 NB195_128 NB138_195 NB195_138 NB148_195 NB195_148 NB159_195 NB195_159 NB174_195 NB195_174 NB185_195 NB195_185; clear hb hbox hg; have hnb299 := NB195_117.out; have hnc299 := NB117_195.out; have hnb300 := NB195_118.out; have hnc300 := NB118_195.out; have hnb301 := NB195_128.out; have hnc301 := NB128_195.out; have hnb302 := NB195_138.out; have hnc302 := NB138_195.out; have hnb303 := NB195_148.out; have hnc303 := NB148_195.out; have hnb304 := NB195_159.out; have hnc304 := NB159_195.out; have hnb305 := NB195_174.out; have hnc305 := NB174_195.out; have hnb306 := NB195_185.out; have hnc306 := NB185_195.out; obtain ⟨hcz307_0, hcz307_1, hcz307_2, hcz307_3, hcz307_4, hcz307_5, hfz307_0, hfz307_1, hfz307_2, hfz307_3, hfz307_4, hfz307_5⟩ := cellsZ6 BK195.out; obtain ⟨Ao308, co308, eo308⟩ := Kd.R_slice HO192.out; subst eo308; have hnb309 := NB117_138.out; have hnc309 := NB138_117.out; have hnb310 := NB117_148.out; have hnc310 := NB148_117.out; have hnb311 := NB117_174.out; have hnc311 := NB174_117.out; obtain ⟨hcz312_0, hcz312_1, hcz312_2, hcz312_3, hcz312_4, hcz312_5, hfz312_0, hfz312_1, hfz312_2, hfz312_3, hfz312_4, hfz312_5⟩ := cellsZ6 BK117.out) | ((with_reducible refine gate_callee (f := 27) rfl ?_); refine goesL_ (some 116) rfl rfl Try.func27 (by kernel_rfl) rfl #[.agg #[.int .i64 t101, .int .i64 t102, .int .i64 t103, .int .i64 t104, .slice Ao14 t105.length co14, .bool t108], .agg #[.int .i64 t186, .int .i64 t187, .int .i64 t188, .int .i64 t189, .slice Ao308 t190.length co308, .bool t193]] rfl zee81 ?_; (with_reducible refine (impl_JoinAggs.calls kj91 t101 t102 t103 t104 _ _ t105 t108 t186 t187 t188 t189 _ _ t190 t193 t196 t197 t198 t199 t200 t203 false _ ?side1 ?side2 ?side3 ?side4 A135.out).mono ?_); (case side1 => refine (Kd.Q_reads' (e := 3) (base := w.heap.size) (ok := fun k_ => (((some k_ ≠ (.slice Ao16 t113.length co16 : Value).ownBlock ∧ (some k_ ≠ (.slice Ao22 t123.length co22 : Value).ownBlock ∧ (some k_ ≠ (.slice Ao31 t133.length co31 : Value).ownBlock ∧ (some k_ ≠ (.slice Ao41 t143.length co41 : Value).ownBlock ∧ (some k_ ≠ (.slice Ao101 t155.length co101 : Value).ownBlock ∧ some k_ ≠ (.slice Ao115 t169.length co115 : Value).ownBlock))))) ∧ some k_ ≠ (.slice Ao290 t180.length co290 : Value).ownBlock) ∧ some k_ ≠ (.slice Ao308 t190.length co308 : Value).ownBlock)) (n := t105.length) (c := co14) ?_).2.2; exact (kZ (qF6 HO_118004.out BK195.out))); (case side2 => exact (Kd.Q_reads' HO_118004.out).2.1); (case side3 => refine (Kd.R_reads' (e := 3) (base := w.heap.size) (ok := fun k_ => ((((((((True ∧ some k_ ≠ (.slice Ao14 t105.length co14 : Value).ownBlock) ∧ some k_ ≠ (.slice Ao16 t113.length co16 : Value).ownBlock) ∧ some k_ ≠ (.slice Ao22 t123.length co22 : Value).ownBlock) ∧ some k_ ≠ (.slice Ao31 t133.length co31 : Value).ownBlock) ∧ some k_ ≠ (.slice Ao41 t143.length co41 : Value).ownBlock) ∧ some k_ ≠ (.slice Ao101 t155.length co101 : Value).ownBlock) ∧ some k_ ≠ (.slice Ao115 t169.length co115 : Value).ownBlock) ∧ some k_ ≠ (.slice Ao290 t180.length co290 : Value).ownBlock)) (n := t190.length) (c := co308) ?_).2.2; exact (rZ (rF6 HO192.out BK195.out))); (case side4 => exact (Kd.R_reads' HO192.out).2.1); rintro e w313 ⟨v201, rfl, ho0, hb⟩; refine ⟨_, rfl, ?_⟩; have _ := aM (Kd.Q_elder' (kZ (qF6 HO_118004.out BK195.out)) (Kd.R_base ho0) hb); have _ := aM (Kd.Q_elder' (kZ (qF6 HO_119004.out BK195.out)) (Kd.R_base ho0) hb); have _ := aM (Kd.Q_elder' (kZ (qF6 HO_129004.out BK195.out)) (Kd.R_base ho0) hb); have _ := aM (Kd.Q_elder' (kZ (qF6 HO_139004.out BK195.out)) (Kd.R_base ho0) hb); have _ := aM (Kd.Q_elder' (kZ (qF6 HO_149004.out BK195.out)) (Kd.R_base ho0) hb); have _ := aM (Kd.Q_elder' (kZ (qF6 HO_160004.out BK195.out)) (Kd.R_base ho0) hb); have _ := aM (Kd.Q_elder' (kZ (qF6 HO_175004.out BK195.out)) (Kd.R_base ho0) hb); have _ := aM (Kd.R_elder' (rZ (rF6 HO182.out BK195.out)) (Kd.R_base ho0) hb); have _ := aM (Kd.R_elder' (rZ (rF6 HO192.out BK195.out)) (Kd.R_base ho0) hb); have _ := aM (Kd.R_lower (Kd.R_new' (Kd.R_new' (Kd.R_new' (Kd.R_new' (Kd.R_new' (Kd.R_new' (Kd.R_new' (Kd.R_new' (Kd.R_new' ho0 (Kd.Q_lt (kZ (qF6 HO_118004.out BK195.out)))) (Kd.Q_lt (kZ (qF6 HO_119004.out BK195.out)))) (Kd.Q_lt (kZ (qF6 HO_129004.out BK195.out)))) (Kd.Q_lt (kZ (qF6 HO_139004.out BK195.out)))) (Kd.Q_lt (kZ (qF6 HO_149004.out BK195.out)))) (Kd.Q_lt (kZ (qF6 HO_160004.out BK195.out)))) (Kd.Q_lt (kZ (qF6 HO_175004.out BK195.out)))) (Kd.R_lt (rZ (rF6 HO182.out BK195.out)))) (Kd.R_lt (rZ (rF6 HO192.out BK195.out)))) (below_size hbZ)); have _ := bB gb117 hb; have _ := bB gb118 hb; have _ := bB gb128 hb; have _ := bB gb138 hb; have _ := bB gb148 hb; have _ := bB gb159 hb; have _ := bB gb174 hb; have _ := bB gb185 hb; have _ := aM (blk_below (g := gb195) (o := .cells #[.int .i64 t186, .int .i64 t187, .int .i64 t188, .int .i64 t189, .slice Ao308 t190.length co308, .bool t193] 54 (0, 0)) bkZ hb); have _ := aM (below_step hbZ hb); clear HO_118004 HO_119004 HO_129004 HO_139004 HO_149004 HO_160004 HO_175004 HO182 HO192 BK117 BK118 BK128 BK138 BK148 BK159 BK174 BK185 BK195 HB; rename_i HO_118004 HO_119004 HO_129004 HO_139004 HO_149004 HO_160004 HO_175004 HO182 HO192 HO202 BK117 BK118 BK128 BK138 BK148 BK159 BK174 BK185 BK195 HB; (try clear hb); (try clear ho0)) | ((with_reducible refine gate_dst (N := 22) rfl ?_); refine box_event ?hg (N := 22) ?hd (cs := #[.int .i64 0, .int .i64 0, .int .i64 0, .int .i64 0, .slice none 0 0, .bool false]) (t := 54) ?hr ?_; (case hd => rfl); (case hg => rfl); (case hr => first | (go_simp; done) | (go_simp; rfl)); intro gb205 hg w314 hbox hb; have _ := aM (Kd.Q_below (kZ HO_118004.out) hb); have _ := aM (Kd.Q_below (kZ HO_119004.out) hb); have _ := aM (Kd.Q_below (kZ HO_129004.out) hb); have _ := aM (Kd.Q_below (kZ HO_139004.out) hb); have _ := aM (Kd.Q_below (kZ HO_149004.out) hb); have _ := aM (Kd.Q_below (kZ HO_160004.out) hb); have _ := aM (Kd.Q_below (kZ HO_175004.out) hb); have _ := aM (Kd.R_below (rZ HO182.out) hb); have _ := aM (Kd.R_below (rZ HO192.out) hb); have _ := aM (Kd.R_below (rZ HO202.out) hb); have _ := bB gb117 hb; have _ := bB gb118 hb; have _ := bB gb128 hb; have _ := bB gb138 hb; have _ := bB gb148 hb; have _ := bB gb159 hb; have _ := bB gb174 hb; have _ := bB gb185 hb; have _ := bB gb195 hb; have _ := aM (below_step hbZ hb); have _ := aM hbox; have _ := szZ hg; have _ := szZ hg; have ⟨_, _⟩ := nbB gb117 hg; have ⟨_, _⟩ := nbB gb118 hg; have ⟨_, _⟩ := nbB gb128 hg; have ⟨_, _⟩ := nbB gb138 hg; have ⟨_, _⟩ := nbB gb148 hg; have ⟨_, _⟩ := nbB gb159 hg; have ⟨_, _⟩ := nbB gb174 hg; have ⟨_, _⟩ := nbB gb185 hg; have ⟨_, _⟩ := nbB gb195 hg; clear HO_118004 HO_119004 HO_129004 HO_139004 HO_149004 HO_160004 HO_175004 HO182 HO192 HO202 BK117 BK118 BK128 BK138 BK148 BK159 BK174 BK185 BK195 HB; rename_i HO_118004 HO_119004 HO_129004 HO_139004 HO_149004 HO_160004 HO_175004 HO182 HO192 HO202 BK117 BK118 BK128 BK138 BK148 BK159 BK174 BK185 BK195 HB BK205 GW205 GE205 NB117_205 NB205_117 NB118_205 NB205_118 NB128_205 NB205_128 NB138_205 NB205_138 NB148_205 NB205_148 NB159_205 NB205_159 NB174_205 NB205_174 NB185_205 NB205_185 NB195_205 NB205_195; clear hb hbox hg; have hnb315 := NB205_117.out; have hnc315 := NB117_205.out; have hnb316 := NB205_118.out; have hnc316 := NB118_205.out; have hnb317 := NB205_128.out; have hnc317 := NB128_205.out; have hnb318 := NB205_138.out; have hnc318 := NB138_205.out; have hnb319 := NB205_148.out; have hnc319 := NB148_205.out; have hnb320 := NB205_159.out; have hnc320 := NB159_205.out; have hnb321 := NB205_174.out; have hnc321 := NB174_205.out; have hnb322 := NB205_185.out; have hnc322 := NB185_205.out; have hnb323 := NB205_195.out; have hnc323 := NB195_205.out; obtain ⟨hcz324_0, hcz324_1, hcz324_2, hcz324_3, hcz324_4, hcz324_5, hfz324_0, hfz324_1, hfz324_2, hfz324_3, hfz324_4, hfz324_5⟩ := cellsZ6 BK205.out; obtain ⟨Ao325, co325, eo325⟩ := Kd.R_slice HO202.out; subst eo325))
                       go_ret
                       exact ⟨z674d, zcb41⟩
                   · replace c137 := Bool.eq_false_iff.mpr c137
                     subst c137
                     have H1 : (some false) = some r := by rw [if_neg (show ¬ (false = true) by decide)] at H; exact H
                     clear H
                     have H := H1
                     clear H1
                     obtain rfl := Option.some.inj H
                     have hnb326 := NB128_117.out
                     have hnc326 := NB117_128.out
                     have hnb327 := NB128_118.out
                     have hnc327 := NB118_128.out
                     have hnb328 := NB128_138.out
                     have hnc328 := NB138_128.out
                     have hnb329 := NB128_148.out
                     have hnc329 := NB148_128.out
                     have hnb330 := NB128_159.out
                     have hnc330 := NB159_128.out
                     have hnb331 := NB128_174.out
                     have hnc331 := NB174_128.out
                     obtain ⟨hcz332_0, hcz332_1, hcz332_2, hcz332_3, hcz332_4, hcz332_5, hfz332_0, hfz332_1, hfz332_2, hfz332_3, hfz332_4, hfz332_5⟩ := cellsZ6 BK128.out
                     have hnb333 := NB159_117.out
                     have hnc333 := NB117_159.out
                     have hnb334 := NB159_118.out
                     have hnc334 := NB118_159.out
                     have hnb335 := NB159_138.out
                     have hnc335 := NB138_159.out
                     have hnb336 := NB159_148.out
                     have hnc336 := NB148_159.out
                     have hnb337 := NB159_174.out
                     have hnc337 := NB174_159.out
                     obtain ⟨hcz338_0, hcz338_1, hcz338_2, hcz338_3, hcz338_4, hcz338_5, hfz338_0, hfz338_1, hfz338_2, hfz338_3, hfz338_4, hfz338_5⟩ := cellsZ6 BK159.out
                     go_wp2_with (first | ((with_reducible refine gate_callee (f := 27) rfl ?_); refine goesL_ (some 104) rfl rfl Try.func27 (by kernel_rfl) rfl #[.agg #[.int .i64 t119, .int .i64 t120, .int .i64 t121, .int .i64 t122, .slice Ao22 t123.length co22, .bool t126], .agg #[.int .i64 t151, .int .i64 t152, .int .i64 t153, .int .i64 t154, .slice Ao101 t155.length co101, .bool t158]] rfl zee81 ?_; (with_reducible refine (impl_JoinAggs.calls kj91 t119 t120 t121 t122 _ _ t123 t126 t151 t152 t153 t154 _ _ t155 t158 t176 t177 t178 t179 t180 t183 true _ ?side1 ?side2 ?side3 ?side4 A133.out).mono ?_); (case side1 => exact (by repeat (first | exact (Kd.Q_reads' HO_129004.out).2.2 | (with_reducible refine Kd.C_alloc ?_ _) | (with_reducible refine Kd.C_drewN ?_ _) | (with_reducible refine Kd.C_drew ?_)))); (case side2 => exact (Kd.Q_reads' HO_129004.out).2.1); (case side3 => exact (by repeat (first | exact (Kd.Q_reads' HO_160004.out).2.2 | (with_reducible refine Kd.C_alloc ?_ _) | (with_reducible refine Kd.C_drewN ?_ _) | (with_reducible refine Kd.C_drew ?_)))); (case side4 => exact (Kd.Q_reads' HO_160004.out).2.1); rintro e w339 ⟨v181, rfl, ho0, hb⟩; refine ⟨_, rfl, ?_⟩; have _ := aM (Kd.Q_elder' (kZ HO_118004.out) (Kd.R_base ho0) hb); have _ := aM (Kd.Q_elder' (kZ HO_119004.out) (Kd.R_base ho0) hb); have _ := aM (Kd.Q_elder' (kZ HO_129004.out) (Kd.R_base ho0) hb); have _ := aM (Kd.Q_elder' (kZ HO_139004.out) (Kd.R_base ho0) hb); have _ := aM (Kd.Q_elder' (kZ HO_149004.out) (Kd.R_base ho0) hb); have _ := aM (Kd.Q_elder' (kZ HO_160004.out) (Kd.R_base ho0) hb); have _ := aM (Kd.Q_elder' (kZ HO_175004.out) (Kd.R_base ho0) hb); have _ := aM (Kd.R_lower (Kd.R_new' (Kd.R_new' (Kd.R_new' (Kd.R_new' (Kd.R_new' (Kd.R_new' (Kd.R_new' ho0 (Kd.Q_lt (kZ HO_118004.out))) (Kd.Q_lt (kZ HO_119004.out))) (Kd.Q_lt (kZ HO_129004.out))) (Kd.Q_lt (kZ HO_139004.out))) (Kd.Q_lt (kZ HO_149004.out))) (Kd.Q_lt (kZ HO_160004.out))) (Kd.Q_lt (kZ HO_175004.out))) (below_size hbZ)); have _ := bB gb117 hb; have _ := bB gb118 hb; have _ := bB gb128 hb; have _ := bB gb138 hb; have _ := bB gb148 hb; have _ := bB gb159 hb; have _ := bB gb174 hb; have _ := aM (below_step hbZ hb); clear HO_118004 HO_119004 HO_129004 HO_139004 HO_149004 HO_160004 HO_175004 BK117 BK118 BK128 BK138 BK148 BK159 BK174 HB; rename_i HO_118004 HO_119004 HO_129004 HO_139004 HO_149004 HO_160004 HO_175004 HO182 BK117 BK118 BK128 BK138 BK148 BK159 BK174 HB; (try clear hb); (try clear ho0)) | ((with_reducible refine gate_dst (N := 18) rfl ?_); refine box_event ?hg (N := 18) ?hd (cs := #[.int .i64 0, .int .i64 0, .int .i64 0, .int .i64 0, .slice none 0 0, .bool false]) (t := 54) ?hr ?_; (case hd => rfl); (case hg => rfl); (case hr => first | (go_simp; done) | (go_simp; rfl)); intro gb185 hg w340 hbox hb; have _ := aM (Kd.Q_below (kZ HO_118004.out) hb); have _ := aM (Kd.Q_below (kZ HO_119004.out) hb); have _ := aM (Kd.Q_below (kZ HO_129004.out) hb); have _ := aM (Kd.Q_below (kZ HO_139004.out) hb); have _ := aM (Kd.Q_below (kZ HO_149004.out) hb); have _ := aM (Kd.Q_below (kZ HO_160004.out) hb); have _ := aM (Kd.Q_below (kZ HO_175004.out) hb); have _ := aM (Kd.R_below (rZ HO182.out) hb); have _ := bB gb117 hb; have _ := bB gb118 hb; have _ := bB gb128 hb; have _ := bB gb138 hb; have _ := bB gb148 hb; have _ := bB gb159 hb; have _ := bB gb174 hb; have _ := aM (below_step hbZ hb); have _ := aM hbox; have _ := szZ hg; have _ := szZ hg; have ⟨_, _⟩ := nbB gb117 hg; have ⟨_, _⟩ := nbB gb118 hg; have ⟨_, _⟩ := nbB gb128 hg; have ⟨_, _⟩ := nbB gb138 hg; have ⟨_, _⟩ := nbB gb148 hg; have ⟨_, _⟩ := nbB gb159 hg; have ⟨_, _⟩ := nbB gb174 hg; clear HO_118004 HO_119004 HO_129004 HO_139004 HO_149004 HO_160004 HO_175004 HO182 BK117 BK118 BK128 BK138 BK148 BK159 BK174 HB; rename_i HO_118004 HO_119004 HO_129004 HO_139004 HO_149004 HO_160004 HO_175004 HO182 BK117 BK118 BK128 BK138 BK148 BK159 BK174 HB BK185 GW185 GE185 NB117_185 NB185_117 NB118_185 NB185_118 NB128_185 NB185_128 NB138_185 NB185_138 NB148_185 NB185_148 NB159_185 NB185_159 NB174_185 NB185_174; clear hb hbox hg; have hnb341 := NB185_117.out; have hnc341 := NB117_185.out; have hnb342 := NB185_118.out; have hnc342 := NB118_185.out; have hnb343 := NB185_128.out; have hnc343 := NB128_185.out; have hnb344 := NB185_138.out; have hnc344 := NB138_185.out; have hnb345 := NB185_148.out; have hnc345 := NB148_185.out; have hnb346 := NB185_159.out; have hnc346 := NB159_185.out; have hnb347 := NB185_174.out; have hnc347 := NB174_185.out; obtain ⟨hcz348_0, hcz348_1, hcz348_2, hcz348_3, hcz348_4, hcz348_5, hfz348_0, hfz348_1, hfz348_2, hfz348_3, hfz348_4, hfz348_5⟩ := cellsZ6 BK185.out; obtain ⟨Ao349, co349, eo349⟩ := Kd.R_slice HO182.out; subst eo349; have hnb350 := NB118_117.out; have hnc350 := NB117_118.out; have hnb351 := NB118_138.out; have hnc351 := NB138_118.out; have hnb352 := NB118_148.out; have hnc352 := NB148_118.out; have hnb353 := NB118_174.out; have hnc353 := NB174_118.out; obtain ⟨hcz354_0, hcz354_1, hcz354_2, hcz354_3, hcz354_4, hcz354_5, hfz354_0, hfz354_1, hfz354_2, hfz354_3, hfz354_4, hfz354_5⟩ := cellsZ6 BK118.out; obtain ⟨hcz355_0, hcz355_1, hcz355_2, hcz355_3, hcz355_4, hcz355_5, hfz355_0, hfz355_1, hfz355_2, hfz355_3, hfz355_4, hfz355_5⟩ := cellsZ6 BK159.out) | ((with_reducible refine gate_callee (f := 27) rfl ?_); refine goesL_ (some 110) rfl rfl Try.func27 (by kernel_rfl) rfl #[.agg #[.int .i64 t109, .int .i64 t110, .int .i64 t111, .int .i64 t112, .slice Ao16 t113.length co16, .bool t116], .agg #[.int .i64 t151, .int .i64 t152, .int .i64 t153, .int .i64 t154, .slice Ao101 t155.length co101, .bool t158]] rfl zee81 ?_; (with_reducible refine (impl_JoinAggs.calls kj91 t109 t110 t111 t112 _ _ t113 t116 t151 t152 t153 t154 _ _ t155 t158 t186 t187 t188 t189 t190 t193 false _ ?side1 ?side2 ?side3 ?side4 A134.out).mono ?_); (case side1 => refine (Kd.Q_reads' (e := 3) (base := w.heap.size) (ok := fun k_ => ((some k_ ≠ (.slice Ao14 t105.length co14 : Value).ownBlock ∧ (some k_ ≠ (.slice Ao22 t123.length co22 : Value).ownBlock ∧ (some k_ ≠ (.slice Ao31 t133.length co31 : Value).ownBlock ∧ (some k_ ≠ (.slice Ao41 t143.length co41 : Value).ownBlock ∧ (some k_ ≠ (.slice Ao101 t155.length co101 : Value).ownBlock ∧ some k_ ≠ (.slice Ao115 t169.length co115 : Value).ownBlock))))) ∧ some k_ ≠ (.slice Ao349 t180.length co349 : Value).ownBlock)) (n := t113.length) (c := co16) ?_).2.2; exact (kZ (qF6 HO_119004.out BK185.out))); (case side2 => exact (Kd.Q_reads' HO_119004.out).2.1); (case side3 => refine (Kd.Q_reads' (e := 3) (base := w.heap.size) (ok := fun k_ => ((some k_ ≠ (.slice Ao14 t105.length co14 : Value).ownBlock ∧ (some k_ ≠ (.slice Ao16 t113.length co16 : Value).ownBlock ∧ (some k_ ≠ (.slice Ao22 t123.length co22 : Value).ownBlock ∧ (some k_ ≠ (.slice Ao31 t133.length co31 : Value).ownBlock ∧ (some k_ ≠ (.slice Ao41 t143.length co41 : Value).ownBlock ∧ some k_ ≠ (.slice Ao115 t169.length co115 : Value).ownBlock))))) ∧ some k_ ≠ (.slice Ao349 t180.length co349 : Value).ownBlock)) (n := t155.length) (c := co101) ?_).2.2; exact (kZ (qF6 HO_160004.out BK185.out))); (case side4 => exact (Kd.Q_reads' HO_160004.out).2.1); rintro e w356 ⟨v191, rfl, ho0, hb⟩; refine ⟨_, rfl, ?_⟩; have _ := aM (Kd.Q_elder' (kZ (qF6 HO_118004.out BK185.out)) (Kd.R_base ho0) hb); have _ := aM (Kd.Q_elder' (kZ (qF6 HO_119004.out BK185.out)) (Kd.R_base ho0) hb); have _ := aM (Kd.Q_elder' (kZ (qF6 HO_129004.out BK185.out)) (Kd.R_base ho0) hb); have _ := aM (Kd.Q_elder' (kZ (qF6 HO_139004.out BK185.out)) (Kd.R_base ho0) hb); have _ := aM (Kd.Q_elder' (kZ (qF6 HO_149004.out BK185.out)) (Kd.R_base ho0) hb); have _ := aM (Kd.Q_elder' (kZ (qF6 HO_160004.out BK185.out)) (Kd.R_base ho0) hb); have _ := aM (Kd.Q_elder' (kZ (qF6 HO_175004.out BK185.out)) (Kd.R_base ho0) hb); have _ := aM (Kd.R_elder' (rZ (rF6 HO182.out BK185.out)) (Kd.R_base ho0) hb); have _ := aM (Kd.R_lower (Kd.R_new' (Kd.R_new' (Kd.R_new' (Kd.R_new' (Kd.R_new' (Kd.R_new' (Kd.R_new' (Kd.R_new' ho0 (Kd.Q_lt (kZ (qF6 HO_118004.out BK185.out)))) (Kd.Q_lt (kZ (qF6 HO_119004.out BK185.out)))) (Kd.Q_lt (kZ (qF6 HO_129004.out BK185.out)))) (Kd.Q_lt (kZ (qF6 HO_139004.out BK185.out)))) (Kd.Q_lt (kZ (qF6 HO_149004.out BK185.out)))) (Kd.Q_lt (kZ (qF6 HO_160004.out BK185.out)))) (Kd.Q_lt (kZ (qF6 HO_175004.out BK185.out)))) (Kd.R_lt (rZ (rF6 HO182.out BK185.out)))) (below_size hbZ)); have _ := bB gb117 hb; have _ := bB gb118 hb; have _ := bB gb128 hb; have _ := bB gb138 hb; have _ := bB gb148 hb; have _ := bB gb159 hb; have _ := bB gb174 hb; have _ := aM (blk_below (g := gb185) (o := .cells #[.int .i64 t176, .int .i64 t177, .int .i64 t178, .int .i64 t179, .slice Ao349 t180.length co349, .bool t183] 54 (0, 0)) bkZ hb); have _ := aM (below_step hbZ hb); clear HO_118004 HO_119004 HO_129004 HO_139004 HO_149004 HO_160004 HO_175004 HO182 BK117 BK118 BK128 BK138 BK148 BK159 BK174 BK185 HB; rename_i HO_118004 HO_119004 HO_129004 HO_139004 HO_149004 HO_160004 HO_175004 HO182 HO192 BK117 BK118 BK128 BK138 BK148 BK159 BK174 BK185 HB; (try clear hb); (try clear ho0)) | ((with_reducible refine gate_dst (N := 20) rfl ?_); refine box_event ?hg (N := 20) ?hd (cs := #[.int .i64 0, .int .i64 0, .int .i64 0, .int .i64 0, .slice none 0 0, .bool false]) (t := 54) ?hr ?_; (case hd => rfl); (case hg => rfl); (case hr => first | (go_simp; done) | (go_simp; rfl)); intro gb195 hg w357 hbox hb; have _ := aM (Kd.Q_below (kZ HO_118004.out) hb); have _ := aM (Kd.Q_below (kZ HO_119004.out) hb); have _ := aM (Kd.Q_below (kZ HO_129004.out) hb); have _ := aM (Kd.Q_below (kZ HO_139004.out) hb); have _ := aM (Kd.Q_below (kZ HO_149004.out) hb); have _ := aM (Kd.Q_below (kZ HO_160004.out) hb); have _ := aM (Kd.Q_below (kZ HO_175004.out) hb); have _ := aM (Kd.R_below (rZ HO182.out) hb); have _ := aM (Kd.R_below (rZ HO192.out) hb); have _ := bB gb117 hb; have _ := bB gb118 hb; have _ := bB gb128 hb; have _ := bB gb138 hb; have _ := bB gb148 hb; have _ := bB gb159 hb; have _ := bB gb174 hb; have _ := bB gb185 hb; have _ := aM (below_step hbZ hb); have _ := aM hbox; have _ := szZ hg; have _ := szZ hg; have ⟨_, _⟩ := nbB gb117 hg; have ⟨_, _⟩ := nbB gb118 hg; have ⟨_, _⟩ := nbB gb128 hg; have ⟨_, _⟩ := nbB gb138 hg; have ⟨_, _⟩ := nbB gb148 hg; have ⟨_, _⟩ := nbB gb159 hg; have ⟨_, _⟩ := nbB gb174 hg; have ⟨_, _⟩ := nbB gb185 hg; clear HO_118004 HO_119004 HO_129004 HO_139004 HO_149004 HO_160004 HO_175004 HO182 HO192 BK117 BK118 BK128 BK138 BK148 BK159 BK174 BK185 HB; rename_i HO_118004 HO_119004 HO_129004 HO_139004 HO_149004 HO_160004 HO_175004 HO182 HO192 BK117 BK118 BK128 BK138 BK148 BK159 BK174 BK185 HB BK195 GW195 GE195 NB117_195 NB195_117 NB118_195 NB195_118 NB128_195 NB195_128 NB138_195 NB195_138 NB148_195 NB195_148 NB159_195 NB195_159 NB174_195 NB195_174 NB185_195 NB195_185; clear hb hbox hg; have hnb358 := NB195_117.out; have hnc358 := NB117_195.out; have hnb359 := NB195_118.out; have hnc359 := NB118_195.out; have hnb360 := NB195_128.out; have hnc360 := NB128_195.out; have hnb361 := NB195_138.out; have hnc361 := NB138_195.out; have hnb362 := NB195_148.out; have hnc362 := NB148_195.out; have hnb363 := NB195_159.out; have hnc363 := NB159_195.out; have hnb364 := NB195_174.out; have hnc364 := NB174_195.out; have hnb365 := NB195_185.out; have hnc365 := NB185_195.out; obtain ⟨hcz366_0, hcz366_1, hcz366_2, hcz366_3, hcz366_4, hcz366_5, hfz366_0, hfz366_1, hfz366_2, hfz366_3, hfz366_4, hfz366_5⟩ := cellsZ6 BK195.out; obtain ⟨Ao367, co367, eo367⟩ := Kd.R_slice HO192.out; subst eo367; have hnb368 := NB117_138.out; have hnc368 := NB138_117.out; have hnb369 := NB117_148.out; have hnc369 := NB148_117.out; have hnb370 := NB117_174.out; have hnc370 := NB174_117.out; obtain ⟨hcz371_0, hcz371_1, hcz371_2, hcz371_3, hcz371_4, hcz371_5, hfz371_0, hfz371_1, hfz371_2, hfz371_3, hfz371_4, hfz371_5⟩ := cellsZ6 BK117.out) | ((with_reducible refine gate_callee (f := 27) rfl ?_); refine goesL_ (some 116) rfl rfl Try.func27 (by kernel_rfl) rfl #[.agg #[.int .i64 t101, .int .i64 t102, .int .i64 t103, .int .i64 t104, .slice Ao14 t105.length co14, .bool t108], .agg #[.int .i64 t186, .int .i64 t187, .int .i64 t188, .int .i64 t189, .slice Ao367 t190.length co367, .bool t193]] rfl zee81 ?_; (with_reducible refine (impl_JoinAggs.calls kj91 t101 t102 t103 t104 _ _ t105 t108 t186 t187 t188 t189 _ _ t190 t193 t196 t197 t198 t199 t200 t203 t204 _ ?side1 ?side2 ?side3 ?side4 A135.out).mono ?_); (case side1 => refine (Kd.Q_reads' (e := 3) (base := w.heap.size) (ok := fun k_ => (((some k_ ≠ (.slice Ao16 t113.length co16 : Value).ownBlock ∧ (some k_ ≠ (.slice Ao22 t123.length co22 : Value).ownBlock ∧ (some k_ ≠ (.slice Ao31 t133.length co31 : Value).ownBlock ∧ (some k_ ≠ (.slice Ao41 t143.length co41 : Value).ownBlock ∧ (some k_ ≠ (.slice Ao101 t155.length co101 : Value).ownBlock ∧ some k_ ≠ (.slice Ao115 t169.length co115 : Value).ownBlock))))) ∧ some k_ ≠ (.slice Ao349 t180.length co349 : Value).ownBlock) ∧ some k_ ≠ (.slice Ao367 t190.length co367 : Value).ownBlock)) (n := t105.length) (c := co14) ?_).2.2; exact (kZ (qF6 HO_118004.out BK195.out))); (case side2 => exact (Kd.Q_reads' HO_118004.out).2.1); (case side3 => refine (Kd.R_reads' (e := 3) (base := w.heap.size) (ok := fun k_ => ((((((((True ∧ some k_ ≠ (.slice Ao14 t105.length co14 : Value).ownBlock) ∧ some k_ ≠ (.slice Ao16 t113.length co16 : Value).ownBlock) ∧ some k_ ≠ (.slice Ao22 t123.length co22 : Value).ownBlock) ∧ some k_ ≠ (.slice Ao31 t133.length co31 : Value).ownBlock) ∧ some k_ ≠ (.slice Ao41 t143.length co41 : Value).ownBlock) ∧ some k_ ≠ (.slice Ao101 t155.length co101 : Value).ownBlock) ∧ some k_ ≠ (.slice Ao115 t169.length co115 : Value).ownBlock) ∧ some k_ ≠ (.slice Ao349 t180.length co349 : Value).ownBlock)) (n := t190.length) (c := co367) ?_).2.2; exact (rZ (rF6 HO192.out BK195.out))); (case side4 => exact (Kd.R_reads' HO192.out).2.1); rintro e w372 ⟨v201, rfl, ho0, hb⟩; refine ⟨_, rfl, ?_⟩; have _ := aM (Kd.Q_elder' (kZ (qF6 HO_118004.out BK195.out)) (Kd.R_base ho0) hb); have _ := aM (Kd.Q_elder' (kZ (qF6 HO_119004.out BK195.out)) (Kd.R_base ho0) hb); have _ := aM (Kd.Q_elder' (kZ (qF6 HO_129004.out BK195.out)) (Kd.R_base ho0) hb); have _ := aM (Kd.Q_elder' (kZ (qF6 HO_139004.out BK195.out)) (Kd.R_base ho0) hb); have _ := aM (Kd.Q_elder' (kZ (qF6 HO_149004.out BK195.out)) (Kd.R_base ho0) hb); have _ := aM (Kd.Q_elder' (kZ (qF6 HO_160004.out BK195.out)) (Kd.R_base ho0) hb); have _ := aM (Kd.Q_elder' (kZ (qF6 HO_175004.out BK195.out)) (Kd.R_base ho0) hb); have _ := aM (Kd.R_elder' (rZ (rF6 HO182.out BK195.out)) (Kd.R_base ho0) hb); have _ := aM (Kd.R_elder' (rZ (rF6 HO192.out BK195.out)) (Kd.R_base ho0) hb); have _ := aM (Kd.R_lower (Kd.R_new' (Kd.R_new' (Kd.R_new' (Kd.R_new' (Kd.R_new' (Kd.R_new' (Kd.R_new' (Kd.R_new' (Kd.R_new' ho0 (Kd.Q_lt (kZ (qF6 HO_118004.out BK195.out)))) (Kd.Q_lt (kZ (qF6 HO_119004.out BK195.out)))) (Kd.Q_lt (kZ (qF6 HO_129004.out BK195.out)))) (Kd.Q_lt (kZ (qF6 HO_139004.out BK195.out)))) (Kd.Q_lt (kZ (qF6 HO_149004.out BK195.out)))) (Kd.Q_lt (kZ (qF6 HO_160004.out BK195.out)))) (Kd.Q_lt (kZ (qF6 HO_175004.out BK195.out)))) (Kd.R_lt (rZ (rF6 HO182.out BK195.out)))) (Kd.R_lt (rZ (rF6 HO192.out BK195.out)))) (below_size hbZ)); have _ := bB gb117 hb; have _ := bB gb118 hb; have _ := bB gb128 hb; have _ := bB gb138 hb; have _ := bB gb148 hb; have _ := bB gb159 hb; have _ := bB gb174 hb; have _ := bB gb185 hb; have _ := aM (blk_below (g := gb195) (o := .cells #[.int .i64 t186, .int .i64 t187, .int .i64 t188, .int .i64 t189, .slice Ao367 t190.length co367, .bool t193] 54 (0, 0)) bkZ hb); have _ := aM (below_step hbZ hb); clear HO_118004 HO_119004 HO_129004 HO_139004 HO_149004 HO_160004 HO_175004 HO182 HO192 BK117 BK118 BK128 BK138 BK148 BK159 BK174 BK185 BK195 HB; rename_i HO_118004 HO_119004 HO_129004 HO_139004 HO_149004 HO_160004 HO_175004 HO182 HO192 HO202 BK117 BK118 BK128 BK138 BK148 BK159 BK174 BK185 BK195 HB; (try clear hb); (try clear ho0)) | ((with_reducible refine gate_dst (N := 22) rfl ?_); refine box_event ?hg (N := 22) ?hd (cs := #[.int .i64 0, .int .i64 0, .int .i64 0, .int .i64 0, .slice none 0 0, .bool false]) (t := 54) ?hr ?_; (case hd => rfl); (case hg => rfl); (case hr => first | (go_simp; done) | (go_simp; rfl)); intro gb205 hg w373 hbox hb; have _ := aM (Kd.Q_below (kZ HO_118004.out) hb); have _ := aM (Kd.Q_below (kZ HO_119004.out) hb); have _ := aM (Kd.Q_below (kZ HO_129004.out) hb); have _ := aM (Kd.Q_below (kZ HO_139004.out) hb); have _ := aM (Kd.Q_below (kZ HO_149004.out) hb); have _ := aM (Kd.Q_below (kZ HO_160004.out) hb); have _ := aM (Kd.Q_below (kZ HO_175004.out) hb); have _ := aM (Kd.R_below (rZ HO182.out) hb); have _ := aM (Kd.R_below (rZ HO192.out) hb); have _ := aM (Kd.R_below (rZ HO202.out) hb); have _ := bB gb117 hb; have _ := bB gb118 hb; have _ := bB gb128 hb; have _ := bB gb138 hb; have _ := bB gb148 hb; have _ := bB gb159 hb; have _ := bB gb174 hb; have _ := bB gb185 hb; have _ := bB gb195 hb; have _ := aM (below_step hbZ hb); have _ := aM hbox; have _ := szZ hg; have _ := szZ hg; have ⟨_, _⟩ := nbB gb117 hg; have ⟨_, _⟩ := nbB gb118 hg; have ⟨_, _⟩ := nbB gb128 hg; have ⟨_, _⟩ := nbB gb138 hg; have ⟨_, _⟩ := nbB gb148 hg; have ⟨_, _⟩ := nbB gb159 hg; have ⟨_, _⟩ := nbB gb174 hg; have ⟨_, _⟩ := nbB gb185 hg; have ⟨_, _⟩ := nbB gb195 hg; clear HO_118004 HO_119004 HO_129004 HO_139004 HO_149004 HO_160004 HO_175004 HO182 HO192 HO202 BK117 BK118 BK128 BK138 BK148 BK159 BK174 BK185 BK195 HB; rename_i HO_118004 HO_119004 HO_129004 HO_139004 HO_149004 HO_160004 HO_175004 HO182 HO192 HO202 BK117 BK118 BK128 BK138 BK148 BK159 BK174 BK185 BK195 HB BK205 GW205 GE205 NB117_205 NB205_117 NB118_205 NB205_118 NB128_205 NB205_128 NB138_205 NB205_138 NB148_205 NB205_148 NB159_205 NB205_159 NB174_205 NB205_174 NB185_205 NB205_185 NB195_205 NB205_195; clear hb hbox hg; have hnb374 := NB205_117.out; have hnc374 := NB117_205.out; have hnb375 := NB205_118.out; have hnc375 := NB118_205.out; have hnb376 := NB205_128.out; have hnc376 := NB128_205.out; have hnb377 := NB205_138.out; have hnc377 := NB138_205.out; have hnb378 := NB205_148.out; have hnc378 := NB148_205.out; have hnb379 := NB205_159.out; have hnc379 := NB159_205.out; have hnb380 := NB205_174.out; have hnc380 := NB174_205.out; have hnb381 := NB205_185.out; have hnc381 := NB185_205.out; have hnb382 := NB205_195.out; have hnc382 := NB195_205.out; obtain ⟨hcz383_0, hcz383_1, hcz383_2, hcz383_3, hcz383_4, hcz383_5, hfz383_0, hfz383_1, hfz383_2, hfz383_3, hfz383_4, hfz383_5⟩ := cellsZ6 BK205.out; obtain ⟨Ao384, co384, eo384⟩ := Kd.R_slice HO202.out; subst eo384))
                     go_ret
                     exact ⟨z674d, zcb41⟩
                 · replace c136 := Bool.eq_false_iff.mpr c136
                   subst c136
                   have H1 : (some false) = some r := by rw [if_neg (show ¬ (false = true) by decide)] at H; exact H
                   clear H
                   have H := H1
                   clear H1
                   obtain rfl := Option.some.inj H
                   have hnb385 := NB128_117.out
                   have hnc385 := NB117_128.out
                   have hnb386 := NB128_118.out
                   have hnc386 := NB118_128.out
                   have hnb387 := NB128_138.out
                   have hnc387 := NB138_128.out
                   have hnb388 := NB128_148.out
                   have hnc388 := NB148_128.out
                   have hnb389 := NB128_159.out
                   have hnc389 := NB159_128.out
                   have hnb390 := NB128_174.out
                   have hnc390 := NB174_128.out
                   obtain ⟨hcz391_0, hcz391_1, hcz391_2, hcz391_3, hcz391_4, hcz391_5, hfz391_0, hfz391_1, hfz391_2, hfz391_3, hfz391_4, hfz391_5⟩ := cellsZ6 BK128.out
                   have hnb392 := NB159_117.out
                   have hnc392 := NB117_159.out
                   have hnb393 := NB159_118.out
                   have hnc393 := NB118_159.out
                   have hnb394 := NB159_138.out
                   have hnc394 := NB138_159.out
                   have hnb395 := NB159_148.out
                   have hnc395 := NB148_159.out
                   have hnb396 := NB159_174.out
                   have hnc396 := NB174_159.out
                   obtain ⟨hcz397_0, hcz397_1, hcz397_2, hcz397_3, hcz397_4, hcz397_5, hfz397_0, hfz397_1, hfz397_2, hfz397_3, hfz397_4, hfz397_5⟩ := cellsZ6 BK159.out
                   go_wp2_with (first | ((with_reducible refine gate_callee (f := 27) rfl ?_); refine goesL_ (some 104) rfl rfl Try.func27 (by kernel_rfl) rfl #[.agg #[.int .i64 t119, .int .i64 t120, .int .i64 t121, .int .i64 t122, .slice Ao22 t123.length co22, .bool t126], .agg #[.int .i64 t151, .int .i64 t152, .int .i64 t153, .int .i64 t154, .slice Ao101 t155.length co101, .bool t158]] rfl zee81 ?_; (with_reducible refine (impl_JoinAggs.calls kj91 t119 t120 t121 t122 _ _ t123 t126 t151 t152 t153 t154 _ _ t155 t158 t176 t177 t178 t179 t180 t183 false _ ?side1 ?side2 ?side3 ?side4 A133.out).mono ?_); (case side1 => exact (by repeat (first | exact (Kd.Q_reads' HO_129004.out).2.2 | (with_reducible refine Kd.C_alloc ?_ _) | (with_reducible refine Kd.C_drewN ?_ _) | (with_reducible refine Kd.C_drew ?_)))); (case side2 => exact (Kd.Q_reads' HO_129004.out).2.1); (case side3 => exact (by repeat (first | exact (Kd.Q_reads' HO_160004.out).2.2 | (with_reducible refine Kd.C_alloc ?_ _) | (with_reducible refine Kd.C_drewN ?_ _) | (with_reducible refine Kd.C_drew ?_)))); (case side4 => exact (Kd.Q_reads' HO_160004.out).2.1); rintro e w398 ⟨v181, rfl, ho0, hb⟩; refine ⟨_, rfl, ?_⟩; have _ := aM (Kd.Q_elder' (kZ HO_118004.out) (Kd.R_base ho0) hb); have _ := aM (Kd.Q_elder' (kZ HO_119004.out) (Kd.R_base ho0) hb); have _ := aM (Kd.Q_elder' (kZ HO_129004.out) (Kd.R_base ho0) hb); have _ := aM (Kd.Q_elder' (kZ HO_139004.out) (Kd.R_base ho0) hb); have _ := aM (Kd.Q_elder' (kZ HO_149004.out) (Kd.R_base ho0) hb); have _ := aM (Kd.Q_elder' (kZ HO_160004.out) (Kd.R_base ho0) hb); have _ := aM (Kd.Q_elder' (kZ HO_175004.out) (Kd.R_base ho0) hb); have _ := aM (Kd.R_lower (Kd.R_new' (Kd.R_new' (Kd.R_new' (Kd.R_new' (Kd.R_new' (Kd.R_new' (Kd.R_new' ho0 (Kd.Q_lt (kZ HO_118004.out))) (Kd.Q_lt (kZ HO_119004.out))) (Kd.Q_lt (kZ HO_129004.out))) (Kd.Q_lt (kZ HO_139004.out))) (Kd.Q_lt (kZ HO_149004.out))) (Kd.Q_lt (kZ HO_160004.out))) (Kd.Q_lt (kZ HO_175004.out))) (below_size hbZ)); have _ := bB gb117 hb; have _ := bB gb118 hb; have _ := bB gb128 hb; have _ := bB gb138 hb; have _ := bB gb148 hb; have _ := bB gb159 hb; have _ := bB gb174 hb; have _ := aM (below_step hbZ hb); clear HO_118004 HO_119004 HO_129004 HO_139004 HO_149004 HO_160004 HO_175004 BK117 BK118 BK128 BK138 BK148 BK159 BK174 HB; rename_i HO_118004 HO_119004 HO_129004 HO_139004 HO_149004 HO_160004 HO_175004 HO182 BK117 BK118 BK128 BK138 BK148 BK159 BK174 HB; (try clear hb); (try clear ho0)) | ((with_reducible refine gate_dst (N := 18) rfl ?_); refine box_event ?hg (N := 18) ?hd (cs := #[.int .i64 0, .int .i64 0, .int .i64 0, .int .i64 0, .slice none 0 0, .bool false]) (t := 54) ?hr ?_; (case hd => rfl); (case hg => rfl); (case hr => first | (go_simp; done) | (go_simp; rfl)); intro gb185 hg w399 hbox hb; have _ := aM (Kd.Q_below (kZ HO_118004.out) hb); have _ := aM (Kd.Q_below (kZ HO_119004.out) hb); have _ := aM (Kd.Q_below (kZ HO_129004.out) hb); have _ := aM (Kd.Q_below (kZ HO_139004.out) hb); have _ := aM (Kd.Q_below (kZ HO_149004.out) hb); have _ := aM (Kd.Q_below (kZ HO_160004.out) hb); have _ := aM (Kd.Q_below (kZ HO_175004.out) hb); have _ := aM (Kd.R_below (rZ HO182.out) hb); have _ := bB gb117 hb; have _ := bB gb118 hb; have _ := bB gb128 hb; have _ := bB gb138 hb; have _ := bB gb148 hb; have _ := bB gb159 hb; have _ := bB gb174 hb; have _ := aM (below_step hbZ hb); have _ := aM hbox; have _ := szZ hg; have _ := szZ hg; have ⟨_, _⟩ := nbB gb117 hg; have ⟨_, _⟩ := nbB gb118 hg; have ⟨_, _⟩ := nbB gb128 hg; have ⟨_, _⟩ := nbB gb138 hg; have ⟨_, _⟩ := nbB gb148 hg; have ⟨_, _⟩ := nbB gb159 hg; have ⟨_, _⟩ := nbB gb174 hg; clear HO_118004 HO_119004 HO_129004 HO_139004 HO_149004 HO_160004 HO_175004 HO182 BK117 BK118 BK128 BK138 BK148 BK159 BK174 HB; rename_i HO_118004 HO_119004 HO_129004 HO_139004 HO_149004 HO_160004 HO_175004 HO182 BK117 BK118 BK128 BK138 BK148 BK159 BK174 HB BK185 GW185 GE185 NB117_185 NB185_117 NB118_185 NB185_118 NB128_185 NB185_128 NB138_185 NB185_138 NB148_185 NB185_148 NB159_185 NB185_159 NB174_185 NB185_174; clear hb hbox hg; have hnb400 := NB185_117.out; have hnc400 := NB117_185.out; have hnb401 := NB185_118.out; have hnc401 := NB118_185.out; have hnb402 := NB185_128.out; have hnc402 := NB128_185.out; have hnb403 := NB185_138.out; have hnc403 := NB138_185.out; have hnb404 := NB185_148.out; have hnc404 := NB148_185.out; have hnb405 := NB185_159.out; have hnc405 := NB159_185.out; have hnb406 := NB185_174.out; have hnc406 := NB174_185.out; obtain ⟨hcz407_0, hcz407_1, hcz407_2, hcz407_3, hcz407_4, hcz407_5, hfz407_0, hfz407_1, hfz407_2, hfz407_3, hfz407_4, hfz407_5⟩ := cellsZ6 BK185.out; obtain ⟨Ao408, co408, eo408⟩ := Kd.R_slice HO182.out; subst eo408; have hnb409 := NB118_117.out; have hnc409 := NB117_118.out; have hnb410 := NB118_138.out; have hnc410 := NB138_118.out; have hnb411 := NB118_148.out; have hnc411 := NB148_118.out; have hnb412 := NB118_174.out; have hnc412 := NB174_118.out; obtain ⟨hcz413_0, hcz413_1, hcz413_2, hcz413_3, hcz413_4, hcz413_5, hfz413_0, hfz413_1, hfz413_2, hfz413_3, hfz413_4, hfz413_5⟩ := cellsZ6 BK118.out; obtain ⟨hcz414_0, hcz414_1, hcz414_2, hcz414_3, hcz414_4, hcz414_5, hfz414_0, hfz414_1, hfz414_2, hfz414_3, hfz414_4, hfz414_5⟩ := cellsZ6 BK159.out) | ((with_reducible refine gate_callee (f := 27) rfl ?_); refine goesL_ (some 110) rfl rfl Try.func27 (by kernel_rfl) rfl #[.agg #[.int .i64 t109, .int .i64 t110, .int .i64 t111, .int .i64 t112, .slice Ao16 t113.length co16, .bool t116], .agg #[.int .i64 t151, .int .i64 t152, .int .i64 t153, .int .i64 t154, .slice Ao101 t155.length co101, .bool t158]] rfl zee81 ?_; (with_reducible refine (impl_JoinAggs.calls kj91 t109 t110 t111 t112 _ _ t113 t116 t151 t152 t153 t154 _ _ t155 t158 t186 t187 t188 t189 t190 t193 t194 _ ?side1 ?side2 ?side3 ?side4 A134.out).mono ?_); (case side1 => refine (Kd.Q_reads' (e := 3) (base := w.heap.size) (ok := fun k_ => ((some k_ ≠ (.slice Ao14 t105.length co14 : Value).ownBlock ∧ (some k_ ≠ (.slice Ao22 t123.length co22 : Value).ownBlock ∧ (some k_ ≠ (.slice Ao31 t133.length co31 : Value).ownBlock ∧ (some k_ ≠ (.slice Ao41 t143.length co41 : Value).ownBlock ∧ (some k_ ≠ (.slice Ao101 t155.length co101 : Value).ownBlock ∧ some k_ ≠ (.slice Ao115 t169.length co115 : Value).ownBlock))))) ∧ some k_ ≠ (.slice Ao408 t180.length co408 : Value).ownBlock)) (n := t113.length) (c := co16) ?_).2.2; exact (kZ (qF6 HO_119004.out BK185.out))); (case side2 => exact (Kd.Q_reads' HO_119004.out).2.1); (case side3 => refine (Kd.Q_reads' (e := 3) (base := w.heap.size) (ok := fun k_ => ((some k_ ≠ (.slice Ao14 t105.length co14 : Value).ownBlock ∧ (some k_ ≠ (.slice Ao16 t113.length co16 : Value).ownBlock ∧ (some k_ ≠ (.slice Ao22 t123.length co22 : Value).ownBlock ∧ (some k_ ≠ (.slice Ao31 t133.length co31 : Value).ownBlock ∧ (some k_ ≠ (.slice Ao41 t143.length co41 : Value).ownBlock ∧ some k_ ≠ (.slice Ao115 t169.length co115 : Value).ownBlock))))) ∧ some k_ ≠ (.slice Ao408 t180.length co408 : Value).ownBlock)) (n := t155.length) (c := co101) ?_).2.2; exact (kZ (qF6 HO_160004.out BK185.out))); (case side4 => exact (Kd.Q_reads' HO_160004.out).2.1); rintro e w415 ⟨v191, rfl, ho0, hb⟩; refine ⟨_, rfl, ?_⟩; have _ := aM (Kd.Q_elder' (kZ (qF6 HO_118004.out BK185.out)) (Kd.R_base ho0) hb); have _ := aM (Kd.Q_elder' (kZ (qF6 HO_119004.out BK185.out)) (Kd.R_base ho0) hb); have _ := aM (Kd.Q_elder' (kZ (qF6 HO_129004.out BK185.out)) (Kd.R_base ho0) hb); have _ := aM (Kd.Q_elder' (kZ (qF6 HO_139004.out BK185.out)) (Kd.R_base ho0) hb); have _ := aM (Kd.Q_elder' (kZ (qF6 HO_149004.out BK185.out)) (Kd.R_base ho0) hb); have _ := aM (Kd.Q_elder' (kZ (qF6 HO_160004.out BK185.out)) (Kd.R_base ho0) hb); have _ := aM (Kd.Q_elder' (kZ (qF6 HO_175004.out BK185.out)) (Kd.R_base ho0) hb); have _ := aM (Kd.R_elder' (rZ (rF6 HO182.out BK185.out)) (Kd.R_base ho0) hb); have _ := aM (Kd.R_lower (Kd.R_new' (Kd.R_new' (Kd.R_new' (Kd.R_new' (Kd.R_new' (Kd.R_new' (Kd.R_new' (Kd.R_new' ho0 (Kd.Q_lt (kZ (qF6 HO_118004.out BK185.out)))) (Kd.Q_lt (kZ (qF6 HO_119004.out BK185.out)))) (Kd.Q_lt (kZ (qF6 HO_129004.out BK185.out)))) (Kd.Q_lt (kZ (qF6 HO_139004.out BK185.out)))) (Kd.Q_lt (kZ (qF6 HO_149004.out BK185.out)))) (Kd.Q_lt (kZ (qF6 HO_160004.out BK185.out)))) (Kd.Q_lt (kZ (qF6 HO_175004.out BK185.out)))) (Kd.R_lt (rZ (rF6 HO182.out BK185.out)))) (below_size hbZ)); have _ := bB gb117 hb; have _ := bB gb118 hb; have _ := bB gb128 hb; have _ := bB gb138 hb; have _ := bB gb148 hb; have _ := bB gb159 hb; have _ := bB gb174 hb; have _ := aM (blk_below (g := gb185) (o := .cells #[.int .i64 t176, .int .i64 t177, .int .i64 t178, .int .i64 t179, .slice Ao408 t180.length co408, .bool t183] 54 (0, 0)) bkZ hb); have _ := aM (below_step hbZ hb); clear HO_118004 HO_119004 HO_129004 HO_139004 HO_149004 HO_160004 HO_175004 HO182 BK117 BK118 BK128 BK138 BK148 BK159 BK174 BK185 HB; rename_i HO_118004 HO_119004 HO_129004 HO_139004 HO_149004 HO_160004 HO_175004 HO182 HO192 BK117 BK118 BK128 BK138 BK148 BK159 BK174 BK185 HB; (try clear hb); (try clear ho0)) | ((with_reducible refine gate_dst (N := 20) rfl ?_); refine box_event ?hg (N := 20) ?hd (cs := #[.int .i64 0, .int .i64 0, .int .i64 0, .int .i64 0, .slice none 0 0, .bool false]) (t := 54) ?hr ?_; (case hd => rfl); (case hg => rfl); (case hr => first | (go_simp; done) | (go_simp; rfl)); intro gb195 hg w416 hbox hb; have _ := aM (Kd.Q_below (kZ HO_118004.out) hb); have _ := aM (Kd.Q_below (kZ HO_119004.out) hb); have _ := aM (Kd.Q_below (kZ HO_129004.out) hb); have _ := aM (Kd.Q_below (kZ HO_139004.out) hb); have _ := aM (Kd.Q_below (kZ HO_149004.out) hb); have _ := aM (Kd.Q_below (kZ HO_160004.out) hb); have _ := aM (Kd.Q_below (kZ HO_175004.out) hb); have _ := aM (Kd.R_below (rZ HO182.out) hb); have _ := aM (Kd.R_below (rZ HO192.out) hb); have _ := bB gb117 hb; have _ := bB gb118 hb; have _ := bB gb128 hb; have _ := bB gb138 hb; have _ := bB gb148 hb; have _ := bB gb159 hb; have _ := bB gb174 hb; have _ := bB gb185 hb; have _ := aM (below_step hbZ hb); have _ := aM hbox; have _ := szZ hg; have _ := szZ hg; have ⟨_, _⟩ := nbB gb117 hg; have ⟨_, _⟩ := nbB gb118 hg; have ⟨_, _⟩ := nbB gb128 hg; have ⟨_, _⟩ := nbB gb138 hg; have ⟨_, _⟩ := nbB gb148 hg; have ⟨_, _⟩ := nbB gb159 hg; have ⟨_, _⟩ := nbB gb174 hg; have ⟨_, _⟩ := nbB gb185 hg; clear HO_118004 HO_119004 HO_129004 HO_139004 HO_149004 HO_160004 HO_175004 HO182 HO192 BK117 BK118 BK128 BK138 BK148 BK159 BK174 BK185 HB; rename_i HO_118004 HO_119004 HO_129004 HO_139004 HO_149004 HO_160004 HO_175004 HO182 HO192 BK117 BK118 BK128 BK138 BK148 BK159 BK174 BK185 HB BK195 GW195 GE195 NB117_195 NB195_117 NB118_195 NB195_118 NB128_195 NB195_128 NB138_195 NB195_138 NB148_195 NB195_148 NB159_195 NB195_159 NB174_195 NB195_174 NB185_195 NB195_185; clear hb hbox hg; have hnb417 := NB195_117.out; have hnc417 := NB117_195.out; have hnb418 := NB195_118.out; have hnc418 := NB118_195.out; have hnb419 := NB195_128.out; have hnc419 := NB128_195.out; have hnb420 := NB195_138.out; have hnc420 := NB138_195.out; have hnb421 := NB195_148.out; have hnc421 := NB148_195.out; have hnb422 := NB195_159.out; have hnc422 := NB159_195.out; have hnb423 := NB195_174.out; have hnc423 := NB174_195.out; have hnb424 := NB195_185.out; have hnc424 := NB185_195.out; obtain ⟨hcz425_0, hcz425_1, hcz425_2, hcz425_3, hcz425_4, hcz425_5, hfz425_0, hfz425_1, hfz425_2, hfz425_3, hfz425_4, hfz425_5⟩ := cellsZ6 BK195.out; obtain ⟨Ao426, co426, eo426⟩ := Kd.R_slice HO192.out; subst eo426; have hnb427 := NB117_138.out; have hnc427 := NB138_117.out; have hnb428 := NB117_148.out; have hnc428 := NB148_117.out; have hnb429 := NB117_174.out; have hnc429 := NB174_117.out; obtain ⟨hcz430_0, hcz430_1, hcz430_2, hcz430_3, hcz430_4, hcz430_5, hfz430_0, hfz430_1, hfz430_2, hfz430_3, hfz430_4, hfz430_5⟩ := cellsZ6 BK117.out) | ((with_reducible refine gate_callee (f := 27) rfl ?_); refine goesL_ (some 116) rfl rfl Try.func27 (by kernel_rfl) rfl #[.agg #[.int .i64 t101, .int .i64 t102, .int .i64 t103, .int .i64 t104, .slice Ao14 t105.length co14, .bool t108], .agg #[.int .i64 t186, .int .i64 t187, .int .i64 t188, .int .i64 t189, .slice Ao426 t190.length co426, .bool t193]] rfl zee81 ?_; (with_reducible refine (impl_JoinAggs.calls kj91 t101 t102 t103 t104 _ _ t105 t108 t186 t187 t188 t189 _ _ t190 t193 t196 t197 t198 t199 t200 t203 t204 _ ?side1 ?side2 ?side3 ?side4 A135.out).mono ?_); (case side1 => refine (Kd.Q_reads' (e := 3) (base := w.heap.size) (ok := fun k_ => (((some k_ ≠ (.slice Ao16 t113.length co16 : Value).ownBlock ∧ (some k_ ≠ (.slice Ao22 t123.length co22 : Value).ownBlock ∧ (some k_ ≠ (.slice Ao31 t133.length co31 : Value).ownBlock ∧ (some k_ ≠ (.slice Ao41 t143.length co41 : Value).ownBlock ∧ (some k_ ≠ (.slice Ao101 t155.length co101 : Value).ownBlock ∧ some k_ ≠ (.slice Ao115 t169.length co115 : Value).ownBlock))))) ∧ some k_ ≠ (.slice Ao408 t180.length co408 : Value).ownBlock) ∧ some k_ ≠ (.slice Ao426 t190.length co426 : Value).ownBlock)) (n := t105.length) (c := co14) ?_).2.2; exact (kZ (qF6 HO_118004.out BK195.out))); (case side2 => exact (Kd.Q_reads' HO_118004.out).2.1); (case side3 => refine (Kd.R_reads' (e := 3) (base := w.heap.size) (ok := fun k_ => ((((((((True ∧ some k_ ≠ (.slice Ao14 t105.length co14 : Value).ownBlock) ∧ some k_ ≠ (.slice Ao16 t113.length co16 : Value).ownBlock) ∧ some k_ ≠ (.slice Ao22 t123.length co22 : Value).ownBlock) ∧ some k_ ≠ (.slice Ao31 t133.length co31 : Value).ownBlock) ∧ some k_ ≠ (.slice Ao41 t143.length co41 : Value).ownBlock) ∧ some k_ ≠ (.slice Ao101 t155.length co101 : Value).ownBlock) ∧ some k_ ≠ (.slice Ao115 t169.length co115 : Value).ownBlock) ∧ some k_ ≠ (.slice Ao408 t180.length co408 : Value).ownBlock)) (n := t190.length) (c := co426) ?_).2.2; exact (rZ (rF6 HO192.out BK195.out))); (case side4 => exact (Kd.R_reads' HO192.out).2.1); rintro e w431 ⟨v201, rfl, ho0, hb⟩; refine ⟨_, rfl, ?_⟩; have _ := aM (Kd.Q_elder' (kZ (qF6 HO_118004.out BK195.out)) (Kd.R_base ho0) hb); have _ := aM (Kd.Q_elder' (kZ (qF6 HO_119004.out BK195.out)) (Kd.R_base ho0) hb); have _ := aM (Kd.Q_elder' (kZ (qF6 HO_129004.out BK195.out)) (Kd.R_base ho0) hb); have _ := aM (Kd.Q_elder' (kZ (qF6 HO_139004.out BK195.out)) (Kd.R_base ho0) hb); have _ := aM (Kd.Q_elder' (kZ (qF6 HO_149004.out BK195.out)) (Kd.R_base ho0) hb); have _ := aM (Kd.Q_elder' (kZ (qF6 HO_160004.out BK195.out)) (Kd.R_base ho0) hb); have _ := aM (Kd.Q_elder' (kZ (qF6 HO_175004.out BK195.out)) (Kd.R_base ho0) hb); have _ := aM (Kd.R_elder' (rZ (rF6 HO182.out BK195.out)) (Kd.R_base ho0) hb); have _ := aM (Kd.R_elder' (rZ (rF6 HO192.out BK195.out)) (Kd.R_base ho0) hb); have _ := aM (Kd.R_lower (Kd.R_new' (Kd.R_new' (Kd.R_new' (Kd.R_new' (Kd.R_new' (Kd.R_new' (Kd.R_new' (Kd.R_new' (Kd.R_new' ho0 (Kd.Q_lt (kZ (qF6 HO_118004.out BK195.out)))) (Kd.Q_lt (kZ (qF6 HO_119004.out BK195.out)))) (Kd.Q_lt (kZ (qF6 HO_129004.out BK195.out)))) (Kd.Q_lt (kZ (qF6 HO_139004.out BK195.out)))) (Kd.Q_lt (kZ (qF6 HO_149004.out BK195.out)))) (Kd.Q_lt (kZ (qF6 HO_160004.out BK195.out)))) (Kd.Q_lt (kZ (qF6 HO_175004.out BK195.out)))) (Kd.R_lt (rZ (rF6 HO182.out BK195.out)))) (Kd.R_lt (rZ (rF6 HO192.out BK195.out)))) (below_size hbZ)); have _ := bB gb117 hb; have _ := bB gb118 hb; have _ := bB gb128 hb; have _ := bB gb138 hb; have _ := bB gb148 hb; have _ := bB gb159 hb; have _ := bB gb174 hb; have _ := bB gb185 hb; have _ := aM (blk_below (g := gb195) (o := .cells #[.int .i64 t186, .int .i64 t187, .int .i64 t188, .int .i64 t189, .slice Ao426 t190.length co426, .bool t193] 54 (0, 0)) bkZ hb); have _ := aM (below_step hbZ hb); clear HO_118004 HO_119004 HO_129004 HO_139004 HO_149004 HO_160004 HO_175004 HO182 HO192 BK117 BK118 BK128 BK138 BK148 BK159 BK174 BK185 BK195 HB; rename_i HO_118004 HO_119004 HO_129004 HO_139004 HO_149004 HO_160004 HO_175004 HO182 HO192 HO202 BK117 BK118 BK128 BK138 BK148 BK159 BK174 BK185 BK195 HB; (try clear hb); (try clear ho0)) | ((with_reducible refine gate_dst (N := 22) rfl ?_); refine box_event ?hg (N := 22) ?hd (cs := #[.int .i64 0, .int .i64 0, .int .i64 0, .int .i64 0, .slice none 0 0, .bool false]) (t := 54) ?hr ?_; (case hd => rfl); (case hg => rfl); (case hr => first | (go_simp; done) | (go_simp; rfl)); intro gb205 hg w432 hbox hb; have _ := aM (Kd.Q_below (kZ HO_118004.out) hb); have _ := aM (Kd.Q_below (kZ HO_119004.out) hb); have _ := aM (Kd.Q_below (kZ HO_129004.out) hb); have _ := aM (Kd.Q_below (kZ HO_139004.out) hb); have _ := aM (Kd.Q_below (kZ HO_149004.out) hb); have _ := aM (Kd.Q_below (kZ HO_160004.out) hb); have _ := aM (Kd.Q_below (kZ HO_175004.out) hb); have _ := aM (Kd.R_below (rZ HO182.out) hb); have _ := aM (Kd.R_below (rZ HO192.out) hb); have _ := aM (Kd.R_below (rZ HO202.out) hb); have _ := bB gb117 hb; have _ := bB gb118 hb; have _ := bB gb128 hb; have _ := bB gb138 hb; have _ := bB gb148 hb; have _ := bB gb159 hb; have _ := bB gb174 hb; have _ := bB gb185 hb; have _ := bB gb195 hb; have _ := aM (below_step hbZ hb); have _ := aM hbox; have _ := szZ hg; have _ := szZ hg; have ⟨_, _⟩ := nbB gb117 hg; have ⟨_, _⟩ := nbB gb118 hg; have ⟨_, _⟩ := nbB gb128 hg; have ⟨_, _⟩ := nbB gb138 hg; have ⟨_, _⟩ := nbB gb148 hg; have ⟨_, _⟩ := nbB gb159 hg; have ⟨_, _⟩ := nbB gb174 hg; have ⟨_, _⟩ := nbB gb185 hg; have ⟨_, _⟩ := nbB gb195 hg; clear HO_118004 HO_119004 HO_129004 HO_139004 HO_149004 HO_160004 HO_175004 HO182 HO192 HO202 BK117 BK118 BK128 BK138 BK148 BK159 BK174 BK185 BK195 HB; rename_i HO_118004 HO_119004 HO_129004 HO_139004 HO_149004 HO_160004 HO_175004 HO182 HO192 HO202 BK117 BK118 BK128 BK138 BK148 BK159 BK174 BK185 BK195 HB BK205 GW205 GE205 NB117_205 NB205_117 NB118_205 NB205_118 NB128_205 NB205_128 NB138_205 NB205_138 NB148_205 NB205_148 NB159_205 NB205_159 NB174_205 NB205_174 NB185_205 NB205_185 NB195_205 NB205_195; clear hb hbox hg; have hnb433 := NB205_117.out; have hnc433 := NB117_205.out; have hnb434 := NB205_118.out; have hnc434 := NB118_205.out; have hnb435 := NB205_128.out; have hnc435 := NB128_205.out; have hnb436 := NB205_138.out; have hnc436 := NB138_205.out; have hnb437 := NB205_148.out; have hnc437 := NB148_205.out; have hnb438 := NB205_159.out; have hnc438 := NB159_205.out; have hnb439 := NB205_174.out; have hnc439 := NB174_205.out; have hnb440 := NB205_185.out; have hnc440 := NB185_205.out; have hnb441 := NB205_195.out; have hnc441 := NB195_205.out; obtain ⟨hcz442_0, hcz442_1, hcz442_2, hcz442_3, hcz442_4, hcz442_5, hfz442_0, hfz442_1, hfz442_2, hfz442_3, hfz442_4, hfz442_5⟩ := cellsZ6 BK205.out; obtain ⟨Ao443, co443, eo443⟩ := Kd.R_slice HO202.out; subst eo443))
                   go_ret
                   exact ⟨z674d, zcb41⟩
           · replace c90 := Bool.eq_false_iff.mpr c90
             subst c90
             have H1 : (some true) = some r := by rw [if_neg (show ¬ (false = true) by decide)] at H; exact H
             clear H
             have H := H1
             clear H1
             obtain rfl := Option.some.inj H
             go_wp2_with (first | ((with_reducible refine gate_callee (f := 30) rfl ?_); refine goesL_ (some 76) rfl rfl Try.func30 (by kernel_rfl) rfl #[.slice A1 l1.length c1] rfl zee81 ?_; (with_reducible refine (spec_DrawAggBytes.calls kj7 _ _ l1 t151 t152 t153 t154 t155 t158 _ ?side1 ?side2 A74.out).mono ?_); (case side1 => exact (cZ (Kd.C_below HR1.out HB.out))); (case side2 => exact HC1.out); rintro e w444 ⟨v156, rfl, ho0, hb⟩; refine ⟨_, rfl, ?_⟩; have _ := aM (Kd.Q_elder' (kZ HO_118004.out) (Kd.Q_base ho0) hb); have _ := aM (Kd.Q_elder' (kZ HO_119004.out) (Kd.Q_base ho0) hb); have _ := aM (Kd.Q_elder' (kZ HO_129004.out) (Kd.Q_base ho0) hb); have _ := aM (Kd.Q_elder' (kZ HO_139004.out) (Kd.Q_base ho0) hb); have _ := aM (Kd.Q_elder' (kZ HO_149004.out) (Kd.Q_base ho0) hb); have _ := aM (Kd.Q_lower (Kd.Q_new' (Kd.Q_new' (Kd.Q_new' (Kd.Q_new' (Kd.Q_new' ho0 (Kd.Q_lt (kZ HO_118004.out))) (Kd.Q_lt (kZ HO_119004.out))) (Kd.Q_lt (kZ HO_129004.out))) (Kd.Q_lt (kZ HO_139004.out))) (Kd.Q_lt (kZ HO_149004.out))) (below_size hbZ)); have _ := bB gb117 hb; have _ := bB gb118 hb; have _ := bB gb128 hb; have _ := bB gb138 hb; have _ := bB gb148 hb; have _ := aM (below_step hbZ hb); clear HO_118004 HO_119004 HO_129004 HO_139004 HO_149004 BK117 BK118 BK128 BK138 BK148 HB; rename_i HO_118004 HO_119004 HO_129004 HO_139004 HO_149004 HO157 BK117 BK118 BK128 BK138 BK148 HB; (try clear hb); (try clear ho0)) | ((with_reducible refine gate_dst (N := 13) rfl ?_); refine box_event ?hg (N := 13) ?hd (cs := #[.int .i64 0, .int .i64 0, .int .i64 0, .int .i64 0, .slice none 0 0, .bool false]) (t := 54) ?hr ?_; (case hd => rfl); (case hg => rfl); (case hr => first | (go_simp; done) | (go_simp; rfl)); intro gb159 hg w445 hbox hb; have _ := aM (Kd.Q_below (kZ HO_118004.out) hb); have _ := aM (Kd.Q_below (kZ HO_119004.out) hb); have _ := aM (Kd.Q_below (kZ HO_129004.out) hb); have _ := aM (Kd.Q_below (kZ HO_139004.out) hb); have _ := aM (Kd.Q_below (kZ HO_149004.out) hb); have _ := aM (Kd.Q_below (kZ HO157.out) hb); have _ := bB gb117 hb; have _ := bB gb118 hb; have _ := bB gb128 hb; have _ := bB gb138 hb; have _ := bB gb148 hb; have _ := aM (below_step hbZ hb); have _ := aM hbox; have _ := szZ hg; have _ := szZ hg; have ⟨_, _⟩ := nbB gb117 hg; have ⟨_, _⟩ := nbB gb118 hg; have ⟨_, _⟩ := nbB gb128 hg; have ⟨_, _⟩ := nbB gb138 hg; have ⟨_, _⟩ := nbB gb148 hg; clear HO_118004 HO_119004 HO_129004 HO_139004 HO_149004 HO157 BK117 BK118 BK128 BK138 BK148 HB; rename_i HO_118004 HO_119004 HO_129004 HO_139004 HO_149004 HO157 BK117 BK118 BK128 BK138 BK148 HB BK159 GW159 GE159 NB117_159 NB159_117 NB118_159 NB159_118 NB128_159 NB159_128 NB138_159 NB159_138 NB148_159 NB159_148; clear hb hbox hg; have hnb446 := NB159_117.out; have hnc446 := NB117_159.out; have hnb447 := NB159_118.out; have hnc447 := NB118_159.out; have hnb448 := NB159_128.out; have hnc448 := NB128_159.out; have hnb449 := NB159_138.out; have hnc449 := NB138_159.out; have hnb450 := NB159_148.out; have hnc450 := NB148_159.out; obtain ⟨hcz451_0, hcz451_1, hcz451_2, hcz451_3, hcz451_4, hcz451_5, hfz451_0, hfz451_1, hfz451_2, hfz451_3, hfz451_4, hfz451_5⟩ := cellsZ6 BK159.out; obtain ⟨Ao452, co452, eo452, _⟩ := Kd.Q_slice HO157.out; subst eo452) | ((with_reducible refine gate_callee (f := 31) rfl ?_); refine goesL_ (some 79) rfl rfl Try.func31 (by kernel_rfl) rfl #[.agg #[.int .i64 t151, .int .i64 t152, .int .i64 t153, .int .i64 t154, .slice Ao452 t155.length co452, .bool t158]] rfl zee81 ?_; (with_reducible refine (impl_AggBytes.calls kj7 t151 t152 t153 t154 _ _ t155 t158 t160 false _ ?side1 ?side2 A75.out).mono ?_); (case side1 => refine (Kd.Q_reads' (e := 3) (base := w.heap.size) (ok := fun k_ => (((((True ∧ some k_ ≠ (.slice Ao14 t105.length co14 : Value).ownBlock) ∧ some k_ ≠ (.slice Ao16 t113.length co16 : Value).ownBlock) ∧ some k_ ≠ (.slice Ao22 t123.length co22 : Value).ownBlock) ∧ some k_ ≠ (.slice Ao31 t133.length co31 : Value).ownBlock) ∧ some k_ ≠ (.slice Ao41 t143.length co41 : Value).ownBlock)) (n := t155.length) (c := co452) ?_).2.2; exact (kZ (qF6 HO157.out BK159.out))); (case side2 => exact (Kd.Q_reads' HO157.out).2.1); rintro e w453 ⟨v161, rfl, ho0, hb⟩; refine ⟨_, rfl, ?_⟩; have _ := aM (Kd.Q_below (kZ (qF6 HO_118004.out BK159.out)) hb); have _ := aM (Kd.Q_below (kZ (qF6 HO_119004.out BK159.out)) hb); have _ := aM (Kd.Q_below (kZ (qF6 HO_129004.out BK159.out)) hb); have _ := aM (Kd.Q_below (kZ (qF6 HO_139004.out BK159.out)) hb); have _ := aM (Kd.Q_below (kZ (qF6 HO_149004.out BK159.out)) hb); have _ := aM (Kd.Q_below (kZ (qF6 HO157.out BK159.out)) hb); have _ := aM (Kd.R_lower ho0 (below_size hbZ)); have _ := bB gb117 hb; have _ := bB gb118 hb; have _ := bB gb128 hb; have _ := bB gb138 hb; have _ := bB gb148 hb; have _ := aM (blk_below (g := gb159) (o := .cells #[.int .i64 t151, .int .i64 t152, .int .i64 t153, .int .i64 t154, .slice Ao452 t155.length co452, .bool t158] 54 (0, 0)) bkZ hb); have _ := aM (below_step hbZ hb); clear HO_118004 HO_119004 HO_129004 HO_139004 HO_149004 HO157 BK117 BK118 BK128 BK138 BK148 BK159 HB; rename_i HO_118004 HO_119004 HO_129004 HO_139004 HO_149004 HO157 HO162 BK117 BK118 BK128 BK138 BK148 BK159 HB; (try clear hb); (try clear ho0); obtain ⟨hcz454_0, hcz454_1, hcz454_2, hcz454_3, hcz454_4, hcz454_5, hfz454_0, hfz454_1, hfz454_2, hfz454_3, hfz454_4, hfz454_5⟩ := cellsZ6 BK159.out) | ((with_reducible refine gate_callee (f := 32) rfl ?_); refine goesL_ (some 84) rfl rfl Try.func32 (by kernel_rfl) rfl #[.agg #[.int .i64 t151, .int .i64 t152, .int .i64 t153, .int .i64 t154, .slice Ao452 t155.length co452, .bool t158]] rfl zee81 ?_; (with_reducible refine (spec_GoodAgg.calls kj7 t151 t152 t153 t154 _ _ t155 t158 t164 _ ?side1 ?side2 A76.out).mono ?_); (case side1 => exact (by repeat (first | exact (Kd.Q_reads' HO157.out).2.2 | (with_reducible refine Kd.C_alloc ?_ _) | (with_reducible refine Kd.C_drewN ?_ _) | (with_reducible refine Kd.C_drew ?_)))); (case side2 => exact (Kd.Q_reads' HO157.out).2.1); rintro e w455 ⟨rfl, hb⟩; refine ⟨_, rfl, ?_⟩; have _ := aM (Kd.Q_below (kZ HO_118004.out) hb); have _ := aM (Kd.Q_below (kZ HO_119004.out) hb); have _ := aM (Kd.Q_below (kZ HO_129004.out) hb); have _ := aM (Kd.Q_below (kZ HO_139004.out) hb); have _ := aM (Kd.Q_below (kZ HO_149004.out) hb); have _ := aM (Kd.Q_below (kZ HO157.out) hb); have _ := aM (Kd.R_below (rZ HO162.out) hb); have _ := bB gb117 hb; have _ := bB gb118 hb; have _ := bB gb128 hb; have _ := bB gb138 hb; have _ := bB gb148 hb; have _ := bB gb159 hb; have _ := aM (below_step hbZ hb); clear HO_118004 HO_119004 HO_129004 HO_139004 HO_149004 HO157 HO162 BK117 BK118 BK128 BK138 BK148 BK159 HB; rename_i HO_118004 HO_119004 HO_129004 HO_139004 HO_149004 HO157 HO162 BK117 BK118 BK128 BK138 BK148 BK159 HB; (try clear hb)))
             go_ret
             exact ⟨z674d, zcb41⟩
       · replace c73 := Bool.eq_false_iff.mpr c73
         subst c73
         have H1 : (some true) = some r := by rw [if_neg (show ¬ (false = true) by decide)] at H; exact H
         clear H
         have H := H1
         clear H1
         obtain rfl := Option.some.inj H
         go_wp2
         go_ret
         exact ⟨z674d, zcb41⟩

/-- THE ONE PURE STATEMENT of laws_FnSums: yours. -/
def laws_FnSums.Pure : Prop := ∀ (l0 : List Int) (l1 : List Int), l0.length ≤ maxLen → l0.length * 1 ≤ 140737488351232 → (∀ x ∈ l0, (Lit.int .u8 x).wf = true) → l1.length ≤ maxLen → l1.length * 1 ≤ 140737488351232 → (∀ x ∈ l1, (Lit.int .u8 x).wf = true) → ∃ k, laws_FnSums.f k l0 l1 = some true
theorem laws_FnSums.walk (P : laws_FnSums.Pure) (a0 : Option Addr) (len0 cap0 : Nat) (z0 : List Int) (a1 : Option Addr) (len1 cap1 : Nat) (z1 : List Int) (w : World) (w0 : (a0 = none ∧ len0 = 0 ∧ cap0 = 0 ∧ z0 = []) ∨ ∃ x, a0 = some x ∧ len0 ≤ cap0 ∧ cap0 ≤ maxLen ∧ z0.length = cap0 ∧ (∀ i, i < z0.length → w.cell? (x.add i) = some (.int .u8 (z0.getD i 0))) ∧ ∀ n ∈ z0, (Lit.int .u8 n).wf = true) (y0 : len0 * 1 ≤ 140737488351232) (w1 : (a1 = none ∧ len1 = 0 ∧ cap1 = 0 ∧ z1 = []) ∨ ∃ x, a1 = some x ∧ len1 ≤ cap1 ∧ cap1 ≤ maxLen ∧ z1.length = cap1 ∧ (∀ i, i < z1.length → w.cell? (x.add i) = some (.int .u8 (z1.getD i 0))) ∧ ∀ n ∈ z1, (Lit.int .u8 n).wf = true) (y1 : len1 * 1 ≤ 140737488351232) :
 Calls Try.prog 6 #[.slice a0 len0 cap0, .slice a1 len1 cap1] w fun e w' => e = .returned (.bool true) ∧ Below w.heap.size w w' := by
 obtain ⟨l0, rfl, hr0, hm0, hw0, hc0⟩ := ReadsInt.ofRowC w0
 obtain ⟨l1, rfl, hr1, hm1, hw1, hc1⟩ := ReadsInt.ofRowC w1
 obtain ⟨k, h⟩ := P l0 l1 hm0 y0 hw0 hm1 y1 hw1
 refine (laws_FnSums.calls k _ _ l0 _ _ l1 true w (Kd.C_of_reads (d := (0 : Int)) (h1 := fun _ => rfl) hr0) hc0 (Kd.C_of_reads (d := (0 : Int)) (h1 := fun _ => rfl) hr1) hc1 h).mono ?_
 rintro e w' ⟨rfl, hd⟩
 exact ⟨rfl, hd⟩

end Go.Proofs.Ythliooccgclbjaa.P

namespace Go.Proofs.Ythliooccgclbjaa.Lem
open Go.RowKit Go.Proofs.YthliooccgclbjaaW.PrintWords Go.Proofs.YthliooccgclbjaaW.PrintLast Go.Proofs.YthliooccgclbjaaW.PrintMore

theorem w64 {x : Int} (h0 : -9223372036854775808 ≤ x) (h1 : x < 9223372036854775808) : wrap64 x = x := by
  unfold wrap64; omega
theorem wu64 {x : Int} (h0 : 0 ≤ x) (h1 : x < 18446744073709551616) : IntKind.u64.wrap x = x := by
  rw [IntKind.wrap_u64]; omega
theorem wu64_lo (x : Int) : 0 ≤ IntKind.u64.wrap x := by rw [IntKind.wrap_u64]; omega
theorem wu64_hi (x : Int) : IntKind.u64.wrap x < 18446744073709551616 := by rw [IntKind.wrap_u64]; omega

/-- A list of bytes. -/
def Bytes (l : List Int) : Prop := ∀ x ∈ l, 0 ≤ x ∧ x < 256

theorem Bytes.of_wf {l : List Int} (h : ∀ x ∈ l, (Lit.int .u8 x).wf = true) : Bytes l := by
  intro x hx
  have := h x hx
  simp [Lit.wf, IntKind.min, IntKind.max, IntKind.signed, IntKind.bits] at this
  omega
theorem Bytes.append {a b : List Int} (ha : Bytes a) (hb : Bytes b) : Bytes (a ++ b) := by
  intro x hx
  rcases List.mem_append.1 hx with h | h
  · exact ha x h
  · exact hb x h
theorem Bytes.nil : Bytes [] := fun x hx => by simp at hx
theorem Bytes.cons {x : Int} {l : List Int} (h0 : 0 ≤ x) (h1 : x < 256) (hl : Bytes l) : Bytes (x :: l) := by
  intro y hy
  rcases List.mem_cons.1 hy with rfl | h
  · exact ⟨h0, h1⟩
  · exact hl y h
theorem Bytes.rd {l : List Int} (h : Bytes l) (i : Int) : 0 ≤ rd l i ∧ rd l i < 256 := by
  unfold Go.Proofs.YthliooccgclbjaaW.PrintWords.rd
  rcases Nat.lt_or_ge i.toNat l.length with hl | hl
  · rw [List.getD_eq_getElem?_getD, List.getElem?_eq_getElem hl]
    exact h _ (List.getElem_mem hl)
  · rw [List.getD_eq_getElem?_getD, List.getElem?_eq_none hl]
    simp
theorem Bytes.take {l : List Int} (h : Bytes l) (n : Nat) : Bytes (l.take n) := fun x hx => h x (List.mem_of_mem_take hx)
theorem Bytes.drop {l : List Int} (h : Bytes l) (n : Nat) : Bytes (l.drop n) := fun x hx => h x (List.mem_of_mem_drop hx)

theorem and255 {x : Int} (h0 : 0 ≤ x) (h1 : x < 18446744073709551616) : 0 ≤ Go.bits .and .u64 x 255 ∧ Go.bits .and .u64 x 255 < 256 := by
  rw [u64_and x 255 h0 h1 (by decide) (by decide)]
  have : x.toNat &&& (255 : Int).toNat ≤ (255 : Int).toNat := Nat.and_le_right
  have e : (255 : Int).toNat = 255 := rfl
  omega

theorem shr_lo {k : IntKind} {x y : Int} (h : 0 ≤ x) : 0 ≤ shr k x y := by
  unfold shr
  exact Int.ediv_nonneg h (Int.le_of_lt (Int.pow_pos (by decide)))
theorem shr_hi {k : IntKind} {x y B : Int} (h : 0 ≤ x) (h1 : x < B) : shr k x y < B := by
  unfold shr
  have : x / 2 ^ min y.toNat k.bits ≤ x := Int.ediv_le_self _ h
  omega

end Go.Proofs.Ythliooccgclbjaa.Lem

/- Aggs: when one is good, and how two are joined; joining is the same in any order and any brackets. No program in sight. -/
namespace Go.Proofs.Ythliooccgclbjaa.Lem
open Go.RowKit Go.Proofs.YthliooccgclbjaaW.PrintWords Go.Proofs.YthliooccgclbjaaW.PrintLast Go.Proofs.YthliooccgclbjaaW.PrintMore

/-- An agg. -/
structure Ag where
  c : Int
  s : Int
  mi : Int
  ma : Int
  h : List Int
  f : Bool

/-- A number, capped. -/
def cap (x : Int) : Int := if x > 1000000000 then 1000000000 else x
theorem cap_le (x : Int) : cap x ≤ 1000000000 := by unfold cap; split <;> omega
theorem cap_of {x : Int} (h : x ≤ 1000000000) : cap x = x := by unfold cap; rw [if_neg (by omega)]
theorem cap_nonneg {x : Int} (h : 0 ≤ x) : 0 ≤ cap x := by unfold cap; split <;> omega
theorem cap_cap (x y : Int) (h0 : 0 ≤ y) : cap (cap x + y) = cap (x + y) := by unfold cap; split <;> split <;> omega
theorem cap_cap' (x y : Int) (h0 : 0 ≤ x) : cap (x + cap y) = cap (x + y) := by unfold cap; split <;> split <;> omega
theorem cap_over (x y : Int) (h0 : 0 ≤ y) : (decide (x > 1000000000) || decide (cap x + y > 1000000000)) = decide (x + y > 1000000000) := by
  unfold cap
  by_cases h : x > 1000000000
  · rw [decide_eq_true h, Bool.true_or, decide_eq_true (by omega)]
  · rw [decide_eq_false h, Bool.false_or, if_neg h]
theorem cap_over' (x y : Int) (h0 : 0 ≤ x) : (decide (y > 1000000000) || decide (x + cap y > 1000000000)) = decide (x + y > 1000000000) := by
  rw [Int.add_comm x (cap y), Int.add_comm x y]
  exact cap_over y x h0

/-- Two lists' sums, capped; whether one is over. -/
def addH : List Int → List Int → List Int
  | x :: xs, y :: ys => cap (x + y) :: addH xs ys
  | _, _ => []
def overH : List Int → List Int → Bool
  | x :: xs, y :: ys => decide (x + y > 1000000000) || overH xs ys
  | _, _ => false

/-- Numbers of a histogram. -/
def Nums (l : List Int) : Prop := ∀ x ∈ l, 0 ≤ x ∧ x ≤ 1000000000
theorem Nums.tail {x : Int} {l : List Int} (h : Nums (x :: l)) : Nums l := fun y hy => h y (List.mem_cons_of_mem _ hy)
theorem Nums.head {x : Int} {l : List Int} (h : Nums (x :: l)) : 0 ≤ x ∧ x ≤ 1000000000 := h x (List.mem_cons_self ..)
theorem Nums.cons {x : Int} {l : List Int} (h0 : 0 ≤ x) (h1 : x ≤ 1000000000) (h : Nums l) : Nums (x :: l) := by
  intro y hy
  rcases List.mem_cons.1 hy with rfl | h'
  · exact ⟨h0, h1⟩
  · exact h y h'

theorem addH_comm : ∀ a b, addH a b = addH b a
  | [], [] => rfl
  | [], _ :: _ => rfl
  | _ :: _, [] => rfl
  | x :: xs, y :: ys => by simp only [addH]; rw [addH_comm xs ys, Int.add_comm]
theorem overH_comm : ∀ a b, overH a b = overH b a
  | [], [] => rfl
  | [], _ :: _ => rfl
  | _ :: _, [] => rfl
  | x :: xs, y :: ys => by simp only [overH]; rw [overH_comm xs ys, Int.add_comm]
theorem addH_length : ∀ {a b : List Int}, a.length = b.length → (addH a b).length = a.length
  | [], [], _ => rfl
  | [], _ :: _, h => by simp at h
  | _ :: _, [], h => by simp at h
  | x :: xs, y :: ys, h => by simp only [addH, List.length_cons]; rw [addH_length (by simpa using h)]
theorem addH_nums : ∀ {a b : List Int}, Nums a → Nums b → Nums (addH a b)
  | [], _, _, _ => fun _ h => by simp [addH] at h
  | _ :: _, [], _, _ => fun _ h => by simp [addH] at h
  | x :: xs, y :: ys, ha, hb => Nums.cons (cap_nonneg (by have := ha.head; have := hb.head; omega)) (cap_le _) (addH_nums ha.tail hb.tail)
theorem addH_assoc : ∀ {a b c : List Int}, Nums a → Nums b → Nums c → addH (addH a b) c = addH a (addH b c)
  | [], _, _, _, _, _ => by simp [addH]
  | _ :: _, [], _, _, _, _ => by simp [addH]
  | _ :: _, _ :: _, [], _, _, _ => by simp [addH]
  | x :: xs, y :: ys, z :: zs, ha, hb, hc => by
    have := ha.head; have := hb.head; have := hc.head
    simp only [addH]
    rw [addH_assoc ha.tail hb.tail hc.tail, cap_cap _ _ (by omega), cap_cap' _ _ (by omega), Int.add_assoc]
theorem overH_assoc : ∀ {a b c : List Int}, a.length = b.length → b.length = c.length → Nums a → Nums b → Nums c → (overH a b || overH (addH a b) c) = (overH b c || overH a (addH b c))
  | [], [], [], _, _, _, _, _ => by simp [addH, overH]
  | [], _ :: _, _, h, _, _, _, _ => by simp at h
  | _ :: _, [], _, h, _, _, _, _ => by simp at h
  | _, [], _ :: _, _, h, _, _, _ => by simp at h
  | _, _ :: _, [], _, h, _, _, _ => by simp at h
  | x :: xs, y :: ys, z :: zs, h1, h2, ha, hb, hc => by
    have := ha.head; have := hb.head; have := hc.head
    simp only [addH, overH]
    have ih := overH_assoc (by simpa using h1) (by simpa using h2) ha.tail hb.tail hc.tail
    have e1 := cap_over (x + y) z (by omega)
    have e2 := cap_over' x (y + z) (by omega)
    rw [← Int.add_assoc] at e2
    generalize decide (x + y > 1000000000) = p at *
    generalize decide (cap (x + y) + z > 1000000000) = q at *
    generalize decide (y + z > 1000000000) = r at *
    generalize decide (x + cap (y + z) > 1000000000) = t at *
    generalize overH xs ys = u at *
    generalize overH (addH xs ys) zs = v at *
    generalize overH ys zs = m at *
    generalize overH xs (addH ys zs) = n at *
    rw [← e2] at e1
    revert e1 ih
    cases p <;> cases q <;> cases r <;> cases t <;> cases u <;> cases v <;> cases m <;> cases n <;> decide
theorem addH_zero : ∀ {a b : List Int}, a.length = b.length → (∀ x ∈ a, x = 0) → Nums b → addH a b = b ∧ overH a b = false
  | [], [], _, _, _ => ⟨rfl, rfl⟩
  | [], _ :: _, h, _, _ => by simp at h
  | _ :: _, [], h, _, _ => by simp at h
  | x :: xs, y :: ys, h, h0, hb => by
    have hx : x = 0 := h0 x (List.mem_cons_self ..)
    have := hb.head
    obtain ⟨i1, i2⟩ := addH_zero (by simpa using h) (fun z hz => h0 z (List.mem_cons_of_mem _ hz)) hb.tail
    simp only [addH, overH]
    rw [i1, i2, hx, Int.zero_add, cap_of (by omega), decide_eq_false (by omega)]
    exact ⟨rfl, rfl⟩
theorem sum_addH : ∀ {a b : List Int}, a.length = b.length → overH a b = false → (addH a b).sum = a.sum + b.sum
  | [], [], _, _ => by simp [addH]
  | [], _ :: _, h, _ => by simp at h
  | _ :: _, [], h, _ => by simp at h
  | x :: xs, y :: ys, h, ho => by
    simp only [overH, Bool.or_eq_false_iff, decide_eq_false_iff_not] at ho
    have ih := sum_addH (a := xs) (b := ys) (by simpa using h) ho.2
    simp only [addH, List.sum_cons]
    rw [ih, cap_of (by omega)]
    omega
theorem Nums.sum_bound : ∀ {a : List Int}, Nums a → 0 ≤ a.sum ∧ a.sum ≤ 1000000000 * (a.length : Int)
  | [], _ => by simp
  | x :: xs, h => by
    have := h.head
    have ih := Nums.sum_bound h.tail
    simp only [List.sum_cons, List.length_cons]
    omega
theorem Nums.sum_zero : ∀ {a : List Int}, Nums a → a.sum = 0 → ∀ x ∈ a, x = 0
  | [], _, _ => by simp
  | x :: xs, h, hs => by
    have := h.head
    have ih := Nums.sum_bound h.tail
    simp only [List.sum_cons] at hs
    intro y hy
    rcases List.mem_cons.1 hy with rfl | h'
    · omega
    · exact Nums.sum_zero h.tail (by omega) y h'

/-- When an agg is good. -/
structure Good (a : Ag) : Prop where
  c0 : 0 ≤ a.c
  c1 : a.c ≤ 1000000000
  len : a.h.length = 8
  nums : Nums a.h
  full : a.f = true → a.s = 0
  notfull : a.f = false → a.h.sum = a.c ∧ -1000000000 * a.c ≤ a.s ∧ a.s ≤ 1000000000 * a.c
  zero : a.c = 0 → a.mi = 0 ∧ a.ma = 0 ∧ a.h.sum = 0 ∧ a.f = false
  some : a.c ≠ 0 → -1000000000 ≤ a.mi ∧ a.mi ≤ a.ma ∧ a.ma ≤ 1000000000

/-- Two aggs in one. -/
def join (a b : Ag) : Ag :=
  let f := a.f || b.f || decide (a.c + b.c > 1000000000) || overH a.h b.h
  { c := cap (a.c + b.c), s := if f then 0 else a.s + b.s,
    mi := if a.c = 0 then b.mi else if b.c = 0 then a.mi else mn a.mi b.mi,
    ma := if a.c = 0 then b.ma else if b.c = 0 then a.ma else mx a.ma b.ma,
    h := addH a.h b.h, f := f }

theorem Ag.ext' {a b : Ag} (h1 : a.c = b.c) (h2 : a.s = b.s) (h3 : a.mi = b.mi) (h4 : a.ma = b.ma) (h5 : a.h = b.h) (h6 : a.f = b.f) : a = b := by
  cases a; cases b; simp_all
theorem mn_comm (a b : Int) : mn a b = mn b a := by unfold mn; split <;> split <;> omega
theorem mx_comm (a b : Int) : mx a b = mx b a := by unfold mx; split <;> split <;> omega

theorem mn_assoc (a b c : Int) : mn (mn a b) c = mn a (mn b c) := by unfold mn; (repeat' split) <;> omega
theorem mx_assoc (a b c : Int) : mx (mx a b) c = mx a (mx b c) := by unfold mx; (repeat' split) <;> omega

theorem join_comm {a b : Ag} (ha : Good a) (hb : Good b) : join a b = join b a := by
  have hf : (a.f || b.f || decide (a.c + b.c > 1000000000) || overH a.h b.h) = (b.f || a.f || decide (b.c + a.c > 1000000000) || overH b.h a.h) := by
    rw [overH_comm, Int.add_comm, Bool.or_comm a.f b.f]
  unfold join
  apply Ag.ext'
  · show cap (a.c + b.c) = cap (b.c + a.c)
    rw [Int.add_comm]
  · simp only [hf, Int.add_comm]
  · simp only
    by_cases h1 : a.c = 0
    · by_cases h2 : b.c = 0
      · rw [if_pos h1, if_pos h2, (ha.zero h1).1, (hb.zero h2).1]
      · rw [if_pos h1, if_neg h2, if_pos h1]
    · by_cases h2 : b.c = 0
      · rw [if_neg h1, if_pos h2, if_pos h2]
      · rw [if_neg h1, if_neg h2, if_neg h2, if_neg h1, mn_comm]
  · simp only
    by_cases h1 : a.c = 0
    · by_cases h2 : b.c = 0
      · rw [if_pos h1, if_pos h2, (ha.zero h1).2.1, (hb.zero h2).2.1]
      · rw [if_pos h1, if_neg h2, if_pos h1]
    · by_cases h2 : b.c = 0
      · rw [if_neg h1, if_pos h2, if_pos h2]
      · rw [if_neg h1, if_neg h2, if_neg h2, if_neg h1, mx_comm]
  · exact addH_comm _ _
  · exact hf

theorem join_zero {a b : Ag} (ha : Good a) (hb : Good b) (h : a.c = 0) : join a b = b := by
  obtain ⟨_, _, z3, z4⟩ := ha.zero h
  obtain ⟨e1, e2⟩ := addH_zero (a := a.h) (b := b.h) (by rw [ha.len, hb.len]) (ha.nums.sum_zero z3) hb.nums
  have hc := hb.c1
  have hs : a.s = 0 := by
    have := ha.notfull z4
    rw [h] at this
    omega
  have hf : (a.f || b.f || decide (a.c + b.c > 1000000000) || overH a.h b.h) = b.f := by
    rw [z4, e2, h, Int.zero_add, decide_eq_false (by omega), Bool.false_or, Bool.or_false, Bool.or_false]
  unfold join
  apply Ag.ext'
  · show cap (a.c + b.c) = b.c
    rw [h, Int.zero_add, cap_of hc]
  · simp only [hf]
    by_cases hb' : b.f = true
    · rw [if_pos hb', hb.full hb']
    · rw [if_neg hb', hs, Int.zero_add]
  · simp only; rw [if_pos h]
  · simp only; rw [if_pos h]
  · exact e1
  · exact hf

theorem join_good {a b : Ag} (ha : Good a) (hb : Good b) : Good (join a b) := by
  have a0 := ha.c0; have a1 := ha.c1; have b0 := hb.c0; have b1 := hb.c1
  by_cases h1 : a.c = 0
  · rw [join_zero ha hb h1]; exact hb
  by_cases h2 : b.c = 0
  · rw [join_comm ha hb, join_zero hb ha h2]; exact ha
  have hcc : cap (a.c + b.c) ≠ 0 := by unfold cap; split <;> omega
  obtain ⟨am1, am2, am3⟩ := ha.some h1
  obtain ⟨bm1, bm2, bm3⟩ := hb.some h2
  have hlen : a.h.length = b.h.length := by rw [ha.len, hb.len]
  refine ⟨cap_nonneg (by omega), cap_le _, (addH_length hlen).trans ha.len, addH_nums ha.nums hb.nums, ?_, ?_, fun h => absurd h hcc, fun _ => ?_⟩
  · intro hf
    show (if (join a b).f = true then (0 : Int) else a.s + b.s) = 0
    rw [if_pos hf]
  · intro hf
    have hf' : (a.f || b.f || decide (a.c + b.c > 1000000000) || overH a.h b.h) = false := hf
    simp only [Bool.or_eq_false_iff, decide_eq_false_iff_not] at hf'
    obtain ⟨⟨⟨f1, f2⟩, f3⟩, f4⟩ := hf'
    obtain ⟨x1, x2, x3⟩ := ha.notfull f1
    obtain ⟨y1, y2, y3⟩ := hb.notfull f2
    have hc : (join a b).c = a.c + b.c := cap_of (by omega)
    have hs : (join a b).s = a.s + b.s := by
      show (if (join a b).f = true then (0 : Int) else a.s + b.s) = _
      rw [if_neg (by rw [hf]; decide)]
    rw [hc, hs]
    refine ⟨?_, by omega, by omega⟩
    show (addH a.h b.h).sum = _
    rw [sum_addH hlen f4, x1, y1]
  · show -1000000000 ≤ (if a.c = 0 then b.mi else if b.c = 0 then a.mi else mn a.mi b.mi) ∧ (if a.c = 0 then b.mi else if b.c = 0 then a.mi else mn a.mi b.mi) ≤ (if a.c = 0 then b.ma else if b.c = 0 then a.ma else mx a.ma b.ma) ∧ (if a.c = 0 then b.ma else if b.c = 0 then a.ma else mx a.ma b.ma) ≤ 1000000000
    rw [if_neg h1, if_neg h2, if_neg h1, if_neg h2]
    unfold mn mx
    split <;> split <;> omega

theorem join_assoc {a b c : Ag} (ha : Good a) (hb : Good b) (hc : Good c) : join (join a b) c = join a (join b c) := by
  have a0 := ha.c0; have a1 := ha.c1; have b0 := hb.c0; have b1 := hb.c1; have d0 := hc.c0; have d1 := hc.c1
  by_cases h1 : a.c = 0
  · rw [join_zero ha hb h1, join_zero ha (join_good hb hc) h1]
  by_cases h2 : b.c = 0
  · rw [join_comm ha hb, join_zero hb ha h2, join_zero hb hc h2]
  by_cases h3 : c.c = 0
  · rw [join_comm (join_good ha hb) hc, join_zero hc (join_good ha hb) h3, join_comm hb hc, join_zero hc hb h3]
  have n1 : cap (a.c + b.c) ≠ 0 := by unfold cap; split <;> omega
  have n2 : cap (b.c + c.c) ≠ 0 := by unfold cap; split <;> omega
  have l1 : a.h.length = b.h.length := by rw [ha.len, hb.len]
  have l2 : b.h.length = c.h.length := by rw [hb.len, hc.len]
  have hover := overH_assoc l1 l2 ha.nums hb.nums hc.nums
  have o1 := cap_over (a.c + b.c) c.c d0
  have o2 := cap_over' a.c (b.c + c.c) a0
  rw [← Int.add_assoc, ← o1] at o2
  have hf : (join (join a b) c).f = (join a (join b c)).f := by
    show ((a.f || b.f || decide (a.c + b.c > 1000000000) || overH a.h b.h) || c.f || decide (cap (a.c + b.c) + c.c > 1000000000) || overH (addH a.h b.h) c.h) = (a.f || (b.f || c.f || decide (b.c + c.c > 1000000000) || overH b.h c.h) || decide (a.c + cap (b.c + c.c) > 1000000000) || overH a.h (addH b.h c.h))
    generalize decide (a.c + b.c > 1000000000) = p at *
    generalize decide (cap (a.c + b.c) + c.c > 1000000000) = q at *
    generalize decide (b.c + c.c > 1000000000) = r at *
    generalize decide (a.c + cap (b.c + c.c) > 1000000000) = t at *
    generalize overH a.h b.h = u at *
    generalize overH (addH a.h b.h) c.h = v at *
    generalize overH b.h c.h = m at *
    generalize overH a.h (addH b.h c.h) = n at *
    generalize a.f = x
    generalize b.f = y
    generalize c.f = z
    clear ha hb hc a0 a1 b0 b1 d0 d1 h1 h2 h3 n1 n2 l1 l2 o1
    revert o2 hover
    cases p <;> cases q <;> cases r <;> cases t <;> cases u <;> cases v <;> cases m <;> cases n <;> simp <;> cases x <;> cases y <;> cases z <;> decide
  have hs : (join (join a b) c).s = (join a (join b c)).s := by
    by_cases hF : (join (join a b) c).f = true
    · have hG := hf ▸ hF
      show (if (join (join a b) c).f = true then (0 : Int) else (join a b).s + c.s) = (if (join a (join b c)).f = true then (0 : Int) else a.s + (join b c).s)
      rw [if_pos hF, if_pos hG]
    · have hG : ¬ (join a (join b c)).f = true := hf ▸ hF
      have e1 : (join a b).f = false := by
        have : ((join a b).f || c.f || decide (cap (a.c + b.c) + c.c > 1000000000) || overH (addH a.h b.h) c.h) = false := Bool.eq_false_iff.2 hF
        simp only [Bool.or_eq_false_iff] at this
        exact this.1.1.1
      have e2 : (join b c).f = false := by
        have : (a.f || (join b c).f || decide (a.c + cap (b.c + c.c) > 1000000000) || overH a.h (addH b.h c.h)) = false := Bool.eq_false_iff.2 hG
        simp only [Bool.or_eq_false_iff] at this
        exact this.1.1.2
      show (if (join (join a b) c).f = true then (0 : Int) else (if (join a b).f = true then (0 : Int) else a.s + b.s) + c.s) = (if (join a (join b c)).f = true then (0 : Int) else a.s + (if (join b c).f = true then (0 : Int) else b.s + c.s))
      rw [if_neg hF, if_neg hG, if_neg (by rw [e1]; decide), if_neg (by rw [e2]; decide), Int.add_assoc]
  apply Ag.ext'
  · show cap (cap (a.c + b.c) + c.c) = cap (a.c + cap (b.c + c.c))
    rw [cap_cap _ _ d0, cap_cap' _ _ a0, Int.add_assoc]
  · exact hs
  · show (if cap (a.c + b.c) = 0 then c.mi else if c.c = 0 then (join a b).mi else mn (if a.c = 0 then b.mi else if b.c = 0 then a.mi else mn a.mi b.mi) c.mi) = (if a.c = 0 then (join b c).mi else if cap (b.c + c.c) = 0 then a.mi else mn a.mi (if b.c = 0 then c.mi else if c.c = 0 then b.mi else mn b.mi c.mi))
    rw [if_neg n1, if_neg h3, if_neg h1, if_neg h2, if_neg h1, if_neg n2, if_neg h2, if_neg h3]
    exact mn_assoc _ _ _
  · show (if cap (a.c + b.c) = 0 then c.ma else if c.c = 0 then (join a b).ma else mx (if a.c = 0 then b.ma else if b.c = 0 then a.ma else mx a.ma b.ma) c.ma) = (if a.c = 0 then (join b c).ma else if cap (b.c + c.c) = 0 then a.ma else mx a.ma (if b.c = 0 then c.ma else if c.c = 0 then b.ma else mx b.ma c.ma))
    rw [if_neg n1, if_neg h3, if_neg h1, if_neg h2, if_neg h1, if_neg n2, if_neg h2, if_neg h3]
    exact mx_assoc _ _ _
  · exact addH_assoc ha.nums hb.nums hc.nums
  · exact hf

end Go.Proofs.Ythliooccgclbjaa.Lem

namespace Go.Proofs.Ythliooccgclbjaa.Lem
open Go.RowKit Go.Proofs.Ythliooccgclbjaa.P Go.Proofs.YthliooccgclbjaaW.PrintWords Go.Proofs.YthliooccgclbjaaW.PrintLast Go.Proofs.YthliooccgclbjaaW.PrintMore

/-- The bytes of a number in groups of seven bits. -/
def pvs (n : Nat) : List Int := if h : n < 128 then [(n : Int)] else ((n % 128 + 128 : Nat) : Int) :: pvs (n / 128)
termination_by n
decreasing_by omega

theorem pvs_small {n : Nat} (h : n < 128) : pvs n = [(n : Int)] := by rw [pvs, dif_pos h]
theorem pvs_big {n : Nat} (h : ¬ n < 128) : pvs n = ((n % 128 + 128 : Nat) : Int) :: pvs (n / 128) := by rw [pvs, dif_neg h]

theorem pvs_bytes : ∀ (d n : Nat), n < 128 ^ (d + 1) → Bytes (pvs n) ∧ (pvs n).length ≤ d + 1 ∧ 1 ≤ (pvs n).length := by
  intro d
  induction d with
  | zero =>
    intro n hn
    rw [pvs_small (by simpa using hn)]
    exact ⟨Bytes.cons (by omega) (by omega) Bytes.nil, by simp, by simp⟩
  | succ d ih =>
    intro n hn
    by_cases h : n < 128
    · rw [pvs_small h]
      exact ⟨Bytes.cons (by omega) (by omega) Bytes.nil, by simp, by simp⟩
    · rw [pvs_big h]
      have hd : n / 128 < 128 ^ (d + 1) := by
        rw [Nat.div_lt_iff_lt_mul (by decide)]
        calc n < 128 ^ (d + 1 + 1) := hn
          _ = 128 ^ (d + 1) * 128 := by rw [Nat.pow_succ]
      obtain ⟨a, b, c⟩ := ih (n / 128) hd
      exact ⟨Bytes.cons (by omega) (by omega) a, by simp; omega, by simp⟩

theorem or128 {y : Int} (h0 : 0 ≤ y) (h1 : y < 256) : Go.bits .or .u8 y 128 = y % 128 + 128 := by
  rw [u8_or y 128 h0 h1 (by decide) (by decide)]
  have key : ∀ z : Fin 256, (z.val ||| 128) = z.val % 128 + 128 := by decide +kernel
  have := key ⟨y.toNat, by omega⟩
  simp only at this
  have e : (128 : Int).toNat = 128 := rfl
  rw [e, this]
  omega

theorem putVar_l0 : ∀ (d k n : Nat) (acc : List Int), n < 128 ^ (d + 1) → d < k → acc.length + d < 140737488355000 → impl_PutVar.l0 k (n : Int) acc = some (acc ++ pvs n) := by
  intro d
  induction d with
  | zero =>
    intro k n acc hn hk ha
    obtain ⟨k, rfl⟩ : ∃ m, k = m + 1 := ⟨k - 1, by omega⟩
    have hn' : n < 128 := by simpa using hn
    simp only [impl_PutVar.l0]
    rw [if_neg (by omega), if_pos (by omega), pvs_small hn', show (n : Int) % 256 = n by omega]
  | succ d ih =>
    intro k n acc hn hk ha
    obtain ⟨k, rfl⟩ : ∃ m, k = m + 1 := ⟨k - 1, by omega⟩
    simp only [impl_PutVar.l0]
    by_cases h : n < 128
    · rw [if_neg (by omega), if_pos (by omega), pvs_small h, show (n : Int) % 256 = n by omega]
    · rw [if_pos (by omega), if_pos (by omega), or128 (by omega) (by omega), show (n : Int) / 128 = ((n / 128 : Nat) : Int) by omega]
      have hd : n / 128 < 128 ^ (d + 1) := by
        rw [Nat.div_lt_iff_lt_mul (by decide)]
        calc n < 128 ^ (d + 1 + 1) := hn
          _ = 128 ^ (d + 1) * 128 := by rw [Nat.pow_succ]
      rw [ih k (n / 128) _ hd (by omega) (by simp; omega), pvs_big h, List.append_assoc]
      congr 2
      simp

theorem lt_pow10 {n : Nat} (h : n < 18446744073709551616) : n < 128 ^ (9 + 1) := Nat.lt_of_lt_of_le h (by decide)

theorem putVar_ok {k n : Nat} (hk : 9 < k) (hn : n < 18446744073709551616) : impl_PutVar.f k (n : Int) = some (pvs n) := by
  unfold impl_PutVar.f
  rw [putVar_l0 9 k n [] (lt_pow10 hn) hk (by simp)]
  rfl

/-! ### reading -/
theorem drop_add {α : Type} (a b : List α) (j : Nat) : (a ++ b).drop (a.length + j) = b.drop j := by
  rw [← List.drop_drop, List.drop_left]
theorem rd_eq {l : List Int} {i : Nat} {x : Int} {t : List Int} (h : l.drop i = x :: t) : rd l (i : Int) = x := by
  unfold Go.Proofs.YthliooccgclbjaaW.PrintWords.rd
  have hl : i < l.length := by
    have := congrArg List.length h
    simp at this; omega
  rw [Int.toNat_natCast, List.getD_eq_getElem?_getD, List.getElem?_eq_getElem hl]
  have h2 := List.drop_eq_getElem_cons hl
  rw [h] at h2
  injection h2 with h3 _
  simp [h3]

theorem and127 {y : Int} (h0 : 0 ≤ y) (h1 : y < 256) : Go.bits .and .u8 y 127 = y % 128 := by
  rw [u8_and y 127 h0 h1 (by decide) (by decide)]
  have key : ∀ z : Fin 256, (z.val &&& 127) = z.val % 128 := by decide +kernel
  have := key ⟨y.toNat, by omega⟩
  simp only at this
  have e : (127 : Int).toNat = 127 := rfl
  rw [e, this]
  omega

theorem or_add {a c i : Nat} (ha : a < 2 ^ i) (hb : a + c * 2 ^ i < 18446744073709551616) : Go.bits .or .u64 (a : Int) ((c * 2 ^ i : Nat) : Int) = ((a + c * 2 ^ i : Nat) : Int) := by
  rw [u64_or_nat _ _ (by omega) (by omega)]
  have h := Nat.two_pow_add_eq_or_of_lt ha c
  rw [Nat.or_comm, show c * 2 ^ i = 2 ^ i * c from Nat.mul_comm _ _, ← h, Nat.add_comm]

theorem shl_ok {c j : Nat} (hj : j ≤ 9) (h : c * 128 ^ j < 18446744073709551616) : shl .u64 (c : Int) ((7 * j : Nat) : Int) = ((c * 2 ^ (7 * j) : Nat) : Int) := by
  have hp : (128 : Nat) ^ j = 2 ^ (7 * j) := by rw [Nat.pow_mul]
  unfold shl
  rw [Int.toNat_natCast, Nat.min_eq_left (by show 7 * j ≤ 64; omega)]
  have e : (c : Int) * 2 ^ (7 * j) = ((c * 2 ^ (7 * j) : Nat) : Int) := by push_cast; rfl
  rw [e]
  exact wu64 (by omega) (by rw [← hp]; omega)

theorem equal_self (l : List Int) : bytes_Equal.f l l = some true := by
  unfold bytes_Equal.f
  simp

theorem within_ok (a b c : Int) : impl_within.f a b c = some (decide (b ≤ a ∧ a ≤ c)) := by
  unfold impl_within.f
  by_cases h : a ≥ b
  · rw [if_pos h]
    congr 1
    simp [show b ≤ a from h]
  · rw [if_neg h]
    congr 1
    simp [show ¬ b ≤ a from h]

theorem cut_mid (pre m post : List Int) : ((pre ++ m ++ post).take ((pre.length + m.length : Nat) : Int).toNat).drop ((pre.length : Nat) : Int).toNat = m := by
  rw [Int.toNat_natCast, Int.toNat_natCast, show pre.length + m.length = (pre ++ m).length by simp, List.take_left, List.drop_left]

/-- One group read: what is known, and this group's number above it. -/
theorem group {n j : Nat} {b q : Int} (hj : j ≤ 9) (hn : n < 18446744073709551616) (h0 : 0 ≤ b) (h1 : b < 256) (hq : b % 128 = ((n / 128 ^ j % 128 : Nat) : Int)) (hx : q = ((7 * j : Nat) : Int)) :
    Go.bits .or .u64 ((n % 128 ^ j : Nat) : Int) (shl .u64 (IntKind.u64.wrap (Go.bits .and .u8 b 127)) q) = ((n % 128 ^ (j + 1) : Nat) : Int) := by
  subst hx
  have hp : (128 : Nat) ^ j = 2 ^ (7 * j) := by rw [Nat.pow_mul]
  rw [and127 h0 h1, wu64 (by omega) (by omega), hq]
  have hm : n % 128 ^ j + n / 128 ^ j % 128 * 128 ^ j = n % 128 ^ (j + 1) := by
    rw [Nat.pow_succ, Nat.mod_mul, Nat.mul_comm (128 ^ j)]
  have hle : n % 128 ^ (j + 1) ≤ n := Nat.mod_le _ _
  rw [shl_ok hj (by omega), or_add (by rw [← hp]; exact Nat.mod_lt _ (Nat.pow_pos (by decide))) (by rw [← hp, hm]; omega), ← hp, hm]

theorem readVar_last (pre post : List Int) (n : Nat) (hn : n < 18446744073709551616) (hlen : (pre ++ pvs n ++ post).length < 4611686018427387904) (k j : Nat) (hq : n / 128 ^ j < 128) (hj : j ≤ 9) (hk : 10 < k) (hdrop : (pvs n).drop j = pvs (n / 128 ^ j)) : impl_ReadVar.l0 (k + 1) (pre ++ pvs n ++ post) (pre.length : Int) ((n % 128 ^ j : Nat) : Int) ((pre.length + j : Nat) : Int) = some ((n : Int), ((pre.length + (pvs n).length : Nat) : Int), true) := by
  have hpb := pvs_bytes 9 n (lt_pow10 hn)
  have hd := hdrop
  rw [pvs_small hq] at hd
  have hjl : (pvs n).length = j + 1 := by
    have := congrArg List.length hd
    simp at this; omega
  have hall : (pre ++ pvs n ++ post).drop (pre.length + j) = ((n / 128 ^ j : Nat) : Int) :: post := by
    rw [List.append_assoc, drop_add, List.drop_append_of_le_length (by omega), hd]; rfl
  have hb := rd_eq hall
  simp only [impl_ReadVar.l0]
  have hlen2 : (pre ++ pvs n ++ post).length = pre.length + (pvs n).length + post.length := by simp [Nat.add_assoc]
  rw [show wrap64 ((pre.length : Int) + 10) = (pre.length : Int) + 10 from w64 (by omega) (by omega)]
  rw [if_pos (by unfold mn; split <;> omega), if_pos (by omega), if_pos (by omega)]
  have hw : wrap64 (7 * wrap64 (((pre.length + j : Nat) : Int) - (pre.length : Int))) = ((7 * j : Nat) : Int) := by
    rw [show wrap64 (((pre.length + j : Nat) : Int) - (pre.length : Int)) = (j : Int) from by rw [w64 (by omega) (by omega)]; omega, w64 (by omega) (by omega)]
    omega
  have hmod : n % 128 ^ (j + 1) = n := Nat.mod_eq_of_lt (by
    rw [Nat.pow_succ, Nat.mul_comm]
    exact (Nat.div_lt_iff_lt_mul (Nat.pow_pos (by decide))).1 hq)
  have hgrp := group (n := n) (j := j) (b := ((n / 128 ^ j : Nat) : Int)) hj hn (Int.natCast_nonneg _) (Int.ofNat_lt.2 (Nat.lt_trans hq (by decide))) (Int.natCast_emod _ 128).symm rfl
  rw [hmod] at hgrp
  rw [hw, if_pos (by omega), hb, if_pos (show ((n / 128 ^ j : Nat) : Int) < 128 from Int.ofNat_lt.2 hq), hgrp]
  have hput := putVar_ok (k := k) (n := n) (Nat.lt_trans (by decide) hk) hn
  rw [hput, Option.bind_some]
  clear hput hgrp hmod hb hall hd hdrop hq hw
  have hw1 : wrap64 (((pre.length + j : Nat) : Int) + 1) = ((pre.length + (pvs n).length : Nat) : Int) := by rw [w64 (by omega) (by omega)]; omega
  have h1 : (0 : Int) ≤ (pre.length : Int) := Int.natCast_nonneg _
  have h2 : (pre.length : Int) ≤ ((pre.length + (pvs n).length : Nat) : Int) := Int.ofNat_le.2 (Nat.le_add_right _ _)
  have h3 : ((pre.length + (pvs n).length : Nat) : Int) ≤ ((pre ++ pvs n ++ post).length : Int) := Int.ofNat_le.2 (by rw [hlen2]; exact Nat.le_add_right _ _)
  rw [hw1, if_pos h1, if_pos h2, if_pos h3, cut_mid, equal_self]
  rw [Option.bind_some, if_pos rfl]


theorem readVar_l0 (pre post : List Int) (n : Nat) (hn : n < 18446744073709551616) (hlen : (pre ++ pvs n ++ post).length < 4611686018427387904) :
    ∀ (d k j : Nat), n / 128 ^ j < 128 ^ (d + 1) → j + d = 9 → d + 12 < k → (pvs n).drop j = pvs (n / 128 ^ j) →
      impl_ReadVar.l0 k (pre ++ pvs n ++ post) (pre.length : Int) ((n % 128 ^ j : Nat) : Int) ((pre.length + j : Nat) : Int) = some ((n : Int), ((pre.length + (pvs n).length : Nat) : Int), true) := by
  intro d
  have hpb := pvs_bytes 9 n (lt_pow10 hn)
  induction d with
  | zero =>
    intro k j hq hj hk hdrop
    obtain ⟨k, rfl⟩ : ∃ m, k = m + 1 := ⟨k - 1, by omega⟩
    have hq' : n / 128 ^ j < 128 := by simpa using hq
    exact readVar_last pre post n hn hlen k j hq' (by omega) (by omega) hdrop
  | succ d ih =>
    intro k j hq hj hk hdrop
    by_cases hs : n / 128 ^ j < 128
    · obtain ⟨k, rfl⟩ : ∃ m, k = m + 1 := ⟨k - 1, by omega⟩
      exact readVar_last pre post n hn hlen k j hs (by omega) (by omega) hdrop
    · obtain ⟨k, rfl⟩ : ∃ m, k = m + 1 := ⟨k - 1, by omega⟩
      have hd := hdrop
      rw [pvs_big hs] at hd
      have hjl : j < (pvs n).length := by
        have := congrArg List.length hd
        simp at this; omega
      have hall : (pre ++ pvs n ++ post).drop (pre.length + j) = ((n / 128 ^ j % 128 + 128 : Nat) : Int) :: (pvs (n / 128 ^ j / 128) ++ post) := by
        rw [List.append_assoc, drop_add, List.drop_append_of_le_length (by omega), hd]; rfl
      have hb := rd_eq hall
      have hdiv : n / 128 ^ j / 128 = n / 128 ^ (j + 1) := by rw [Nat.div_div_eq_div_mul, Nat.pow_succ]
      simp only [impl_ReadVar.l0]
      have hlen2 : (pre ++ pvs n ++ post).length = pre.length + (pvs n).length + post.length := by simp [Nat.add_assoc]
      rw [show wrap64 ((pre.length : Int) + 10) = (pre.length : Int) + 10 from w64 (by omega) (by omega)]
      rw [if_pos (by unfold mn; split <;> omega), if_pos (by omega), if_pos (by omega)]
      have hw : wrap64 (7 * wrap64 (((pre.length + j : Nat) : Int) - (pre.length : Int))) = ((7 * j : Nat) : Int) := by
        rw [show wrap64 (((pre.length + j : Nat) : Int) - (pre.length : Int)) = (j : Int) from by rw [w64 (by omega) (by omega)]; omega, w64 (by omega) (by omega)]
        omega
      rw [hw, if_pos (by omega), hb, if_neg (by omega), group (by omega) hn (by omega) (by omega) (by omega) rfl]
      rw [show wrap64 (((pre.length + j : Nat) : Int) + 1) = ((pre.length + (j + 1) : Nat) : Int) from by rw [w64 (by omega) (by omega)]; omega]
      refine ih k (j + 1) ?_ (by omega) (by omega) ?_
      · rw [← hdiv, Nat.div_lt_iff_lt_mul (by decide)]
        rw [Nat.pow_succ] at hq
        exact hq
      · rw [← hdiv, ← List.drop_drop, hd]
        rfl
/-- A number comes back from its bytes, wherever it begins. -/
theorem readVar_ok {k : Nat} {pre post : List Int} {n : Nat} (hk : 22 < k) (hn : n < 18446744073709551616) (hlen : (pre ++ pvs n ++ post).length < 4611686018427387904) :
    impl_ReadVar.f k (pre ++ pvs n ++ post) (pre.length : Int) = some ((n : Int), ((pre.length + (pvs n).length : Nat) : Int), true) := by
  unfold impl_ReadVar.f
  rw [within_ok]
  simp only [Option.bind_some]
  rw [if_pos (by simp; omega)]
  have := readVar_l0 pre post n hn hlen 9 k 0 (by simpa using lt_pow10 hn) rfl (by omega) (by simp)
  simpa using this

end Go.Proofs.Ythliooccgclbjaa.Lem
