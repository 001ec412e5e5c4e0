/- Part 3 of the walks and words that PK uses. No conditions of its own. -/
import Derived.Test.YtdkokfnnebdppaaMPK2

-- written by a program of this session's (wip/pp)
namespace Go.Proofs.Ytdkokfnnebdppaa.P
open Go.RowKit Go.Proofs.YtdkokfnnebdppaaW.PrintWords Go.Proofs.YtdkokfnnebdppaaW.PrintLast Go.Proofs.YtdkokfnnebdppaaW.PrintMore
attribute [local go_sem] max2_int min2_int max_two min_two max_three min_three max_four min_four str_geq str_gtr str_leq   -- for this text's walks alone
set_option linter.unusedVariables false
set_option linter.unusedSimpArgs false

/-! ### spec_l4Join: function 68 -/
mutual
def spec_l4Join.j0 : Nat → Int → Int → Int → Int → List Int → Bool → Int → Int → Int → Int → List Int → Bool → Int → Int → Int → Int → Bool → Option (Int × Int × Int × Int × List Int × Bool)
 | 0, _, _, _, _, _, _, _, _, _, _, _, _, _, _, _, _, _ => none
 | k + 1, x90003000, x90003001, x90003002, x90003003, x90003004, x90003005, x90004000, x90004001, x90004002, x90004003, x90004004, x90004005, x90006000, x90006001, x90006002, x90006003, x90006005 => if x90004002 < x90006002 then (spec_l4Join.j1 k x90003000 x90003001 x90003002 x90003003 x90003004 x90003005 x90004000 x90004001 x90004002 x90004003 x90004004 x90004005 x90006000 x90006001 x90004002 x90006003 x90006005) else (spec_l4Join.j1 k x90003000 x90003001 x90003002 x90003003 x90003004 x90003005 x90004000 x90004001 x90004002 x90004003 x90004004 x90004005 x90006000 x90006001 x90006002 x90006003 x90006005)
def spec_l4Join.j1 : Nat → Int → Int → Int → Int → List Int → Bool → Int → Int → Int → Int → List Int → Bool → Int → Int → Int → Int → Bool → Option (Int × Int × Int × Int × List Int × Bool)
 | 0, _, _, _, _, _, _, _, _, _, _, _, _, _, _, _, _, _ => none
 | k + 1, x90003000, x90003001, x90003002, x90003003, x90003004, x90003005, x90004000, x90004001, x90004002, x90004003, x90004004, x90004005, x90006000, x90006001, x90006002, x90006003, x90006005 => if x90004003 > x90006003 then (spec_l4Join.j2 k x90003000 x90003001 x90003002 x90003003 x90003004 x90003005 x90004000 x90004001 x90004002 x90004003 x90004004 x90004005 x90006000 x90006001 x90006002 x90004003 x90006005) else (spec_l4Join.j2 k x90003000 x90003001 x90003002 x90003003 x90003004 x90003005 x90004000 x90004001 x90004002 x90004003 x90004004 x90004005 x90006000 x90006001 x90006002 x90006003 x90006005)
def spec_l4Join.j2 : Nat → Int → Int → Int → Int → List Int → Bool → Int → Int → Int → Int → List Int → Bool → Int → Int → Int → Int → Bool → Option (Int × Int × Int × Int × List Int × Bool)
 | 0, _, _, _, _, _, _, _, _, _, _, _, _, _, _, _, _, _ => none
 | k + 1, x90003000, x90003001, x90003002, x90003003, x90003004, x90003005, x90004000, x90004001, x90004002, x90004003, x90004004, x90004005, x90006000, x90006001, x90006002, x90006003, x90006005 => spec_l4Join.l0 k x90003004 (x90003004.length : Int) 0 x90004000 x90004001 x90004002 x90004003 x90004004 x90004005 x90006000 x90006001 x90006002 x90006003 ([] : List Int) x90006005
def spec_l4Join.l0 : Nat → List Int → Int → Int → Int → Int → Int → Int → List Int → Bool → Int → Int → Int → Int → List Int → Bool → Option (Int × Int × Int × Int × List Int × Bool)
 | 0, _, _, _, _, _, _, _, _, _, _, _, _, _, _, _ => none
 | k + 1, x62, x63, x64, x90004000, x90004001, x90004002, x90004003, x90004004, x90004005, x90006000, x90006001, x90006002, x90006003, x90006004, x90006005 => if x64 < x63 then (if 0 ≤ x64 then (if x64 < (x62.length : Int) then (if x64 < (x90004004.length : Int) then (if (wrap64 ((rd x62 x64) + (rd x90004004 x64))) > 1000000000 then (if x90006004.length < 17592186044416 then (spec_l4Join.l0 k x62 x63 (wrap64 (x64 + 1)) x90004000 x90004001 x90004002 x90004003 x90004004 x90004005 x90006000 x90006001 x90006002 x90006003 (x90006004 ++ [1000000000]) true) else (none)) else (if x90006004.length < 17592186044416 then (spec_l4Join.l0 k x62 x63 (wrap64 (x64 + 1)) x90004000 x90004001 x90004002 x90004003 x90004004 x90004005 x90006000 x90006001 x90006002 x90006003 (x90006004 ++ [wrap64 ((rd x62 x64) + (rd x90004004 x64))]) x90006005) else (none))) else (none)) else (none)) else (none)) else (if x90006005 = true then (some (x90006000, 0, x90006002, x90006003, x90006004, x90006005)) else (some (x90006000, x90006001, x90006002, x90006003, x90006004, x90006005)))
def spec_l4Join.j4 : Nat → Int → Int → Int → Int → List Int → Bool → Int → Int → Int → Int → List Int → Bool → Int → Int → Int → Int → Bool → Option (Int × Int × Int × Int × List Int × Bool)
 | 0, _, _, _, _, _, _, _, _, _, _, _, _, _, _, _, _, _ => none
 | k + 1, x90003000, x90003001, x90003002, x90003003, x90003004, x90003005, x90004000, x90004001, x90004002, x90004003, x90004004, x90004005, x90006000, x90006001, x90006002, x90006003, x90006005 => if x90004002 < x90006002 then (spec_l4Join.j5 k x90003000 x90003001 x90003002 x90003003 x90003004 x90003005 x90004000 x90004001 x90004002 x90004003 x90004004 x90004005 x90006000 x90006001 x90004002 x90006003 x90006005) else (spec_l4Join.j5 k x90003000 x90003001 x90003002 x90003003 x90003004 x90003005 x90004000 x90004001 x90004002 x90004003 x90004004 x90004005 x90006000 x90006001 x90006002 x90006003 x90006005)
def spec_l4Join.j5 : Nat → Int → Int → Int → Int → List Int → Bool → Int → Int → Int → Int → List Int → Bool → Int → Int → Int → Int → Bool → Option (Int × Int × Int × Int × List Int × Bool)
 | 0, _, _, _, _, _, _, _, _, _, _, _, _, _, _, _, _, _ => none
 | k + 1, x90003000, x90003001, x90003002, x90003003, x90003004, x90003005, x90004000, x90004001, x90004002, x90004003, x90004004, x90004005, x90006000, x90006001, x90006002, x90006003, x90006005 => if x90004003 > x90006003 then (spec_l4Join.j6 k x90003000 x90003001 x90003002 x90003003 x90003004 x90003005 x90004000 x90004001 x90004002 x90004003 x90004004 x90004005 x90006000 x90006001 x90006002 x90004003 x90006005) else (spec_l4Join.j6 k x90003000 x90003001 x90003002 x90003003 x90003004 x90003005 x90004000 x90004001 x90004002 x90004003 x90004004 x90004005 x90006000 x90006001 x90006002 x90006003 x90006005)
def spec_l4Join.j6 : Nat → Int → Int → Int → Int → List Int → Bool → Int → Int → Int → Int → List Int → Bool → Int → Int → Int → Int → Bool → Option (Int × Int × Int × Int × List Int × Bool)
 | 0, _, _, _, _, _, _, _, _, _, _, _, _, _, _, _, _, _ => none
 | k + 1, x90003000, x90003001, x90003002, x90003003, x90003004, x90003005, x90004000, x90004001, x90004002, x90004003, x90004004, x90004005, x90006000, x90006001, x90006002, x90006003, x90006005 => spec_l4Join.l0 k x90003004 (x90003004.length : Int) 0 x90004000 x90004001 x90004002 x90004003 x90004004 x90004005 x90006000 x90006001 x90006002 x90006003 ([] : List Int) x90006005
end
def spec_l4Join.f (k : Nat) (a0_0 : Int) (a0_1 : Int) (a0_2 : Int) (a0_3 : Int) (l0_4 : List Int) (a0_5 : Bool) (a1_0 : Int) (a1_1 : Int) (a1_2 : Int) (a1_3 : Int) (l1_4 : List Int) (a1_5 : Bool) : Option (Int × Int × Int × Int × List Int × Bool) := if a0_0 = 0 then ((spec_l4Own.f a1_0 a1_1 a1_2 a1_3 l1_4 a1_5).bind fun bt104 => (some (bt104.1, bt104.2.1, bt104.2.2.1, bt104.2.2.2.1, bt104.2.2.2.2.1, bt104.2.2.2.2.2))) else (if a1_0 = 0 then ((spec_l4Own.f a0_0 a0_1 a0_2 a0_3 l0_4 a0_5).bind fun bt112 => (some (bt112.1, bt112.2.1, bt112.2.2.1, bt112.2.2.2.1, bt112.2.2.2.2.1, bt112.2.2.2.2.2))) else (if a0_5 = true then (if (wrap64 (a0_0 + a1_0)) > 1000000000 then (spec_l4Join.j0 k a0_0 a0_1 a0_2 a0_3 l0_4 a0_5 a1_0 a1_1 a1_2 a1_3 l1_4 a1_5 1000000000 (wrap64 (a0_1 + a1_1)) a0_2 a0_3 true) else (spec_l4Join.j0 k a0_0 a0_1 a0_2 a0_3 l0_4 a0_5 a1_0 a1_1 a1_2 a1_3 l1_4 a1_5 (wrap64 (a0_0 + a1_0)) (wrap64 (a0_1 + a1_1)) a0_2 a0_3 true)) else (if (wrap64 (a0_0 + a1_0)) > 1000000000 then (spec_l4Join.j4 k a0_0 a0_1 a0_2 a0_3 l0_4 a0_5 a1_0 a1_1 a1_2 a1_3 l1_4 a1_5 1000000000 (wrap64 (a0_1 + a1_1)) a0_2 a0_3 true) else (spec_l4Join.j4 k a0_0 a0_1 a0_2 a0_3 l0_4 a0_5 a1_0 a1_1 a1_2 a1_3 l1_4 a1_5 (wrap64 (a0_0 + a1_0)) (wrap64 (a0_1 + a1_1)) a0_2 a0_3 a1_5))))
theorem spec_l4Join.mono_l : ∀ k, (∀ y0 y1 y2 y3 y4 y5 y6 y7 y8 y9 y10 y11 y12 y13 y14 y15 y16, LeO (spec_l4Join.j0 k y0 y1 y2 y3 y4 y5 y6 y7 y8 y9 y10 y11 y12 y13 y14 y15 y16) (spec_l4Join.j0 (k + 1) y0 y1 y2 y3 y4 y5 y6 y7 y8 y9 y10 y11 y12 y13 y14 y15 y16)) ∧ (∀ y0 y1 y2 y3 y4 y5 y6 y7 y8 y9 y10 y11 y12 y13 y14 y15 y16, LeO (spec_l4Join.j1 k y0 y1 y2 y3 y4 y5 y6 y7 y8 y9 y10 y11 y12 y13 y14 y15 y16) (spec_l4Join.j1 (k + 1) y0 y1 y2 y3 y4 y5 y6 y7 y8 y9 y10 y11 y12 y13 y14 y15 y16)) ∧ (∀ y0 y1 y2 y3 y4 y5 y6 y7 y8 y9 y10 y11 y12 y13 y14 y15 y16, LeO (spec_l4Join.j2 k y0 y1 y2 y3 y4 y5 y6 y7 y8 y9 y10 y11 y12 y13 y14 y15 y16) (spec_l4Join.j2 (k + 1) y0 y1 y2 y3 y4 y5 y6 y7 y8 y9 y10 y11 y12 y13 y14 y15 y16)) ∧ (∀ y0 y1 y2 y3 y4 y5 y6 y7 y8 y9 y10 y11 y12 y13 y14, LeO (spec_l4Join.l0 k y0 y1 y2 y3 y4 y5 y6 y7 y8 y9 y10 y11 y12 y13 y14) (spec_l4Join.l0 (k + 1) y0 y1 y2 y3 y4 y5 y6 y7 y8 y9 y10 y11 y12 y13 y14)) ∧ (∀ y0 y1 y2 y3 y4 y5 y6 y7 y8 y9 y10 y11 y12 y13 y14 y15 y16, LeO (spec_l4Join.j4 k y0 y1 y2 y3 y4 y5 y6 y7 y8 y9 y10 y11 y12 y13 y14 y15 y16) (spec_l4Join.j4 (k + 1) y0 y1 y2 y3 y4 y5 y6 y7 y8 y9 y10 y11 y12 y13 y14 y15 y16)) ∧ (∀ y0 y1 y2 y3 y4 y5 y6 y7 y8 y9 y10 y11 y12 y13 y14 y15 y16, LeO (spec_l4Join.j5 k y0 y1 y2 y3 y4 y5 y6 y7 y8 y9 y10 y11 y12 y13 y14 y15 y16) (spec_l4Join.j5 (k + 1) y0 y1 y2 y3 y4 y5 y6 y7 y8 y9 y10 y11 y12 y13 y14 y15 y16)) ∧ (∀ y0 y1 y2 y3 y4 y5 y6 y7 y8 y9 y10 y11 y12 y13 y14 y15 y16, LeO (spec_l4Join.j6 k y0 y1 y2 y3 y4 y5 y6 y7 y8 y9 y10 y11 y12 y13 y14 y15 y16) (spec_l4Join.j6 (k + 1) y0 y1 y2 y3 y4 y5 y6 y7 y8 y9 y10 y11 y12 y13 y14 y15 y16))
 | 0 => ⟨fun _ _ _ _ _ _ _ _ _ _ _ _ _ _ _ _ _ r h => by simp [spec_l4Join.j0] at h, fun _ _ _ _ _ _ _ _ _ _ _ _ _ _ _ _ _ r h => by simp [spec_l4Join.j1] at h, fun _ _ _ _ _ _ _ _ _ _ _ _ _ _ _ _ _ r h => by simp [spec_l4Join.j2] at h, fun _ _ _ _ _ _ _ _ _ _ _ _ _ _ _ r h => by simp [spec_l4Join.l0] at h, fun _ _ _ _ _ _ _ _ _ _ _ _ _ _ _ _ _ r h => by simp [spec_l4Join.j4] at h, fun _ _ _ _ _ _ _ _ _ _ _ _ _ _ _ _ _ r h => by simp [spec_l4Join.j5] at h, fun _ _ _ _ _ _ _ _ _ _ _ _ _ _ _ _ _ r h => by simp [spec_l4Join.j6] at h⟩
 | k + 1 => by
  obtain ⟨ih0, ih1, ih2, ih3, ih4, ih5, ih6⟩ := spec_l4Join.mono_l k
  refine ⟨?_, ?_, ?_, ?_, ?_, ?_, ?_⟩
  · intro y0 y1 y2 y3 y4 y5 y6 y7 y8 y9 y10 y11 y12 y13 y14 y15 y16
    unfold spec_l4Join.j0
    repeat' first
     | (with_reducible first | exact ih0 .. | exact ih1 .. | exact ih2 .. | exact ih3 .. | exact ih4 .. | exact ih5 .. | exact ih6 .. | exact LeO.refl _ | exact LeO.none _ | refine LeO.ite ?_ ?_ | refine LeO.bind ?_ (fun _ => ?_))
     | exact LeO.none _
     | refine LeO.ite ?_ ?_
     | refine LeO.bind ?_ (fun _ => ?_)
  · intro y0 y1 y2 y3 y4 y5 y6 y7 y8 y9 y10 y11 y12 y13 y14 y15 y16
    unfold spec_l4Join.j1
    repeat' first
     | (with_reducible first | exact ih0 .. | exact ih1 .. | exact ih2 .. | exact ih3 .. | exact ih4 .. | exact ih5 .. | exact ih6 .. | exact LeO.refl _ | exact LeO.none _ | refine LeO.ite ?_ ?_ | refine LeO.bind ?_ (fun _ => ?_))
     | exact LeO.none _
     | refine LeO.ite ?_ ?_
     | refine LeO.bind ?_ (fun _ => ?_)
  · intro y0 y1 y2 y3 y4 y5 y6 y7 y8 y9 y10 y11 y12 y13 y14 y15 y16
    unfold spec_l4Join.j2
    repeat' first
     | (with_reducible first | exact ih0 .. | exact ih1 .. | exact ih2 .. | exact ih3 .. | exact ih4 .. | exact ih5 .. | exact ih6 .. | exact LeO.refl _ | exact LeO.none _ | refine LeO.ite ?_ ?_ | refine LeO.bind ?_ (fun _ => ?_))
     | exact LeO.none _
     | refine LeO.ite ?_ ?_
     | refine LeO.bind ?_ (fun _ => ?_)
  · intro y0 y1 y2 y3 y4 y5 y6 y7 y8 y9 y10 y11 y12 y13 y14
    unfold spec_l4Join.l0
    repeat' first
     | (with_reducible first | exact ih0 .. | exact ih1 .. | exact ih2 .. | exact ih3 .. | exact ih4 .. | exact ih5 .. | exact ih6 .. | exact LeO.refl _ | exact LeO.none _ | refine LeO.ite ?_ ?_ | refine LeO.bind ?_ (fun _ => ?_))
     | exact LeO.none _
     | refine LeO.ite ?_ ?_
     | refine LeO.bind ?_ (fun _ => ?_)
  · intro y0 y1 y2 y3 y4 y5 y6 y7 y8 y9 y10 y11 y12 y13 y14 y15 y16
    unfold spec_l4Join.j4
    repeat' first
     | (with_reducible first | exact ih0 .. | exact ih1 .. | exact ih2 .. | exact ih3 .. | exact ih4 .. | exact ih5 .. | exact ih6 .. | exact LeO.refl _ | exact LeO.none _ | refine LeO.ite ?_ ?_ | refine LeO.bind ?_ (fun _ => ?_))
     | exact LeO.none _
     | refine LeO.ite ?_ ?_
     | refine LeO.bind ?_ (fun _ => ?_)
  · intro y0 y1 y2 y3 y4 y5 y6 y7 y8 y9 y10 y11 y12 y13 y14 y15 y16
    unfold spec_l4Join.j5
    repeat' first
     | (with_reducible first | exact ih0 .. | exact ih1 .. | exact ih2 .. | exact ih3 .. | exact ih4 .. | exact ih5 .. | exact ih6 .. | exact LeO.refl _ | exact LeO.none _ | refine LeO.ite ?_ ?_ | refine LeO.bind ?_ (fun _ => ?_))
     | exact LeO.none _
     | refine LeO.ite ?_ ?_
     | refine LeO.bind ?_ (fun _ => ?_)
  · intro y0 y1 y2 y3 y4 y5 y6 y7 y8 y9 y10 y11 y12 y13 y14 y15 y16
    unfold spec_l4Join.j6
    repeat' first
     | (with_reducible first | exact ih0 .. | exact ih1 .. | exact ih2 .. | exact ih3 .. | exact ih4 .. | exact ih5 .. | exact ih6 .. | exact LeO.refl _ | exact LeO.none _ | refine LeO.ite ?_ ?_ | refine LeO.bind ?_ (fun _ => ?_))
     | exact LeO.none _
     | refine LeO.ite ?_ ?_
     | refine LeO.bind ?_ (fun _ => ?_)
theorem spec_l4Join.mono : ∀ a0 a1 a2 a3 a4 a5 a6 a7 a8 a9 a10 a11 k, LeO (spec_l4Join.f k a0 a1 a2 a3 a4 a5 a6 a7 a8 a9 a10 a11) (spec_l4Join.f (k + 1) a0 a1 a2 a3 a4 a5 a6 a7 a8 a9 a10 a11) := by
 intro a0 a1 a2 a3 a4 a5 a6 a7 a8 a9 a10 a11 k
 obtain ⟨ih0, ih1, ih2, ih3, ih4, ih5, ih6⟩ := spec_l4Join.mono_l k
 unfold spec_l4Join.f
 repeat' first
  | (with_reducible first | exact ih0 .. | exact ih1 .. | exact ih2 .. | exact ih3 .. | exact ih4 .. | exact ih5 .. | exact ih6 .. | exact LeO.refl _ | exact LeO.none _ | refine LeO.ite ?_ ?_ | refine LeO.bind ?_ (fun _ => ?_))
  | exact LeO.none _
  | refine LeO.ite ?_ ?_
  | refine LeO.bind ?_ (fun _ => ?_)
set_option maxHeartbeats 8000000 in
set_option maxRecDepth 100000 in
theorem spec_l4Join.calls (k : Nat) (a0_0 : Int) (a0_1 : Int) (a0_2 : Int) (a0_3 : Int) (A0_4 : Option Addr) (c0_4 : Nat) (l0_4 : List Int) (a0_5 : Bool) (a1_0 : Int) (a1_1 : Int) (a1_2 : Int) (a1_3 : Int) (A1_4 : Option Addr) (c1_4 : Nat) (l1_4 : List Int) (a1_5 : Bool) (r1 : Int) (r2 : Int) (r3 : Int) (r4 : Int) (r5 : List Int) (r6 : Bool) (w : World) (hr0_4 : Kd.C (Kd.int .i64) w A0_4 l0_4.length l0_4) (hc0_4 : l0_4.length ≤ c0_4) (hr1_4 : Kd.C (Kd.int .i64) w A1_4 l1_4.length l1_4) (hc1_4 : l1_4.length ≤ c1_4) (h : spec_l4Join.f k a0_0 a0_1 a0_2 a0_3 l0_4 a0_5 a1_0 a1_1 a1_2 a1_3 l1_4 a1_5 = some (r1, r2, r3, r4, r5, r6)) :
 Calls Try.prog 68 #[.agg #[.int .i64 a0_0, .int .i64 a0_1, .int .i64 a0_2, .int .i64 a0_3, .slice A0_4 l0_4.length c0_4, .bool a0_5], .agg #[.int .i64 a1_0, .int .i64 a1_1, .int .i64 a1_2, .int .i64 a1_3, .slice A1_4 l1_4.length c1_4, .bool a1_5]] w fun e w' => ∃ v4_ : Value, e = .returned (.agg #[.int .i64 r1, .int .i64 r2, .int .i64 r3, .int .i64 r4, v4_, .bool r6]) ∧ Kd.R (Kd.int .i64) 3 w' w.heap.size (fun _ => True) v4_ r5 ∧ Below w.heap.size w w' := by
 have hu26 := Try.underlying26
 have HR0_4 := aM hr0_4
 have HC0_4 := aM hc0_4
 clear hr0_4 hc0_4
 have HR1_4 := aM hr1_4
 have HC1_4 := aM hc1_4
 clear hr1_4 hc1_4
 have HB := aM (Below.refl w.heap.size w)
 have H : (if a0_0 = 0 then ((spec_l4Own.f a1_0 a1_1 a1_2 a1_3 l1_4 a1_5).bind fun bt104 => (some (bt104.1, bt104.2.1, bt104.2.2.1, bt104.2.2.2.1, bt104.2.2.2.2.1, bt104.2.2.2.2.2))) else (if a1_0 = 0 then ((spec_l4Own.f a0_0 a0_1 a0_2 a0_3 l0_4 a0_5).bind fun bt112 => (some (bt112.1, bt112.2.1, bt112.2.2.1, bt112.2.2.2.1, bt112.2.2.2.2.1, bt112.2.2.2.2.2))) else (if a0_5 = true then (if (wrap64 (a0_0 + a1_0)) > 1000000000 then (spec_l4Join.j0 k a0_0 a0_1 a0_2 a0_3 l0_4 a0_5 a1_0 a1_1 a1_2 a1_3 l1_4 a1_5 1000000000 (wrap64 (a0_1 + a1_1)) a0_2 a0_3 true) else (spec_l4Join.j0 k a0_0 a0_1 a0_2 a0_3 l0_4 a0_5 a1_0 a1_1 a1_2 a1_3 l1_4 a1_5 (wrap64 (a0_0 + a1_0)) (wrap64 (a0_1 + a1_1)) a0_2 a0_3 true)) else (if (wrap64 (a0_0 + a1_0)) > 1000000000 then (spec_l4Join.j4 k a0_0 a0_1 a0_2 a0_3 l0_4 a0_5 a1_0 a1_1 a1_2 a1_3 l1_4 a1_5 1000000000 (wrap64 (a0_1 + a1_1)) a0_2 a0_3 true) else (spec_l4Join.j4 k a0_0 a0_1 a0_2 a0_3 l0_4 a0_5 a1_0 a1_1 a1_2 a1_3 l1_4 a1_5 (wrap64 (a0_0 + a1_0)) (wrap64 (a0_1 + a1_1)) a0_2 a0_3 a1_5))))) = some (r1, r2, r3, r4, r5, r6) := h
 clear h
 by_cases c3 : a0_0 = 0
 · rw [if_pos c3] at H
   have c3b0 : (a0_0 == 0) = true := beq_iff_eq.mpr c3
   have c3b1 : (a0_0 != 0) = false := bne_eq_false_iff_eq.mpr c3
   clear c3
   replace H := Option.bind_eq_some_iff.mp H
   obtain ⟨⟨t104, t105, t106, t107, t108, t111⟩, A40, H⟩ := H
   try dsimp only at H
   have A4 := aM A40
   clear A40
   simp only [Option.some.injEq, Prod.mk.injEq] at H
   obtain ⟨rfl, rfl, rfl, rfl, rfl, rfl⟩ := H
   go_enter Try.func68, Try.ntmps68
   go_wp2_with (first | ((with_reducible refine gate_dst (N := 2) rfl ?_); refine box_event ?hg (N := 2) ?hd (cs := #[.int .i64 a0_0, .int .i64 a0_1, .int .i64 a0_2, .int .i64 a0_3, .slice A0_4 l0_4.length c0_4, .bool a0_5]) (t := 26) ?hr ?_; (case hd => rfl); (case hg => rfl); (case hr => first | (go_simp; done) | (go_simp; rfl)); intro gb90002 hg w5 hbox hb; have _ := aM (below_step hbZ hb); have _ := aM hbox; have _ := szZ hg; have _ := szZ hg; clear HB; rename_i HB BK90002 GW90002 GE90002; clear hb hbox hg) | ((with_reducible refine gate_dst (N := 3) rfl ?_); refine box_event ?hg (N := 3) ?hd (cs := #[.int .i64 a1_0, .int .i64 a1_1, .int .i64 a1_2, .int .i64 a1_3, .slice A1_4 l1_4.length c1_4, .bool a1_5]) (t := 26) ?hr ?_; (case hd => rfl); (case hg => rfl); (case hr => first | (go_simp; done) | (go_simp; rfl)); intro gb90003 hg w6 hbox hb; have _ := bB gb90002 hb; have _ := aM (below_step hbZ hb); have _ := aM hbox; have _ := szZ hg; have _ := szZ hg; have ⟨_, _⟩ := nbB gb90002 hg; clear BK90002 HB; rename_i BK90002 HB BK90003 GW90003 GE90003 NB90002_90003 NB90003_90002; clear hb hbox hg) | ((with_reducible refine gate_dst (N := 4) rfl ?_); refine box_event ?hg (N := 4) ?hd (cs := #[.int .i64 0, .int .i64 0, .int .i64 0, .int .i64 0, .slice none 0 0, .bool false]) (t := 26) ?hr ?_; (case hd => rfl); (case hg => rfl); (case hr => first | (go_simp; done) | (go_simp; rfl)); intro gb90004 hg w7 hbox hb; have _ := bB gb90002 hb; have _ := bB gb90003 hb; have _ := aM (below_step hbZ hb); have _ := aM hbox; have _ := szZ hg; have _ := szZ hg; have ⟨_, _⟩ := nbB gb90002 hg; have ⟨_, _⟩ := nbB gb90003 hg; clear BK90002 BK90003 HB; rename_i BK90002 BK90003 HB BK90004 GW90004 GE90004 NB90002_90004 NB90004_90002 NB90003_90004 NB90004_90003; clear hb hbox hg; have hnb8 := NB90002_90003.out; have hnc8 := NB90003_90002.out; have hnb9 := NB90002_90004.out; have hnc9 := NB90004_90002.out; obtain ⟨hcz10_0, hcz10_1, hcz10_2, hcz10_3, hcz10_4, hcz10_5, hfz10_0, hfz10_1, hfz10_2, hfz10_3, hfz10_4, hfz10_5⟩ := cellsZ6 BK90002.out; have hnb11 := NB90003_90004.out; have hnc11 := NB90004_90003.out; obtain ⟨hcz12_0, hcz12_1, hcz12_2, hcz12_3, hcz12_4, hcz12_5, hfz12_0, hfz12_1, hfz12_2, hfz12_3, hfz12_4, hfz12_5⟩ := cellsZ6 BK90003.out) | ((with_reducible refine gate_callee (f := 67) rfl ?_); refine goesL_ (some 13) rfl rfl Try.func67 (by kernel_rfl) rfl #[.agg #[.int .i64 a1_0, .int .i64 a1_1, .int .i64 a1_2, .int .i64 a1_3, .slice A1_4 l1_4.length c1_4, .bool a1_5]] rfl zee81 ?_; (with_reducible refine (spec_l4Own.calls a1_0 a1_1 a1_2 a1_3 _ _ l1_4 a1_5 t104 t105 t106 t107 t108 t111 _ ?side1 ?side2 A4.out).mono ?_); (case side1 => exact (cZ (Kd.C_below HR1_4.out HB.out))); (case side2 => exact HC1_4.out); rintro e w13 ⟨v109, rfl, ho0, hb⟩; refine ⟨_, rfl, ?_⟩; have _ := aM (Kd.R_lower ho0 (below_size hbZ)); have _ := bB gb90002 hb; have _ := bB gb90003 hb; have _ := bB gb90004 hb; have _ := aM (below_step hbZ hb); clear BK90002 BK90003 BK90004 HB; rename_i HO110 BK90002 BK90003 BK90004 HB; (try clear hb); (try clear ho0); obtain ⟨hcz14_0, hcz14_1, hcz14_2, hcz14_3, hcz14_4, hcz14_5, hfz14_0, hfz14_1, hfz14_2, hfz14_3, hfz14_4, hfz14_5⟩ := cellsZ6 BK90004.out; obtain ⟨Ao15, co15, eo15⟩ := Kd.R_slice HO110.out; subst eo15))
   refine bodyPost_ret (results_cell_row rfl _ _ gb90004 26 #[.int .i64 t104, .int .i64 t105, .int .i64 t106, .int .i64 t107, .slice Ao15 t108.length co15, .bool t111] (0, 0) _ rfl bkZ Try.underlying26 rfl (by kernel_rfl)) rfl ?_
   exact ⟨_, z674d, by (with_reducible repeat (first | apply Kd.R_alloc | apply Kd.R_drewN | apply Kd.R_drew)); exact Kd.R_mono (Kd.R_far (p := ⟨gb90004, 5, none⟩) (Kd.R_far (p := ⟨gb90004, 4, none⟩) (Kd.R_far (p := ⟨gb90004, 3, none⟩) (Kd.R_far (p := ⟨gb90004, 2, none⟩) (Kd.R_far (p := ⟨gb90004, 1, none⟩) (Kd.R_far (p := ⟨gb90004, 0, none⟩) (Kd.R_types HO110.out BK90004.out (by decide)) (fun _ hk => hk.2) (.int .i64 t104)) (fun _ hk => hk.2) (.int .i64 t105)) (fun _ hk => hk.2) (.int .i64 t106)) (fun _ hk => hk.2) (.int .i64 t107)) (fun _ hk => hk.2) (.slice Ao15 t108.length co15)) (fun _ hk => hk.2) (.bool t111)) (fun _ hk => trivial), zcb41⟩
 · rw [if_neg c3] at H
   have c3b0 : (a0_0 == 0) = false := beq_eq_false_iff_ne.mpr c3
   have c3b1 : (a0_0 != 0) = true := bne_iff_ne.mpr c3
   by_cases c16 : a1_0 = 0
   · rw [if_pos c16] at H
     have c16b0 : (a1_0 == 0) = true := beq_iff_eq.mpr c16
     have c16b1 : (a1_0 != 0) = false := bne_eq_false_iff_eq.mpr c16
     clear c16
     replace H := Option.bind_eq_some_iff.mp H
     obtain ⟨⟨t112, t113, t114, t115, t116, t119⟩, A170, H⟩ := H
     try dsimp only at H
     have A17 := aM A170
     clear A170
     simp only [Option.some.injEq, Prod.mk.injEq] at H
     obtain ⟨rfl, rfl, rfl, rfl, rfl, rfl⟩ := H
     go_enter Try.func68, Try.ntmps68
     go_wp2_with (first | ((with_reducible refine gate_dst (N := 2) rfl ?_); refine box_event ?hg (N := 2) ?hd (cs := #[.int .i64 a0_0, .int .i64 a0_1, .int .i64 a0_2, .int .i64 a0_3, .slice A0_4 l0_4.length c0_4, .bool a0_5]) (t := 26) ?hr ?_; (case hd => rfl); (case hg => rfl); (case hr => first | (go_simp; done) | (go_simp; rfl)); intro gb90002 hg w18 hbox hb; have _ := aM (below_step hbZ hb); have _ := aM hbox; have _ := szZ hg; have _ := szZ hg; clear HB; rename_i HB BK90002 GW90002 GE90002; clear hb hbox hg) | ((with_reducible refine gate_dst (N := 3) rfl ?_); refine box_event ?hg (N := 3) ?hd (cs := #[.int .i64 a1_0, .int .i64 a1_1, .int .i64 a1_2, .int .i64 a1_3, .slice A1_4 l1_4.length c1_4, .bool a1_5]) (t := 26) ?hr ?_; (case hd => rfl); (case hg => rfl); (case hr => first | (go_simp; done) | (go_simp; rfl)); intro gb90003 hg w19 hbox hb; have _ := bB gb90002 hb; have _ := aM (below_step hbZ hb); have _ := aM hbox; have _ := szZ hg; have _ := szZ hg; have ⟨_, _⟩ := nbB gb90002 hg; clear BK90002 HB; rename_i BK90002 HB BK90003 GW90003 GE90003 NB90002_90003 NB90003_90002; clear hb hbox hg) | ((with_reducible refine gate_dst (N := 4) rfl ?_); refine box_event ?hg (N := 4) ?hd (cs := #[.int .i64 0, .int .i64 0, .int .i64 0, .int .i64 0, .slice none 0 0, .bool false]) (t := 26) ?hr ?_; (case hd => rfl); (case hg => rfl); (case hr => first | (go_simp; done) | (go_simp; rfl)); intro gb90004 hg w20 hbox hb; have _ := bB gb90002 hb; have _ := bB gb90003 hb; have _ := aM (below_step hbZ hb); have _ := aM hbox; have _ := szZ hg; have _ := szZ hg; have ⟨_, _⟩ := nbB gb90002 hg; have ⟨_, _⟩ := nbB gb90003 hg; clear BK90002 BK90003 HB; rename_i BK90002 BK90003 HB BK90004 GW90004 GE90004 NB90002_90004 NB90004_90002 NB90003_90004 NB90004_90003; clear hb hbox hg; have hnb21 := NB90002_90003.out; have hnc21 := NB90003_90002.out; have hnb22 := NB90002_90004.out; have hnc22 := NB90004_90002.out; obtain ⟨hcz23_0, hcz23_1, hcz23_2, hcz23_3, hcz23_4, hcz23_5, hfz23_0, hfz23_1, hfz23_2, hfz23_3, hfz23_4, hfz23_5⟩ := cellsZ6 BK90002.out; have hnb24 := NB90003_90004.out; have hnc24 := NB90004_90003.out; obtain ⟨hcz25_0, hcz25_1, hcz25_2, hcz25_3, hcz25_4, hcz25_5, hfz25_0, hfz25_1, hfz25_2, hfz25_3, hfz25_4, hfz25_5⟩ := cellsZ6 BK90003.out) | ((with_reducible refine gate_callee (f := 67) rfl ?_); refine goesL_ (some 18) rfl rfl Try.func67 (by kernel_rfl) rfl #[.agg #[.int .i64 a0_0, .int .i64 a0_1, .int .i64 a0_2, .int .i64 a0_3, .slice A0_4 l0_4.length c0_4, .bool a0_5]] rfl zee81 ?_; (with_reducible refine (spec_l4Own.calls a0_0 a0_1 a0_2 a0_3 _ _ l0_4 a0_5 t112 t113 t114 t115 t116 t119 _ ?side1 ?side2 A17.out).mono ?_); (case side1 => exact (cZ (Kd.C_below HR0_4.out HB.out))); (case side2 => exact HC0_4.out); rintro e w26 ⟨v117, rfl, ho0, hb⟩; refine ⟨_, rfl, ?_⟩; have _ := aM (Kd.R_lower ho0 (below_size hbZ)); have _ := bB gb90002 hb; have _ := bB gb90003 hb; have _ := bB gb90004 hb; have _ := aM (below_step hbZ hb); clear BK90002 BK90003 BK90004 HB; rename_i HO118 BK90002 BK90003 BK90004 HB; (try clear hb); (try clear ho0); obtain ⟨hcz27_0, hcz27_1, hcz27_2, hcz27_3, hcz27_4, hcz27_5, hfz27_0, hfz27_1, hfz27_2, hfz27_3, hfz27_4, hfz27_5⟩ := cellsZ6 BK90004.out; obtain ⟨Ao28, co28, eo28⟩ := Kd.R_slice HO118.out; subst eo28))
     refine bodyPost_ret (results_cell_row rfl _ _ gb90004 26 #[.int .i64 t112, .int .i64 t113, .int .i64 t114, .int .i64 t115, .slice Ao28 t116.length co28, .bool t119] (0, 0) _ rfl bkZ Try.underlying26 rfl (by kernel_rfl)) rfl ?_
     exact ⟨_, z674d, by (with_reducible repeat (first | apply Kd.R_alloc | apply Kd.R_drewN | apply Kd.R_drew)); exact Kd.R_mono (Kd.R_far (p := ⟨gb90004, 5, none⟩) (Kd.R_far (p := ⟨gb90004, 4, none⟩) (Kd.R_far (p := ⟨gb90004, 3, none⟩) (Kd.R_far (p := ⟨gb90004, 2, none⟩) (Kd.R_far (p := ⟨gb90004, 1, none⟩) (Kd.R_far (p := ⟨gb90004, 0, none⟩) (Kd.R_types HO118.out BK90004.out (by decide)) (fun _ hk => hk.2) (.int .i64 t112)) (fun _ hk => hk.2) (.int .i64 t113)) (fun _ hk => hk.2) (.int .i64 t114)) (fun _ hk => hk.2) (.int .i64 t115)) (fun _ hk => hk.2) (.slice Ao28 t116.length co28)) (fun _ hk => hk.2) (.bool t119)) (fun _ hk => trivial), zcb41⟩
   · rw [if_neg c16] at H
     have c16b0 : (a1_0 == 0) = false := beq_eq_false_iff_ne.mpr c16
     have c16b1 : (a1_0 != 0) = true := bne_iff_ne.mpr c16
     by_cases c29 : a0_5 = true
     · subst c29
       rw [if_pos rfl] at H
       have HC30 := aM H
       clear H
       go_enter Try.func68, Try.ntmps68
       go_upto_if 42 with (first | ((with_reducible refine gate_dst (N := 2) rfl ?_); refine box_event ?hg (N := 2) ?hd (cs := #[.int .i64 a0_0, .int .i64 a0_1, .int .i64 a0_2, .int .i64 a0_3, .slice A0_4 l0_4.length c0_4, .bool true]) (t := 26) ?hr ?_; (case hd => rfl); (case hg => rfl); (case hr => first | (go_simp; done) | (go_simp; rfl)); intro gb90002 hg w31 hbox hb; have _ := aM (below_step hbZ hb); have _ := aM hbox; have _ := szZ hg; have _ := szZ hg; clear HB; rename_i HB BK90002 GW90002 GE90002; clear hb hbox hg) | ((with_reducible refine gate_dst (N := 3) rfl ?_); refine box_event ?hg (N := 3) ?hd (cs := #[.int .i64 a1_0, .int .i64 a1_1, .int .i64 a1_2, .int .i64 a1_3, .slice A1_4 l1_4.length c1_4, .bool a1_5]) (t := 26) ?hr ?_; (case hd => rfl); (case hg => rfl); (case hr => first | (go_simp; done) | (go_simp; rfl)); intro gb90003 hg w32 hbox hb; have _ := bB gb90002 hb; have _ := aM (below_step hbZ hb); have _ := aM hbox; have _ := szZ hg; have _ := szZ hg; have ⟨_, _⟩ := nbB gb90002 hg; clear BK90002 HB; rename_i BK90002 HB BK90003 GW90003 GE90003 NB90002_90003 NB90003_90002; clear hb hbox hg) | ((with_reducible refine gate_dst (N := 4) rfl ?_); refine box_event ?hg (N := 4) ?hd (cs := #[.int .i64 0, .int .i64 0, .int .i64 0, .int .i64 0, .slice none 0 0, .bool false]) (t := 26) ?hr ?_; (case hd => rfl); (case hg => rfl); (case hr => first | (go_simp; done) | (go_simp; rfl)); intro gb90004 hg w33 hbox hb; have _ := bB gb90002 hb; have _ := bB gb90003 hb; have _ := aM (below_step hbZ hb); have _ := aM hbox; have _ := szZ hg; have _ := szZ hg; have ⟨_, _⟩ := nbB gb90002 hg; have ⟨_, _⟩ := nbB gb90003 hg; clear BK90002 BK90003 HB; rename_i BK90002 BK90003 HB BK90004 GW90004 GE90004 NB90002_90004 NB90004_90002 NB90003_90004 NB90004_90003; clear hb hbox hg; have hnb34 := NB90002_90003.out; have hnc34 := NB90003_90002.out; have hnb35 := NB90002_90004.out; have hnc35 := NB90004_90002.out; obtain ⟨hcz36_0, hcz36_1, hcz36_2, hcz36_3, hcz36_4, hcz36_5, hfz36_0, hfz36_1, hfz36_2, hfz36_3, hfz36_4, hfz36_5⟩ := cellsZ6 BK90002.out; have hnb37 := NB90003_90004.out; have hnc37 := NB90004_90003.out; obtain ⟨hcz38_0, hcz38_1, hcz38_2, hcz38_3, hcz38_4, hcz38_5, hfz38_0, hfz38_1, hfz38_2, hfz38_3, hfz38_4, hfz38_5⟩ := cellsZ6 BK90003.out) | ((with_reducible refine gate_dst (N := 5) rfl ?_); refine box_event ?hg (N := 5) ?hd (cs := #[.int .i64 0, .int .i64 0, .int .i64 0, .int .i64 0, .slice none 0 0, .bool false]) (t := 26) ?hr ?_; (case hd => rfl); (case hg => rfl); (case hr => first | (go_simp; done) | (go_simp; rfl)); intro gb90005 hg w39 hbox hb; have _ := bB gb90002 hb; have _ := bB gb90003 hb; have _ := bB gb90004 hb; have _ := aM (below_step hbZ hb); have _ := aM hbox; have _ := szZ hg; have _ := szZ hg; have ⟨_, _⟩ := nbB gb90002 hg; have ⟨_, _⟩ := nbB gb90003 hg; have ⟨_, _⟩ := nbB gb90004 hg; clear BK90002 BK90003 BK90004 HB; rename_i BK90002 BK90003 BK90004 HB BK90005 GW90005 GE90005 NB90002_90005 NB90005_90002 NB90003_90005 NB90005_90003 NB90004_90005 NB90005_90004; clear hb hbox hg; have hnb40 := NB90005_90002.out; have hnc40 := NB90002_90005.out; have hnb41 := NB90005_90003.out; have hnc41 := NB90003_90005.out; have hnb42 := NB90005_90004.out; have hnc42 := NB90004_90005.out; obtain ⟨hcz43_0, hcz43_1, hcz43_2, hcz43_3, hcz43_4, hcz43_5, hfz43_0, hfz43_1, hfz43_2, hfz43_3, hfz43_4, hfz43_5⟩ := cellsZ6 BK90005.out))
       (try simp only [Act.put, List.setIfInBounds_toArray, List.set_cons_zero, List.set_cons_succ])
       go_cut [] (fun wc => ∃ (kq : Nat) (x90006000_29 : Int) (x90006005_29 : Bool), Aside0 (spec_l4Join.j0 kq a0_0 a0_1 a0_2 a0_3 l0_4 true a1_0 a1_1 a1_2 a1_3 l1_4 a1_5 x90006000_29 (wrap64 (a0_1 + a1_1)) a0_2 a0_3 x90006005_29 = some (r1, r2, r3, r4, r5, r6)) ∧ Aside0 (kq ≤ k) ∧ Aside0 (wc.heap[gb90002]? = some (.cells #[.int .i64 a0_0, .int .i64 a0_1, .int .i64 a0_2, .int .i64 a0_3, (.slice A0_4 l0_4.length c0_4), .bool true] 26 (0, 0))) ∧ Aside0 (wc.heap[gb90003]? = some (.cells #[.int .i64 a1_0, .int .i64 a1_1, .int .i64 a1_2, .int .i64 a1_3, (.slice A1_4 l1_4.length c1_4), .bool a1_5] 26 (0, 0))) ∧ Aside0 (wc.heap[gb90004]? = some (.cells #[.int .i64 0, .int .i64 0, .int .i64 0, .int .i64 0, (.slice none 0 0), .bool false] 26 (0, 0))) ∧ Aside0 (wc.heap[gb90005]? = some (.cells #[.int .i64 x90006000_29, .int .i64 (wrap64 (a0_1 + a1_1)), .int .i64 a0_2, .int .i64 a0_3, (.slice none 0 0), .bool x90006005_29] 26 (0, 0))) ∧ Aside0 (Below w.heap.size w wc))
       case first =>
        have H := HC30.out
        clear HC30
        by_cases c44 : (wrap64 (a0_0 + a1_0)) > 1000000000
        · rw [if_pos c44] at H
          have c44b0 : decide (1000000000 < (wrap64 (a0_0 + a1_0))) = true := decide_eq_true c44
          clear c44
          (first | rw [c44b0] | (simp only [i64_w, i32_w]; rw [c44b0]) | skip)
          have H' := aM H
          clear H
          have hnb45 := NB90005_90002.out
          have hnc45 := NB90002_90005.out
          have hnb46 := NB90005_90003.out
          have hnc46 := NB90003_90005.out
          have hnb47 := NB90005_90004.out
          have hnc47 := NB90004_90005.out
          obtain ⟨hcz48_0, hcz48_1, hcz48_2, hcz48_3, hcz48_4, hcz48_5, hfz48_0, hfz48_1, hfz48_2, hfz48_3, hfz48_4, hfz48_5⟩ := cellsZ6 BK90005.out
          go_wp2
          go_meet
          case rel => exact ⟨_, (1000000000), (true), H', ⟨zb79b⟩, ⟨bkZ⟩, ⟨bkZ⟩, ⟨bkZ⟩, ⟨bkZ⟩, ⟨zcb41⟩⟩
        · rw [if_neg c44] at H
          have c44b0 : decide (1000000000 < (wrap64 (a0_0 + a1_0))) = false := decide_eq_false c44
          clear c44
          (first | rw [c44b0] | (simp only [i64_w, i32_w]; rw [c44b0]) | skip)
          have H' := aM H
          clear H
          go_wp2
          go_meet
          case rel => exact ⟨_, (wrap64 (a0_0 + a1_0)), (true), H', ⟨zb79b⟩, ⟨bkZ⟩, ⟨bkZ⟩, ⟨bkZ⟩, ⟨bkZ⟩, ⟨zcb41⟩⟩
       case rest =>
        clear HC30
        try clear c1
        try clear c2
        try clear p2
        try clear c3
        try clear c3b0
        try clear c3b1
        try clear c4
        try clear c6
        try clear p6
        try clear c8
        try clear c9
        try clear c11
        try clear c16
        try clear c16b0
        try clear c16b1
        try clear c21
        try clear c22
        try clear c24
        try clear c29
        try clear c34
        try clear c35
        try clear c37
        try clear c40
        try clear c41
        try clear c42
        try clear c44
        try clear c44b0
        try clear c45
        try clear c46
        try clear c47
        obtain ⟨kq, x90006000_29, x90006005_29, HA, HJ29, BK90002, BK90003, BK90004, BK90005, HB⟩ := hcut
        cases kq with
        | zero => exact absurd HA.out (by simp [spec_l4Join.j0])
        | succ kj29 =>
         have H := HA.out
         clear HA
         simp only [spec_l4Join.j0] at H
         have HC49 := aM H
         clear H
         have hnb50 := NB90003_90002.out
         have hnc50 := NB90002_90003.out
         have hnb51 := NB90003_90004.out
         have hnc51 := NB90004_90003.out
         have hnb52 := NB90003_90005.out
         have hnc52 := NB90005_90003.out
         obtain ⟨hcz53_0, hcz53_1, hcz53_2, hcz53_3, hcz53_4, hcz53_5, hfz53_0, hfz53_1, hfz53_2, hfz53_3, hfz53_4, hfz53_5⟩ := cellsZ6 BK90003.out
         have hnb54 := NB90005_90002.out
         have hnc54 := NB90002_90005.out
         have hnb55 := NB90005_90004.out
         have hnc55 := NB90004_90005.out
         obtain ⟨hcz56_0, hcz56_1, hcz56_2, hcz56_3, hcz56_4, hcz56_5, hfz56_0, hfz56_1, hfz56_2, hfz56_3, hfz56_4, hfz56_5⟩ := cellsZ6 BK90005.out
         go_upto_if 49 with (fail)
         go_cut [] (fun wc => ∃ (kq : Nat) (x90006002_48 : Int), Aside0 (spec_l4Join.j1 kq a0_0 a0_1 a0_2 a0_3 l0_4 true a1_0 a1_1 a1_2 a1_3 l1_4 a1_5 x90006000_29 (wrap64 (a0_1 + a1_1)) x90006002_48 a0_3 x90006005_29 = some (r1, r2, r3, r4, r5, r6)) ∧ Aside0 (kq ≤ kj29) ∧ Aside0 (wc.heap[gb90002]? = some (.cells #[.int .i64 a0_0, .int .i64 a0_1, .int .i64 a0_2, .int .i64 a0_3, (.slice A0_4 l0_4.length c0_4), .bool true] 26 (0, 0))) ∧ Aside0 (wc.heap[gb90003]? = some (.cells #[.int .i64 a1_0, .int .i64 a1_1, .int .i64 a1_2, .int .i64 a1_3, (.slice A1_4 l1_4.length c1_4), .bool a1_5] 26 (0, 0))) ∧ Aside0 (wc.heap[gb90004]? = some (.cells #[.int .i64 0, .int .i64 0, .int .i64 0, .int .i64 0, (.slice none 0 0), .bool false] 26 (0, 0))) ∧ Aside0 (wc.heap[gb90005]? = some (.cells #[.int .i64 x90006000_29, .int .i64 (wrap64 (a0_1 + a1_1)), .int .i64 x90006002_48, .int .i64 a0_3, (.slice none 0 0), .bool x90006005_29] 26 (0, 0))) ∧ Aside0 (Below w.heap.size w wc))
         case first =>
          have H := HC49.out
          clear HC49
          by_cases c57 : a1_2 < a0_2
          · rw [if_pos c57] at H
            have c57b0 : decide (a1_2 < a0_2) = true := decide_eq_true c57
            clear c57
            (first | rw [c57b0] | (simp only [i64_w, i32_w]; rw [c57b0]) | skip)
            have H' := aM H
            clear H
            have hnb58 := NB90003_90002.out
            have hnc58 := NB90002_90003.out
            have hnb59 := NB90003_90004.out
            have hnc59 := NB90004_90003.out
            have hnb60 := NB90003_90005.out
            have hnc60 := NB90005_90003.out
            obtain ⟨hcz61_0, hcz61_1, hcz61_2, hcz61_3, hcz61_4, hcz61_5, hfz61_0, hfz61_1, hfz61_2, hfz61_3, hfz61_4, hfz61_5⟩ := cellsZ6 BK90003.out
            have hnb62 := NB90005_90002.out
            have hnc62 := NB90002_90005.out
            have hnb63 := NB90005_90004.out
            have hnc63 := NB90004_90005.out
            obtain ⟨hcz64_0, hcz64_1, hcz64_2, hcz64_3, hcz64_4, hcz64_5, hfz64_0, hfz64_1, hfz64_2, hfz64_3, hfz64_4, hfz64_5⟩ := cellsZ6 BK90005.out
            go_wp2
            go_meet
            case rel => exact ⟨_, (a1_2), H', ⟨by have := HJ29.out; first | omega | exact Nat.le_refl _⟩, ⟨bkZ⟩, ⟨bkZ⟩, ⟨bkZ⟩, ⟨bkZ⟩, ⟨zcb41⟩⟩
          · rw [if_neg c57] at H
            have c57b0 : decide (a1_2 < a0_2) = false := decide_eq_false c57
            clear c57
            (first | rw [c57b0] | (simp only [i64_w, i32_w]; rw [c57b0]) | skip)
            have H' := aM H
            clear H
            go_wp2
            go_meet
            case rel => exact ⟨_, (a0_2), H', ⟨by have := HJ29.out; first | omega | exact Nat.le_refl _⟩, ⟨bkZ⟩, ⟨bkZ⟩, ⟨bkZ⟩, ⟨bkZ⟩, ⟨zcb41⟩⟩
         case rest =>
          clear HC49
          try clear c1
          try clear c2
          try clear p2
          try clear c3
          try clear c3b0
          try clear c3b1
          try clear c4
          try clear c5
          try clear c6
          try clear p6
          try clear c8
          try clear c9
          try clear c11
          try clear c16
          try clear c16b0
          try clear c16b1
          try clear c21
          try clear c22
          try clear c24
          try clear c29
          try clear c34
          try clear c35
          try clear c37
          try clear c40
          try clear c41
          try clear c42
          try clear c44
          try clear c44b0
          try clear c45
          try clear c46
          try clear c47
          try clear c50
          try clear c51
          try clear c52
          try clear c54
          try clear c55
          try clear c57
          try clear c57b0
          try clear c58
          try clear c59
          try clear c60
          try clear c62
          try clear c63
          try clear p64
          try clear p2
          try clear p6
          obtain ⟨kq, x90006002_48, HA, HJ48, BK90002, BK90003, BK90004, BK90005, HB⟩ := hcut
          cases kq with
          | zero => exact absurd HA.out (by simp [spec_l4Join.j1])
          | succ kj48 =>
           have H := HA.out
           clear HA
           simp only [spec_l4Join.j1] at H
           have HC65 := aM H
           clear H
           have hnb66 := NB90003_90002.out
           have hnc66 := NB90002_90003.out
           have hnb67 := NB90003_90004.out
           have hnc67 := NB90004_90003.out
           have hnb68 := NB90003_90005.out
           have hnc68 := NB90005_90003.out
           obtain ⟨hcz69_0, hcz69_1, hcz69_2, hcz69_3, hcz69_4, hcz69_5, hfz69_0, hfz69_1, hfz69_2, hfz69_3, hfz69_4, hfz69_5⟩ := cellsZ6 BK90003.out
           have hnb70 := NB90005_90002.out
           have hnc70 := NB90002_90005.out
           have hnb71 := NB90005_90004.out
           have hnc71 := NB90004_90005.out
           obtain ⟨hcz72_0, hcz72_1, hcz72_2, hcz72_3, hcz72_4, hcz72_5, hfz72_0, hfz72_1, hfz72_2, hfz72_3, hfz72_4, hfz72_5⟩ := cellsZ6 BK90005.out
           go_upto_if 57 with (fail)
           go_cut [] (fun wc => ∃ (kq : Nat) (x90006003_64 : Int), Aside0 (spec_l4Join.j2 kq a0_0 a0_1 a0_2 a0_3 l0_4 true a1_0 a1_1 a1_2 a1_3 l1_4 a1_5 x90006000_29 (wrap64 (a0_1 + a1_1)) x90006002_48 x90006003_64 x90006005_29 = some (r1, r2, r3, r4, r5, r6)) ∧ Aside0 (kq ≤ kj48) ∧ Aside0 (wc.heap[gb90002]? = some (.cells #[.int .i64 a0_0, .int .i64 a0_1, .int .i64 a0_2, .int .i64 a0_3, (.slice A0_4 l0_4.length c0_4), .bool true] 26 (0, 0))) ∧ Aside0 (wc.heap[gb90003]? = some (.cells #[.int .i64 a1_0, .int .i64 a1_1, .int .i64 a1_2, .int .i64 a1_3, (.slice A1_4 l1_4.length c1_4), .bool a1_5] 26 (0, 0))) ∧ Aside0 (wc.heap[gb90004]? = some (.cells #[.int .i64 0, .int .i64 0, .int .i64 0, .int .i64 0, (.slice none 0 0), .bool false] 26 (0, 0))) ∧ Aside0 (wc.heap[gb90005]? = some (.cells #[.int .i64 x90006000_29, .int .i64 (wrap64 (a0_1 + a1_1)), .int .i64 x90006002_48, .int .i64 x90006003_64, (.slice none 0 0), .bool x90006005_29] 26 (0, 0))) ∧ Aside0 (Below w.heap.size w wc))
           case first =>
            have H := HC65.out
            clear HC65
            by_cases c73 : a1_3 > a0_3
            · rw [if_pos c73] at H
              have c73b0 : decide (a0_3 < a1_3) = true := decide_eq_true c73
              clear c73
              (first | rw [c73b0] | (simp only [i64_w, i32_w]; rw [c73b0]) | skip)
              have H' := aM H
              clear H
              have hnb74 := NB90003_90002.out
              have hnc74 := NB90002_90003.out
              have hnb75 := NB90003_90004.out
              have hnc75 := NB90004_90003.out
              have hnb76 := NB90003_90005.out
              have hnc76 := NB90005_90003.out
              obtain ⟨hcz77_0, hcz77_1, hcz77_2, hcz77_3, hcz77_4, hcz77_5, hfz77_0, hfz77_1, hfz77_2, hfz77_3, hfz77_4, hfz77_5⟩ := cellsZ6 BK90003.out
              have hnb78 := NB90005_90002.out
              have hnc78 := NB90002_90005.out
              have hnb79 := NB90005_90004.out
              have hnc79 := NB90004_90005.out
              obtain ⟨hcz80_0, hcz80_1, hcz80_2, hcz80_3, hcz80_4, hcz80_5, hfz80_0, hfz80_1, hfz80_2, hfz80_3, hfz80_4, hfz80_5⟩ := cellsZ6 BK90005.out
              go_wp2
              go_meet
              case rel => exact ⟨_, (a1_3), H', ⟨by have := HJ29.out; have := HJ48.out; first | omega | exact Nat.le_refl _⟩, ⟨bkZ⟩, ⟨bkZ⟩, ⟨bkZ⟩, ⟨bkZ⟩, ⟨zcb41⟩⟩
            · rw [if_neg c73] at H
              have c73b0 : decide (a0_3 < a1_3) = false := decide_eq_false c73
              clear c73
              (first | rw [c73b0] | (simp only [i64_w, i32_w]; rw [c73b0]) | skip)
              have H' := aM H
              clear H
              go_wp2
              go_meet
              case rel => exact ⟨_, (a0_3), H', ⟨by have := HJ29.out; have := HJ48.out; first | omega | exact Nat.le_refl _⟩, ⟨bkZ⟩, ⟨bkZ⟩, ⟨bkZ⟩, ⟨bkZ⟩, ⟨zcb41⟩⟩
           case rest =>
            clear HC65
            try clear c1
            try clear c2
            try clear p2
            try clear c3
            try clear c3b0
            try clear c3b1
            try clear c4
            try clear c5
            try clear c6
            try clear p6
            try clear c7
            try clear c8
            try clear c9
            try clear c11
            try clear c16
            try clear c16b0
            try clear c16b1
            try clear c21
            try clear c22
            try clear c24
            try clear c29
            try clear c34
            try clear c35
            try clear c37
            try clear c40
            try clear c41
            try clear c42
            try clear c44
            try clear c44b0
            try clear c45
            try clear c46
            try clear c47
            try clear c50
            try clear c51
            try clear c52
            try clear c54
            try clear c55
            try clear c57
            try clear c57b0
            try clear c58
            try clear c59
            try clear c60
            try clear c62
            try clear c63
            try clear p64
            try clear c66
            try clear c67
            try clear c68
            try clear c70
            try clear c71
            try clear c73
            try clear c73b0
            try clear c74
            try clear c75
            try clear c76
            try clear c78
            try clear c79
            try clear p2
            try clear p6
            try clear p64
            obtain ⟨kq, x90006003_64, HA, HJ64, BK90002, BK90003, BK90004, BK90005, HB⟩ := hcut
            cases kq with
            | zero => exact absurd HA.out (by simp [spec_l4Join.j2])
            | succ kj64 =>
             have H := HA.out
             clear HA
             simp only [spec_l4Join.j2] at H
             have H' := aM H
             clear H
             have hnb81 := NB90002_90003.out
             have hnc81 := NB90003_90002.out
             have hnb82 := NB90002_90004.out
             have hnc82 := NB90004_90002.out
             have hnb83 := NB90002_90005.out
             have hnc83 := NB90005_90002.out
             obtain ⟨hcz84_0, hcz84_1, hcz84_2, hcz84_3, hcz84_4, hcz84_5, hfz84_0, hfz84_1, hfz84_2, hfz84_3, hfz84_4, hfz84_5⟩ := cellsZ6 BK90002.out
             go_wp2
             go_loopg [64] kj64 (fun kq v64 w' => ∃ (x64_4 : Int) (x90006004_4 : List Int) (x90006005_4 : Bool) (u90006004 : Value), v64 = .int .i64 x64_4 ∧ Aside0 (spec_l4Join.l0 kq l0_4 (l0_4.length : Int) x64_4 a1_0 a1_1 a1_2 a1_3 l1_4 a1_5 x90006000_29 (wrap64 (a0_1 + a1_1)) x90006002_48 x90006003_64 x90006004_4 x90006005_4 = some (r1, r2, r3, r4, r5, r6)) ∧ Aside0 (kq ≤ kj64) ∧ Aside0 (Kd.R (Kd.int .i64) 3 w' w.heap.size (fun _ => True) u90006004 x90006004_4) ∧ Aside0 (w'.heap[gb90002]? = some (.cells #[.int .i64 a0_0, .int .i64 a0_1, .int .i64 a0_2, .int .i64 a0_3, (.slice A0_4 l0_4.length c0_4), .bool true] 26 (0, 0))) ∧ Aside0 (w'.heap[gb90003]? = some (.cells #[.int .i64 a1_0, .int .i64 a1_1, .int .i64 a1_2, .int .i64 a1_3, (.slice A1_4 l1_4.length c1_4), .bool a1_5] 26 (0, 0))) ∧ Aside0 (w'.heap[gb90004]? = some (.cells #[.int .i64 0, .int .i64 0, .int .i64 0, .int .i64 0, (.slice none 0 0), .bool false] 26 (0, 0))) ∧ Aside0 (w'.heap[gb90005]? = some (.cells #[.int .i64 x90006000_29, .int .i64 (wrap64 (a0_1 + a1_1)), .int .i64 x90006002_48, .int .i64 x90006003_64, u90006004, .bool x90006005_4] 26 (0, 0))) ∧ Aside0 (Below w.heap.size w w'))
             case atStart => exact ⟨(0), (([] : List Int)), (x90006005_29), (.slice none 0 0), z4458, H', ⟨Nat.le_refl _⟩, ⟨z02fa⟩, ⟨bkZ⟩, ⟨bkZ⟩, ⟨bkZ⟩, ⟨bkZ⟩, ⟨zcb41⟩⟩
             case round =>
              clear H'
              try clear c1
              try clear c2
              try clear p2
              try clear c3
              try clear c3b0
              try clear c3b1
              try clear c4
              try clear c5
              try clear c6
              try clear p6
              try clear c7
              try clear c8
              try clear c9
              try clear c11
              try clear c16
              try clear c16b0
              try clear c16b1
              try clear c21
              try clear c22
              try clear c24
              try clear c29
              try clear c34
              try clear c35
              try clear c37
              try clear c40
              try clear c41
              try clear c42
              try clear c44
              try clear c44b0
              try clear c45
              try clear c46
              try clear c47
              try clear c50
              try clear c51
              try clear c52
              try clear c54
              try clear c55
              try clear c57
              try clear c57b0
              try clear c58
              try clear c59
              try clear c60
              try clear c62
              try clear c63
              try clear p64
              try clear c66
              try clear c67
              try clear c68
              try clear c70
              try clear c71
              try clear c73
              try clear c73b0
              try clear c74
              try clear c75
              try clear c76
              try clear c78
              try clear c79
              try clear c81
              try clear c82
              try clear c83
              try clear p2
              try clear p6
              try clear p64
              obtain ⟨x64_4, x90006004_4, x90006005_4, u90006004, rfl, HA, HK4, HO_90006004, BK90002, BK90003, BK90004, BK90005, HB⟩ := hrel
              cases gk with
              | zero => exact absurd HA.out (by simp [spec_l4Join.l0])
              | succ k4 =>
               have H := HA.out
               clear HA
               simp only [spec_l4Join.l0] at H
               by_cases c85 : x64_4 < (l0_4.length : Int)
               · rw [if_pos c85] at H
                 have c85b0 : decide (x64_4 < (l0_4.length : Int)) = true := decide_eq_true c85
                 clear c85
                 replace H := ifS H; obtain ⟨c86, H⟩ := H
                 have c86b0 : decide (0 ≤ x64_4) = true := decide_eq_true c86
                 clear c86
                 replace H := ifS H; obtain ⟨c87, H⟩ := H
                 have c87b0 : decide (x64_4 < (l0_4.length : Int)) = true := decide_eq_true c87
                 clear c87
                 replace H := ifS H; obtain ⟨c88, H⟩ := H
                 have c88b0 : decide (x64_4 < (l1_4.length : Int)) = true := decide_eq_true c88
                 clear c88
                 by_cases c89 : (wrap64 ((rd l0_4 x64_4) + (rd l1_4 x64_4))) > 1000000000
                 · rw [if_pos c89] at H
                   have c89b0 : decide (1000000000 < (wrap64 ((rd l0_4 x64_4) + (rd l1_4 x64_4)))) = true := decide_eq_true c89
                   clear c89
                   replace H := ifS H; obtain ⟨c90, H⟩ := H
                   have LMc90 := aM c90
                   clear c90
                   obtain ⟨y123, hy123⟩ : ∃ y_ : List Int, y_ = (x90006004_4 ++ [1000000000]) := ⟨_, rfl⟩
                   first | (replace H := bindS H; rw [← hy123] at H; try dsimp only at H) | rw [← hy123] at H
                   have Ny123 := aM hy123
                   clear hy123
                   have H' := aM H
                   clear H
                   have p121 : 0 ≤ (x64_4 : Int) := of_decide_eq_true z1200
                   have q121 : x64_4 < (l0_4.length : Int) := of_decide_eq_true z1200
                   obtain ⟨ad121, e121, hx121_0⟩ := Kd.at_int HR0_4.out x64_4 p121 q121
                   cases e121
                   replace hx121_0 := (HB.out.cell (World.block_lt_of_cell? w _ hx121_0)).trans hx121_0
                   replace p121 := eq_true p121
                   replace q121 := eq_true q121
                   have hnb91 := NB90003_90002.out
                   have hnc91 := NB90002_90003.out
                   have hnb92 := NB90003_90004.out
                   have hnc92 := NB90004_90003.out
                   have hnb93 := NB90003_90005.out
                   have hnc93 := NB90005_90003.out
                   obtain ⟨hcz94_0, hcz94_1, hcz94_2, hcz94_3, hcz94_4, hcz94_5, hfz94_0, hfz94_1, hfz94_2, hfz94_3, hfz94_4, hfz94_5⟩ := cellsZ6 BK90003.out
                   have p122 : 0 ≤ (x64_4 : Int) := of_decide_eq_true z1200
                   have q122 : x64_4 < (l1_4.length : Int) := of_decide_eq_true z1200
                   obtain ⟨ad122, e122, hx122_0⟩ := Kd.at_int HR1_4.out x64_4 p122 q122
                   cases e122
                   replace hx122_0 := (HB.out.cell (World.block_lt_of_cell? w _ hx122_0)).trans hx122_0
                   replace p122 := eq_true p122
                   replace q122 := eq_true q122
                   have hnb95 := NB90005_90002.out
                   have hnc95 := NB90002_90005.out
                   have hnb96 := NB90005_90004.out
                   have hnc96 := NB90004_90005.out
                   obtain ⟨hcz97_0, hcz97_1, hcz97_2, hcz97_3, hcz97_4, hcz97_5, hfz97_0, hfz97_1, hfz97_2, hfz97_3, hfz97_4, hfz97_5⟩ := cellsZ6 BK90005.out
                   go_wp2_with (first | ((with_reducible refine gate_builtin (b := .append) (xs := #[.tmp 80, .tmp 82]) rfl ?_); at_builtin; refine Kd.R_append (Kd.int .i64) (w0 := w) w.heap.size rfl (.tmp 80) (.tmp 82) 24 3 (.int .i64 0) 8 rfl Try.underlying24 info3 rfl (by decide) (by omega) u90006004 x90006004_4 1000000000 [.int .i64 1000000000] (fun _ => True) (fun _ => False) rfl (by first | (go_simp; done) | (go_simp; rfl)) ?aP (fun _ hk => hk.elim) ?aF ?aO ?aB ?aS ?aL ?_; (case aP => exact rfl); (case aB => exact hbZ); (case aF => exact (fun _ _ => trivial)); (case aO => exact (by (with_reducible repeat (first | apply Kd.R_alloc | apply Kd.R_drewN | apply Kd.R_drew)); exact Kd.R_mono (Kd.R_far (p := ⟨gb90005, 5, none⟩) (Kd.R_types HO_90006004.out BK90005.out (by decide)) (fun _ hk => hk.2) (.bool true)) (fun _ hk => trivial))); (case aS => exact (below_size hbZ)); (case aL => have := LMc90.out; omega); intro v124 w98 ho hb hg hat; rw [← Ny123.out] at ho; have _ := aM (blk_grown (g := gb90002) bkZ hg (Kd.R_ne HO_90006004.out BK90002.out (by decide))); have _ := aM (blk_grown (g := gb90003) bkZ hg (Kd.R_ne HO_90006004.out BK90003.out (by decide))); have _ := aM (blk_grown (g := gb90004) bkZ hg (Kd.R_ne HO_90006004.out BK90004.out (by decide))); have _ := aM (blk_grown (g := gb90005) (o := .cells #[.int .i64 x90006000_29, .int .i64 (wrap64 (a0_1 + a1_1)), .int .i64 x90006002_48, .int .i64 x90006003_64, u90006004, .bool true] 26 (0, 0)) bkZ hg (Kd.R_ne HO_90006004.out BK90005.out (by decide))); have _ := aM hb; have _ := aM ho; clear BK90002 BK90003 BK90004 BK90005 HB HO_90006004; rename_i BK90002 BK90003 BK90004 BK90005 HB HO125; clear ho hb hg hat; obtain ⟨Ao99, co99, eo99⟩ := Kd.R_slice HO125.out; subst eo99; obtain ⟨hcz100_0, hcz100_1, hcz100_2, hcz100_3, hcz100_4, hcz100_5, hfz100_0, hfz100_1, hfz100_2, hfz100_3, hfz100_4, hfz100_5⟩ := cellsZ6 BK90005.out))
                   go_roundg k4
                   case measure => have := HJ29.out; have := HJ48.out; have := HJ64.out; have := HK4.out; omega
                   case rel => exact ⟨(wrap64 (x64_4 + 1)), (y123), (true), (.slice Ao99 y123.length co99), z4458, H', ⟨by have := HJ29.out; have := HJ48.out; have := HJ64.out; have := HK4.out; omega⟩, ⟨by (with_reducible repeat (first | apply Kd.R_alloc | apply Kd.R_drewN | apply Kd.R_drew)); exact Kd.R_mono (Kd.R_far (p := ⟨gb90005, 4, none⟩) (Kd.R_types HO125.out BK90005.out (by decide)) (fun _ hk => hk.2) (.slice Ao99 y123.length co99)) (fun _ hk => trivial)⟩, ⟨bkZ⟩, ⟨bkZ⟩, ⟨bkZ⟩, ⟨bkZ⟩, ⟨zcb41⟩⟩
                 · rw [if_neg c89] at H
                   have c89b0 : decide (1000000000 < (wrap64 ((rd l0_4 x64_4) + (rd l1_4 x64_4)))) = false := decide_eq_false c89
                   clear c89
                   replace H := ifS H; obtain ⟨c101, H⟩ := H
                   have LMc101 := aM c101
                   clear c101
                   obtain ⟨y126, hy126⟩ : ∃ y_ : List Int, y_ = (x90006004_4 ++ [wrap64 ((rd l0_4 x64_4) + (rd l1_4 x64_4))]) := ⟨_, rfl⟩
                   first | (replace H := bindS H; rw [← hy126] at H; try dsimp only at H) | rw [← hy126] at H
                   have Ny126 := aM hy126
                   clear hy126
                   have H' := aM H
                   clear H
                   have p121 : 0 ≤ (x64_4 : Int) := of_decide_eq_true z1200
                   have q121 : x64_4 < (l0_4.length : Int) := of_decide_eq_true z1200
                   obtain ⟨ad121, e121, hx121_0⟩ := Kd.at_int HR0_4.out x64_4 p121 q121
                   cases e121
                   replace hx121_0 := (HB.out.cell (World.block_lt_of_cell? w _ hx121_0)).trans hx121_0
                   replace p121 := eq_true p121
                   replace q121 := eq_true q121
                   have hnb102 := NB90003_90002.out
                   have hnc102 := NB90002_90003.out
                   have hnb103 := NB90003_90004.out
                   have hnc103 := NB90004_90003.out
                   have hnb104 := NB90003_90005.out
                   have hnc104 := NB90005_90003.out
                   obtain ⟨hcz105_0, hcz105_1, hcz105_2, hcz105_3, hcz105_4, hcz105_5, hfz105_0, hfz105_1, hfz105_2, hfz105_3, hfz105_4, hfz105_5⟩ := cellsZ6 BK90003.out
                   have p122 : 0 ≤ (x64_4 : Int) := of_decide_eq_true z1200
                   have q122 : x64_4 < (l1_4.length : Int) := of_decide_eq_true z1200
                   obtain ⟨ad122, e122, hx122_0⟩ := Kd.at_int HR1_4.out x64_4 p122 q122
                   cases e122
                   replace hx122_0 := (HB.out.cell (World.block_lt_of_cell? w _ hx122_0)).trans hx122_0
                   replace p122 := eq_true p122
                   replace q122 := eq_true q122
                   have hnb106 := NB90005_90002.out
                   have hnc106 := NB90002_90005.out
                   have hnb107 := NB90005_90004.out
                   have hnc107 := NB90004_90005.out
                   obtain ⟨hcz108_0, hcz108_1, hcz108_2, hcz108_3, hcz108_4, hcz108_5, hfz108_0, hfz108_1, hfz108_2, hfz108_3, hfz108_4, hfz108_5⟩ := cellsZ6 BK90005.out
                   go_wp2_with (first | ((with_reducible refine gate_builtin (b := .append) (xs := #[.tmp 80, .tmp 82]) rfl ?_); at_builtin; refine Kd.R_append (Kd.int .i64) (w0 := w) w.heap.size rfl (.tmp 80) (.tmp 82) 24 3 (.int .i64 0) 8 rfl Try.underlying24 info3 rfl (by decide) (by omega) u90006004 x90006004_4 (wrap64 ((rd l0_4 x64_4) + (rd l1_4 x64_4))) [.int .i64 (wrap64 ((rd l0_4 x64_4) + (rd l1_4 x64_4)))] (fun _ => True) (fun _ => False) rfl rfl ?aP (fun _ hk => hk.elim) ?aF ?aO ?aB ?aS ?aL ?_; (case aP => exact rfl); (case aB => exact hbZ); (case aF => exact (fun _ _ => trivial)); (case aO => exact (rZ HO_90006004.out)); (case aS => exact (below_size hbZ)); (case aL => have := LMc101.out; omega); intro v127 w109 ho hb hg hat; rw [← Ny126.out] at ho; have _ := aM (blk_grown (g := gb90002) bkZ hg (Kd.R_ne HO_90006004.out BK90002.out (by decide))); have _ := aM (blk_grown (g := gb90003) bkZ hg (Kd.R_ne HO_90006004.out BK90003.out (by decide))); have _ := aM (blk_grown (g := gb90004) bkZ hg (Kd.R_ne HO_90006004.out BK90004.out (by decide))); have _ := aM (blk_grown (g := gb90005) bkZ hg (Kd.R_ne HO_90006004.out BK90005.out (by decide))); have _ := aM hb; have _ := aM ho; clear BK90002 BK90003 BK90004 BK90005 HB HO_90006004; rename_i BK90002 BK90003 BK90004 BK90005 HB HO128; clear ho hb hg hat; obtain ⟨Ao110, co110, eo110⟩ := Kd.R_slice HO128.out; subst eo110; obtain ⟨hcz111_0, hcz111_1, hcz111_2, hcz111_3, hcz111_4, hcz111_5, hfz111_0, hfz111_1, hfz111_2, hfz111_3, hfz111_4, hfz111_5⟩ := cellsZ6 BK90005.out))
                   go_roundg k4
                   case measure => have := HJ29.out; have := HJ48.out; have := HJ64.out; have := HK4.out; omega
                   case rel => exact ⟨(wrap64 (x64_4 + 1)), (y126), (x90006005_4), (.slice Ao110 y126.length co110), z4458, H', ⟨by have := HJ29.out; have := HJ48.out; have := HJ64.out; have := HK4.out; omega⟩, ⟨by (with_reducible repeat (first | apply Kd.R_alloc | apply Kd.R_drewN | apply Kd.R_drew)); exact Kd.R_mono (Kd.R_far (p := ⟨gb90005, 4, none⟩) (Kd.R_types HO128.out BK90005.out (by decide)) (fun _ hk => hk.2) (.slice Ao110 y126.length co110)) (fun _ hk => trivial)⟩, ⟨bkZ⟩, ⟨bkZ⟩, ⟨bkZ⟩, ⟨bkZ⟩, ⟨zcb41⟩⟩
               · rw [if_neg c85] at H
                 have c85b0 : decide (x64_4 < (l0_4.length : Int)) = false := decide_eq_false c85
                 clear c85
                 by_cases c112 : x90006005_4 = true
                 · subst c112
                   rw [if_pos rfl] at H
                   simp only [Option.some.injEq, Prod.mk.injEq] at H
                   obtain ⟨rfl, rfl, rfl, rfl, rfl, rfl⟩ := H
                   have hnb113 := NB90005_90002.out
                   have hnc113 := NB90002_90005.out
                   have hnb114 := NB90005_90003.out
                   have hnc114 := NB90003_90005.out
                   have hnb115 := NB90005_90004.out
                   have hnc115 := NB90004_90005.out
                   obtain ⟨hcz116_0, hcz116_1, hcz116_2, hcz116_3, hcz116_4, hcz116_5, hfz116_0, hfz116_1, hfz116_2, hfz116_3, hfz116_4, hfz116_5⟩ := cellsZ6 BK90005.out
                   have hnb117 := NB90004_90002.out
                   have hnc117 := NB90002_90004.out
                   have hnb118 := NB90004_90003.out
                   have hnc118 := NB90003_90004.out
                   obtain ⟨hcz119_0, hcz119_1, hcz119_2, hcz119_3, hcz119_4, hcz119_5, hfz119_0, hfz119_1, hfz119_2, hfz119_3, hfz119_4, hfz119_5⟩ := cellsZ6 BK90004.out
                   obtain ⟨Ao120, co120, eo120⟩ := Kd.R_slice HO_90006004.out
                   subst eo120
                   go_wp2
                   refine bodyPost_ret (results_cell_row rfl _ _ gb90004 26 #[.int .i64 x90006000_29, .int .i64 0, .int .i64 x90006002_48, .int .i64 x90006003_64, .slice Ao120 x90006004_4.length co120, .bool true] (0, 0) _ rfl bkZ Try.underlying26 rfl (by kernel_rfl)) rfl ?_
                   exact ⟨_, z674d, by (with_reducible repeat (first | apply Kd.R_alloc | apply Kd.R_drewN | apply Kd.R_drew)); exact Kd.R_mono (Kd.R_far (p := ⟨gb90004, 5, none⟩) (Kd.R_far (p := ⟨gb90004, 4, none⟩) (Kd.R_far (p := ⟨gb90004, 3, none⟩) (Kd.R_far (p := ⟨gb90004, 2, none⟩) (Kd.R_far (p := ⟨gb90004, 1, none⟩) (Kd.R_far (p := ⟨gb90004, 0, none⟩) (Kd.R_far (p := ⟨gb90005, 1, none⟩) (Kd.R_types (Kd.R_types HO_90006004.out BK90005.out (by decide)) BK90004.out (by decide)) (fun _ hk => hk.1.2) (.int .i64 0)) (fun _ hk => hk.2) (.int .i64 x90006000_29)) (fun _ hk => hk.2) (.int .i64 0)) (fun _ hk => hk.2) (.int .i64 x90006002_48)) (fun _ hk => hk.2) (.int .i64 x90006003_64)) (fun _ hk => hk.2) (.slice Ao120 x90006004_4.length co120)) (fun _ hk => hk.2) (.bool true)) (fun _ hk => trivial), zcb41⟩
                 · replace c112 := Bool.eq_false_iff.mpr c112
                   subst c112
                   rw [if_neg (show ¬ (false = true) by decide)] at H
                   simp only [Option.some.injEq, Prod.mk.injEq] at H
                   obtain ⟨rfl, rfl, rfl, rfl, rfl, rfl⟩ := H
                   have hnb121 := NB90005_90002.out
                   have hnc121 := NB90002_90005.out
                   have hnb122 := NB90005_90003.out
                   have hnc122 := NB90003_90005.out
                   have hnb123 := NB90005_90004.out
                   have hnc123 := NB90004_90005.out
                   obtain ⟨hcz124_0, hcz124_1, hcz124_2, hcz124_3, hcz124_4, hcz124_5, hfz124_0, hfz124_1, hfz124_2, hfz124_3, hfz124_4, hfz124_5⟩ := cellsZ6 BK90005.out
                   have hnb125 := NB90004_90002.out
                   have hnc125 := NB90002_90004.out
                   have hnb126 := NB90004_90003.out
                   have hnc126 := NB90003_90004.out
                   obtain ⟨hcz127_0, hcz127_1, hcz127_2, hcz127_3, hcz127_4, hcz127_5, hfz127_0, hfz127_1, hfz127_2, hfz127_3, hfz127_4, hfz127_5⟩ := cellsZ6 BK90004.out
                   obtain ⟨Ao128, co128, eo128⟩ := Kd.R_slice HO_90006004.out
                   subst eo128
                   go_wp2
                   refine bodyPost_ret (results_cell_row rfl _ _ gb90004 26 #[.int .i64 x90006000_29, .int .i64 (wrap64 (a0_1 + a1_1)), .int .i64 x90006002_48, .int .i64 x90006003_64, .slice Ao128 x90006004_4.length co128, .bool false] (0, 0) _ rfl bkZ Try.underlying26 rfl (by kernel_rfl)) rfl ?_
                   exact ⟨_, z674d, by (with_reducible repeat (first | apply Kd.R_alloc | apply Kd.R_drewN | apply Kd.R_drew)); exact Kd.R_mono (Kd.R_far (p := ⟨gb90004, 5, none⟩) (Kd.R_far (p := ⟨gb90004, 4, none⟩) (Kd.R_far (p := ⟨gb90004, 3, none⟩) (Kd.R_far (p := ⟨gb90004, 2, none⟩) (Kd.R_far (p := ⟨gb90004, 1, none⟩) (Kd.R_far (p := ⟨gb90004, 0, none⟩) (Kd.R_types HO_90006004.out BK90004.out (by decide)) (fun _ hk => hk.2) (.int .i64 x90006000_29)) (fun _ hk => hk.2) (.int .i64 (wrap64 (a0_1 + a1_1)))) (fun _ hk => hk.2) (.int .i64 x90006002_48)) (fun _ hk => hk.2) (.int .i64 x90006003_64)) (fun _ hk => hk.2) (.slice Ao128 x90006004_4.length co128)) (fun _ hk => hk.2) (.bool false)) (fun _ hk => trivial), zcb41⟩
     · replace c29 := Bool.eq_false_iff.mpr c29
       subst c29
       rw [if_neg (show ¬ (false = true) by decide)] at H
       have HC129 := aM H
       clear H
       go_enter Try.func68, Try.ntmps68
       go_upto_if 42 with (first | ((with_reducible refine gate_dst (N := 2) rfl ?_); refine box_event ?hg (N := 2) ?hd (cs := #[.int .i64 a0_0, .int .i64 a0_1, .int .i64 a0_2, .int .i64 a0_3, .slice A0_4 l0_4.length c0_4, .bool false]) (t := 26) ?hr ?_; (case hd => rfl); (case hg => rfl); (case hr => first | (go_simp; done) | (go_simp; rfl)); intro gb90002 hg w130 hbox hb; have _ := aM (below_step hbZ hb); have _ := aM hbox; have _ := szZ hg; have _ := szZ hg; clear HB; rename_i HB BK90002 GW90002 GE90002; clear hb hbox hg) | ((with_reducible refine gate_dst (N := 3) rfl ?_); refine box_event ?hg (N := 3) ?hd (cs := #[.int .i64 a1_0, .int .i64 a1_1, .int .i64 a1_2, .int .i64 a1_3, .slice A1_4 l1_4.length c1_4, .bool a1_5]) (t := 26) ?hr ?_; (case hd => rfl); (case hg => rfl); (case hr => first | (go_simp; done) | (go_simp; rfl)); intro gb90003 hg w131 hbox hb; have _ := bB gb90002 hb; have _ := aM (below_step hbZ hb); have _ := aM hbox; have _ := szZ hg; have _ := szZ hg; have ⟨_, _⟩ := nbB gb90002 hg; clear BK90002 HB; rename_i BK90002 HB BK90003 GW90003 GE90003 NB90002_90003 NB90003_90002; clear hb hbox hg) | ((with_reducible refine gate_dst (N := 4) rfl ?_); refine box_event ?hg (N := 4) ?hd (cs := #[.int .i64 0, .int .i64 0, .int .i64 0, .int .i64 0, .slice none 0 0, .bool false]) (t := 26) ?hr ?_; (case hd => rfl); (case hg => rfl); (case hr => first | (go_simp; done) | (go_simp; rfl)); intro gb90004 hg w132 hbox hb; have _ := bB gb90002 hb; have _ := bB gb90003 hb; have _ := aM (below_step hbZ hb); have _ := aM hbox; have _ := szZ hg; have _ := szZ hg; have ⟨_, _⟩ := nbB gb90002 hg; have ⟨_, _⟩ := nbB gb90003 hg; clear BK90002 BK90003 HB; rename_i BK90002 BK90003 HB BK90004 GW90004 GE90004 NB90002_90004 NB90004_90002 NB90003_90004 NB90004_90003; clear hb hbox hg; have hnb133 := NB90002_90003.out; have hnc133 := NB90003_90002.out; have hnb134 := NB90002_90004.out; have hnc134 := NB90004_90002.out; obtain ⟨hcz135_0, hcz135_1, hcz135_2, hcz135_3, hcz135_4, hcz135_5, hfz135_0, hfz135_1, hfz135_2, hfz135_3, hfz135_4, hfz135_5⟩ := cellsZ6 BK90002.out; have hnb136 := NB90003_90004.out; have hnc136 := NB90004_90003.out; obtain ⟨hcz137_0, hcz137_1, hcz137_2, hcz137_3, hcz137_4, hcz137_5, hfz137_0, hfz137_1, hfz137_2, hfz137_3, hfz137_4, hfz137_5⟩ := cellsZ6 BK90003.out) | ((with_reducible refine gate_dst (N := 5) rfl ?_); refine box_event ?hg (N := 5) ?hd (cs := #[.int .i64 0, .int .i64 0, .int .i64 0, .int .i64 0, .slice none 0 0, .bool false]) (t := 26) ?hr ?_; (case hd => rfl); (case hg => rfl); (case hr => first | (go_simp; done) | (go_simp; rfl)); intro gb90005 hg w138 hbox hb; have _ := bB gb90002 hb; have _ := bB gb90003 hb; have _ := bB gb90004 hb; have _ := aM (below_step hbZ hb); have _ := aM hbox; have _ := szZ hg; have _ := szZ hg; have ⟨_, _⟩ := nbB gb90002 hg; have ⟨_, _⟩ := nbB gb90003 hg; have ⟨_, _⟩ := nbB gb90004 hg; clear BK90002 BK90003 BK90004 HB; rename_i BK90002 BK90003 BK90004 HB BK90005 GW90005 GE90005 NB90002_90005 NB90005_90002 NB90003_90005 NB90005_90003 NB90004_90005 NB90005_90004; clear hb hbox hg; have hnb139 := NB90005_90002.out; have hnc139 := NB90002_90005.out; have hnb140 := NB90005_90003.out; have hnc140 := NB90003_90005.out; have hnb141 := NB90005_90004.out; have hnc141 := NB90004_90005.out; obtain ⟨hcz142_0, hcz142_1, hcz142_2, hcz142_3, hcz142_4, hcz142_5, hfz142_0, hfz142_1, hfz142_2, hfz142_3, hfz142_4, hfz142_5⟩ := cellsZ6 BK90005.out))
       (try simp only [Act.put, List.setIfInBounds_toArray, List.set_cons_zero, List.set_cons_succ])
       go_cut [] (fun wc => ∃ (kq : Nat) (x90006000_128 : Int) (x90006005_128 : Bool), Aside0 (spec_l4Join.j4 kq a0_0 a0_1 a0_2 a0_3 l0_4 false a1_0 a1_1 a1_2 a1_3 l1_4 a1_5 x90006000_128 (wrap64 (a0_1 + a1_1)) a0_2 a0_3 x90006005_128 = some (r1, r2, r3, r4, r5, r6)) ∧ Aside0 (kq ≤ k) ∧ Aside0 (wc.heap[gb90002]? = some (.cells #[.int .i64 a0_0, .int .i64 a0_1, .int .i64 a0_2, .int .i64 a0_3, (.slice A0_4 l0_4.length c0_4), .bool false] 26 (0, 0))) ∧ Aside0 (wc.heap[gb90003]? = some (.cells #[.int .i64 a1_0, .int .i64 a1_1, .int .i64 a1_2, .int .i64 a1_3, (.slice A1_4 l1_4.length c1_4), .bool a1_5] 26 (0, 0))) ∧ Aside0 (wc.heap[gb90004]? = some (.cells #[.int .i64 0, .int .i64 0, .int .i64 0, .int .i64 0, (.slice none 0 0), .bool false] 26 (0, 0))) ∧ Aside0 (wc.heap[gb90005]? = some (.cells #[.int .i64 x90006000_128, .int .i64 (wrap64 (a0_1 + a1_1)), .int .i64 a0_2, .int .i64 a0_3, (.slice none 0 0), .bool x90006005_128] 26 (0, 0))) ∧ Aside0 (Below w.heap.size w wc))
       case first =>
        have H := HC129.out
        clear HC129
        by_cases c143 : (wrap64 (a0_0 + a1_0)) > 1000000000
        · rw [if_pos c143] at H
          have c143b0 : decide (1000000000 < (wrap64 (a0_0 + a1_0))) = true := decide_eq_true c143
          clear c143
          (first | rw [c143b0] | (simp only [i64_w, i32_w]; rw [c143b0]) | skip)
          have H' := aM H
          clear H
          have hnb144 := NB90005_90002.out
          have hnc144 := NB90002_90005.out
          have hnb145 := NB90005_90003.out
          have hnc145 := NB90003_90005.out
          have hnb146 := NB90005_90004.out
          have hnc146 := NB90004_90005.out
          obtain ⟨hcz147_0, hcz147_1, hcz147_2, hcz147_3, hcz147_4, hcz147_5, hfz147_0, hfz147_1, hfz147_2, hfz147_3, hfz147_4, hfz147_5⟩ := cellsZ6 BK90005.out
          go_wp2
          go_meet
          case rel => exact ⟨_, (1000000000), (true), H', ⟨zb79b⟩, ⟨bkZ⟩, ⟨bkZ⟩, ⟨bkZ⟩, ⟨bkZ⟩, ⟨zcb41⟩⟩
        · rw [if_neg c143] at H
          have c143b0 : decide (1000000000 < (wrap64 (a0_0 + a1_0))) = false := decide_eq_false c143
          clear c143
          (first | rw [c143b0] | (simp only [i64_w, i32_w]; rw [c143b0]) | skip)
          have H' := aM H
          clear H
          go_wp2
          go_meet
          case rel => exact ⟨_, (wrap64 (a0_0 + a1_0)), (a1_5), H', ⟨zb79b⟩, ⟨bkZ⟩, ⟨bkZ⟩, ⟨bkZ⟩, ⟨bkZ⟩, ⟨zcb41⟩⟩
       case rest =>
        clear HC129
        try clear c1
        try clear p1
        try clear q1
        try clear hx1
        try clear c2
        try clear p2
        try clear c3
        try clear c4
        try clear c5
        try clear c6
        try clear p6
        try clear c7
        try clear c8
        try clear c9
        try clear c10
        try clear c11
        try clear c12
        try clear p12
        try clear q12
        try clear hx12
        try clear c13
        try clear c14
        try clear c16
        try clear c16b0
        try clear c16b1
        try clear c21
        try clear c22
        try clear c24
        try clear c29
        try clear c34
        try clear c35
        try clear c37
        try clear c40
        try clear c41
        try clear c42
        try clear c44
        try clear c44b0
        try clear c45
        try clear c46
        try clear c47
        try clear c50
        try clear c51
        try clear c52
        try clear c54
        try clear c55
        try clear c57
        try clear c57b0
        try clear c58
        try clear c59
        try clear c60
        try clear c62
        try clear c63
        try clear p64
        try clear c66
        try clear c67
        try clear c68
        try clear c70
        try clear c71
        try clear c73
        try clear c73b0
        try clear c74
        try clear c75
        try clear c76
        try clear c78
        try clear c79
        try clear c81
        try clear c82
        try clear c83
        try clear c85
        try clear c85b0
        try clear c86
        try clear c86b0
        try clear c87
        try clear c87b0
        try clear c88
        try clear c88b0
        try clear c89
        try clear c89b0
        try clear c90
        try clear c91
        try clear c92
        try clear c93
        try clear c95
        try clear c96
        try clear c101
        try clear c102
        try clear c103
        try clear c104
        try clear c106
        try clear c107
        try clear c112
        try clear c113
        try clear c114
        try clear c115
        try clear c117
        try clear c118
        try clear c121
        try clear p121
        try clear q121
        try clear hx121
        try clear c122
        try clear p122
        try clear q122
        try clear hx122
        try clear c123
        try clear c125
        try clear c126
        try clear c133
        try clear c134
        try clear c136
        try clear c139
        try clear c140
        try clear c141
        try clear c143
        try clear c143b0
        try clear c144
        try clear c145
        try clear c146
        try clear hx121_0
        try clear hx122_0
        try clear p121
        try clear p122
        try clear p2
        try clear p6
        try clear p64
        try clear q121
        try clear q122
        obtain ⟨kq, x90006000_128, x90006005_128, HA, HJ128, BK90002, BK90003, BK90004, BK90005, HB⟩ := hcut
        cases kq with
        | zero => exact absurd HA.out (by simp [spec_l4Join.j4])
        | succ kj128 =>
         have H := HA.out
         clear HA
         simp only [spec_l4Join.j4] at H
         have HC148 := aM H
         clear H
         have hnb149 := NB90003_90002.out
         have hnc149 := NB90002_90003.out
         have hnb150 := NB90003_90004.out
         have hnc150 := NB90004_90003.out
         have hnb151 := NB90003_90005.out
         have hnc151 := NB90005_90003.out
         obtain ⟨hcz152_0, hcz152_1, hcz152_2, hcz152_3, hcz152_4, hcz152_5, hfz152_0, hfz152_1, hfz152_2, hfz152_3, hfz152_4, hfz152_5⟩ := cellsZ6 BK90003.out
         have hnb153 := NB90005_90002.out
         have hnc153 := NB90002_90005.out
         have hnb154 := NB90005_90004.out
         have hnc154 := NB90004_90005.out
         obtain ⟨hcz155_0, hcz155_1, hcz155_2, hcz155_3, hcz155_4, hcz155_5, hfz155_0, hfz155_1, hfz155_2, hfz155_3, hfz155_4, hfz155_5⟩ := cellsZ6 BK90005.out
         go_upto_if 49 with (fail)
         go_cut [] (fun wc => ∃ (kq : Nat) (x90006002_147 : Int), Aside0 (spec_l4Join.j5 kq a0_0 a0_1 a0_2 a0_3 l0_4 false a1_0 a1_1 a1_2 a1_3 l1_4 a1_5 x90006000_128 (wrap64 (a0_1 + a1_1)) x90006002_147 a0_3 x90006005_128 = some (r1, r2, r3, r4, r5, r6)) ∧ Aside0 (kq ≤ kj128) ∧ Aside0 (wc.heap[gb90002]? = some (.cells #[.int .i64 a0_0, .int .i64 a0_1, .int .i64 a0_2, .int .i64 a0_3, (.slice A0_4 l0_4.length c0_4), .bool false] 26 (0, 0))) ∧ Aside0 (wc.heap[gb90003]? = some (.cells #[.int .i64 a1_0, .int .i64 a1_1, .int .i64 a1_2, .int .i64 a1_3, (.slice A1_4 l1_4.length c1_4), .bool a1_5] 26 (0, 0))) ∧ Aside0 (wc.heap[gb90004]? = some (.cells #[.int .i64 0, .int .i64 0, .int .i64 0, .int .i64 0, (.slice none 0 0), .bool false] 26 (0, 0))) ∧ Aside0 (wc.heap[gb90005]? = some (.cells #[.int .i64 x90006000_128, .int .i64 (wrap64 (a0_1 + a1_1)), .int .i64 x90006002_147, .int .i64 a0_3, (.slice none 0 0), .bool x90006005_128] 26 (0, 0))) ∧ Aside0 (Below w.heap.size w wc))
         case first =>
          have H := HC148.out
          clear HC148
          by_cases c156 : a1_2 < a0_2
          · rw [if_pos c156] at H
            have c156b0 : decide (a1_2 < a0_2) = true := decide_eq_true c156
            clear c156
            (first | rw [c156b0] | (simp only [i64_w, i32_w]; rw [c156b0]) | skip)
            have H' := aM H
            clear H
            have hnb157 := NB90003_90002.out
            have hnc157 := NB90002_90003.out
            have hnb158 := NB90003_90004.out
            have hnc158 := NB90004_90003.out
            have hnb159 := NB90003_90005.out
            have hnc159 := NB90005_90003.out
            obtain ⟨hcz160_0, hcz160_1, hcz160_2, hcz160_3, hcz160_4, hcz160_5, hfz160_0, hfz160_1, hfz160_2, hfz160_3, hfz160_4, hfz160_5⟩ := cellsZ6 BK90003.out
            have hnb161 := NB90005_90002.out
            have hnc161 := NB90002_90005.out
            have hnb162 := NB90005_90004.out
            have hnc162 := NB90004_90005.out
            obtain ⟨hcz163_0, hcz163_1, hcz163_2, hcz163_3, hcz163_4, hcz163_5, hfz163_0, hfz163_1, hfz163_2, hfz163_3, hfz163_4, hfz163_5⟩ := cellsZ6 BK90005.out
            go_wp2
            go_meet
            case rel => exact ⟨_, (a1_2), H', ⟨by have := HJ128.out; first | omega | exact Nat.le_refl _⟩, ⟨bkZ⟩, ⟨bkZ⟩, ⟨bkZ⟩, ⟨bkZ⟩, ⟨zcb41⟩⟩
          · rw [if_neg c156] at H
            have c156b0 : decide (a1_2 < a0_2) = false := decide_eq_false c156
            clear c156
            (first | rw [c156b0] | (simp only [i64_w, i32_w]; rw [c156b0]) | skip)
            have H' := aM H
            clear H
            go_wp2
            go_meet
            case rel => exact ⟨_, (a0_2), H', ⟨by have := HJ128.out; first | omega | exact Nat.le_refl _⟩, ⟨bkZ⟩, ⟨bkZ⟩, ⟨bkZ⟩, ⟨bkZ⟩, ⟨zcb41⟩⟩
         case rest =>
          clear HC148
          try clear c1
          try clear p1
          try clear q1
          try clear hx1
          try clear c2
          try clear p2
          try clear c3
          try clear c4
          try clear c5
          try clear c6
          try clear p6
          try clear c7
          try clear c8
          try clear c9
          try clear c10
          try clear c11
          try clear c12
          try clear p12
          try clear q12
          try clear hx12
          try clear c13
          try clear c14
          try clear c15
          try clear c16
          try clear c22
          try clear c24
          try clear c29
          try clear c34
          try clear c35
          try clear c37
          try clear c40
          try clear c41
          try clear c42
          try clear c44
          try clear c44b0
          try clear c45
          try clear c46
          try clear c47
          try clear c50
          try clear c51
          try clear c52
          try clear c54
          try clear c55
          try clear c57
          try clear c57b0
          try clear c58
          try clear c59
          try clear c60
          try clear c62
          try clear c63
          try clear p64
          try clear c66
          try clear c67
          try clear c68
          try clear c70
          try clear c71
          try clear c73
          try clear c73b0
          try clear c74
          try clear c75
          try clear c76
          try clear c78
          try clear c79
          try clear c81
          try clear c82
          try clear c83
          try clear c85
          try clear c85b0
          try clear c86
          try clear c86b0
          try clear c87
          try clear c87b0
          try clear c88
          try clear c88b0
          try clear c89
          try clear c89b0
          try clear c90
          try clear c91
          try clear c92
          try clear c93
          try clear c95
          try clear c96
          try clear c101
          try clear c102
          try clear c103
          try clear c104
          try clear c106
          try clear c107
          try clear c112
          try clear c113
          try clear c114
          try clear c115
          try clear c117
          try clear c118
          try clear c121
          try clear p121
          try clear q121
          try clear hx121
          try clear c122
          try clear p122
          try clear q122
          try clear hx122
          try clear c123
          try clear c125
          try clear c126
          try clear c133
          try clear c134
          try clear c136
          try clear c139
          try clear c140
          try clear c141
          try clear c143
          try clear c143b0
          try clear c144
          try clear c145
          try clear c146
          try clear c149
          try clear c150
          try clear c151
          try clear c153
          try clear c154
          try clear c156
          try clear c156b0
          try clear c157
          try clear c158
          try clear c159
          try clear c161
          try clear c162
          try clear hx121_0
          try clear hx122_0
          try clear p121
          try clear p122
          try clear p2
          try clear p6
          try clear p64
          try clear q121
          try clear q122
          obtain ⟨kq, x90006002_147, HA, HJ147, BK90002, BK90003, BK90004, BK90005, HB⟩ := hcut
          cases kq with
          | zero => exact absurd HA.out (by simp [spec_l4Join.j5])
          | succ kj147 =>
           have H := HA.out
           clear HA
           simp only [spec_l4Join.j5] at H
           have HC164 := aM H
           clear H
           have hnb165 := NB90003_90002.out
           have hnc165 := NB90002_90003.out
           have hnb166 := NB90003_90004.out
           have hnc166 := NB90004_90003.out
           have hnb167 := NB90003_90005.out
           have hnc167 := NB90005_90003.out
           obtain ⟨hcz168_0, hcz168_1, hcz168_2, hcz168_3, hcz168_4, hcz168_5, hfz168_0, hfz168_1, hfz168_2, hfz168_3, hfz168_4, hfz168_5⟩ := cellsZ6 BK90003.out
           have hnb169 := NB90005_90002.out
           have hnc169 := NB90002_90005.out
           have hnb170 := NB90005_90004.out
           have hnc170 := NB90004_90005.out
           obtain ⟨hcz171_0, hcz171_1, hcz171_2, hcz171_3, hcz171_4, hcz171_5, hfz171_0, hfz171_1, hfz171_2, hfz171_3, hfz171_4, hfz171_5⟩ := cellsZ6 BK90005.out
           go_upto_if 57 with (fail)
           go_cut [] (fun wc => ∃ (kq : Nat) (x90006003_163 : Int), Aside0 (spec_l4Join.j6 kq a0_0 a0_1 a0_2 a0_3 l0_4 false a1_0 a1_1 a1_2 a1_3 l1_4 a1_5 x90006000_128 (wrap64 (a0_1 + a1_1)) x90006002_147 x90006003_163 x90006005_128 = some (r1, r2, r3, r4, r5, r6)) ∧ Aside0 (kq ≤ kj147) ∧ Aside0 (wc.heap[gb90002]? = some (.cells #[.int .i64 a0_0, .int .i64 a0_1, .int .i64 a0_2, .int .i64 a0_3, (.slice A0_4 l0_4.length c0_4), .bool false] 26 (0, 0))) ∧ Aside0 (wc.heap[gb90003]? = some (.cells #[.int .i64 a1_0, .int .i64 a1_1, .int .i64 a1_2, .int .i64 a1_3, (.slice A1_4 l1_4.length c1_4), .bool a1_5] 26 (0, 0))) ∧ Aside0 (wc.heap[gb90004]? = some (.cells #[.int .i64 0, .int .i64 0, .int .i64 0, .int .i64 0, (.slice none 0 0), .bool false] 26 (0, 0))) ∧ Aside0 (wc.heap[gb90005]? = some (.cells #[.int .i64 x90006000_128, .int .i64 (wrap64 (a0_1 + a1_1)), .int .i64 x90006002_147, .int .i64 x90006003_163, (.slice none 0 0), .bool x90006005_128] 26 (0, 0))) ∧ Aside0 (Below w.heap.size w wc))
           case first =>
            have H := HC164.out
            clear HC164
            by_cases c172 : a1_3 > a0_3
            · rw [if_pos c172] at H
              have c172b0 : decide (a0_3 < a1_3) = true := decide_eq_true c172
              clear c172
              (first | rw [c172b0] | (simp only [i64_w, i32_w]; rw [c172b0]) | skip)
              have H' := aM H
              clear H
              have hnb173 := NB90003_90002.out
              have hnc173 := NB90002_90003.out
              have hnb174 := NB90003_90004.out
              have hnc174 := NB90004_90003.out
              have hnb175 := NB90003_90005.out
              have hnc175 := NB90005_90003.out
              obtain ⟨hcz176_0, hcz176_1, hcz176_2, hcz176_3, hcz176_4, hcz176_5, hfz176_0, hfz176_1, hfz176_2, hfz176_3, hfz176_4, hfz176_5⟩ := cellsZ6 BK90003.out
              have hnb177 := NB90005_90002.out
              have hnc177 := NB90002_90005.out
              have hnb178 := NB90005_90004.out
              have hnc178 := NB90004_90005.out
              obtain ⟨hcz179_0, hcz179_1, hcz179_2, hcz179_3, hcz179_4, hcz179_5, hfz179_0, hfz179_1, hfz179_2, hfz179_3, hfz179_4, hfz179_5⟩ := cellsZ6 BK90005.out
              go_wp2
              go_meet
              case rel => exact ⟨_, (a1_3), H', ⟨by have := HJ128.out; have := HJ147.out; first | omega | exact Nat.le_refl _⟩, ⟨bkZ⟩, ⟨bkZ⟩, ⟨bkZ⟩, ⟨bkZ⟩, ⟨zcb41⟩⟩
            · rw [if_neg c172] at H
              have c172b0 : decide (a0_3 < a1_3) = false := decide_eq_false c172
              clear c172
              (first | rw [c172b0] | (simp only [i64_w, i32_w]; rw [c172b0]) | skip)
              have H' := aM H
              clear H
              go_wp2
              go_meet
              case rel => exact ⟨_, (a0_3), H', ⟨by have := HJ128.out; have := HJ147.out; first | omega | exact Nat.le_refl _⟩, ⟨bkZ⟩, ⟨bkZ⟩, ⟨bkZ⟩, ⟨bkZ⟩, ⟨zcb41⟩⟩
           case rest =>
            clear HC164
            try clear c1
            try clear p1
            try clear q1
            try clear hx1
            try clear p2
            try clear p6
            try clear c10
            try clear c11
            try clear c12
            try clear p12
            try clear q12
            try clear hx12
            try clear c13
            try clear c14
            try clear c15
            try clear c16
            try clear c17
            try clear p64
            try clear c103
            try clear c104
            try clear c106
            try clear c107
            try clear c112
            try clear c113
            try clear c114
            try clear c115
            try clear c117
            try clear c118
            try clear c121
            try clear p121
            try clear q121
            try clear hx121
            try clear c122
            try clear p122
            try clear q122
            try clear hx122
            try clear c123
            try clear c125
            try clear c126
            try clear c133
            try clear c134
            try clear c136
            try clear c139
            try clear c140
            try clear c141
            try clear c143
            try clear c143b0
            try clear c144
            try clear c145
            try clear c146
            try clear c149
            try clear c150
            try clear c151
            try clear c153
            try clear c154
            try clear c156
            try clear c156b0
            try clear c157
            try clear c158
            try clear c159
            try clear c161
            try clear c162
            try clear c165
            try clear c166
            try clear c167
            try clear c169
            try clear c170
            try clear c172
            try clear c172b0
            try clear c173
            try clear c174
            try clear c175
            try clear c177
            try clear c178
            try clear hx121_0
            try clear hx122_0
            try clear p121
            try clear p122
            try clear p2
            try clear p6
            try clear p64
            try clear q121
            try clear q122
            obtain ⟨kq, x90006003_163, HA, HJ163, BK90002, BK90003, BK90004, BK90005, HB⟩ := hcut
            cases kq with
            | zero => exact absurd HA.out (by simp [spec_l4Join.j6])
            | succ kj163 =>
             have H := HA.out
             clear HA
             simp only [spec_l4Join.j6] at H
             have H' := aM H
             clear H
             have hnb180 := NB90002_90003.out
             have hnc180 := NB90003_90002.out
             have hnb181 := NB90002_90004.out
             have hnc181 := NB90004_90002.out
             have hnb182 := NB90002_90005.out
             have hnc182 := NB90005_90002.out
             obtain ⟨hcz183_0, hcz183_1, hcz183_2, hcz183_3, hcz183_4, hcz183_5, hfz183_0, hfz183_1, hfz183_2, hfz183_3, hfz183_4, hfz183_5⟩ := cellsZ6 BK90002.out
             go_wp2
             go_loopg [64] kj163 (fun kq v64 w' => ∃ (x64_4 : Int) (x90006004_4 : List Int) (x90006005_4 : Bool) (u90006004 : Value), v64 = .int .i64 x64_4 ∧ Aside0 (spec_l4Join.l0 kq l0_4 (l0_4.length : Int) x64_4 a1_0 a1_1 a1_2 a1_3 l1_4 a1_5 x90006000_128 (wrap64 (a0_1 + a1_1)) x90006002_147 x90006003_163 x90006004_4 x90006005_4 = some (r1, r2, r3, r4, r5, r6)) ∧ Aside0 (kq ≤ kj163) ∧ Aside0 (Kd.R (Kd.int .i64) 3 w' w.heap.size (fun _ => True) u90006004 x90006004_4) ∧ Aside0 (w'.heap[gb90002]? = some (.cells #[.int .i64 a0_0, .int .i64 a0_1, .int .i64 a0_2, .int .i64 a0_3, (.slice A0_4 l0_4.length c0_4), .bool false] 26 (0, 0))) ∧ Aside0 (w'.heap[gb90003]? = some (.cells #[.int .i64 a1_0, .int .i64 a1_1, .int .i64 a1_2, .int .i64 a1_3, (.slice A1_4 l1_4.length c1_4), .bool a1_5] 26 (0, 0))) ∧ Aside0 (w'.heap[gb90004]? = some (.cells #[.int .i64 0, .int .i64 0, .int .i64 0, .int .i64 0, (.slice none 0 0), .bool false] 26 (0, 0))) ∧ Aside0 (w'.heap[gb90005]? = some (.cells #[.int .i64 x90006000_128, .int .i64 (wrap64 (a0_1 + a1_1)), .int .i64 x90006002_147, .int .i64 x90006003_163, u90006004, .bool x90006005_4] 26 (0, 0))) ∧ Aside0 (Below w.heap.size w w'))
             case atStart => exact ⟨(0), (([] : List Int)), (x90006005_128), (.slice none 0 0), z4458, H', ⟨Nat.le_refl _⟩, ⟨z02fa⟩, ⟨bkZ⟩, ⟨bkZ⟩, ⟨bkZ⟩, ⟨bkZ⟩, ⟨zcb41⟩⟩
             case round =>
              clear H'
              try clear c1
              try clear p1
              try clear q1
              try clear hx1
              try clear p2
              try clear p6
              try clear c10
              try clear c11
              try clear c12
              try clear p12
              try clear q12
              try clear hx12
              try clear c13
              try clear c14
              try clear c15
              try clear c16
              try clear c17
              try clear c18
              try clear p64
              try clear c103
              try clear c104
              try clear c106
              try clear c107
              try clear c112
              try clear c113
              try clear c114
              try clear c115
              try clear c117
              try clear c118
              try clear c121
              try clear p121
              try clear q121
              try clear hx121
              try clear c122
              try clear p122
              try clear q122
              try clear hx122
              try clear c123
              try clear c125
              try clear c126
              try clear c133
              try clear c134
              try clear c136
              try clear c139
              try clear c140
              try clear c141
              try clear c143
              try clear c143b0
              try clear c144
              try clear c145
              try clear c146
              try clear c149
              try clear c150
              try clear c151
              try clear c153
              try clear c154
              try clear c156
              try clear c156b0
              try clear c157
              try clear c158
              try clear c159
              try clear c161
              try clear c162
              try clear c165
              try clear c166
              try clear c167
              try clear c169
              try clear c170
              try clear c172
              try clear c172b0
              try clear c173
              try clear c174
              try clear c175
              try clear c177
              try clear c178
              try clear c180
              try clear c181
              try clear c182
              try clear hx121_0
              try clear hx122_0
              try clear p12
              try clear p121
              try clear p122
              try clear p2
              try clear p6
              try clear p64
              try clear q12
              try clear q121
              try clear q122
              obtain ⟨x64_4, x90006004_4, x90006005_4, u90006004, rfl, HA, HK4, HO_90006004, BK90002, BK90003, BK90004, BK90005, HB⟩ := hrel
              cases gk with
              | zero => exact absurd HA.out (by simp [spec_l4Join.l0])
              | succ k4 =>
               have H := HA.out
               clear HA
               simp only [spec_l4Join.l0] at H
               by_cases c184 : x64_4 < (l0_4.length : Int)
               · rw [if_pos c184] at H
                 have c184b0 : decide (x64_4 < (l0_4.length : Int)) = true := decide_eq_true c184
                 clear c184
                 replace H := ifS H; obtain ⟨c185, H⟩ := H
                 have c185b0 : decide (0 ≤ x64_4) = true := decide_eq_true c185
                 clear c185
                 replace H := ifS H; obtain ⟨c186, H⟩ := H
                 have c186b0 : decide (x64_4 < (l0_4.length : Int)) = true := decide_eq_true c186
                 clear c186
                 replace H := ifS H; obtain ⟨c187, H⟩ := H
                 have c187b0 : decide (x64_4 < (l1_4.length : Int)) = true := decide_eq_true c187
                 clear c187
                 by_cases c188 : (wrap64 ((rd l0_4 x64_4) + (rd l1_4 x64_4))) > 1000000000
                 · rw [if_pos c188] at H
                   have c188b0 : decide (1000000000 < (wrap64 ((rd l0_4 x64_4) + (rd l1_4 x64_4)))) = true := decide_eq_true c188
                   clear c188
                   replace H := ifS H; obtain ⟨c189, H⟩ := H
                   have LMc189 := aM c189
                   clear c189
                   obtain ⟨y123, hy123⟩ : ∃ y_ : List Int, y_ = (x90006004_4 ++ [1000000000]) := ⟨_, rfl⟩
                   first | (replace H := bindS H; rw [← hy123] at H; try dsimp only at H) | rw [← hy123] at H
                   have Ny123 := aM hy123
                   clear hy123
                   have H' := aM H
                   clear H
                   have p121 : 0 ≤ (x64_4 : Int) := of_decide_eq_true z1200
                   have q121 : x64_4 < (l0_4.length : Int) := of_decide_eq_true z1200
                   obtain ⟨ad121, e121, hx121_0⟩ := Kd.at_int HR0_4.out x64_4 p121 q121
                   cases e121
                   replace hx121_0 := (HB.out.cell (World.block_lt_of_cell? w _ hx121_0)).trans hx121_0
                   replace p121 := eq_true p121
                   replace q121 := eq_true q121
                   have hnb190 := NB90003_90002.out
                   have hnc190 := NB90002_90003.out
                   have hnb191 := NB90003_90004.out
                   have hnc191 := NB90004_90003.out
                   have hnb192 := NB90003_90005.out
                   have hnc192 := NB90005_90003.out
                   obtain ⟨hcz193_0, hcz193_1, hcz193_2, hcz193_3, hcz193_4, hcz193_5, hfz193_0, hfz193_1, hfz193_2, hfz193_3, hfz193_4, hfz193_5⟩ := cellsZ6 BK90003.out
                   have p122 : 0 ≤ (x64_4 : Int) := of_decide_eq_true z1200
                   have q122 : x64_4 < (l1_4.length : Int) := of_decide_eq_true z1200
                   obtain ⟨ad122, e122, hx122_0⟩ := Kd.at_int HR1_4.out x64_4 p122 q122
                   cases e122
                   replace hx122_0 := (HB.out.cell (World.block_lt_of_cell? w _ hx122_0)).trans hx122_0
                   replace p122 := eq_true p122
                   replace q122 := eq_true q122
                   have hnb194 := NB90005_90002.out
                   have hnc194 := NB90002_90005.out
                   have hnb195 := NB90005_90004.out
                   have hnc195 := NB90004_90005.out
                   obtain ⟨hcz196_0, hcz196_1, hcz196_2, hcz196_3, hcz196_4, hcz196_5, hfz196_0, hfz196_1, hfz196_2, hfz196_3, hfz196_4, hfz196_5⟩ := cellsZ6 BK90005.out
                   go_wp2_with (first | ((with_reducible refine gate_builtin (b := .append) (xs := #[.tmp 80, .tmp 82]) rfl ?_); at_builtin; refine Kd.R_append (Kd.int .i64) (w0 := w) w.heap.size rfl (.tmp 80) (.tmp 82) 24 3 (.int .i64 0) 8 rfl Try.underlying24 info3 rfl (by decide) (by omega) u90006004 x90006004_4 1000000000 [.int .i64 1000000000] (fun _ => True) (fun _ => False) rfl (by first | (go_simp; done) | (go_simp; rfl)) ?aP (fun _ hk => hk.elim) ?aF ?aO ?aB ?aS ?aL ?_; (case aP => exact rfl); (case aB => exact hbZ); (case aF => exact (fun _ _ => trivial)); (case aO => exact (by (with_reducible repeat (first | apply Kd.R_alloc | apply Kd.R_drewN | apply Kd.R_drew)); exact Kd.R_mono (Kd.R_far (p := ⟨gb90005, 5, none⟩) (Kd.R_types HO_90006004.out BK90005.out (by decide)) (fun _ hk => hk.2) (.bool true)) (fun _ hk => trivial))); (case aS => exact (below_size hbZ)); (case aL => have := LMc189.out; omega); intro v124 w197 ho hb hg hat; rw [← Ny123.out] at ho; have _ := aM (blk_grown (g := gb90002) bkZ hg (Kd.R_ne HO_90006004.out BK90002.out (by decide))); have _ := aM (blk_grown (g := gb90003) bkZ hg (Kd.R_ne HO_90006004.out BK90003.out (by decide))); have _ := aM (blk_grown (g := gb90004) bkZ hg (Kd.R_ne HO_90006004.out BK90004.out (by decide))); have _ := aM (blk_grown (g := gb90005) (o := .cells #[.int .i64 x90006000_128, .int .i64 (wrap64 (a0_1 + a1_1)), .int .i64 x90006002_147, .int .i64 x90006003_163, u90006004, .bool true] 26 (0, 0)) bkZ hg (Kd.R_ne HO_90006004.out BK90005.out (by decide))); have _ := aM hb; have _ := aM ho; clear BK90002 BK90003 BK90004 BK90005 HB HO_90006004; rename_i BK90002 BK90003 BK90004 BK90005 HB HO125; clear ho hb hg hat; obtain ⟨Ao198, co198, eo198⟩ := Kd.R_slice HO125.out; subst eo198; obtain ⟨hcz199_0, hcz199_1, hcz199_2, hcz199_3, hcz199_4, hcz199_5, hfz199_0, hfz199_1, hfz199_2, hfz199_3, hfz199_4, hfz199_5⟩ := cellsZ6 BK90005.out))
                   go_roundg k4
                   case measure => have := HJ128.out; have := HJ147.out; have := HJ163.out; have := HK4.out; omega
                   case rel => exact ⟨(wrap64 (x64_4 + 1)), (y123), (true), (.slice Ao198 y123.length co198), z4458, H', ⟨by have := HJ128.out; have := HJ147.out; have := HJ163.out; have := HK4.out; omega⟩, ⟨by (with_reducible repeat (first | apply Kd.R_alloc | apply Kd.R_drewN | apply Kd.R_drew)); exact Kd.R_mono (Kd.R_far (p := ⟨gb90005, 4, none⟩) (Kd.R_types HO125.out BK90005.out (by decide)) (fun _ hk => hk.2) (.slice Ao198 y123.length co198)) (fun _ hk => trivial)⟩, ⟨bkZ⟩, ⟨bkZ⟩, ⟨bkZ⟩, ⟨bkZ⟩, ⟨zcb41⟩⟩
                 · rw [if_neg c188] at H
                   have c188b0 : decide (1000000000 < (wrap64 ((rd l0_4 x64_4) + (rd l1_4 x64_4)))) = false := decide_eq_false c188
                   clear c188
                   replace H := ifS H; obtain ⟨c200, H⟩ := H
                   have LMc200 := aM c200
                   clear c200
                   obtain ⟨y126, hy126⟩ : ∃ y_ : List Int, y_ = (x90006004_4 ++ [wrap64 ((rd l0_4 x64_4) + (rd l1_4 x64_4))]) := ⟨_, rfl⟩
                   first | (replace H := bindS H; rw [← hy126] at H; try dsimp only at H) | rw [← hy126] at H
                   have Ny126 := aM hy126
                   clear hy126
                   have H' := aM H
                   clear H
                   have p121 : 0 ≤ (x64_4 : Int) := of_decide_eq_true z1200
                   have q121 : x64_4 < (l0_4.length : Int) := of_decide_eq_true z1200
                   obtain ⟨ad121, e121, hx121_0⟩ := Kd.at_int HR0_4.out x64_4 p121 q121
                   cases e121
                   replace hx121_0 := (HB.out.cell (World.block_lt_of_cell? w _ hx121_0)).trans hx121_0
                   replace p121 := eq_true p121
                   replace q121 := eq_true q121
                   have hnb201 := NB90003_90002.out
                   have hnc201 := NB90002_90003.out
                   have hnb202 := NB90003_90004.out
                   have hnc202 := NB90004_90003.out
                   have hnb203 := NB90003_90005.out
                   have hnc203 := NB90005_90003.out
                   obtain ⟨hcz204_0, hcz204_1, hcz204_2, hcz204_3, hcz204_4, hcz204_5, hfz204_0, hfz204_1, hfz204_2, hfz204_3, hfz204_4, hfz204_5⟩ := cellsZ6 BK90003.out
                   have p122 : 0 ≤ (x64_4 : Int) := of_decide_eq_true z1200
                   have q122 : x64_4 < (l1_4.length : Int) := of_decide_eq_true z1200
                   obtain ⟨ad122, e122, hx122_0⟩ := Kd.at_int HR1_4.out x64_4 p122 q122
                   cases e122
                   replace hx122_0 := (HB.out.cell (World.block_lt_of_cell? w _ hx122_0)).trans hx122_0
                   replace p122 := eq_true p122
                   replace q122 := eq_true q122
                   have hnb205 := NB90005_90002.out
                   have hnc205 := NB90002_90005.out
                   have hnb206 := NB90005_90004.out
                   have hnc206 := NB90004_90005.out
                   obtain ⟨hcz207_0, hcz207_1, hcz207_2, hcz207_3, hcz207_4, hcz207_5, hfz207_0, hfz207_1, hfz207_2, hfz207_3, hfz207_4, hfz207_5⟩ := cellsZ6 BK90005.out
                   go_wp2_with (first | ((with_reducible refine gate_builtin (b := .append) (xs := #[.tmp 80, .tmp 82]) rfl ?_); at_builtin; refine Kd.R_append (Kd.int .i64) (w0 := w) w.heap.size rfl (.tmp 80) (.tmp 82) 24 3 (.int .i64 0) 8 rfl Try.underlying24 info3 rfl (by decide) (by omega) u90006004 x90006004_4 (wrap64 ((rd l0_4 x64_4) + (rd l1_4 x64_4))) [.int .i64 (wrap64 ((rd l0_4 x64_4) + (rd l1_4 x64_4)))] (fun _ => True) (fun _ => False) rfl rfl ?aP (fun _ hk => hk.elim) ?aF ?aO ?aB ?aS ?aL ?_; (case aP => exact rfl); (case aB => exact hbZ); (case aF => exact (fun _ _ => trivial)); (case aO => exact (rZ HO_90006004.out)); (case aS => exact (below_size hbZ)); (case aL => have := LMc200.out; omega); intro v127 w208 ho hb hg hat; rw [← Ny126.out] at ho; have _ := aM (blk_grown (g := gb90002) bkZ hg (Kd.R_ne HO_90006004.out BK90002.out (by decide))); have _ := aM (blk_grown (g := gb90003) bkZ hg (Kd.R_ne HO_90006004.out BK90003.out (by decide))); have _ := aM (blk_grown (g := gb90004) bkZ hg (Kd.R_ne HO_90006004.out BK90004.out (by decide))); have _ := aM (blk_grown (g := gb90005) bkZ hg (Kd.R_ne HO_90006004.out BK90005.out (by decide))); have _ := aM hb; have _ := aM ho; clear BK90002 BK90003 BK90004 BK90005 HB HO_90006004; rename_i BK90002 BK90003 BK90004 BK90005 HB HO128; clear ho hb hg hat; obtain ⟨Ao209, co209, eo209⟩ := Kd.R_slice HO128.out; subst eo209; obtain ⟨hcz210_0, hcz210_1, hcz210_2, hcz210_3, hcz210_4, hcz210_5, hfz210_0, hfz210_1, hfz210_2, hfz210_3, hfz210_4, hfz210_5⟩ := cellsZ6 BK90005.out))
                   go_roundg k4
                   case measure => have := HJ128.out; have := HJ147.out; have := HJ163.out; have := HK4.out; omega
                   case rel => exact ⟨(wrap64 (x64_4 + 1)), (y126), (x90006005_4), (.slice Ao209 y126.length co209), z4458, H', ⟨by have := HJ128.out; have := HJ147.out; have := HJ163.out; have := HK4.out; omega⟩, ⟨by (with_reducible repeat (first | apply Kd.R_alloc | apply Kd.R_drewN | apply Kd.R_drew)); exact Kd.R_mono (Kd.R_far (p := ⟨gb90005, 4, none⟩) (Kd.R_types HO128.out BK90005.out (by decide)) (fun _ hk => hk.2) (.slice Ao209 y126.length co209)) (fun _ hk => trivial)⟩, ⟨bkZ⟩, ⟨bkZ⟩, ⟨bkZ⟩, ⟨bkZ⟩, ⟨zcb41⟩⟩
               · rw [if_neg c184] at H
                 have c184b0 : decide (x64_4 < (l0_4.length : Int)) = false := decide_eq_false c184
                 clear c184
                 by_cases c211 : x90006005_4 = true
                 · subst c211
                   rw [if_pos rfl] at H
                   simp only [Option.some.injEq, Prod.mk.injEq] at H
                   obtain ⟨rfl, rfl, rfl, rfl, rfl, rfl⟩ := H
                   have hnb212 := NB90005_90002.out
                   have hnc212 := NB90002_90005.out
                   have hnb213 := NB90005_90003.out
                   have hnc213 := NB90003_90005.out
                   have hnb214 := NB90005_90004.out
                   have hnc214 := NB90004_90005.out
                   obtain ⟨hcz215_0, hcz215_1, hcz215_2, hcz215_3, hcz215_4, hcz215_5, hfz215_0, hfz215_1, hfz215_2, hfz215_3, hfz215_4, hfz215_5⟩ := cellsZ6 BK90005.out
                   have hnb216 := NB90004_90002.out
                   have hnc216 := NB90002_90004.out
                   have hnb217 := NB90004_90003.out
                   have hnc217 := NB90003_90004.out
                   obtain ⟨hcz218_0, hcz218_1, hcz218_2, hcz218_3, hcz218_4, hcz218_5, hfz218_0, hfz218_1, hfz218_2, hfz218_3, hfz218_4, hfz218_5⟩ := cellsZ6 BK90004.out
                   obtain ⟨Ao219, co219, eo219⟩ := Kd.R_slice HO_90006004.out
                   subst eo219
                   go_wp2
                   refine bodyPost_ret (results_cell_row rfl _ _ gb90004 26 #[.int .i64 x90006000_128, .int .i64 0, .int .i64 x90006002_147, .int .i64 x90006003_163, .slice Ao219 x90006004_4.length co219, .bool true] (0, 0) _ rfl bkZ Try.underlying26 rfl (by kernel_rfl)) rfl ?_
                   exact ⟨_, z674d, by (with_reducible repeat (first | apply Kd.R_alloc | apply Kd.R_drewN | apply Kd.R_drew)); exact Kd.R_mono (Kd.R_far (p := ⟨gb90004, 5, none⟩) (Kd.R_far (p := ⟨gb90004, 4, none⟩) (Kd.R_far (p := ⟨gb90004, 3, none⟩) (Kd.R_far (p := ⟨gb90004, 2, none⟩) (Kd.R_far (p := ⟨gb90004, 1, none⟩) (Kd.R_far (p := ⟨gb90004, 0, none⟩) (Kd.R_far (p := ⟨gb90005, 1, none⟩) (Kd.R_types (Kd.R_types HO_90006004.out BK90005.out (by decide)) BK90004.out (by decide)) (fun _ hk => hk.1.2) (.int .i64 0)) (fun _ hk => hk.2) (.int .i64 x90006000_128)) (fun _ hk => hk.2) (.int .i64 0)) (fun _ hk => hk.2) (.int .i64 x90006002_147)) (fun _ hk => hk.2) (.int .i64 x90006003_163)) (fun _ hk => hk.2) (.slice Ao219 x90006004_4.length co219)) (fun _ hk => hk.2) (.bool true)) (fun _ hk => trivial), zcb41⟩
                 · replace c211 := Bool.eq_false_iff.mpr c211
                   subst c211
                   rw [if_neg (show ¬ (false = true) by decide)] at H
                   simp only [Option.some.injEq, Prod.mk.injEq] at H
                   obtain ⟨rfl, rfl, rfl, rfl, rfl, rfl⟩ := H
                   have hnb220 := NB90005_90002.out
                   have hnc220 := NB90002_90005.out
                   have hnb221 := NB90005_90003.out
                   have hnc221 := NB90003_90005.out
                   have hnb222 := NB90005_90004.out
                   have hnc222 := NB90004_90005.out
                   obtain ⟨hcz223_0, hcz223_1, hcz223_2, hcz223_3, hcz223_4, hcz223_5, hfz223_0, hfz223_1, hfz223_2, hfz223_3, hfz223_4, hfz223_5⟩ := cellsZ6 BK90005.out
                   have hnb224 := NB90004_90002.out
                   have hnc224 := NB90002_90004.out
                   have hnb225 := NB90004_90003.out
                   have hnc225 := NB90003_90004.out
                   obtain ⟨hcz226_0, hcz226_1, hcz226_2, hcz226_3, hcz226_4, hcz226_5, hfz226_0, hfz226_1, hfz226_2, hfz226_3, hfz226_4, hfz226_5⟩ := cellsZ6 BK90004.out
                   obtain ⟨Ao227, co227, eo227⟩ := Kd.R_slice HO_90006004.out
                   subst eo227
                   go_wp2
                   refine bodyPost_ret (results_cell_row rfl _ _ gb90004 26 #[.int .i64 x90006000_128, .int .i64 (wrap64 (a0_1 + a1_1)), .int .i64 x90006002_147, .int .i64 x90006003_163, .slice Ao227 x90006004_4.length co227, .bool false] (0, 0) _ rfl bkZ Try.underlying26 rfl (by kernel_rfl)) rfl ?_
                   exact ⟨_, z674d, by (with_reducible repeat (first | apply Kd.R_alloc | apply Kd.R_drewN | apply Kd.R_drew)); exact Kd.R_mono (Kd.R_far (p := ⟨gb90004, 5, none⟩) (Kd.R_far (p := ⟨gb90004, 4, none⟩) (Kd.R_far (p := ⟨gb90004, 3, none⟩) (Kd.R_far (p := ⟨gb90004, 2, none⟩) (Kd.R_far (p := ⟨gb90004, 1, none⟩) (Kd.R_far (p := ⟨gb90004, 0, none⟩) (Kd.R_types HO_90006004.out BK90004.out (by decide)) (fun _ hk => hk.2) (.int .i64 x90006000_128)) (fun _ hk => hk.2) (.int .i64 (wrap64 (a0_1 + a1_1)))) (fun _ hk => hk.2) (.int .i64 x90006002_147)) (fun _ hk => hk.2) (.int .i64 x90006003_163)) (fun _ hk => hk.2) (.slice Ao227 x90006004_4.length co227)) (fun _ hk => hk.2) (.bool false)) (fun _ hk => trivial), zcb41⟩

end Go.Proofs.Ytdkokfnnebdppaa.P

-- written by a program of this session's (wip/pp)
namespace Go.Proofs.Ytdkokfnnebdppaa.P
open Go.RowKit Go.Proofs.YtdkokfnnebdppaaW.PrintWords Go.Proofs.YtdkokfnnebdppaaW.PrintLast Go.Proofs.YtdkokfnnebdppaaW.PrintMore
attribute [local go_sem] max2_int min2_int max_two min_two max_three min_three max_four min_four str_geq str_gtr str_leq   -- for this text's walks alone
set_option linter.unusedVariables false
set_option linter.unusedSimpArgs false

/-! ### spec_l5Fold: function 34 -/
mutual
def spec_l5Fold.j0 : Nat → List (S45) → Bool → Option (Int × Int × Int × Int × List Int × Bool × Bool)
 | 0, _, _ => none
 | k + 1, x0, x16 => if x16 = true then (some (0, 0, 0, 0, ([] : List Int), false, false)) else (spec_l5Fold.l0 k x0 0)
def spec_l5Fold.j2 : Nat → List (S45) → Int → Option (Int × Int × Int × Int × List Int × Bool × Bool)
 | 0, _, _ => none
 | k + 1, x0, x4 => (spec_l4Zero.f).bind fun bt104 => (if x4 < (x0.length : Int) then (if 0 ≤ x4 then (spec_l5Fold.j3 k x0 x4 (((rd_T45 x0 x4).f2) == 1) bt104.1 bt104.2.1 bt104.2.2.1 bt104.2.2.2.1 bt104.2.2.2.2.1 bt104.2.2.2.2.2) else (none)) else (spec_l5Fold.j3 k x0 x4 false bt104.1 bt104.2.1 bt104.2.2.1 bt104.2.2.2.1 bt104.2.2.2.2.1 bt104.2.2.2.2.2))
def spec_l5Fold.j3 : Nat → List (S45) → Int → Bool → Int → Int → Int → Int → List Int → Bool → Option (Int × Int × Int × Int × List Int × Bool × Bool)
 | 0, _, _, _, _, _, _, _, _, _ => none
 | k + 1, x0, x4, x44, x113000, x113001, x113002, x113003, x113004, x113005 => if x44 = true then (if 0 ≤ x4 then (if x4 < (x0.length : Int) then ((spec_l4Own.f ((rd_T45 x0 x4).f3.f0) ((rd_T45 x0 x4).f3.f1) ((rd_T45 x0 x4).f3.f2) ((rd_T45 x0 x4).f3.f3) ((rd_T45 x0 x4).f3.f4) ((rd_T45 x0 x4).f3.f5)).bind fun bt115 => (spec_l5Fold.j4 k x0 x4 bt115.1 bt115.2.1 bt115.2.2.1 bt115.2.2.2.1 bt115.2.2.2.2.1 bt115.2.2.2.2.2)) else (none)) else (none)) else (spec_l5Fold.j4 k x0 x4 x113000 x113001 x113002 x113003 x113004 x113005)
def spec_l5Fold.j4 : Nat → List (S45) → Int → Int → Int → Int → Int → List Int → Bool → Option (Int × Int × Int × Int × List Int × Bool × Bool)
 | 0, _, _, _, _, _, _, _, _ => none
 | k + 1, x0, x4, x113000, x113001, x113002, x113003, x113004, x113005 => spec_l5Fold.l1 k x0 (wrap64 (x4 - 1)) x113000 x113001 x113002 x113003 x113004 x113005
def spec_l5Fold.l1 : Nat → List (S45) → Int → Int → Int → Int → Int → List Int → Bool → Option (Int × Int × Int × Int × List Int × Bool × Bool)
 | 0, _, _, _, _, _, _, _, _ => none
 | k + 1, x0, x6, x113000, x113001, x113002, x113003, x113004, x113005 => if x6 ≥ 0 then (if 0 ≤ x6 then (if x6 < (x0.length : Int) then ((spec_l4Join.f k x113000 x113001 x113002 x113003 x113004 x113005 ((rd_T45 x0 x6).f3.f0) ((rd_T45 x0 x6).f3.f1) ((rd_T45 x0 x6).f3.f2) ((rd_T45 x0 x6).f3.f3) ((rd_T45 x0 x6).f3.f4) ((rd_T45 x0 x6).f3.f5)).bind fun bt124 => (spec_l5Fold.l1 k x0 (wrap64 (x6 - 1)) bt124.1 bt124.2.1 bt124.2.2.1 bt124.2.2.2.1 bt124.2.2.2.2.1 bt124.2.2.2.2.2)) else (none)) else (none)) else (some (x113000, x113001, x113002, x113003, x113004, x113005, true))
def spec_l5Fold.l0 : Nat → List (S45) → Int → Option (Int × Int × Int × Int × List Int × Bool × Bool)
 | 0, _, _ => none
 | k + 1, x0, x4 => if x4 < (x0.length : Int) then (if 0 ≤ x4 then (if ((rd_T45 x0 x4).f2) = 3 then (spec_l5Fold.l0 k x0 (wrap64 (x4 + 1))) else (spec_l5Fold.j2 k x0 x4)) else (none)) else (spec_l5Fold.j2 k x0 x4)
end
def spec_l5Fold.f (k : Nat) (l0 : List (S45)) : Option (Int × Int × Int × Int × List Int × Bool × Bool) := if (l0.length : Int) = 0 then (spec_l5Fold.j0 k l0 true) else (if 0 < (l0.length : Int) then (spec_l5Fold.j0 k l0 (((rd_T45 l0 0).f2) == 2)) else (none))
theorem spec_l5Fold.mono_l : ∀ k, (∀ y0 y1, LeO (spec_l5Fold.j0 k y0 y1) (spec_l5Fold.j0 (k + 1) y0 y1)) ∧ (∀ y0 y1, LeO (spec_l5Fold.j2 k y0 y1) (spec_l5Fold.j2 (k + 1) y0 y1)) ∧ (∀ y0 y1 y2 y3 y4 y5 y6 y7 y8, LeO (spec_l5Fold.j3 k y0 y1 y2 y3 y4 y5 y6 y7 y8) (spec_l5Fold.j3 (k + 1) y0 y1 y2 y3 y4 y5 y6 y7 y8)) ∧ (∀ y0 y1 y2 y3 y4 y5 y6 y7, LeO (spec_l5Fold.j4 k y0 y1 y2 y3 y4 y5 y6 y7) (spec_l5Fold.j4 (k + 1) y0 y1 y2 y3 y4 y5 y6 y7)) ∧ (∀ y0 y1 y2 y3 y4 y5 y6 y7, LeO (spec_l5Fold.l1 k y0 y1 y2 y3 y4 y5 y6 y7) (spec_l5Fold.l1 (k + 1) y0 y1 y2 y3 y4 y5 y6 y7)) ∧ (∀ y0 y1, LeO (spec_l5Fold.l0 k y0 y1) (spec_l5Fold.l0 (k + 1) y0 y1))
 | 0 => ⟨fun _ _ r h => by simp [spec_l5Fold.j0] at h, fun _ _ r h => by simp [spec_l5Fold.j2] at h, fun _ _ _ _ _ _ _ _ _ r h => by simp [spec_l5Fold.j3] at h, fun _ _ _ _ _ _ _ _ r h => by simp [spec_l5Fold.j4] at h, fun _ _ _ _ _ _ _ _ r h => by simp [spec_l5Fold.l1] at h, fun _ _ r h => by simp [spec_l5Fold.l0] at h⟩
 | k + 1 => by
  obtain ⟨ih0, ih1, ih2, ih3, ih4, ih5⟩ := spec_l5Fold.mono_l k
  refine ⟨?_, ?_, ?_, ?_, ?_, ?_⟩
  · intro y0 y1
    unfold spec_l5Fold.j0
    repeat' first
     | (with_reducible first | exact ih0 .. | exact ih1 .. | exact ih2 .. | exact ih3 .. | exact ih4 .. | exact ih5 .. | exact spec_l4Join.mono .. | exact LeO.refl _ | exact LeO.none _ | refine LeO.ite ?_ ?_ | refine LeO.bind ?_ (fun _ => ?_))
     | exact LeO.none _
     | refine LeO.ite ?_ ?_
     | refine LeO.bind ?_ (fun _ => ?_)
  · intro y0 y1
    unfold spec_l5Fold.j2
    repeat' first
     | (with_reducible first | exact ih0 .. | exact ih1 .. | exact ih2 .. | exact ih3 .. | exact ih4 .. | exact ih5 .. | exact spec_l4Join.mono .. | exact LeO.refl _ | exact LeO.none _ | refine LeO.ite ?_ ?_ | refine LeO.bind ?_ (fun _ => ?_))
     | exact LeO.none _
     | refine LeO.ite ?_ ?_
     | refine LeO.bind ?_ (fun _ => ?_)
  · intro y0 y1 y2 y3 y4 y5 y6 y7 y8
    unfold spec_l5Fold.j3
    repeat' first
     | (with_reducible first | exact ih0 .. | exact ih1 .. | exact ih2 .. | exact ih3 .. | exact ih4 .. | exact ih5 .. | exact spec_l4Join.mono .. | exact LeO.refl _ | exact LeO.none _ | refine LeO.ite ?_ ?_ | refine LeO.bind ?_ (fun _ => ?_))
     | exact LeO.none _
     | refine LeO.ite ?_ ?_
     | refine LeO.bind ?_ (fun _ => ?_)
  · intro y0 y1 y2 y3 y4 y5 y6 y7
    unfold spec_l5Fold.j4
    repeat' first
     | (with_reducible first | exact ih0 .. | exact ih1 .. | exact ih2 .. | exact ih3 .. | exact ih4 .. | exact ih5 .. | exact spec_l4Join.mono .. | exact LeO.refl _ | exact LeO.none _ | refine LeO.ite ?_ ?_ | refine LeO.bind ?_ (fun _ => ?_))
     | exact LeO.none _
     | refine LeO.ite ?_ ?_
     | refine LeO.bind ?_ (fun _ => ?_)
  · intro y0 y1 y2 y3 y4 y5 y6 y7
    unfold spec_l5Fold.l1
    repeat' first
     | (with_reducible first | exact ih0 .. | exact ih1 .. | exact ih2 .. | exact ih3 .. | exact ih4 .. | exact ih5 .. | exact spec_l4Join.mono .. | exact LeO.refl _ | exact LeO.none _ | refine LeO.ite ?_ ?_ | refine LeO.bind ?_ (fun _ => ?_))
     | exact LeO.none _
     | refine LeO.ite ?_ ?_
     | refine LeO.bind ?_ (fun _ => ?_)
  · intro y0 y1
    unfold spec_l5Fold.l0
    repeat' first
     | (with_reducible first | exact ih0 .. | exact ih1 .. | exact ih2 .. | exact ih3 .. | exact ih4 .. | exact ih5 .. | exact spec_l4Join.mono .. | exact LeO.refl _ | exact LeO.none _ | refine LeO.ite ?_ ?_ | refine LeO.bind ?_ (fun _ => ?_))
     | exact LeO.none _
     | refine LeO.ite ?_ ?_
     | refine LeO.bind ?_ (fun _ => ?_)
theorem spec_l5Fold.mono : ∀ a0 k, LeO (spec_l5Fold.f k a0) (spec_l5Fold.f (k + 1) a0) := by
 intro a0 k
 obtain ⟨ih0, ih1, ih2, ih3, ih4, ih5⟩ := spec_l5Fold.mono_l k
 unfold spec_l5Fold.f
 repeat' first
  | (with_reducible first | exact ih0 .. | exact ih1 .. | exact ih2 .. | exact ih3 .. | exact ih4 .. | exact ih5 .. | exact spec_l4Join.mono .. | exact LeO.refl _ | exact LeO.none _ | refine LeO.ite ?_ ?_ | refine LeO.bind ?_ (fun _ => ?_))
  | exact LeO.none _
  | refine LeO.ite ?_ ?_
  | refine LeO.bind ?_ (fun _ => ?_)
def spec_l5Fold.T12 : Bool × List (List Nat × List Nat) := (true, [([], []), ([], []), ([], []), ([1, 2], [1, 2]), ([3], [3]), ([4], [4]), ([0, 5], [0, 5]), ([6, 6, 0, 1, 2, 3, 4, 5, 6], [6])])
def spec_l5Fold.B12 : List Nat := [0, 0, 0, 6, 14, 30, 63, 127]
theorem spec_l5Fold.tab12 : rtab .any (opsOf Try.f34 12) = spec_l5Fold.T12 := by kernel_rfl
theorem spec_l5Fold.bits12 : waitsOk spec_l5Fold.T12.2 spec_l5Fold.B12 = true := by kernel_rfl
set_option maxHeartbeats 8000000 in
set_option maxRecDepth 100000 in
theorem spec_l5Fold.calls (k : Nat) (A0 : Option Addr) (c0 : Nat) (l0 : List (S45)) (r1 : Int) (r2 : Int) (r3 : Int) (r4 : Int) (r5 : List Int) (r6 : Bool) (r7 : Bool) (w : World) (hr0 : Kd.C k45 w A0 l0.length l0) (hc0 : l0.length ≤ c0) (h : spec_l5Fold.f k l0 = some (r1, r2, r3, r4, r5, r6, r7)) :
 Calls Try.prog 34 #[.slice A0 l0.length c0] w fun e w' => ∃ v4_ : Value, e = .returned (.tuple #[.agg #[.int .i64 r1, .int .i64 r2, .int .i64 r3, .int .i64 r4, v4_, .bool r6], .bool r7]) ∧ Kd.R (Kd.int .i64) 3 w' w.heap.size (fun _ => True) v4_ r5 ∧ Below w.heap.size w w' := by
 have hu26 := Try.underlying26
 have HR0 := aM hr0
 have HC0 := aM hc0
 clear hr0 hc0
 have HB := aM (Below.refl w.heap.size w)
 have H : (if (l0.length : Int) = 0 then (spec_l5Fold.j0 k l0 true) else (if 0 < (l0.length : Int) then (spec_l5Fold.j0 k l0 (((rd_T45 l0 0).f2) == 2)) else (none))) = some (r1, r2, r3, r4, r5, r6, r7) := h
 clear h
 have HC2 := aM H
 clear H
 go_enter Try.func34, Try.ntmps34
 go_upto_region 1 with (first | ((with_reducible refine gate_dst (N := 2) rfl ?_); refine box_event ?hg (N := 2) ?hd (cs := #[.int .i64 0, .int .i64 0, .int .i64 0, .int .i64 0, .slice none 0 0, .bool false]) (t := 26) ?hr ?_; (case hd => rfl); (case hg => rfl); (case hr => first | (go_simp; done) | (go_simp; rfl)); intro gb101 hg w3 hbox hb; have _ := aM (below_step hbZ hb); have _ := aM hbox; have _ := szZ hg; have _ := szZ hg; clear HB; rename_i HB BK101 GW101 GE101; clear hb hbox hg))
 (try simp only [Act.put, List.setIfInBounds_toArray, List.set_cons_zero, List.set_cons_succ])
 go_cut [16] (fun v16 wc => ∃ (kq : Nat) (x16_1 : Bool), v16 = .bool x16_1 ∧ Aside0 (spec_l5Fold.j0 kq l0 x16_1 = some (r1, r2, r3, r4, r5, r6, r7)) ∧ Aside0 (kq ≤ k) ∧ Aside0 (wc.heap[gb101]? = some (.cells #[.int .i64 0, .int .i64 0, .int .i64 0, .int .i64 0, (.slice none 0 0), .bool false] 26 (0, 0))) ∧ Aside0 (Below w.heap.size w wc))
 case first =>
  have H := HC2.out
  clear HC2
  by_cases c4 : (l0.length : Int) = 0
  · rw [if_pos c4] at H
    have c4b0 : ((l0.length : Int) == 0) = true := beq_iff_eq.mpr c4
    have c4b1 : ((l0.length : Int) != 0) = false := bne_eq_false_iff_eq.mpr c4
    clear c4
    (first | rw [c4b0] | (simp only [i64_w, i32_w]; rw [c4b0]) | skip)
    have H' := aM H
    clear H
    go_wp2
    go_meet
    case rel => exact ⟨_, (true), z4458, H', ⟨zb79b⟩, ⟨bkZ⟩, ⟨zcb41⟩⟩
  · rw [if_neg c4] at H
    have c4b0 : ((l0.length : Int) == 0) = false := beq_eq_false_iff_ne.mpr c4
    have c4b1 : ((l0.length : Int) != 0) = true := bne_iff_ne.mpr c4
    have c4b2 : ¬ (l0 = []) := fun h_ => c4 (by rw [h_]; rfl)
    (first | rw [c4b0] | (simp only [i64_w, i32_w]; rw [c4b0]) | skip)
    replace H := ifS H; obtain ⟨c5, H⟩ := H
    have c5b0 : decide (0 < (l0.length : Int)) = true := decide_eq_true c5
    have c5b1 : decide (0 < l0.length) = true := decide_eq_true (by omega)
    clear c5
    have H' := aM H
    clear H
    have p102 : 0 ≤ (0 : Int) := (by omega)
    have q102 : 0 < (l0.length : Int) := of_decide_eq_true z1200
    obtain ⟨ad102, A102_7, c102_7, e102, hx102_0, hx102_1, hx102_2, hx102_3, hx102_4, hx102_5, hx102_6, hx102_7, hx102_8, hl102_7, hi102_7⟩ := at_T45 HR0.out 0 p102 q102
    cases e102
    have qi102 : (0 < l0.length) = True := eq_true (by omega)
    (try rw [show ((0 : Int)).toNat = 0 from rfl, show 0 * 9 = 0 from rfl, Addr.add_zero'] at hx102_0 hx102_1 hx102_2 hx102_3 hx102_4 hx102_5 hx102_6 hx102_7 hx102_8)
    have TW102_7 := aM hx102_7
    replace hx102_0 := (HB.out.cell (World.block_lt_of_cell? w _ hx102_0)).trans hx102_0
    replace hx102_1 := (HB.out.cell (World.block_lt_of_cell? w _ hx102_1)).trans hx102_1
    replace hx102_2 := (HB.out.cell (World.block_lt_of_cell? w _ hx102_2)).trans hx102_2
    replace hx102_3 := (HB.out.cell (World.block_lt_of_cell? w _ hx102_3)).trans hx102_3
    replace hx102_4 := (HB.out.cell (World.block_lt_of_cell? w _ hx102_4)).trans hx102_4
    replace hx102_5 := (HB.out.cell (World.block_lt_of_cell? w _ hx102_5)).trans hx102_5
    replace hx102_6 := (HB.out.cell (World.block_lt_of_cell? w _ hx102_6)).trans hx102_6
    replace hx102_7 := (HB.out.cell (World.block_lt_of_cell? w _ hx102_7)).trans hx102_7
    replace hx102_8 := (HB.out.cell (World.block_lt_of_cell? w _ hx102_8)).trans hx102_8
    have HR102_7 := aM hi102_7
    have HC102_7 := aM hl102_7
    clear hi102_7 hl102_7
    replace p102 := eq_true p102
    replace q102 := eq_true q102
    go_wp2
    go_meet
    case rel => exact ⟨_, ((((rd_T45 l0 0).f2) == 2)), z4458, H', ⟨zb79b⟩, ⟨bkZ⟩, ⟨zcb41⟩⟩
 case rest =>
  clear HC2
  try clear c1
  try clear p1
  try clear q1
  try clear hx1
  try clear qi1
  try clear p2
  try clear c3
  try clear c4
  try clear c4b0
  try clear c4b1
  try clear c4b2
  try clear c5
  try clear c5b0
  try clear c5b1
  try clear hx102_0
  try clear hx102_1
  try clear hx102_2
  try clear hx102_3
  try clear hx102_4
  try clear hx102_5
  try clear hx102_6
  try clear hx102_7
  try clear hx102_8
  try clear p102
  try clear q102
  obtain ⟨kq, x16_1, rfl, HA, HJ1, BK101, HB⟩ := hcut
  cases kq with
  | zero => exact absurd HA.out (by simp [spec_l5Fold.j0])
  | succ kj1 =>
   have H := HA.out
   clear HA
   simp only [spec_l5Fold.j0] at H
   by_cases c6 : x16_1 = true
   · subst c6
     rw [if_pos rfl] at H
     simp only [Option.some.injEq, Prod.mk.injEq] at H
     obtain ⟨rfl, rfl, rfl, rfl, rfl, rfl, rfl⟩ := H
     obtain ⟨hcz7_0, hcz7_1, hcz7_2, hcz7_3, hcz7_4, hcz7_5, hfz7_0, hfz7_1, hfz7_2, hfz7_3, hfz7_4, hfz7_5⟩ := cellsZ6 BK101.out
     go_wp2
     refine bodyPost_ret (results_ct rfl _ _ gb101 26 #[.int .i64 0, .int .i64 0, .int .i64 0, .int .i64 0, .slice none 0 0, .bool false] (0, 0) _ rfl bkZ Try.underlying26 rfl (by kernel_rfl)) rfl ?_
     exact ⟨_, z674d, z02fa, zcb41⟩
   · replace c6 := Bool.eq_false_iff.mpr c6
     subst c6
     rw [if_neg (show ¬ (false = true) by decide)] at H
     have HC8 := aM H
     clear H
     go_upto_block 0 with (fail)
     go_cut [4] (fun v4 wc => ∃ (kq : Nat) (x4_7 : Int), v4 = .int .i64 x4_7 ∧ Aside0 (spec_l5Fold.j2 kq l0 x4_7 = some (r1, r2, r3, r4, r5, r6, r7)) ∧ Aside0 (kq ≤ kj1) ∧ Aside0 (wc.heap[gb101]? = some (.cells #[.int .i64 0, .int .i64 0, .int .i64 0, .int .i64 0, (.slice none 0 0), .bool false] 26 (0, 0))) ∧ Aside0 (Below w.heap.size w wc))
     case first =>
      have H := HC8.out
      clear HC8
      have H' := aM H
      clear H
      go_wp2
      go_loopg [4] kj1 (fun kq v4 w' => ∃ (x4_2 : Int), v4 = .int .i64 x4_2 ∧ Aside0 (spec_l5Fold.l0 kq l0 x4_2 = some (r1, r2, r3, r4, r5, r6, r7)) ∧ Aside0 (kq ≤ kj1) ∧ Aside0 (w'.heap[gb101]? = some (.cells #[.int .i64 0, .int .i64 0, .int .i64 0, .int .i64 0, (.slice none 0 0), .bool false] 26 (0, 0))) ∧ Aside0 (Below w.heap.size w w'))
      case atStart => exact ⟨(0), z4458, H', ⟨Nat.le_refl _⟩, ⟨bkZ⟩, ⟨zcb41⟩⟩
      case round =>
       clear H'
       try clear c1
       try clear p1
       try clear q1
       try clear hx1
       try clear qi1
       try clear p2
       try clear c3
       try clear c4
       try clear c4b0
       try clear c4b1
       try clear c4b2
       try clear c5
       try clear c5b0
       try clear c5b1
       try clear c6
       try clear hcz7_0 hcz7_1 hcz7_2 hcz7_3 hcz7_4 hcz7_5 hfz7_0 hfz7_1 hfz7_2 hfz7_3 hfz7_4 hfz7_5
       try clear hx102_0
       try clear hx102_1
       try clear hx102_2
       try clear hx102_3
       try clear hx102_4
       try clear hx102_5
       try clear hx102_6
       try clear hx102_7
       try clear hx102_8
       try clear p1
       try clear p102
       try clear p2
       try clear q1
       try clear q102
       obtain ⟨x4_2, rfl, HA, HK2, BK101, HB⟩ := hrel
       cases gk with
       | zero => exact absurd HA.out (by simp [spec_l5Fold.l0])
       | succ k2 =>
        have H := HA.out
        clear HA
        simp only [spec_l5Fold.l0] at H
        by_cases c9 : x4_2 < (l0.length : Int)
        · rw [if_pos c9] at H
          have c9b0 : decide (x4_2 < (l0.length : Int)) = true := decide_eq_true c9
          clear c9
          (first | rw [c9b0] | (simp only [i64_w, i32_w]; rw [c9b0]) | skip)
          replace H := ifS H; obtain ⟨c10, H⟩ := H
          have c10b0 : decide (0 ≤ x4_2) = true := decide_eq_true c10
          clear c10
          by_cases c11 : ((rd_T45 l0 x4_2).f2) = 3
          · rw [if_pos c11] at H
            have c11b0 : (((rd_T45 l0 x4_2).f2) == 3) = true := beq_iff_eq.mpr c11
            have c11b1 : (((rd_T45 l0 x4_2).f2) != 3) = false := bne_eq_false_iff_eq.mpr c11
            clear c11
            have H' := aM H
            clear H
            have p103 : 0 ≤ (x4_2 : Int) := of_decide_eq_true z1200
            have q103 : x4_2 < (l0.length : Int) := of_decide_eq_true z1200
            obtain ⟨ad103, A103_7, c103_7, e103, hx103_0, hx103_1, hx103_2, hx103_3, hx103_4, hx103_5, hx103_6, hx103_7, hx103_8, hl103_7, hi103_7⟩ := at_T45 HR0.out x4_2 p103 q103
            cases e103
            have TW103_7 := aM hx103_7
            replace hx103_0 := (HB.out.cell (World.block_lt_of_cell? w _ hx103_0)).trans hx103_0
            replace hx103_1 := (HB.out.cell (World.block_lt_of_cell? w _ hx103_1)).trans hx103_1
            replace hx103_2 := (HB.out.cell (World.block_lt_of_cell? w _ hx103_2)).trans hx103_2
            replace hx103_3 := (HB.out.cell (World.block_lt_of_cell? w _ hx103_3)).trans hx103_3
            replace hx103_4 := (HB.out.cell (World.block_lt_of_cell? w _ hx103_4)).trans hx103_4
            replace hx103_5 := (HB.out.cell (World.block_lt_of_cell? w _ hx103_5)).trans hx103_5
            replace hx103_6 := (HB.out.cell (World.block_lt_of_cell? w _ hx103_6)).trans hx103_6
            replace hx103_7 := (HB.out.cell (World.block_lt_of_cell? w _ hx103_7)).trans hx103_7
            replace hx103_8 := (HB.out.cell (World.block_lt_of_cell? w _ hx103_8)).trans hx103_8
            have HR103_7 := aM hi103_7
            have HC103_7 := aM hl103_7
            clear hi103_7 hl103_7
            replace p103 := eq_true p103
            replace q103 := eq_true q103
            go_wp2
            go_roundg k2
            case measure => have := HJ1.out; have := HK2.out; omega
            case rel => exact ⟨(wrap64 (x4_2 + 1)), z4458, H', ⟨by have := HJ1.out; have := HK2.out; omega⟩, ⟨bkZ⟩, ⟨zcb41⟩⟩
          · rw [if_neg c11] at H
            have c11b0 : (((rd_T45 l0 x4_2).f2) == 3) = false := beq_eq_false_iff_ne.mpr c11
            have c11b1 : (((rd_T45 l0 x4_2).f2) != 3) = true := bne_iff_ne.mpr c11
            have H' := aM H
            clear H
            have p103 : 0 ≤ (x4_2 : Int) := of_decide_eq_true z1200
            have q103 : x4_2 < (l0.length : Int) := of_decide_eq_true z1200
            obtain ⟨ad103, A103_7, c103_7, e103, hx103_0, hx103_1, hx103_2, hx103_3, hx103_4, hx103_5, hx103_6, hx103_7, hx103_8, hl103_7, hi103_7⟩ := at_T45 HR0.out x4_2 p103 q103
            cases e103
            have TW103_7 := aM hx103_7
            replace hx103_0 := (HB.out.cell (World.block_lt_of_cell? w _ hx103_0)).trans hx103_0
            replace hx103_1 := (HB.out.cell (World.block_lt_of_cell? w _ hx103_1)).trans hx103_1
            replace hx103_2 := (HB.out.cell (World.block_lt_of_cell? w _ hx103_2)).trans hx103_2
            replace hx103_3 := (HB.out.cell (World.block_lt_of_cell? w _ hx103_3)).trans hx103_3
            replace hx103_4 := (HB.out.cell (World.block_lt_of_cell? w _ hx103_4)).trans hx103_4
            replace hx103_5 := (HB.out.cell (World.block_lt_of_cell? w _ hx103_5)).trans hx103_5
            replace hx103_6 := (HB.out.cell (World.block_lt_of_cell? w _ hx103_6)).trans hx103_6
            replace hx103_7 := (HB.out.cell (World.block_lt_of_cell? w _ hx103_7)).trans hx103_7
            replace hx103_8 := (HB.out.cell (World.block_lt_of_cell? w _ hx103_8)).trans hx103_8
            have HR103_7 := aM hi103_7
            have HC103_7 := aM hl103_7
            clear hi103_7 hl103_7
            replace p103 := eq_true p103
            replace q103 := eq_true q103
            go_wp2
            go_meet
            case rel => exact ⟨_, (x4_2), z4458, H', ⟨zdc19⟩, ⟨bkZ⟩, ⟨zcb41⟩⟩
        · rw [if_neg c9] at H
          have c9b0 : decide (x4_2 < (l0.length : Int)) = false := decide_eq_false c9
          clear c9
          (first | rw [c9b0] | (simp only [i64_w, i32_w]; rw [c9b0]) | skip)
          have H' := aM H
          clear H
          go_wp2
          go_meet
          case rel => exact ⟨_, (x4_2), z4458, H', ⟨zdc19⟩, ⟨bkZ⟩, ⟨zcb41⟩⟩
     case rest =>
      clear HC8
      try clear c1
      try clear p1
      try clear q1
      try clear hx1
      try clear qi1
      try clear p2
      try clear c3
      try clear c4
      try clear c4b0
      try clear c4b1
      try clear c4b2
      try clear c5
      try clear c5b0
      try clear c5b1
      try clear c6
      try clear p6
      try clear c9
      try clear c9b0
      try clear c10
      try clear c10b0
      try clear p10
      try clear q10
      try clear hx10
      try clear qi10
      try clear c11
      try clear c11b0
      try clear c11b1
      try clear hcz7_0 hcz7_1 hcz7_2 hcz7_3 hcz7_4 hcz7_5 hfz7_0 hfz7_1 hfz7_2 hfz7_3 hfz7_4 hfz7_5
      try clear hx102_0
      try clear hx102_1
      try clear hx102_2
      try clear hx102_3
      try clear hx102_4
      try clear hx102_5
      try clear hx102_6
      try clear hx102_7
      try clear hx102_8
      try clear hx103_0
      try clear hx103_1
      try clear hx103_2
      try clear hx103_3
      try clear hx103_4
      try clear hx103_5
      try clear hx103_6
      try clear hx103_7
      try clear hx103_8
      try clear p1
      try clear p102
      try clear p103
      try clear p2
      try clear q1
      try clear q102
      try clear q103
      obtain ⟨kq, x4_7, rfl, HA, HJ7, BK101, HB⟩ := hcut
      cases kq with
      | zero => exact absurd HA.out (by simp [spec_l5Fold.j2])
      | succ kj7 =>
       have H := HA.out
       clear HA
       simp only [spec_l5Fold.j2] at H
       replace H := Option.bind_eq_some_iff.mp H
       obtain ⟨⟨t104, t105, t106, t107, t108, t111⟩, A120, H⟩ := H
       try dsimp only at H
       have A12 := aM A120
       clear A120
       have HC13 := aM H
       clear H
       go_upto_region 7 with (first | ((with_reducible refine gate_callee (f := 66) rfl ?_); refine goesL_ (some 32) rfl rfl Try.func66 (by kernel_rfl) rfl #[] rfl zee81 ?_; (with_reducible refine (spec_l4Zero.calls  t104 t105 t106 t107 t108 t111 _ A12.out).mono ?_); rintro e w14 ⟨v109, rfl, ho0, hb⟩; refine ⟨_, rfl, ?_⟩; have _ := aM (Kd.R_lower ho0 (below_size hbZ)); have _ := bB gb101 hb; have _ := aM (below_step hbZ hb); clear BK101 HB; rename_i HO110 BK101 HB; (try clear hb); (try clear ho0)) | ((with_reducible refine gate_dst (N := 5) rfl ?_); refine box_event ?hg (N := 5) ?hd (cs := #[.int .i64 0, .int .i64 0, .int .i64 0, .int .i64 0, .slice none 0 0, .bool false]) (t := 26) ?hr ?_; (case hd => rfl); (case hg => rfl); (case hr => first | (go_simp; done) | (go_simp; rfl)); intro gb112 hg w15 hbox hb; have _ := aM (Kd.R_below (rZ HO110.out) hb); have _ := bB gb101 hb; have _ := aM (below_step hbZ hb); have _ := aM hbox; have _ := szZ hg; have _ := szZ hg; have ⟨_, _⟩ := nbB gb101 hg; clear HO110 BK101 HB; rename_i HO110 BK101 HB BK112 GW112 GE112 NB101_112 NB112_101; clear hb hbox hg; have hnb16 := NB112_101.out; have hnc16 := NB101_112.out; obtain ⟨hcz17_0, hcz17_1, hcz17_2, hcz17_3, hcz17_4, hcz17_5, hfz17_0, hfz17_1, hfz17_2, hfz17_3, hfz17_4, hfz17_5⟩ := cellsZ6 BK112.out; obtain ⟨Ao18, co18, eo18⟩ := Kd.R_slice HO110.out; subst eo18))
       (try simp only [Act.put, List.setIfInBounds_toArray, List.set_cons_zero, List.set_cons_succ])
       go_cut [44] (fun v44 wc => ∃ (kq : Nat) (x44_12 : Bool), v44 = .bool x44_12 ∧ Aside0 (spec_l5Fold.j3 kq l0 x4_7 x44_12 t104 t105 t106 t107 t108 t111 = some (r1, r2, r3, r4, r5, r6, r7)) ∧ Aside0 (kq ≤ kj7) ∧ Aside0 (Kd.R (Kd.int .i64) 3 wc w.heap.size (fun _ => True) (.slice Ao18 t108.length co18) t108) ∧ Aside0 (wc.heap[gb101]? = some (.cells #[.int .i64 0, .int .i64 0, .int .i64 0, .int .i64 0, (.slice none 0 0), .bool false] 26 (0, 0))) ∧ Aside0 (wc.heap[gb112]? = some (.cells #[.int .i64 t104, .int .i64 t105, .int .i64 t106, .int .i64 t107, (.slice Ao18 t108.length co18), .bool t111] 26 (0, 0))) ∧ Aside0 (Below w.heap.size w wc))
       case first =>
        have H := HC13.out
        clear HC13
        by_cases c19 : x4_7 < (l0.length : Int)
        · rw [if_pos c19] at H
          have c19b0 : decide (x4_7 < (l0.length : Int)) = true := decide_eq_true c19
          clear c19
          (first | rw [c19b0] | (simp only [i64_w, i32_w]; rw [c19b0]) | skip)
          replace H := ifS H; obtain ⟨c20, H⟩ := H
          have c20b0 : decide (0 ≤ x4_7) = true := decide_eq_true c20
          clear c20
          have H' := aM H
          clear H
          have p113 : 0 ≤ (x4_7 : Int) := of_decide_eq_true z1200
          have q113 : x4_7 < (l0.length : Int) := of_decide_eq_true z1200
          obtain ⟨ad113, A113_7, c113_7, e113, hx113_0, hx113_1, hx113_2, hx113_3, hx113_4, hx113_5, hx113_6, hx113_7, hx113_8, hl113_7, hi113_7⟩ := at_T45 HR0.out x4_7 p113 q113
          cases e113
          have hn113_0 : ad113.block ≠ gb112 := Nat.ne_of_lt (Nat.lt_of_lt_of_le (by have := World.block_lt_of_cell? _ _ hx113_0; first | rwa [add_block] at this | exact this) GW112.out)
          have hn113_1 : ad113.block ≠ gb112 := Nat.ne_of_lt (Nat.lt_of_lt_of_le (by have := World.block_lt_of_cell? _ _ hx113_0; first | rwa [add_block] at this | exact this) GW112.out)
          have hn113_2 : ad113.block ≠ gb112 := Nat.ne_of_lt (Nat.lt_of_lt_of_le (by have := World.block_lt_of_cell? _ _ hx113_0; first | rwa [add_block] at this | exact this) GW112.out)
          have hn113_3 : ad113.block ≠ gb112 := Nat.ne_of_lt (Nat.lt_of_lt_of_le (by have := World.block_lt_of_cell? _ _ hx113_0; first | rwa [add_block] at this | exact this) GW112.out)
          have hn113_4 : ad113.block ≠ gb112 := Nat.ne_of_lt (Nat.lt_of_lt_of_le (by have := World.block_lt_of_cell? _ _ hx113_0; first | rwa [add_block] at this | exact this) GW112.out)
          have hn113_5 : ad113.block ≠ gb112 := Nat.ne_of_lt (Nat.lt_of_lt_of_le (by have := World.block_lt_of_cell? _ _ hx113_0; first | rwa [add_block] at this | exact this) GW112.out)
          replace hx113_0 := (HB.out.cell (World.block_lt_of_cell? w _ hx113_0)).trans hx113_0
          replace hx113_1 := (HB.out.cell (World.block_lt_of_cell? w _ hx113_1)).trans hx113_1
          replace hx113_2 := (HB.out.cell (World.block_lt_of_cell? w _ hx113_2)).trans hx113_2
          replace hx113_3 := (HB.out.cell (World.block_lt_of_cell? w _ hx113_3)).trans hx113_3
          replace hx113_4 := (HB.out.cell (World.block_lt_of_cell? w _ hx113_4)).trans hx113_4
          replace hx113_5 := (HB.out.cell (World.block_lt_of_cell? w _ hx113_5)).trans hx113_5
          replace hx113_6 := (HB.out.cell (World.block_lt_of_cell? w _ hx113_6)).trans hx113_6
          replace hx113_7 := (HB.out.cell (World.block_lt_of_cell? w _ hx113_7)).trans hx113_7
          replace hx113_8 := (HB.out.cell (World.block_lt_of_cell? w _ hx113_8)).trans hx113_8
          have HR113_7 := aM hi113_7
          have HC113_7 := aM hl113_7
          clear hi113_7 hl113_7
          replace hx113_0 := (cell_far (p := ⟨gb112, 0, none⟩) (by first | (rw [add_block]; exact hn113_0) | (show (Addr.add _ _).block ≠ _; rw [add_block]; exact hn113_0) | exact hn113_0) (.int .i64 t104)).trans hx113_0
          replace hx113_1 := (cell_far (p := ⟨gb112, 0, none⟩) (by first | (rw [add_block]; exact hn113_0) | (show (Addr.add _ _).block ≠ _; rw [add_block]; exact hn113_0) | exact hn113_0) (.int .i64 t104)).trans hx113_1
          replace hx113_2 := (cell_far (p := ⟨gb112, 0, none⟩) (by first | (rw [add_block]; exact hn113_0) | (show (Addr.add _ _).block ≠ _; rw [add_block]; exact hn113_0) | exact hn113_0) (.int .i64 t104)).trans hx113_2
          replace hx113_3 := (cell_far (p := ⟨gb112, 0, none⟩) (by first | (rw [add_block]; exact hn113_0) | (show (Addr.add _ _).block ≠ _; rw [add_block]; exact hn113_0) | exact hn113_0) (.int .i64 t104)).trans hx113_3
          replace hx113_4 := (cell_far (p := ⟨gb112, 0, none⟩) (by first | (rw [add_block]; exact hn113_0) | (show (Addr.add _ _).block ≠ _; rw [add_block]; exact hn113_0) | exact hn113_0) (.int .i64 t104)).trans hx113_4
          replace hx113_5 := (cell_far (p := ⟨gb112, 0, none⟩) (by first | (rw [add_block]; exact hn113_0) | (show (Addr.add _ _).block ≠ _; rw [add_block]; exact hn113_0) | exact hn113_0) (.int .i64 t104)).trans hx113_5
          replace hx113_6 := (cell_far (p := ⟨gb112, 0, none⟩) (by first | (rw [add_block]; exact hn113_0) | (show (Addr.add _ _).block ≠ _; rw [add_block]; exact hn113_0) | exact hn113_0) (.int .i64 t104)).trans hx113_6
          replace hx113_7 := (cell_far (p := ⟨gb112, 0, none⟩) (by first | (rw [add_block]; exact hn113_0) | (show (Addr.add _ _).block ≠ _; rw [add_block]; exact hn113_0) | exact hn113_0) (.int .i64 t104)).trans hx113_7
          replace hx113_8 := (cell_far (p := ⟨gb112, 0, none⟩) (by first | (rw [add_block]; exact hn113_0) | (show (Addr.add _ _).block ≠ _; rw [add_block]; exact hn113_0) | exact hn113_0) (.int .i64 t104)).trans hx113_8
          replace hx113_0 := (cell_far (p := ⟨gb112, 1, none⟩) (by first | (rw [add_block]; exact hn113_1) | (show (Addr.add _ _).block ≠ _; rw [add_block]; exact hn113_1) | exact hn113_1) (.int .i64 t105)).trans hx113_0
          replace hx113_1 := (cell_far (p := ⟨gb112, 1, none⟩) (by first | (rw [add_block]; exact hn113_1) | (show (Addr.add _ _).block ≠ _; rw [add_block]; exact hn113_1) | exact hn113_1) (.int .i64 t105)).trans hx113_1
          replace hx113_2 := (cell_far (p := ⟨gb112, 1, none⟩) (by first | (rw [add_block]; exact hn113_1) | (show (Addr.add _ _).block ≠ _; rw [add_block]; exact hn113_1) | exact hn113_1) (.int .i64 t105)).trans hx113_2
          replace hx113_3 := (cell_far (p := ⟨gb112, 1, none⟩) (by first | (rw [add_block]; exact hn113_1) | (show (Addr.add _ _).block ≠ _; rw [add_block]; exact hn113_1) | exact hn113_1) (.int .i64 t105)).trans hx113_3
          replace hx113_4 := (cell_far (p := ⟨gb112, 1, none⟩) (by first | (rw [add_block]; exact hn113_1) | (show (Addr.add _ _).block ≠ _; rw [add_block]; exact hn113_1) | exact hn113_1) (.int .i64 t105)).trans hx113_4
          replace hx113_5 := (cell_far (p := ⟨gb112, 1, none⟩) (by first | (rw [add_block]; exact hn113_1) | (show (Addr.add _ _).block ≠ _; rw [add_block]; exact hn113_1) | exact hn113_1) (.int .i64 t105)).trans hx113_5
          replace hx113_6 := (cell_far (p := ⟨gb112, 1, none⟩) (by first | (rw [add_block]; exact hn113_1) | (show (Addr.add _ _).block ≠ _; rw [add_block]; exact hn113_1) | exact hn113_1) (.int .i64 t105)).trans hx113_6
          replace hx113_7 := (cell_far (p := ⟨gb112, 1, none⟩) (by first | (rw [add_block]; exact hn113_1) | (show (Addr.add _ _).block ≠ _; rw [add_block]; exact hn113_1) | exact hn113_1) (.int .i64 t105)).trans hx113_7
          replace hx113_8 := (cell_far (p := ⟨gb112, 1, none⟩) (by first | (rw [add_block]; exact hn113_1) | (show (Addr.add _ _).block ≠ _; rw [add_block]; exact hn113_1) | exact hn113_1) (.int .i64 t105)).trans hx113_8
          replace hx113_0 := (cell_far (p := ⟨gb112, 2, none⟩) (by first | (rw [add_block]; exact hn113_2) | (show (Addr.add _ _).block ≠ _; rw [add_block]; exact hn113_2) | exact hn113_2) (.int .i64 t106)).trans hx113_0
          replace hx113_1 := (cell_far (p := ⟨gb112, 2, none⟩) (by first | (rw [add_block]; exact hn113_2) | (show (Addr.add _ _).block ≠ _; rw [add_block]; exact hn113_2) | exact hn113_2) (.int .i64 t106)).trans hx113_1
          replace hx113_2 := (cell_far (p := ⟨gb112, 2, none⟩) (by first | (rw [add_block]; exact hn113_2) | (show (Addr.add _ _).block ≠ _; rw [add_block]; exact hn113_2) | exact hn113_2) (.int .i64 t106)).trans hx113_2
          replace hx113_3 := (cell_far (p := ⟨gb112, 2, none⟩) (by first | (rw [add_block]; exact hn113_2) | (show (Addr.add _ _).block ≠ _; rw [add_block]; exact hn113_2) | exact hn113_2) (.int .i64 t106)).trans hx113_3
          replace hx113_4 := (cell_far (p := ⟨gb112, 2, none⟩) (by first | (rw [add_block]; exact hn113_2) | (show (Addr.add _ _).block ≠ _; rw [add_block]; exact hn113_2) | exact hn113_2) (.int .i64 t106)).trans hx113_4
          replace hx113_5 := (cell_far (p := ⟨gb112, 2, none⟩) (by first | (rw [add_block]; exact hn113_2) | (show (Addr.add _ _).block ≠ _; rw [add_block]; exact hn113_2) | exact hn113_2) (.int .i64 t106)).trans hx113_5
          replace hx113_6 := (cell_far (p := ⟨gb112, 2, none⟩) (by first | (rw [add_block]; exact hn113_2) | (show (Addr.add _ _).block ≠ _; rw [add_block]; exact hn113_2) | exact hn113_2) (.int .i64 t106)).trans hx113_6
          replace hx113_7 := (cell_far (p := ⟨gb112, 2, none⟩) (by first | (rw [add_block]; exact hn113_2) | (show (Addr.add _ _).block ≠ _; rw [add_block]; exact hn113_2) | exact hn113_2) (.int .i64 t106)).trans hx113_7
          replace hx113_8 := (cell_far (p := ⟨gb112, 2, none⟩) (by first | (rw [add_block]; exact hn113_2) | (show (Addr.add _ _).block ≠ _; rw [add_block]; exact hn113_2) | exact hn113_2) (.int .i64 t106)).trans hx113_8
          replace hx113_0 := (cell_far (p := ⟨gb112, 3, none⟩) (by first | (rw [add_block]; exact hn113_3) | (show (Addr.add _ _).block ≠ _; rw [add_block]; exact hn113_3) | exact hn113_3) (.int .i64 t107)).trans hx113_0
          replace hx113_1 := (cell_far (p := ⟨gb112, 3, none⟩) (by first | (rw [add_block]; exact hn113_3) | (show (Addr.add _ _).block ≠ _; rw [add_block]; exact hn113_3) | exact hn113_3) (.int .i64 t107)).trans hx113_1
          replace hx113_2 := (cell_far (p := ⟨gb112, 3, none⟩) (by first | (rw [add_block]; exact hn113_3) | (show (Addr.add _ _).block ≠ _; rw [add_block]; exact hn113_3) | exact hn113_3) (.int .i64 t107)).trans hx113_2
          replace hx113_3 := (cell_far (p := ⟨gb112, 3, none⟩) (by first | (rw [add_block]; exact hn113_3) | (show (Addr.add _ _).block ≠ _; rw [add_block]; exact hn113_3) | exact hn113_3) (.int .i64 t107)).trans hx113_3
          replace hx113_4 := (cell_far (p := ⟨gb112, 3, none⟩) (by first | (rw [add_block]; exact hn113_3) | (show (Addr.add _ _).block ≠ _; rw [add_block]; exact hn113_3) | exact hn113_3) (.int .i64 t107)).trans hx113_4
          replace hx113_5 := (cell_far (p := ⟨gb112, 3, none⟩) (by first | (rw [add_block]; exact hn113_3) | (show (Addr.add _ _).block ≠ _; rw [add_block]; exact hn113_3) | exact hn113_3) (.int .i64 t107)).trans hx113_5
          replace hx113_6 := (cell_far (p := ⟨gb112, 3, none⟩) (by first | (rw [add_block]; exact hn113_3) | (show (Addr.add _ _).block ≠ _; rw [add_block]; exact hn113_3) | exact hn113_3) (.int .i64 t107)).trans hx113_6
          replace hx113_7 := (cell_far (p := ⟨gb112, 3, none⟩) (by first | (rw [add_block]; exact hn113_3) | (show (Addr.add _ _).block ≠ _; rw [add_block]; exact hn113_3) | exact hn113_3) (.int .i64 t107)).trans hx113_7
          replace hx113_8 := (cell_far (p := ⟨gb112, 3, none⟩) (by first | (rw [add_block]; exact hn113_3) | (show (Addr.add _ _).block ≠ _; rw [add_block]; exact hn113_3) | exact hn113_3) (.int .i64 t107)).trans hx113_8
          replace hx113_0 := (cell_far (p := ⟨gb112, 4, none⟩) (by first | (rw [add_block]; exact hn113_4) | (show (Addr.add _ _).block ≠ _; rw [add_block]; exact hn113_4) | exact hn113_4) (.slice Ao18 t108.length co18)).trans hx113_0
          replace hx113_1 := (cell_far (p := ⟨gb112, 4, none⟩) (by first | (rw [add_block]; exact hn113_4) | (show (Addr.add _ _).block ≠ _; rw [add_block]; exact hn113_4) | exact hn113_4) (.slice Ao18 t108.length co18)).trans hx113_1
          replace hx113_2 := (cell_far (p := ⟨gb112, 4, none⟩) (by first | (rw [add_block]; exact hn113_4) | (show (Addr.add _ _).block ≠ _; rw [add_block]; exact hn113_4) | exact hn113_4) (.slice Ao18 t108.length co18)).trans hx113_2
          replace hx113_3 := (cell_far (p := ⟨gb112, 4, none⟩) (by first | (rw [add_block]; exact hn113_4) | (show (Addr.add _ _).block ≠ _; rw [add_block]; exact hn113_4) | exact hn113_4) (.slice Ao18 t108.length co18)).trans hx113_3
          replace hx113_4 := (cell_far (p := ⟨gb112, 4, none⟩) (by first | (rw [add_block]; exact hn113_4) | (show (Addr.add _ _).block ≠ _; rw [add_block]; exact hn113_4) | exact hn113_4) (.slice Ao18 t108.length co18)).trans hx113_4
          replace hx113_5 := (cell_far (p := ⟨gb112, 4, none⟩) (by first | (rw [add_block]; exact hn113_4) | (show (Addr.add _ _).block ≠ _; rw [add_block]; exact hn113_4) | exact hn113_4) (.slice Ao18 t108.length co18)).trans hx113_5
          replace hx113_6 := (cell_far (p := ⟨gb112, 4, none⟩) (by first | (rw [add_block]; exact hn113_4) | (show (Addr.add _ _).block ≠ _; rw [add_block]; exact hn113_4) | exact hn113_4) (.slice Ao18 t108.length co18)).trans hx113_6
          replace hx113_7 := (cell_far (p := ⟨gb112, 4, none⟩) (by first | (rw [add_block]; exact hn113_4) | (show (Addr.add _ _).block ≠ _; rw [add_block]; exact hn113_4) | exact hn113_4) (.slice Ao18 t108.length co18)).trans hx113_7
          replace hx113_8 := (cell_far (p := ⟨gb112, 4, none⟩) (by first | (rw [add_block]; exact hn113_4) | (show (Addr.add _ _).block ≠ _; rw [add_block]; exact hn113_4) | exact hn113_4) (.slice Ao18 t108.length co18)).trans hx113_8
          replace hx113_0 := (cell_far (p := ⟨gb112, 5, none⟩) (by first | (rw [add_block]; exact hn113_5) | (show (Addr.add _ _).block ≠ _; rw [add_block]; exact hn113_5) | exact hn113_5) (.bool t111)).trans hx113_0
          replace hx113_1 := (cell_far (p := ⟨gb112, 5, none⟩) (by first | (rw [add_block]; exact hn113_5) | (show (Addr.add _ _).block ≠ _; rw [add_block]; exact hn113_5) | exact hn113_5) (.bool t111)).trans hx113_1
          replace hx113_2 := (cell_far (p := ⟨gb112, 5, none⟩) (by first | (rw [add_block]; exact hn113_5) | (show (Addr.add _ _).block ≠ _; rw [add_block]; exact hn113_5) | exact hn113_5) (.bool t111)).trans hx113_2
          replace hx113_3 := (cell_far (p := ⟨gb112, 5, none⟩) (by first | (rw [add_block]; exact hn113_5) | (show (Addr.add _ _).block ≠ _; rw [add_block]; exact hn113_5) | exact hn113_5) (.bool t111)).trans hx113_3
          replace hx113_4 := (cell_far (p := ⟨gb112, 5, none⟩) (by first | (rw [add_block]; exact hn113_5) | (show (Addr.add _ _).block ≠ _; rw [add_block]; exact hn113_5) | exact hn113_5) (.bool t111)).trans hx113_4
          replace hx113_5 := (cell_far (p := ⟨gb112, 5, none⟩) (by first | (rw [add_block]; exact hn113_5) | (show (Addr.add _ _).block ≠ _; rw [add_block]; exact hn113_5) | exact hn113_5) (.bool t111)).trans hx113_5
          replace hx113_6 := (cell_far (p := ⟨gb112, 5, none⟩) (by first | (rw [add_block]; exact hn113_5) | (show (Addr.add _ _).block ≠ _; rw [add_block]; exact hn113_5) | exact hn113_5) (.bool t111)).trans hx113_6
          replace hx113_7 := (cell_far (p := ⟨gb112, 5, none⟩) (by first | (rw [add_block]; exact hn113_5) | (show (Addr.add _ _).block ≠ _; rw [add_block]; exact hn113_5) | exact hn113_5) (.bool t111)).trans hx113_7
          replace hx113_8 := (cell_far (p := ⟨gb112, 5, none⟩) (by first | (rw [add_block]; exact hn113_5) | (show (Addr.add _ _).block ≠ _; rw [add_block]; exact hn113_5) | exact hn113_5) (.bool t111)).trans hx113_8
          clear hn113_0
          clear hn113_1
          clear hn113_2
          clear hn113_3
          clear hn113_4
          clear hn113_5
          replace p113 := eq_true p113
          replace q113 := eq_true q113
          go_wp2
          go_meet
          case rel => exact ⟨_, ((((rd_T45 l0 x4_7).f2) == 1)), z4458, H', ⟨by have := HJ1.out; have := HJ7.out; first | omega | exact Nat.le_refl _⟩, ⟨by (with_reducible repeat (first | apply Kd.R_alloc | apply Kd.R_drewN | apply Kd.R_drew)); exact Kd.R_mono (Kd.R_far (p := ⟨gb112, 5, none⟩) (Kd.R_far (p := ⟨gb112, 4, none⟩) (Kd.R_far (p := ⟨gb112, 3, none⟩) (Kd.R_far (p := ⟨gb112, 2, none⟩) (Kd.R_far (p := ⟨gb112, 1, none⟩) (Kd.R_far (p := ⟨gb112, 0, none⟩) (Kd.R_types HO110.out BK112.out (by decide)) (fun _ hk => hk.2) (.int .i64 t104)) (fun _ hk => hk.2) (.int .i64 t105)) (fun _ hk => hk.2) (.int .i64 t106)) (fun _ hk => hk.2) (.int .i64 t107)) (fun _ hk => hk.2) (.slice Ao18 t108.length co18)) (fun _ hk => hk.2) (.bool t111)) (fun _ hk => trivial)⟩, ⟨bkZ⟩, ⟨bkZ⟩, ⟨zcb41⟩⟩
        · rw [if_neg c19] at H
          have c19b0 : decide (x4_7 < (l0.length : Int)) = false := decide_eq_false c19
          clear c19
          (first | rw [c19b0] | (simp only [i64_w, i32_w]; rw [c19b0]) | skip)
          have H' := aM H
          clear H
          go_wp2
          go_meet
          case rel => exact ⟨_, (false), z4458, H', ⟨by have := HJ1.out; have := HJ7.out; first | omega | exact Nat.le_refl _⟩, ⟨by (with_reducible repeat (first | apply Kd.R_alloc | apply Kd.R_drewN | apply Kd.R_drew)); exact Kd.R_mono (Kd.R_far (p := ⟨gb112, 5, none⟩) (Kd.R_far (p := ⟨gb112, 4, none⟩) (Kd.R_far (p := ⟨gb112, 3, none⟩) (Kd.R_far (p := ⟨gb112, 2, none⟩) (Kd.R_far (p := ⟨gb112, 1, none⟩) (Kd.R_far (p := ⟨gb112, 0, none⟩) (Kd.R_types HO110.out BK112.out (by decide)) (fun _ hk => hk.2) (.int .i64 t104)) (fun _ hk => hk.2) (.int .i64 t105)) (fun _ hk => hk.2) (.int .i64 t106)) (fun _ hk => hk.2) (.int .i64 t107)) (fun _ hk => hk.2) (.slice Ao18 t108.length co18)) (fun _ hk => hk.2) (.bool t111)) (fun _ hk => trivial)⟩, ⟨bkZ⟩, ⟨bkZ⟩, ⟨zcb41⟩⟩
       case rest =>
        clear HC13
        try clear c1
        try clear p1
        try clear q1
        try clear hx1
        try clear qi1
        try clear c2
        try clear p2
        try clear c3
        try clear c4
        try clear c4b0
        try clear c4b1
        try clear c4b2
        try clear c5
        try clear c5b0
        try clear c5b1
        try clear c6
        try clear p6
        try clear c9
        try clear c9b0
        try clear c10
        try clear c10b0
        try clear p10
        try clear q10
        try clear hx10
        try clear qi10
        try clear c11
        try clear c11b0
        try clear c11b1
        try clear p11
        try clear q11
        try clear hx11
        try clear c16
        try clear c19
        try clear c19b0
        try clear c20
        try clear c20b0
        try clear hcz17_0 hcz17_1 hcz17_2 hcz17_3 hcz17_4 hcz17_5
        try clear hcz7_0 hcz7_1 hcz7_2 hcz7_3 hcz7_4 hcz7_5
        try clear hfz17_0 hfz17_1 hfz17_2 hfz17_3 hfz17_4 hfz17_5
        try clear hfz7_0 hfz7_1 hfz7_2 hfz7_3 hfz7_4 hfz7_5
        try clear hx102_0
        try clear hx102_1
        try clear hx102_2
        try clear hx102_3
        try clear hx102_4
        try clear hx102_5
        try clear hx102_6
        try clear hx102_7
        try clear hx102_8
        try clear hx103_0
        try clear hx103_1
        try clear hx103_2
        try clear hx103_3
        try clear hx103_4
        try clear hx103_5
        try clear hx103_6
        try clear hx103_7
        try clear hx103_8
        try clear hx113_0
        try clear hx113_1
        try clear hx113_2
        try clear hx113_3
        try clear hx113_4
        try clear hx113_5
        try clear hx113_6
        try clear hx113_7
        try clear hx113_8
        try clear p1
        try clear p10
        try clear p102
        try clear p103
        try clear p113
        try clear p2
        try clear p6
        try clear q1
        try clear q10
        try clear q102
        try clear q103
        try clear q113
        obtain ⟨kq, x44_12, rfl, HA, HJ12, HO_113004, BK101, BK112, HB⟩ := hcut
        cases kq with
        | zero => exact absurd HA.out (by simp [spec_l5Fold.j3])
        | succ kj12 =>
         have H := HA.out
         clear HA
         simp only [spec_l5Fold.j3] at H
         have HC21 := aM H
         clear H
         go_upto_if 44 with (fail)
         go_cut [] (fun wc => ∃ (kq : Nat) (x113000_20 : Int) (x113001_20 : Int) (x113002_20 : Int) (x113003_20 : Int) (x113004_20 : List Int) (x113005_20 : Bool) (u113004 : Value), Aside0 (spec_l5Fold.j4 kq l0 x4_7 x113000_20 x113001_20 x113002_20 x113003_20 x113004_20 x113005_20 = some (r1, r2, r3, r4, r5, r6, r7)) ∧ Aside0 (kq ≤ kj12) ∧ Aside0 (Kd.R (Kd.int .i64) 3 wc w.heap.size (fun _ => True) u113004 x113004_20) ∧ Aside0 (wc.heap[gb101]? = some (.cells #[.int .i64 0, .int .i64 0, .int .i64 0, .int .i64 0, (.slice none 0 0), .bool false] 26 (0, 0))) ∧ Aside0 (wc.heap[gb112]? = some (.cells #[.int .i64 x113000_20, .int .i64 x113001_20, .int .i64 x113002_20, .int .i64 x113003_20, u113004, .bool x113005_20] 26 (0, 0))) ∧ Aside0 (Below w.heap.size w wc))
         case first =>
          have H := HC21.out
          clear HC21
          by_cases c22 : x44_12 = true
          · subst c22
            rw [if_pos rfl] at H
            replace H := ifS H; obtain ⟨c23, H⟩ := H
            have c23b0 : decide (0 ≤ x4_7) = true := decide_eq_true c23
            clear c23
            (first | rw [c23b0] | (simp only [i64_w, i32_w]; rw [c23b0]) | skip)
            replace H := ifS H; obtain ⟨c24, H⟩ := H
            have c24b0 : decide (x4_7 < (l0.length : Int)) = true := decide_eq_true c24
            clear c24
            replace H := Option.bind_eq_some_iff.mp H
            obtain ⟨⟨t115, t116, t117, t118, t119, t122⟩, A250, H⟩ := H
            try dsimp only at H
            have A25 := aM A250
            clear A250
            have H' := aM H
            clear H
            have p114 : 0 ≤ (x4_7 : Int) := of_decide_eq_true z1200
            have q114 : x4_7 < (l0.length : Int) := of_decide_eq_true z1200
            obtain ⟨ad114, A114_7, c114_7, e114, hx114_0, hx114_1, hx114_2, hx114_3, hx114_4, hx114_5, hx114_6, hx114_7, hx114_8, hl114_7, hi114_7⟩ := at_T45 HR0.out x4_7 p114 q114
            cases e114
            have TW114_7 := aM hx114_7
            replace hx114_0 := (HB.out.cell (World.block_lt_of_cell? w _ hx114_0)).trans hx114_0
            replace hx114_1 := (HB.out.cell (World.block_lt_of_cell? w _ hx114_1)).trans hx114_1
            replace hx114_2 := (HB.out.cell (World.block_lt_of_cell? w _ hx114_2)).trans hx114_2
            replace hx114_3 := (HB.out.cell (World.block_lt_of_cell? w _ hx114_3)).trans hx114_3
            replace hx114_4 := (HB.out.cell (World.block_lt_of_cell? w _ hx114_4)).trans hx114_4
            replace hx114_5 := (HB.out.cell (World.block_lt_of_cell? w _ hx114_5)).trans hx114_5
            replace hx114_6 := (HB.out.cell (World.block_lt_of_cell? w _ hx114_6)).trans hx114_6
            replace hx114_7 := (HB.out.cell (World.block_lt_of_cell? w _ hx114_7)).trans hx114_7
            replace hx114_8 := (HB.out.cell (World.block_lt_of_cell? w _ hx114_8)).trans hx114_8
            have HR114_7 := aM hi114_7
            have HC114_7 := aM hl114_7
            clear hi114_7 hl114_7
            replace p114 := eq_true p114
            replace q114 := eq_true q114
            go_wp2_with (first | ((with_reducible refine gate_callee (f := 67) rfl ?_); refine goesL_ (some 50) rfl rfl Try.func67 (by kernel_rfl) rfl #[.agg #[.int .i64 ((rd_T45 l0 x4_7).f3.f0), .int .i64 ((rd_T45 l0 x4_7).f3.f1), .int .i64 ((rd_T45 l0 x4_7).f3.f2), .int .i64 ((rd_T45 l0 x4_7).f3.f3), .slice A114_7 ((rd_T45 l0 x4_7).f3.f4).length c114_7, .bool ((rd_T45 l0 x4_7).f3.f5)]] rfl zee81 ?_; (with_reducible refine (spec_l4Own.calls ((rd_T45 l0 x4_7).f3.f0) ((rd_T45 l0 x4_7).f3.f1) ((rd_T45 l0 x4_7).f3.f2) ((rd_T45 l0 x4_7).f3.f3) _ _ ((rd_T45 l0 x4_7).f3.f4) ((rd_T45 l0 x4_7).f3.f5) t115 t116 t117 t118 t119 t122 _ ?side1 ?side2 A25.out).mono ?_); (case side1 => exact (cZ (Kd.C_below HR114_7.out HB.out))); (case side2 => exact HC114_7.out); rintro e w26 ⟨v120, rfl, ho0, hb⟩; refine ⟨_, rfl, ?_⟩; have _ := aM (Kd.R_elder' (rZ HO_113004.out) (Kd.R_base ho0) hb); have _ := aM (Kd.R_lower (Kd.R_new' ho0 (Kd.R_lt (rZ HO_113004.out))) (below_size hbZ)); have _ := bB gb101 hb; have _ := bB gb112 hb; have _ := aM (below_step hbZ hb); clear HO_113004 BK101 BK112 HB; rename_i HO_113004 HO121 BK101 BK112 HB; (try clear hb); (try clear ho0); have hnb27 := NB112_101.out; have hnc27 := NB101_112.out; obtain ⟨hcz28_0, hcz28_1, hcz28_2, hcz28_3, hcz28_4, hcz28_5, hfz28_0, hfz28_1, hfz28_2, hfz28_3, hfz28_4, hfz28_5⟩ := cellsZ6 BK112.out; obtain ⟨Ao29, co29, eo29⟩ := Kd.R_slice HO121.out; subst eo29))
            go_meet
            case rel => exact ⟨_, (t115), (t116), (t117), (t118), (t119), (t122), (.slice Ao29 t119.length co29), H', ⟨by have := HJ1.out; have := HJ7.out; have := HJ12.out; first | omega | exact Nat.le_refl _⟩, ⟨by (with_reducible repeat (first | apply Kd.R_alloc | apply Kd.R_drewN | apply Kd.R_drew)); exact Kd.R_mono (Kd.R_far (p := ⟨gb112, 5, none⟩) (Kd.R_far (p := ⟨gb112, 4, none⟩) (Kd.R_far (p := ⟨gb112, 3, none⟩) (Kd.R_far (p := ⟨gb112, 2, none⟩) (Kd.R_far (p := ⟨gb112, 1, none⟩) (Kd.R_far (p := ⟨gb112, 0, none⟩) (Kd.R_types HO121.out BK112.out (by decide)) (fun _ hk => hk.2) (.int .i64 t115)) (fun _ hk => hk.2) (.int .i64 t116)) (fun _ hk => hk.2) (.int .i64 t117)) (fun _ hk => hk.2) (.int .i64 t118)) (fun _ hk => hk.2) (.slice Ao29 t119.length co29)) (fun _ hk => hk.2) (.bool t122)) (fun _ hk => trivial)⟩, ⟨bkZ⟩, ⟨bkZ⟩, ⟨zcb41⟩⟩
          · replace c22 := Bool.eq_false_iff.mpr c22
            subst c22
            rw [if_neg (show ¬ (false = true) by decide)] at H
            have H' := aM H
            clear H
            go_wp2
            go_meet
            case rel => exact ⟨_, (t104), (t105), (t106), (t107), (t108), (t111), (.slice Ao18 t108.length co18), H', ⟨by have := HJ1.out; have := HJ7.out; have := HJ12.out; first | omega | exact Nat.le_refl _⟩, ⟨rZ HO_113004.out⟩, ⟨bkZ⟩, ⟨bkZ⟩, ⟨zcb41⟩⟩
         case rest =>
          clear HC21
          try clear c1
          try clear p1
          try clear q1
          try clear hx1
          try clear qi1
          try clear c2
          try clear p2
          try clear c3
          try clear c4
          try clear c4b0
          try clear c4b1
          try clear c4b2
          try clear c5
          try clear c5b0
          try clear c5b1
          try clear c6
          try clear p6
          try clear c9
          try clear c9b0
          try clear c10
          try clear c10b0
          try clear p10
          try clear q10
          try clear hx10
          try clear qi10
          try clear c11
          try clear c11b0
          try clear c11b1
          try clear p11
          try clear q11
          try clear hx11
          try clear c16
          try clear c19
          try clear c19b0
          try clear c20
          try clear c20b0
          try clear c22
          try clear c23
          try clear c23b0
          try clear c24
          try clear c24b0
          try clear c27
          try clear hcz17_0 hcz17_1 hcz17_2 hcz17_3 hcz17_4 hcz17_5
          try clear hcz28_0 hcz28_1 hcz28_2 hcz28_3 hcz28_4 hcz28_5
          try clear hcz7_0 hcz7_1 hcz7_2 hcz7_3 hcz7_4 hcz7_5
          try clear hfz17_0 hfz17_1 hfz17_2 hfz17_3 hfz17_4 hfz17_5
          try clear hfz28_0 hfz28_1 hfz28_2 hfz28_3 hfz28_4 hfz28_5
          try clear hfz7_0 hfz7_1 hfz7_2 hfz7_3 hfz7_4 hfz7_5
          try clear hx102_0
          try clear hx102_1
          try clear hx102_2
          try clear hx102_3
          try clear hx102_4
          try clear hx102_5
          try clear hx102_6
          try clear hx102_7
          try clear hx102_8
          try clear hx103_0
          try clear hx103_1
          try clear hx103_2
          try clear hx103_3
          try clear hx103_4
          try clear hx103_5
          try clear hx103_6
          try clear hx103_7
          try clear hx103_8
          try clear hx113_0
          try clear hx113_1
          try clear hx113_2
          try clear hx113_3
          try clear hx113_4
          try clear hx113_5
          try clear hx113_6
          try clear hx113_7
          try clear hx113_8
          try clear hx114_0
          try clear hx114_1
          try clear hx114_2
          try clear hx114_3
          try clear hx114_4
          try clear hx114_5
          try clear hx114_6
          try clear hx114_7
          try clear hx114_8
          try clear p1
          try clear p10
          try clear p102
          try clear p103
          try clear p11
          try clear p113
          try clear p114
          try clear p2
          try clear p6
          try clear q1
          try clear q10
          try clear q102
          try clear q103
          try clear q11
          try clear q113
          try clear q114
          obtain ⟨kq, x113000_20, x113001_20, x113002_20, x113003_20, x113004_20, x113005_20, u113004, HA, HJ20, HO_113004, BK101, BK112, HB⟩ := hcut
          cases kq with
          | zero => exact absurd HA.out (by simp [spec_l5Fold.j4])
          | succ kj20 =>
           have H := HA.out
           clear HA
           simp only [spec_l5Fold.j4] at H
           have H' := aM H
           clear H
           go_wp2
           go_loopg [6] kj20 (fun kq v6 w' => ∃ (x6_5 : Int) (x113000_5 : Int) (x113001_5 : Int) (x113002_5 : Int) (x113003_5 : Int) (x113004_5 : List Int) (x113005_5 : Bool) (u113004 : Value), v6 = .int .i64 x6_5 ∧ Aside0 (spec_l5Fold.l1 kq l0 x6_5 x113000_5 x113001_5 x113002_5 x113003_5 x113004_5 x113005_5 = some (r1, r2, r3, r4, r5, r6, r7)) ∧ Aside0 (kq ≤ kj20) ∧ Aside0 (Kd.R (Kd.int .i64) 3 w' w.heap.size (fun _ => True) u113004 x113004_5) ∧ Aside0 (w'.heap[gb101]? = some (.cells #[.int .i64 0, .int .i64 0, .int .i64 0, .int .i64 0, (.slice none 0 0), .bool false] 26 (0, 0))) ∧ Aside0 (w'.heap[gb112]? = some (.cells #[.int .i64 x113000_5, .int .i64 x113001_5, .int .i64 x113002_5, .int .i64 x113003_5, u113004, .bool x113005_5] 26 (0, 0))) ∧ Aside0 (Below w.heap.size w w'))
           case atStart => exact ⟨(wrap64 (x4_7 - 1)), (x113000_20), (x113001_20), (x113002_20), (x113003_20), (x113004_20), (x113005_20), (u113004), z4458, H', ⟨Nat.le_refl _⟩, ⟨rZ HO_113004.out⟩, ⟨bkZ⟩, ⟨bkZ⟩, ⟨zcb41⟩⟩
           case round =>
            clear H'
            try clear c1
            try clear p1
            try clear q1
            try clear hx1
            try clear qi1
            try clear c2
            try clear p2
            try clear c3
            try clear c4
            try clear c4b0
            try clear c4b1
            try clear c4b2
            try clear c5
            try clear c5b0
            try clear c5b1
            try clear c6
            try clear p6
            try clear c9
            try clear c9b0
            try clear c10
            try clear c10b0
            try clear p10
            try clear q10
            try clear hx10
            try clear qi10
            try clear c11
            try clear c11b0
            try clear c11b1
            try clear p11
            try clear q11
            try clear hx11
            try clear c16
            try clear c19
            try clear c19b0
            try clear c20
            try clear c20b0
            try clear c22
            try clear c23
            try clear c23b0
            try clear c24
            try clear c24b0
            try clear c27
            try clear hcz17_0 hcz17_1 hcz17_2 hcz17_3 hcz17_4 hcz17_5
            try clear hcz28_0 hcz28_1 hcz28_2 hcz28_3 hcz28_4 hcz28_5
            try clear hcz7_0 hcz7_1 hcz7_2 hcz7_3 hcz7_4 hcz7_5
            try clear hfz17_0 hfz17_1 hfz17_2 hfz17_3 hfz17_4 hfz17_5
            try clear hfz28_0 hfz28_1 hfz28_2 hfz28_3 hfz28_4 hfz28_5
            try clear hfz7_0 hfz7_1 hfz7_2 hfz7_3 hfz7_4 hfz7_5
            try clear hx102_0
            try clear hx102_1
            try clear hx102_2
            try clear hx102_3
            try clear hx102_4
            try clear hx102_5
            try clear hx102_6
            try clear hx102_7
            try clear hx102_8
            try clear hx103_0
            try clear hx103_1
            try clear hx103_2
            try clear hx103_3
            try clear hx103_4
            try clear hx103_5
            try clear hx103_6
            try clear hx103_7
            try clear hx103_8
            try clear hx113_0
            try clear hx113_1
            try clear hx113_2
            try clear hx113_3
            try clear hx113_4
            try clear hx113_5
            try clear hx113_6
            try clear hx113_7
            try clear hx113_8
            try clear hx114_0
            try clear hx114_1
            try clear hx114_2
            try clear hx114_3
            try clear hx114_4
            try clear hx114_5
            try clear hx114_6
            try clear hx114_7
            try clear hx114_8
            try clear p1
            try clear p10
            try clear p102
            try clear p103
            try clear p11
            try clear p113
            try clear p114
            try clear p2
            try clear p6
            try clear q1
            try clear q10
            try clear q102
            try clear q103
            try clear q11
            try clear q113
            try clear q114
            obtain ⟨x6_5, x113000_5, x113001_5, x113002_5, x113003_5, x113004_5, x113005_5, u113004, rfl, HA, HK5, HO_113004, BK101, BK112, HB⟩ := hrel
            cases gk with
            | zero => exact absurd HA.out (by simp [spec_l5Fold.l1])
            | succ k5 =>
             have H := HA.out
             clear HA
             simp only [spec_l5Fold.l1] at H
             by_cases c30 : x6_5 ≥ 0
             · rw [if_pos c30] at H
               have c30b0 : decide (0 ≤ x6_5) = true := decide_eq_true c30
               clear c30
               replace H := ifS H; obtain ⟨c31, H⟩ := H
               have c31b0 : decide (0 ≤ x6_5) = true := decide_eq_true c31
               clear c31
               replace H := ifS H; obtain ⟨c32, H⟩ := H
               have c32b0 : decide (x6_5 < (l0.length : Int)) = true := decide_eq_true c32
               clear c32
               replace H := Option.bind_eq_some_iff.mp H
               obtain ⟨⟨t124, t125, t126, t127, t128, t131⟩, A330, H⟩ := H
               try dsimp only at H
               have A33 := aM A330
               clear A330
               have H' := aM H
               clear H
               try go_wp2
               have _ := aM (Kd.R_drew HO_113004.out)
               have _ := aM (blk_drew BK101.out)
               have _ := aM (blk_drew BK112.out)
               have _ := aM (below_drew1 HB.out)
               clear HO_113004
               clear BK101
               clear BK112
               clear HB
               rename_i HO_113004 BK101 BK112 HB
               have p123 : 0 ≤ (x6_5 : Int) := of_decide_eq_true z1200
               have q123 : x6_5 < (l0.length : Int) := of_decide_eq_true z1200
               obtain ⟨ad123, A123_7, c123_7, e123, hx123_0, hx123_1, hx123_2, hx123_3, hx123_4, hx123_5, hx123_6, hx123_7, hx123_8, hl123_7, hi123_7⟩ := at_T45 HR0.out x6_5 p123 q123
               have hw123_8 := hx123_8
               have hw123_7 := hx123_7
               have hw123_6 := hx123_6
               have hw123_5 := hx123_5
               have hw123_4 := hx123_4
               have hw123_3 := hx123_3
               have hw123_2 := hx123_2
               have hw123_1 := hx123_1
               have hw123_0 := hx123_0
               cases e123
               have TW123_7 := aM hx123_7
               replace hx123_0 := (HB.out.cell (World.block_lt_of_cell? w _ hx123_0)).trans hx123_0
               replace hx123_1 := (HB.out.cell (World.block_lt_of_cell? w _ hx123_1)).trans hx123_1
               replace hx123_2 := (HB.out.cell (World.block_lt_of_cell? w _ hx123_2)).trans hx123_2
               replace hx123_3 := (HB.out.cell (World.block_lt_of_cell? w _ hx123_3)).trans hx123_3
               replace hx123_4 := (HB.out.cell (World.block_lt_of_cell? w _ hx123_4)).trans hx123_4
               replace hx123_5 := (HB.out.cell (World.block_lt_of_cell? w _ hx123_5)).trans hx123_5
               replace hx123_6 := (HB.out.cell (World.block_lt_of_cell? w _ hx123_6)).trans hx123_6
               replace hx123_7 := (HB.out.cell (World.block_lt_of_cell? w _ hx123_7)).trans hx123_7
               replace hx123_8 := (HB.out.cell (World.block_lt_of_cell? w _ hx123_8)).trans hx123_8
               have HR123_7 := aM hi123_7
               have HC123_7 := aM hl123_7
               clear hi123_7 hl123_7
               replace p123 := eq_true p123
               replace q123 := eq_true q123
               obtain ⟨Ao35, co35, eo35⟩ := Kd.R_slice HO_113004.out
               (first | subst eo35 | (injection eo35 with f1_ f2_ f3_; have f4_ := f1_.symm; have f5_ := f3_.symm; clear f1_ f2_ f3_; subst f4_; subst f5_))
               refine sA 8 spec_l5Fold.tab12 spec_l5Fold.bits12 (fun w' => w'.cell? ⟨gb112, 0, none⟩ = some (.int .i64 x113000_5) ∧ w'.cell? ⟨gb112, 1, none⟩ = some (.int .i64 x113001_5) ∧ w'.cell? ⟨gb112, 2, none⟩ = some (.int .i64 x113002_5) ∧ w'.cell? ⟨gb112, 3, none⟩ = some (.int .i64 x113003_5) ∧ w'.cell? ⟨gb112, 4, none⟩ = some (.slice Ao35 x113004_5.length co35) ∧ w'.cell? ⟨gb112, 5, none⟩ = some (.bool x113005_5) ∧ w'.cell? (ad123.add ((x6_5).toNat * 9)) = some (.string ((rd_T45 l0 x6_5).f0)) ∧ w'.cell? ⟨(ad123.add ((x6_5).toNat * 9)).block, (ad123.add ((x6_5).toNat * 9)).off + 1, none⟩ = some (.int .i64 ((rd_T45 l0 x6_5).f1)) ∧ w'.cell? ⟨(ad123.add ((x6_5).toNat * 9)).block, (ad123.add ((x6_5).toNat * 9)).off + 2, none⟩ = some (.int .i64 ((rd_T45 l0 x6_5).f2)) ∧ w'.cell? ⟨(ad123.add ((x6_5).toNat * 9)).block, (ad123.add ((x6_5).toNat * 9)).off + 3, none⟩ = some (.int .i64 ((rd_T45 l0 x6_5).f3.f0)) ∧ w'.cell? ⟨(ad123.add ((x6_5).toNat * 9)).block, (ad123.add ((x6_5).toNat * 9)).off + 4, none⟩ = some (.int .i64 ((rd_T45 l0 x6_5).f3.f1)) ∧ w'.cell? ⟨(ad123.add ((x6_5).toNat * 9)).block, (ad123.add ((x6_5).toNat * 9)).off + 5, none⟩ = some (.int .i64 ((rd_T45 l0 x6_5).f3.f2)) ∧ w'.cell? ⟨(ad123.add ((x6_5).toNat * 9)).block, (ad123.add ((x6_5).toNat * 9)).off + 6, none⟩ = some (.int .i64 ((rd_T45 l0 x6_5).f3.f3)) ∧ w'.cell? ⟨(ad123.add ((x6_5).toNat * 9)).block, (ad123.add ((x6_5).toNat * 9)).off + 7, none⟩ = some (.slice A123_7 ((rd_T45 l0 x6_5).f3.f4).length c123_7) ∧ w'.cell? ⟨(ad123.add ((x6_5).toNat * 9)).block, (ad123.add ((x6_5).toNat * 9)).off + 8, none⟩ = some (.bool ((rd_T45 l0 x6_5).f3.f5))) [7] (fun hHeld HT_ HW_ => ?_)
               generalize wr.drew = w34 at HO_113004 BK101 BK112 HB HR123_7 hx123_0 hx123_1 hx123_2 hx123_3 hx123_4 hx123_5 hx123_6 hx123_7 hx123_8 hHeld ⊢
               refine pA 1 58 HT_ ?_; refine pA 2 59 HT_ ?_; refine pA 3 60 HT_ ?_; refine pA 4 61 HT_ ?_; refine tA 0 57 HT_ HW_ hHeld ?_; refine tA 5 62 HT_ HW_ hHeld ?_; refine oA 6 63 HT_ (fun K hK => ?_)
               refine goes_ Try.func68 (by kernel_rfl) rfl #[.agg #[.int .i64 x113000_5, .int .i64 x113001_5, .int .i64 x113002_5, .int .i64 x113003_5, .slice Ao35 x113004_5.length co35, .bool x113005_5], .agg #[.int .i64 ((rd_T45 l0 x6_5).f3.f0), .int .i64 ((rd_T45 l0 x6_5).f3.f1), .int .i64 ((rd_T45 l0 x6_5).f3.f2), .int .i64 ((rd_T45 l0 x6_5).f3.f3), .slice A123_7 ((rd_T45 l0 x6_5).f3.f4).length c123_7, .bool ((rd_T45 l0 x6_5).f3.f5)]] (by rfl) rfl rfl zee81 ?_
               with_reducible refine (spec_l4Join.calls k5 x113000_5 x113001_5 x113002_5 x113003_5 _ _ x113004_5 x113005_5 ((rd_T45 l0 x6_5).f3.f0) ((rd_T45 l0 x6_5).f3.f1) ((rd_T45 l0 x6_5).f3.f2) ((rd_T45 l0 x6_5).f3.f3) _ _ ((rd_T45 l0 x6_5).f3.f4) ((rd_T45 l0 x6_5).f3.f5) t124 t125 t126 t127 t128 t131 _ ?side1 ?side2 ?side3 ?side4 A33.out).mono ?_
               (case side1 => exact (by repeat (first | exact (Kd.R_reads' HO_113004.out).2.2 | (with_reducible refine Kd.C_alloc ?_ _) | (with_reducible refine Kd.C_drewN ?_ _) | (with_reducible refine Kd.C_drew ?_))))
               (case side2 => exact (Kd.R_reads' HO_113004.out).2.1)
               (case side3 => exact (cZ (Kd.C_below HR123_7.out HB.out)))
               (case side4 => exact HC123_7.out)
               rintro e w36 ⟨v129, rfl, ho0, hb⟩
               refine ⟨_, rfl, ?_⟩
               have _ := aM (Kd.R_elder' (rZ HO_113004.out) (Kd.R_base ho0) hb)
               have _ := aM (Kd.R_lower (Kd.R_new' ho0 (Kd.R_lt (rZ HO_113004.out))) (below_size hbZ))
               have _ := bB gb101 hb
               have _ := bB gb112 hb
               have _ := aM (below_step hbZ hb)
               clear HO_113004
               clear BK101
               clear BK112
               clear HB
               rename_i HO_113004 HO130 BK101 BK112 HB
               (try clear hb)
               (try clear hb2)
               (try clear hk)
               (try clear hi)
               (try clear ho0)
               obtain ⟨Ao41, co41, eo41⟩ := Kd.R_slice HO130.out
               (first | subst eo41 | (injection eo41 with f1_ f2_ f3_; have f4_ := f1_.symm; have f5_ := f3_.symm; clear f1_ f2_ f3_; subst f4_; subst f5_))
               refine hK.out _ _ sZ (fun hHeld => ?_)
               clear hK K
               refine nA 63 ?_
               refine last_ (i := 7) (N := none) #[true, true, true, true, true, true, true, true] rfl rfl (one_of HT_.out (by kernel_rfl)) (by decide) (fun K hK => ?_)
               have hs37 : w36.cell? ⟨gb112, 0, none⟩ = some (.int .i64 x113000_5) := (blk_cell BK112.out 0).trans rfl
               have hfs37 := blk_frozen BK112.out 0
               have hns37_0 := NB101_112.out
               have hms37_0 := NB112_101.out
               have hs38 : w36.cell? ⟨gb112, 1, none⟩ = some (.int .i64 x113001_5) := (blk_cell BK112.out 1).trans rfl
               have hfs38 := blk_frozen BK112.out 1
               have hns38_0 := NB101_112.out
               have hms38_0 := NB112_101.out
               have hs39 : w36.cell? ⟨gb112, 2, none⟩ = some (.int .i64 x113002_5) := (blk_cell BK112.out 2).trans rfl
               have hfs39 := blk_frozen BK112.out 2
               have hns39_0 := NB101_112.out
               have hms39_0 := NB112_101.out
               have hs40 : w36.cell? ⟨gb112, 3, none⟩ = some (.int .i64 x113003_5) := (blk_cell BK112.out 3).trans rfl
               have hfs40 := blk_frozen BK112.out 3
               have hns40_0 := NB101_112.out
               have hms40_0 := NB112_101.out
               have hs42 : w36.cell? ⟨gb112, 4, none⟩ = some (.slice Ao35 x113004_5.length co35) := (blk_cell BK112.out 4).trans rfl
               have hfs42 := blk_frozen BK112.out 4
               have hns42_0 := NB101_112.out
               have hms42_0 := NB112_101.out
               have hs43 : w36.cell? ⟨gb112, 5, none⟩ = some (.bool x113005_5) := (blk_cell BK112.out 5).trans rfl
               have hfs43 := blk_frozen BK112.out 5
               have hns43_0 := NB101_112.out
               have hms43_0 := NB112_101.out
               refine skip_ (w1 := ?_) (by rfl) rfl ?_ ?_
               rotate_left
               · go_simp
                 rfl
               refine hK.out _ _ ?_
               clear hK K
               refine done_ (done_of HT_.out (by kernel_rfl)) ?_
               try go_wp2
               go_roundg k5
               case measure => have := HJ1.out; have := HJ7.out; have := HJ12.out; have := HJ20.out; have := HK5.out; omega
               case rel => exact ⟨(wrap64 (x6_5 - 1)), (t124), (t125), (t126), (t127), (t128), (t131), (.slice Ao41 t128.length co41), z4458, H', ⟨by have := HJ1.out; have := HJ7.out; have := HJ12.out; have := HJ20.out; have := HK5.out; omega⟩, ⟨by (with_reducible repeat (first | apply Kd.R_alloc | apply Kd.R_drewN | apply Kd.R_drew)); exact Kd.R_mono (Kd.R_far (p := ⟨gb112, 5, none⟩) (Kd.R_far (p := ⟨gb112, 4, none⟩) (Kd.R_far (p := ⟨gb112, 3, none⟩) (Kd.R_far (p := ⟨gb112, 2, none⟩) (Kd.R_far (p := ⟨gb112, 1, none⟩) (Kd.R_far (p := ⟨gb112, 0, none⟩) (Kd.R_types HO130.out BK112.out (by decide)) (fun _ hk => hk.2) (.int .i64 t124)) (fun _ hk => hk.2) (.int .i64 t125)) (fun _ hk => hk.2) (.int .i64 t126)) (fun _ hk => hk.2) (.int .i64 t127)) (fun _ hk => hk.2) (.slice Ao41 t128.length co41)) (fun _ hk => hk.2) (.bool t131)) (fun _ hk => trivial)⟩, ⟨bkZ⟩, ⟨bkZ⟩, ⟨zcb41⟩⟩
             · rw [if_neg c30] at H
               have c30b0 : decide (0 ≤ x6_5) = false := decide_eq_false c30
               clear c30
               simp only [Option.some.injEq, Prod.mk.injEq] at H
               obtain ⟨rfl, rfl, rfl, rfl, rfl, rfl, rfl⟩ := H
               have hnb44 := NB112_101.out
               have hnc44 := NB101_112.out
               obtain ⟨hcz45_0, hcz45_1, hcz45_2, hcz45_3, hcz45_4, hcz45_5, hfz45_0, hfz45_1, hfz45_2, hfz45_3, hfz45_4, hfz45_5⟩ := cellsZ6 BK112.out
               obtain ⟨hcz46_0, hcz46_1, hcz46_2, hcz46_3, hcz46_4, hcz46_5, hfz46_0, hfz46_1, hfz46_2, hfz46_3, hfz46_4, hfz46_5⟩ := cellsZ6 BK101.out
               obtain ⟨Ao47, co47, eo47⟩ := Kd.R_slice HO_113004.out
               subst eo47
               go_wp2
               refine bodyPost_ret (results_ct rfl _ _ gb101 26 #[.int .i64 x113000_5, .int .i64 x113001_5, .int .i64 x113002_5, .int .i64 x113003_5, .slice Ao47 x113004_5.length co47, .bool x113005_5] (0, 0) _ rfl bkZ Try.underlying26 rfl (by kernel_rfl)) rfl ?_
               exact ⟨_, z674d, by (with_reducible repeat (first | apply Kd.R_alloc | apply Kd.R_drewN | apply Kd.R_drew)); exact Kd.R_mono (Kd.R_far (p := ⟨gb101, 5, none⟩) (Kd.R_far (p := ⟨gb101, 4, none⟩) (Kd.R_far (p := ⟨gb101, 3, none⟩) (Kd.R_far (p := ⟨gb101, 2, none⟩) (Kd.R_far (p := ⟨gb101, 1, none⟩) (Kd.R_far (p := ⟨gb101, 0, none⟩) (Kd.R_types HO_113004.out BK101.out (by decide)) (fun _ hk => hk.2) (.int .i64 x113000_5)) (fun _ hk => hk.2) (.int .i64 x113001_5)) (fun _ hk => hk.2) (.int .i64 x113002_5)) (fun _ hk => hk.2) (.int .i64 x113003_5)) (fun _ hk => hk.2) (.slice Ao47 x113004_5.length co47)) (fun _ hk => hk.2) (.bool x113005_5)) (fun _ hk => trivial), zcb41⟩

end Go.Proofs.Ytdkokfnnebdppaa.P

-- written by a program of this session's (wip/pp)
namespace Go.Proofs.Ytdkokfnnebdppaa.P
open Go.RowKit Go.Proofs.YtdkokfnnebdppaaW.PrintWords Go.Proofs.YtdkokfnnebdppaaW.PrintLast Go.Proofs.YtdkokfnnebdppaaW.PrintMore
attribute [local go_sem] max2_int min2_int max_two min_two max_three min_three max_four min_four str_geq str_gtr str_leq   -- for this text's walks alone
set_option linter.unusedVariables false
set_option linter.unusedSimpArgs false

/-! ### spec_l5Own: function 44 -/
def spec_l5Own.l0 : Nat → List (S45) → List (S45) → Int → Int → Option ((List (S45)))
 | 0, _, _, _, _ => none
 | k + 1, x3, x6, x7, x8 => if x8 < x7 then (if 0 ≤ x8 then (if x8 < (x6.length : Int) then ((spec_l4Own.f ((rd_T45 x6 x8).f3.f0) ((rd_T45 x6 x8).f3.f1) ((rd_T45 x6 x8).f3.f2) ((rd_T45 x6 x8).f3.f3) ((rd_T45 x6 x8).f3.f4) ((rd_T45 x6 x8).f3.f5)).bind fun bt103 => (if x3.length < 1466015503701 then (spec_l5Own.l0 k (x3 ++ [(⟨(rd_T45 x6 x8).f0, (rd_T45 x6 x8).f1, (rd_T45 x6 x8).f2, (⟨bt103.1, bt103.2.1, bt103.2.2.1, bt103.2.2.2.1, bt103.2.2.2.2.1, bt103.2.2.2.2.2⟩ : S26)⟩ : S45)]) x6 x7 (wrap64 (x8 + 1))) else (none))) else (none)) else (none)) else (some x3)
def spec_l5Own.f (k : Nat) (l0 : List (S45)) : Option ((List (S45))) := spec_l5Own.l0 k ([] : List (S45)) l0 (l0.length : Int) 0
theorem spec_l5Own.mono_l : ∀ k, (∀ y0 y1 y2 y3, LeO (spec_l5Own.l0 k y0 y1 y2 y3) (spec_l5Own.l0 (k + 1) y0 y1 y2 y3))
 | 0 => fun _ _ _ _ r h => by simp [spec_l5Own.l0] at h
 | k + 1 => by
  have ih0 := spec_l5Own.mono_l k
  · intro y0 y1 y2 y3
    unfold spec_l5Own.l0
    repeat' first
     | (with_reducible first | exact ih0 .. | exact LeO.refl _ | exact LeO.none _ | refine LeO.ite ?_ ?_ | refine LeO.bind ?_ (fun _ => ?_))
     | exact LeO.none _
     | refine LeO.ite ?_ ?_
     | refine LeO.bind ?_ (fun _ => ?_)
theorem spec_l5Own.mono : ∀ a0 k, LeO (spec_l5Own.f k a0) (spec_l5Own.f (k + 1) a0) := by
 intro a0 k
 have ih0 := spec_l5Own.mono_l k
 unfold spec_l5Own.f
 repeat' first
  | (with_reducible first | exact ih0 .. | exact LeO.refl _ | exact LeO.none _ | refine LeO.ite ?_ ?_ | refine LeO.bind ?_ (fun _ => ?_))
  | exact LeO.none _
  | refine LeO.ite ?_ ?_
  | refine LeO.bind ?_ (fun _ => ?_)
set_option maxHeartbeats 8000000 in
set_option maxRecDepth 100000 in
theorem spec_l5Own.calls (k : Nat) (A0 : Option Addr) (c0 : Nat) (l0 : List (S45)) (r : List (S45)) (w : World) (hr0 : Kd.C k45 w A0 l0.length l0) (hc0 : l0.length ≤ c0) (h : spec_l5Own.f k l0 = some r) :
 Calls Try.prog 44 #[.slice A0 l0.length c0] w fun e w' => ∃ v0_ : Value, e = .returned (v0_) ∧ Kd.S k45 45 w' w.heap.size (fun _ => True) v0_ r ∧ Below w.heap.size w w' := by
 have hu45 := Try.underlying45
 have hu26 := Try.underlying26
 have HR0 := aM hr0
 have HC0 := aM hc0
 clear hr0 hc0
 have HB := aM (Below.refl w.heap.size w)
 have H : (spec_l5Own.l0 k ([] : List (S45)) l0 (l0.length : Int) 0) = some r := h
 clear h
 have H' := aM H
 clear H
 go_enter Try.func44, Try.ntmps44
 go_wp2
 go_loopg [3, 8] k (fun kq v3 v8 w' => ∃ (x3_1 : List (S45)) (x8_1 : Int), v8 = .int .i64 x8_1 ∧ Aside0 (spec_l5Own.l0 kq x3_1 l0 (l0.length : Int) x8_1 = some r) ∧ Aside0 (kq ≤ k) ∧ Aside0 (Kd.S k45 45 w' w.heap.size (fun _ => True) v3 x3_1) ∧ Aside0 (Below w.heap.size w w'))
 case atStart => exact ⟨(([] : List (S45))), (0), z4458, H', ⟨Nat.le_refl _⟩, ⟨z2bfb⟩, ⟨z5acd⟩⟩
 case round =>
  clear H'
  obtain ⟨x3_1, x8_1, rfl, HA, HK1, HO_3, HB⟩ := hrel
  cases gk with
  | zero => exact absurd HA.out (by simp [spec_l5Own.l0])
  | succ k1 =>
   have H := HA.out
   clear HA
   simp only [spec_l5Own.l0] at H
   by_cases c2 : x8_1 < (l0.length : Int)
   · rw [if_pos c2] at H
     have c2b0 : decide (x8_1 < (l0.length : Int)) = true := decide_eq_true c2
     clear c2
     replace H := ifS H; obtain ⟨c3, H⟩ := H
     have c3b0 : decide (0 ≤ x8_1) = true := decide_eq_true c3
     clear c3
     replace H := ifS H; obtain ⟨c4, H⟩ := H
     have c4b0 : decide (x8_1 < (l0.length : Int)) = true := decide_eq_true c4
     clear c4
     replace H := Option.bind_eq_some_iff.mp H
     obtain ⟨⟨t103, t104, t105, t106, t107, t110⟩, A50, H⟩ := H
     try dsimp only at H
     have A5 := aM A50
     clear A50
     replace H := ifS H; obtain ⟨c6, H⟩ := H
     have LMc6 := aM c6
     clear c6
     obtain ⟨y111, hy111⟩ : ∃ y_ : List (S45), y_ = (x3_1 ++ [(⟨(rd_T45 l0 x8_1).f0, (rd_T45 l0 x8_1).f1, (rd_T45 l0 x8_1).f2, (⟨t103, t104, t105, t106, t107, t110⟩ : S26)⟩ : S45)]) := ⟨_, rfl⟩
     first | (replace H := bindS H; rw [← hy111] at H; try dsimp only at H) | rw [← hy111] at H
     have Ny111 := aM hy111
     clear hy111
     have H' := aM H
     clear H
     have p101 : 0 ≤ (x8_1 : Int) := of_decide_eq_true z1200
     have q101 : x8_1 < (l0.length : Int) := of_decide_eq_true z1200
     obtain ⟨ad101, A101_7, c101_7, e101, hx101_0, hx101_1, hx101_2, hx101_3, hx101_4, hx101_5, hx101_6, hx101_7, hx101_8, hl101_7, hi101_7⟩ := at_T45 HR0.out x8_1 p101 q101
     cases e101
     have TW101_7 := aM hx101_7
     replace hx101_0 := (HB.out.cell (World.block_lt_of_cell? w _ hx101_0)).trans hx101_0
     replace hx101_1 := (HB.out.cell (World.block_lt_of_cell? w _ hx101_1)).trans hx101_1
     replace hx101_2 := (HB.out.cell (World.block_lt_of_cell? w _ hx101_2)).trans hx101_2
     replace hx101_3 := (HB.out.cell (World.block_lt_of_cell? w _ hx101_3)).trans hx101_3
     replace hx101_4 := (HB.out.cell (World.block_lt_of_cell? w _ hx101_4)).trans hx101_4
     replace hx101_5 := (HB.out.cell (World.block_lt_of_cell? w _ hx101_5)).trans hx101_5
     replace hx101_6 := (HB.out.cell (World.block_lt_of_cell? w _ hx101_6)).trans hx101_6
     replace hx101_7 := (HB.out.cell (World.block_lt_of_cell? w _ hx101_7)).trans hx101_7
     replace hx101_8 := (HB.out.cell (World.block_lt_of_cell? w _ hx101_8)).trans hx101_8
     have HR101_7 := aM hi101_7
     have HC101_7 := aM hl101_7
     clear hi101_7 hl101_7
     replace p101 := eq_true p101
     replace q101 := eq_true q101
     go_wp2_with (first | ((with_reducible refine gate_dst (N := 5) rfl ?_); refine box_event ?hg (N := 5) ?hd (cs := #[.string (⟨#[]⟩ : ByteArray), .int .i64 0, .int .i64 0, .int .i64 0, .int .i64 0, .int .i64 0, .int .i64 0, .slice none 0 0, .bool false]) (t := 45) ?hr ?_; (case hd => rfl); (case hg => rfl); (case hr => first | (go_simp; done) | (go_simp; rfl)); intro gb102 hg w7 hbox hb; have _ := aM (Kd.S_below (Kd.S_elderB (by (with_reducible repeat (first | apply Kd.S_alloc | apply Kd.S_drewN | apply Kd.S_drew)); exact HO_3.out) gb102 (Nat.le_of_eq hg.symm)) hb); have _ := aM (below_step hbZ hb); have _ := aM hbox; have _ := szZ hg; have _ := szZ hg; clear HO_3 HB; rename_i HO_3 HB BK102 GW102 GE102; clear hb hbox hg; obtain ⟨hcz8_0, hcz8_1, hcz8_2, hcz8_3, hcz8_4, hcz8_5, hcz8_6, hcz8_7, hcz8_8, hfz8_0, hfz8_1, hfz8_2, hfz8_3, hfz8_4, hfz8_5, hfz8_6, hfz8_7, hfz8_8⟩ := cellsZ9 BK102.out) | ((with_reducible refine gate_callee (f := 67) rfl ?_); refine goesL_ (some 14) rfl rfl Try.func67 (by kernel_rfl) rfl #[.agg #[.int .i64 ((rd_T45 l0 x8_1).f3.f0), .int .i64 ((rd_T45 l0 x8_1).f3.f1), .int .i64 ((rd_T45 l0 x8_1).f3.f2), .int .i64 ((rd_T45 l0 x8_1).f3.f3), .slice A101_7 ((rd_T45 l0 x8_1).f3.f4).length c101_7, .bool ((rd_T45 l0 x8_1).f3.f5)]] rfl zee81 ?_; (with_reducible refine (spec_l4Own.calls ((rd_T45 l0 x8_1).f3.f0) ((rd_T45 l0 x8_1).f3.f1) ((rd_T45 l0 x8_1).f3.f2) ((rd_T45 l0 x8_1).f3.f3) _ _ ((rd_T45 l0 x8_1).f3.f4) ((rd_T45 l0 x8_1).f3.f5) t103 t104 t105 t106 t107 t110 _ ?side1 ?side2 A5.out).mono ?_); (case side1 => exact Kd.C_below HR101_7.out hbZ); (case side2 => exact HC101_7.out); rintro e w9 ⟨v108, rfl, ho0, hb⟩; refine ⟨_, rfl, ?_⟩; have _ := aM (Kd.S_elder' (by (with_reducible repeat (first | apply Kd.S_alloc | apply Kd.S_drewN | apply Kd.S_drew)); exact (Kd.S_mono (Kd.S_far (p := ⟨gb102, 8, none⟩) (Kd.S_far (p := ⟨gb102, 7, none⟩) (Kd.S_far (p := ⟨gb102, 6, none⟩) (Kd.S_far (p := ⟨gb102, 5, none⟩) (Kd.S_far (p := ⟨gb102, 4, none⟩) (Kd.S_far (p := ⟨gb102, 3, none⟩) (Kd.S_far (p := ⟨gb102, 2, none⟩) (Kd.S_far (p := ⟨gb102, 1, none⟩) (Kd.S_far (p := ⟨gb102, 0, none⟩) (Kd.S_mono HO_3.out (fun k_ hk => (⟨hk, hk.2⟩ : _ ∧ k_ ≠ gb102))) (fun _ hk => hk.2) (.string ((rd_T45 l0 x8_1).f0))) (fun _ hk => hk.2) (.int .i64 ((rd_T45 l0 x8_1).f1))) (fun _ hk => hk.2) (.int .i64 ((rd_T45 l0 x8_1).f2))) (fun _ hk => hk.2) (.int .i64 ((rd_T45 l0 x8_1).f3.f0))) (fun _ hk => hk.2) (.int .i64 ((rd_T45 l0 x8_1).f3.f1))) (fun _ hk => hk.2) (.int .i64 ((rd_T45 l0 x8_1).f3.f2))) (fun _ hk => hk.2) (.int .i64 ((rd_T45 l0 x8_1).f3.f3))) (fun _ hk => hk.2) (.slice A101_7 ((rd_T45 l0 x8_1).f3.f4).length c101_7)) (fun _ hk => hk.2) (.bool ((rd_T45 l0 x8_1).f3.f5))) (fun _ h_ => h_.1))) (Kd.R_base ho0) hb); have _ := aM (Kd.R_lower ho0 (below_size hbZ)); have _ := aM (blk_below (g := gb102) (o := .cells #[.string ((rd_T45 l0 x8_1).f0), .int .i64 ((rd_T45 l0 x8_1).f1), .int .i64 ((rd_T45 l0 x8_1).f2), .int .i64 ((rd_T45 l0 x8_1).f3.f0), .int .i64 ((rd_T45 l0 x8_1).f3.f1), .int .i64 ((rd_T45 l0 x8_1).f3.f2), .int .i64 ((rd_T45 l0 x8_1).f3.f3), .slice A101_7 ((rd_T45 l0 x8_1).f3.f4).length c101_7, .bool ((rd_T45 l0 x8_1).f3.f5)] 45 (0, 0)) bkZ hb); have _ := aM (below_step hbZ hb); clear HO_3 BK102 HB; rename_i HO_3 HO109 BK102 HB; (try clear hb); (try clear ho0); obtain ⟨hcz10_0, hcz10_1, hcz10_2, hcz10_3, hcz10_4, hcz10_5, hcz10_6, hcz10_7, hcz10_8, hfz10_0, hfz10_1, hfz10_2, hfz10_3, hfz10_4, hfz10_5, hfz10_6, hfz10_7, hfz10_8⟩ := cellsZ9 BK102.out; obtain ⟨Ao11, co11, eo11⟩ := Kd.R_slice HO109.out; subst eo11) | ((with_reducible refine gate_store (t := 26) (p := 15) rfl ?_); refine store_event (t := 26) (p := 15) (v := ?vo_w12) (w1 := ((((((w9.setCell ⟨gb102, 3, none⟩ (.int .i64 t103)).setCell ⟨gb102, 4, none⟩ (.int .i64 t104)).setCell ⟨gb102, 5, none⟩ (.int .i64 t105)).setCell ⟨gb102, 6, none⟩ (.int .i64 t106)).setCell ⟨gb102, 7, none⟩ (.slice Ao11 t107.length co11)).setCell ⟨gb102, 8, none⟩ (.bool t110))) ?hg ?ho ?hn ?hr ?_; (case ho => rfl); (case hg => rfl); (case hn => rfl); (case hr => first | (go_simp; done) | (go_simp; rfl)); intro w12 hw; have _ : Aside0 (Kd.S k45 45 w12 w.heap.size (fun k_ => some k_ ≠ (.slice Ao11 t107.length co11 : Value).ownBlock ∧ k_ ≠ gb102) u3 x3_1) := ⟨(by rw [hw]; exact (by (with_reducible repeat (first | apply Kd.S_alloc | apply Kd.S_drewN | apply Kd.S_drew)); exact Kd.S_mono (Kd.S_far (p := ⟨gb102, 8, none⟩) (Kd.S_far (p := ⟨gb102, 7, none⟩) (Kd.S_far (p := ⟨gb102, 6, none⟩) (Kd.S_far (p := ⟨gb102, 5, none⟩) (Kd.S_far (p := ⟨gb102, 4, none⟩) (Kd.S_far (p := ⟨gb102, 3, none⟩) (Kd.S_mono HO_3.out (fun k_ hk => (⟨hk, hk.1.2⟩ : _ ∧ k_ ≠ gb102))) (fun _ hk => hk.2) (.int .i64 t103)) (fun _ hk => hk.2) (.int .i64 t104)) (fun _ hk => hk.2) (.int .i64 t105)) (fun _ hk => hk.2) (.int .i64 t106)) (fun _ hk => hk.2) (.slice Ao11 t107.length co11)) (fun _ hk => hk.2) (.bool t110)) (fun _ hk => ⟨hk.1.2, hk.1.1.2⟩)))⟩; have _ : Aside0 (Kd.R (Kd.int .i64) 3 w12 w.heap.size (fun _ => True) (.slice Ao11 t107.length co11) t107) := ⟨(by rw [hw]; exact (by (with_reducible repeat (first | apply Kd.R_alloc | apply Kd.R_drewN | apply Kd.R_drew)); exact Kd.R_mono (Kd.R_far (p := ⟨gb102, 8, none⟩) (Kd.R_far (p := ⟨gb102, 7, none⟩) (Kd.R_far (p := ⟨gb102, 6, none⟩) (Kd.R_far (p := ⟨gb102, 5, none⟩) (Kd.R_far (p := ⟨gb102, 4, none⟩) (Kd.R_far (p := ⟨gb102, 3, none⟩) (Kd.R_types HO109.out BK102.out (by decide)) (fun _ hk => hk.2) (.int .i64 t103)) (fun _ hk => hk.2) (.int .i64 t104)) (fun _ hk => hk.2) (.int .i64 t105)) (fun _ hk => hk.2) (.int .i64 t106)) (fun _ hk => hk.2) (.slice Ao11 t107.length co11)) (fun _ hk => hk.2) (.bool t110)) (fun _ hk => trivial)))⟩; have _ : Aside0 (w12.heap[gb102]? = some (.cells #[.string ((rd_T45 l0 x8_1).f0), .int .i64 ((rd_T45 l0 x8_1).f1), .int .i64 ((rd_T45 l0 x8_1).f2), .int .i64 t103, .int .i64 t104, .int .i64 t105, .int .i64 t106, .slice Ao11 t107.length co11, .bool t110] 45 (0, 0))) := ⟨(by rw [hw]; exact bkZ)⟩; have _ : Aside0 (Below w.heap.size w w12) := ⟨(by rw [hw]; exact hbZ)⟩; clear hw HO_3 HO109 BK102 HB; rename_i HO_3 HO109 BK102 HB; obtain ⟨hcz13_0, hcz13_1, hcz13_2, hcz13_3, hcz13_4, hcz13_5, hcz13_6, hcz13_7, hcz13_8, hfz13_0, hfz13_1, hfz13_2, hfz13_3, hfz13_4, hfz13_5, hfz13_6, hfz13_7, hfz13_8⟩ := cellsZ9 BK102.out) | ((with_reducible refine gate_builtin (b := .append) (xs := #[.tmp 16, .tmp 18]) rfl ?_); at_builtin; refine Kd.S_append k45 (w0 := w) w.heap.size rfl (.tmp 16) (.tmp 18) 29 45 (.agg #[(.string ⟨#[]⟩), (.int .i64 0), (.int .i64 0), (.int .i64 0), (.int .i64 0), (.int .i64 0), (.int .i64 0), (.slice none 0 0), (.bool false)]) 96 rfl Try.underlying29 info45 rfl (by decide) (by omega) u3 x3_1 (⟨(rd_T45 l0 x8_1).f0, (rd_T45 l0 x8_1).f1, (rd_T45 l0 x8_1).f2, (⟨t103, t104, t105, t106, t107, t110⟩ : S26)⟩ : S45) [.string ((rd_T45 l0 x8_1).f0), .int .i64 ((rd_T45 l0 x8_1).f1), .int .i64 ((rd_T45 l0 x8_1).f2), .int .i64 t103, .int .i64 t104, .int .i64 t105, .int .i64 t106, .slice Ao11 t107.length co11, .bool t110] (fun k_ => k_ ≠ gb102) (fun k_ => some k_ = (.slice Ao11 t107.length co11 : Value).ownBlock) rfl rfl ?aP (fun k_ hk_ => ((Kd.R_mono (ok' := fun k_ => ((fun k_ => k_ ≠ gb102)) k_ ∧ some k_ ≠ (u3 : Value).ownBlock) (Kd.R_types (Kd.R_apart' (HO109.out) (Kd.S_typed HO_3.out) (by decide)) BK102.out (by decide)) (fun k_ hk => ⟨hk.2, hk.1.2⟩))).1 k_ hk_.symm) ?aF ?aO ?aB ?aS ?aL ?_; (case aP => exact k45_mkM _ _ _ (⟨(rd_T45 l0 x8_1).f0, (rd_T45 l0 x8_1).f1, (rd_T45 l0 x8_1).f2, (⟨t103, t104, t105, t106, t107, t110⟩ : S26)⟩ : S45) (Kd.R_mono (Kd.R_tight rfl (Kd.R_mono (ok' := fun k_ => ((fun k_ => k_ ≠ gb102)) k_ ∧ some k_ ≠ (u3 : Value).ownBlock) (Kd.R_types (Kd.R_apart' (HO109.out) (Kd.S_typed HO_3.out) (by decide)) BK102.out (by decide)) (fun k_ hk => ⟨hk.2, hk.1.2⟩))) (fun _ h_ => h_))); (case aB => exact hbZ); (case aF => exact (fun k_ hk => Kd.freshB (g := gb102) bkZ k_ hk)); (case aO => exact (by (with_reducible repeat (first | apply Kd.S_alloc | apply Kd.S_drewN | apply Kd.S_drew)); exact Kd.S_mono HO_3.out (fun k_ hk => ⟨hk.2, fun e_ => hk.1 e_⟩))); (case aS => exact (below_size hbZ)); (case aL => have := LMc6.out; omega); intro v112 w14 ho hb hg hat; rw [← Ny111.out] at ho; have _ := aM (blk_grown (g := gb102) bkZ hg (Kd.S_away HO_3.out (fun _ hk => hk.2))); have _ := aM hb; have _ := aM ho; clear BK102 HB HO_3 HO109; rename_i BK102 HB HO113; clear ho hb hg hat))
     go_roundg k1
     case measure => have := HK1.out; omega
     case rel => exact ⟨(y111), (wrap64 (x8_1 + 1)), z4458, H', ⟨zfb39⟩, ⟨by (with_reducible repeat (first | apply Kd.S_alloc | apply Kd.S_drewN | apply Kd.S_drew)); exact Kd.S_mono HO113.out (fun _ hk => trivial)⟩, ⟨zcb41⟩⟩
   · rw [if_neg c2] at H
     have c2b0 : decide (x8_1 < (l0.length : Int)) = false := decide_eq_false c2
     clear c2
     obtain rfl := Option.some.inj H
     go_wp2
     go_ret
     exact ⟨_, z674d, by (with_reducible repeat (first | apply Kd.S_alloc | apply Kd.S_drewN | apply Kd.S_drew)); exact HO_3.out, z5acd⟩

end Go.Proofs.Ytdkokfnnebdppaa.P

-- written by a program of this session's (wip/pp)
namespace Go.Proofs.Ytdkokfnnebdppaa.P
open Go.RowKit Go.Proofs.YtdkokfnnebdppaaW.PrintWords Go.Proofs.YtdkokfnnebdppaaW.PrintLast Go.Proofs.YtdkokfnnebdppaaW.PrintMore
attribute [local go_sem] max2_int min2_int max_two min_two max_three min_three max_four min_four str_geq str_gtr str_leq   -- for this text's walks alone
set_option linter.unusedVariables false
set_option linter.unusedSimpArgs false

/-! ### spec_l8Pack: function 40 -/
def spec_l8Pack.l0 : Nat → List (S45) → Bool → Int → Bool → List (S45) → Int → Int → Option ((List (S45)))
 | 0, _, _, _, _, _, _, _ => none
 | k + 1, x0, x1, x5, x6, x23, x24, x25 => if x25 < x24 then (if 0 ≤ x25 then (if x25 < (x23.length : Int) then (if x6 = true then (spec_l8Pack.l0 k x0 x1 x5 true x23 x24 (wrap64 (x25 + 1))) else (spec_l8Pack.l0 k x0 x1 x5 (((rd_T45 x23 x25).f2) != 3) x23 x24 (wrap64 (x25 + 1)))) else (none)) else (none)) else (if x6 = true then ((spec_l5Fold.f k x0).bind fun bt111 => (if 0 < (x0.length : Int) then (some (([(⟨(rd_T45 x0 0).f0, (rd_T45 x0 0).f1, x5, (⟨bt111.1, bt111.2.1, bt111.2.2.1, bt111.2.2.2.1, bt111.2.2.2.2.1, bt111.2.2.2.2.2.1⟩ : S26)⟩ : S45)] : List (S45)))) else (none))) else (if x1 = true then ((spec_l5Fold.f k x0).bind fun bt126 => (if 0 < (x0.length : Int) then (some (([(⟨(rd_T45 x0 0).f0, (rd_T45 x0 0).f1, x5, (⟨bt126.1, bt126.2.1, bt126.2.2.1, bt126.2.2.2.1, bt126.2.2.2.2.1, bt126.2.2.2.2.2.1⟩ : S26)⟩ : S45)] : List (S45)))) else (none))) else ((spec_l5Fold.f k x0).bind fun bt141 => (if 0 < (x0.length : Int) then (some (([(⟨(rd_T45 x0 0).f0, (rd_T45 x0 0).f1, 3, (⟨bt141.1, bt141.2.1, bt141.2.2.1, bt141.2.2.2.1, bt141.2.2.2.2.1, bt141.2.2.2.2.2.1⟩ : S26)⟩ : S45)] : List (S45)))) else (none)))))
def spec_l8Pack.f (k : Nat) (l0 : List (S45)) (a1 : Bool) : Option ((List (S45))) := if (l0.length : Int) = 0 then (some ([] : List (S45))) else (if 0 < (l0.length : Int) then (if ((rd_T45 l0 0).f2) = 2 then (if a1 = true then (some ([] : List (S45))) else (if 1 ≤ (l0.length : Int) then ((spec_l5Own.f k (l0.take 1)).bind fun t106 => (some t106)) else (none))) else (spec_l8Pack.l0 k l0 a1 1 false l0 (l0.length : Int) 0)) else (none))
theorem spec_l8Pack.mono_l : ∀ k, (∀ y0 y1 y2 y3 y4 y5 y6, LeO (spec_l8Pack.l0 k y0 y1 y2 y3 y4 y5 y6) (spec_l8Pack.l0 (k + 1) y0 y1 y2 y3 y4 y5 y6))
 | 0 => fun _ _ _ _ _ _ _ r h => by simp [spec_l8Pack.l0] at h
 | k + 1 => by
  have ih0 := spec_l8Pack.mono_l k
  · intro y0 y1 y2 y3 y4 y5 y6
    unfold spec_l8Pack.l0
    repeat' first
     | (with_reducible first | exact ih0 .. | exact spec_l5Fold.mono .. | exact spec_l5Own.mono .. | exact LeO.refl _ | exact LeO.none _ | refine LeO.ite ?_ ?_ | refine LeO.bind ?_ (fun _ => ?_))
     | exact LeO.none _
     | refine LeO.ite ?_ ?_
     | refine LeO.bind ?_ (fun _ => ?_)
theorem spec_l8Pack.mono : ∀ a0 a1 k, LeO (spec_l8Pack.f k a0 a1) (spec_l8Pack.f (k + 1) a0 a1) := by
 intro a0 a1 k
 have ih0 := spec_l8Pack.mono_l k
 unfold spec_l8Pack.f
 repeat' first
  | (with_reducible first | exact ih0 .. | exact spec_l5Fold.mono .. | exact spec_l5Own.mono .. | exact LeO.refl _ | exact LeO.none _ | refine LeO.ite ?_ ?_ | refine LeO.bind ?_ (fun _ => ?_))
  | exact LeO.none _
  | refine LeO.ite ?_ ?_
  | refine LeO.bind ?_ (fun _ => ?_)
def spec_l8Pack.T17 : Bool × List (List Nat × List Nat) := (true, [([], []), ([0], [0]), ([1], [1]), ([2], [2]), ([], []), ([4], [4]), ([5], [5]), ([6], [6]), ([], []), ([], []), ([3, 7, 8, 9], [3, 7, 8, 9]), ([10], [10]), ([11, 0, 1, 2, 3, 4, 5, 6, 7, 8, 9, 10, 11], [11])])
def spec_l8Pack.B17 : List Nat := [0, 1, 3, 7, 0, 16, 48, 112, 0, 0, 1023, 2047, 4095]
theorem spec_l8Pack.tab17 : rtab .any (opsOf Try.f40 17) = spec_l8Pack.T17 := by kernel_rfl
theorem spec_l8Pack.bits17 : waitsOk spec_l8Pack.T17.2 spec_l8Pack.B17 = true := by kernel_rfl
set_option maxHeartbeats 8000000 in
set_option maxRecDepth 100000 in
theorem spec_l8Pack.calls (k : Nat) (A0 : Option Addr) (c0 : Nat) (l0 : List (S45)) (a1 : Bool) (r : List (S45)) (w : World) (hr0 : Kd.C k45 w A0 l0.length l0) (hc0 : l0.length ≤ c0) (h : spec_l8Pack.f k l0 a1 = some r) :
 Calls Try.prog 40 #[.slice A0 l0.length c0, .bool a1] w fun e w' => ∃ v0_ : Value, e = .returned (v0_) ∧ Kd.S k45 45 w' w.heap.size (fun _ => True) v0_ r ∧ Below w.heap.size w w' := by
 have hu45 := Try.underlying45
 have hu26 := Try.underlying26
 have HR0 := aM hr0
 have HC0 := aM hc0
 clear hr0 hc0
 have HB := aM (Below.refl w.heap.size w)
 have H : (if (l0.length : Int) = 0 then (some ([] : List (S45))) else (if 0 < (l0.length : Int) then (if ((rd_T45 l0 0).f2) = 2 then (if a1 = true then (some ([] : List (S45))) else (if 1 ≤ (l0.length : Int) then ((spec_l5Own.f k (l0.take 1)).bind fun t106 => (some t106)) else (none))) else (spec_l8Pack.l0 k l0 a1 1 false l0 (l0.length : Int) 0)) else (none))) = some r := h
 clear h
 by_cases c3 : (l0.length : Int) = 0
 · rw [if_pos c3] at H
   have c3b0 : ((l0.length : Int) == 0) = true := beq_iff_eq.mpr c3
   have c3b1 : ((l0.length : Int) != 0) = false := bne_eq_false_iff_eq.mpr c3
   clear c3
   obtain rfl := Option.some.inj H
   go_enter Try.func40, Try.ntmps40
   go_wp2
   go_ret
   exact ⟨_, z674d, z2bfb, z5acd⟩
 · rw [if_neg c3] at H
   have c3b0 : ((l0.length : Int) == 0) = false := beq_eq_false_iff_ne.mpr c3
   have c3b1 : ((l0.length : Int) != 0) = true := bne_iff_ne.mpr c3
   have c3b2 : ¬ (l0 = []) := fun h_ => c3 (by rw [h_]; rfl)
   replace H := ifS H; obtain ⟨c4, H⟩ := H
   have c4b0 : decide (0 < (l0.length : Int)) = true := decide_eq_true c4
   have c4b1 : decide (0 < l0.length) = true := decide_eq_true (by omega)
   clear c4
   by_cases c5 : ((rd_T45 l0 0).f2) = 2
   · rw [if_pos c5] at H
     have c5b0 : (((rd_T45 l0 0).f2) == 2) = true := beq_iff_eq.mpr c5
     have c5b1 : (((rd_T45 l0 0).f2) != 2) = false := bne_eq_false_iff_eq.mpr c5
     clear c5
     by_cases c6 : a1 = true
     · subst c6
       rw [if_pos rfl] at H
       obtain rfl := Option.some.inj H
       have p101 : 0 ≤ (0 : Int) := (by omega)
       have q101 : 0 < (l0.length : Int) := of_decide_eq_true z1200
       obtain ⟨ad101, A101_7, c101_7, e101, hx101_0, hx101_1, hx101_2, hx101_3, hx101_4, hx101_5, hx101_6, hx101_7, hx101_8, hl101_7, hi101_7⟩ := at_T45 HR0.out 0 p101 q101
       cases e101
       have qi101 : (0 < l0.length) = True := eq_true (by omega)
       (try rw [show ((0 : Int)).toNat = 0 from rfl, show 0 * 9 = 0 from rfl, Addr.add_zero'] at hx101_0 hx101_1 hx101_2 hx101_3 hx101_4 hx101_5 hx101_6 hx101_7 hx101_8)
       have TW101_7 := aM hx101_7
       have HR101_7 := aM hi101_7
       have HC101_7 := aM hl101_7
       clear hi101_7 hl101_7
       replace p101 := eq_true p101
       replace q101 := eq_true q101
       go_enter Try.func40, Try.ntmps40
       go_wp2
       go_ret
       exact ⟨_, z674d, z2bfb, z5acd⟩
     · replace c6 := Bool.eq_false_iff.mpr c6
       subst c6
       rw [if_neg (show ¬ (false = true) by decide)] at H
       replace H := ifS H; obtain ⟨c7, H⟩ := H
       have c7b0 := eq_true c7
       have c7b1 : decide (1 ≤ (l0.length : Int)) = true := decide_eq_true c7
       clear c7
       obtain ⟨y102, hy102⟩ : ∃ y_ : List (S45), y_ = (l0.take 1) := ⟨_, rfl⟩
       first | (replace H := bindS H; rw [← hy102] at H; try dsimp only at H) | rw [← hy102] at H
       have Ny102 := aM hy102
       clear hy102
       replace H := Option.bind_eq_some_iff.mp H
       obtain ⟨t106, A80, H⟩ := H
       try dsimp only at H
       have A8 := aM A80
       clear A80
       obtain rfl := Option.some.inj H
       have p101 : 0 ≤ (0 : Int) := (by omega)
       have q101 : 0 < (l0.length : Int) := of_decide_eq_true z1200
       obtain ⟨ad101, A101_7, c101_7, e101, hx101_0, hx101_1, hx101_2, hx101_3, hx101_4, hx101_5, hx101_6, hx101_7, hx101_8, hl101_7, hi101_7⟩ := at_T45 HR0.out 0 p101 q101
       cases e101
       have qi101 : (0 < l0.length) = True := eq_true (by omega)
       (try rw [show ((0 : Int)).toNat = 0 from rfl, show 0 * 9 = 0 from rfl, Addr.add_zero'] at hx101_0 hx101_1 hx101_2 hx101_3 hx101_4 hx101_5 hx101_6 hx101_7 hx101_8)
       have TW101_7 := aM hx101_7
       have HR101_7 := aM hi101_7
       have HC101_7 := aM hl101_7
       clear hi101_7 hl101_7
       replace p101 := eq_true p101
       replace q101 := eq_true q101
       have q9 : (1 : Int) ≤ ((l0.length : Int) : Int) := of_decide_eq_true z1200
       obtain ⟨i09, hi09, _, hsz9, _⟩ := info_parts info45
       have hroom9 : l0.length ≤ c0 := HC0.out
       have hC9 : Kd.C k45 _ (some ad101) l0.length l0 := HR0.out
       have hcut9 := cut_to (P := Try.prog) 29 45 .i64 Try.underlying29 hi09 (some ad101) l0.length c0 1 (by omega) q9 hroom9
       have hr9 := Kd.C_take (m := 1) hC9 (by omega)
       have hy9 : y102.length = (1 : Int).toNat := (by rw [Ny102.out, List.length_take]; omega)
       rw [← Ny102.out] at hr9
       rw [← hy9] at hcut9
       have HR105 := aM hr9
       have HC105 := aM (show y102.length ≤ c0 from by omega)
       clear hr9 hC9 hroom9 hi09 hsz9
       have KY9 := aM hy9
       clear hy9
       replace q9 := eq_true q9
       go_enter Try.func40, Try.ntmps40
       go_wp2_with (first | ((with_reducible refine gate_callee (f := 44) rfl ?_); refine goesL_ (some 22) rfl rfl Try.func44 (by kernel_rfl) rfl #[.slice (some ad101) y102.length c0] rfl zee81 ?_; (with_reducible refine (spec_l5Own.calls k _ _ y102 t106 _ ?side1 ?side2 A8.out).mono ?_); (case side1 => exact (by repeat (first | exact HR105.out | (with_reducible refine Kd.C_alloc ?_ _) | (with_reducible refine Kd.C_drewN ?_ _) | (with_reducible refine Kd.C_drew ?_)))); (case side2 => exact HC105.out); rintro e w10 ⟨v107, rfl, ho0, hb⟩; refine ⟨_, rfl, ?_⟩; have _ := aM (Kd.S_lower ho0 (below_size hbZ)); have _ := aM (below_step hbZ hb); clear HB; rename_i HO108 HB; (try clear hb); (try clear ho0)))
       go_ret
       exact ⟨_, z674d, by (with_reducible repeat (first | apply Kd.S_alloc | apply Kd.S_drewN | apply Kd.S_drew)); exact HO108.out, z5acd⟩
   · rw [if_neg c5] at H
     have c5b0 : (((rd_T45 l0 0).f2) == 2) = false := beq_eq_false_iff_ne.mpr c5
     have c5b1 : (((rd_T45 l0 0).f2) != 2) = true := bne_iff_ne.mpr c5
     have H' := aM H
     clear H
     have p101 : 0 ≤ (0 : Int) := (by omega)
     have q101 : 0 < (l0.length : Int) := of_decide_eq_true z1200
     obtain ⟨ad101, A101_7, c101_7, e101, hx101_0, hx101_1, hx101_2, hx101_3, hx101_4, hx101_5, hx101_6, hx101_7, hx101_8, hl101_7, hi101_7⟩ := at_T45 HR0.out 0 p101 q101
     cases e101
     have qi101 : (0 < l0.length) = True := eq_true (by omega)
     (try rw [show ((0 : Int)).toNat = 0 from rfl, show 0 * 9 = 0 from rfl, Addr.add_zero'] at hx101_0 hx101_1 hx101_2 hx101_3 hx101_4 hx101_5 hx101_6 hx101_7 hx101_8)
     have TW101_7 := aM hx101_7
     have HR101_7 := aM hi101_7
     have HC101_7 := aM hl101_7
     clear hi101_7 hl101_7
     replace p101 := eq_true p101
     replace q101 := eq_true q101
     go_enter Try.func40, Try.ntmps40
     go_wp2
     go_loopg [6, 25] k (fun kq v6 v25 w' => ∃ (x6_1 : Bool) (x25_1 : Int), v6 = .bool x6_1 ∧ v25 = .int .i64 x25_1 ∧ Aside0 (spec_l8Pack.l0 kq l0 a1 1 x6_1 l0 (l0.length : Int) x25_1 = some r) ∧ Aside0 (kq ≤ k) ∧ Aside0 (Below w.heap.size w w'))
     case atStart => exact ⟨(false), (0), z4458, z4458, H', ⟨Nat.le_refl _⟩, ⟨z5acd⟩⟩
     case round =>
      clear H'
      try clear c1
      try clear p1
      try clear q1
      try clear hx1
      try clear qi1
      try clear p2
      try clear c3
      try clear c3b0
      try clear c3b1
      try clear c3b2
      try clear c4
      try clear c4b0
      try clear c4b1
      try clear c5
      try clear c5b0
      try clear c5b1
      try clear c6
      try clear c7
      try clear c7b0
      try clear c7b1
      try clear q9
      try clear c10
      try clear p10
      try clear q10
      try clear hx10
      try clear qi10
      try clear hx101_0
      try clear hx101_1
      try clear hx101_2
      try clear hx101_3
      try clear hx101_4
      try clear hx101_5
      try clear hx101_6
      try clear hx101_7
      try clear hx101_8
      try clear p101
      try clear q101
      try clear q9
      obtain ⟨x6_1, x25_1, rfl, rfl, HA, HK1, HB⟩ := hrel
      cases gk with
      | zero => exact absurd HA.out (by simp [spec_l8Pack.l0])
      | succ k1 =>
       have H := HA.out
       clear HA
       simp only [spec_l8Pack.l0] at H
       by_cases c11 : x25_1 < (l0.length : Int)
       · rw [if_pos c11] at H
         have c11b0 : decide (x25_1 < (l0.length : Int)) = true := decide_eq_true c11
         clear c11
         replace H := ifS H; obtain ⟨c12, H⟩ := H
         have c12b0 : decide (0 ≤ x25_1) = true := decide_eq_true c12
         clear c12
         replace H := ifS H; obtain ⟨c13, H⟩ := H
         have c13b0 : decide (x25_1 < (l0.length : Int)) = true := decide_eq_true c13
         clear c13
         by_cases c14 : x6_1 = true
         · subst c14
           rw [if_pos rfl] at H
           have H' := aM H
           clear H
           have p109 : 0 ≤ (x25_1 : Int) := of_decide_eq_true z1200
           have q109 : x25_1 < (l0.length : Int) := of_decide_eq_true z1200
           obtain ⟨ad109, A109_7, c109_7, e109, hx109_0, hx109_1, hx109_2, hx109_3, hx109_4, hx109_5, hx109_6, hx109_7, hx109_8, hl109_7, hi109_7⟩ := at_T45 HR0.out x25_1 p109 q109
           obtain rfl : ad101 = ad109 := (by injection e109)
           have TW109_7 := aM hx109_7
           replace hx109_0 := (HB.out.cell (World.block_lt_of_cell? w _ hx109_0)).trans hx109_0
           replace hx109_1 := (HB.out.cell (World.block_lt_of_cell? w _ hx109_1)).trans hx109_1
           replace hx109_2 := (HB.out.cell (World.block_lt_of_cell? w _ hx109_2)).trans hx109_2
           replace hx109_3 := (HB.out.cell (World.block_lt_of_cell? w _ hx109_3)).trans hx109_3
           replace hx109_4 := (HB.out.cell (World.block_lt_of_cell? w _ hx109_4)).trans hx109_4
           replace hx109_5 := (HB.out.cell (World.block_lt_of_cell? w _ hx109_5)).trans hx109_5
           replace hx109_6 := (HB.out.cell (World.block_lt_of_cell? w _ hx109_6)).trans hx109_6
           replace hx109_7 := (HB.out.cell (World.block_lt_of_cell? w _ hx109_7)).trans hx109_7
           replace hx109_8 := (HB.out.cell (World.block_lt_of_cell? w _ hx109_8)).trans hx109_8
           have HR109_7 := aM hi109_7
           have HC109_7 := aM hl109_7
           clear hi109_7 hl109_7
           replace p109 := eq_true p109
           replace q109 := eq_true q109
           go_wp2_with (first | ((with_reducible refine gate_dst (N := 8) rfl ?_); refine box_event ?hg (N := 8) ?hd (cs := #[.string (⟨#[]⟩ : ByteArray), .int .i64 0, .int .i64 0, .int .i64 0, .int .i64 0, .int .i64 0, .int .i64 0, .slice none 0 0, .bool false]) (t := 45) ?hr ?_; (case hd => rfl); (case hg => rfl); (case hr => first | (go_simp; done) | (go_simp; rfl)); intro gb110 hg w15 hbox hb; have _ := aM (below_step hbZ hb); have _ := aM hbox; have _ := szZ hg; have _ := szZ hg; clear HB; rename_i HB BK110 GW110 GE110; clear hb hbox hg; obtain ⟨hcz16_0, hcz16_1, hcz16_2, hcz16_3, hcz16_4, hcz16_5, hcz16_6, hcz16_7, hcz16_8, hfz16_0, hfz16_1, hfz16_2, hfz16_3, hfz16_4, hfz16_5, hfz16_6, hfz16_7, hfz16_8⟩ := cellsZ9 BK110.out))
           go_roundg k1
           case measure => have := HK1.out; omega
           case rel => exact ⟨(true), (wrap64 (x25_1 + 1)), z4458, z4458, H', ⟨zfb39⟩, ⟨zcb41⟩⟩
         · replace c14 := Bool.eq_false_iff.mpr c14
           subst c14
           rw [if_neg (show ¬ (false = true) by decide)] at H
           have H' := aM H
           clear H
           have p109 : 0 ≤ (x25_1 : Int) := of_decide_eq_true z1200
           have q109 : x25_1 < (l0.length : Int) := of_decide_eq_true z1200
           obtain ⟨ad109, A109_7, c109_7, e109, hx109_0, hx109_1, hx109_2, hx109_3, hx109_4, hx109_5, hx109_6, hx109_7, hx109_8, hl109_7, hi109_7⟩ := at_T45 HR0.out x25_1 p109 q109
           obtain rfl : ad101 = ad109 := (by injection e109)
           have TW109_7 := aM hx109_7
           replace hx109_0 := (HB.out.cell (World.block_lt_of_cell? w _ hx109_0)).trans hx109_0
           replace hx109_1 := (HB.out.cell (World.block_lt_of_cell? w _ hx109_1)).trans hx109_1
           replace hx109_2 := (HB.out.cell (World.block_lt_of_cell? w _ hx109_2)).trans hx109_2
           replace hx109_3 := (HB.out.cell (World.block_lt_of_cell? w _ hx109_3)).trans hx109_3
           replace hx109_4 := (HB.out.cell (World.block_lt_of_cell? w _ hx109_4)).trans hx109_4
           replace hx109_5 := (HB.out.cell (World.block_lt_of_cell? w _ hx109_5)).trans hx109_5
           replace hx109_6 := (HB.out.cell (World.block_lt_of_cell? w _ hx109_6)).trans hx109_6
           replace hx109_7 := (HB.out.cell (World.block_lt_of_cell? w _ hx109_7)).trans hx109_7
           replace hx109_8 := (HB.out.cell (World.block_lt_of_cell? w _ hx109_8)).trans hx109_8
           have HR109_7 := aM hi109_7
           have HC109_7 := aM hl109_7
           clear hi109_7 hl109_7
           replace p109 := eq_true p109
           replace q109 := eq_true q109
           go_wp2_with (first | ((with_reducible refine gate_dst (N := 8) rfl ?_); refine box_event ?hg (N := 8) ?hd (cs := #[.string (⟨#[]⟩ : ByteArray), .int .i64 0, .int .i64 0, .int .i64 0, .int .i64 0, .int .i64 0, .int .i64 0, .slice none 0 0, .bool false]) (t := 45) ?hr ?_; (case hd => rfl); (case hg => rfl); (case hr => first | (go_simp; done) | (go_simp; rfl)); intro gb110 hg w17 hbox hb; have _ := aM (below_step hbZ hb); have _ := aM hbox; have _ := szZ hg; have _ := szZ hg; clear HB; rename_i HB BK110 GW110 GE110; clear hb hbox hg; obtain ⟨hcz18_0, hcz18_1, hcz18_2, hcz18_3, hcz18_4, hcz18_5, hcz18_6, hcz18_7, hcz18_8, hfz18_0, hfz18_1, hfz18_2, hfz18_3, hfz18_4, hfz18_5, hfz18_6, hfz18_7, hfz18_8⟩ := cellsZ9 BK110.out))
           go_roundg k1
           case measure => have := HK1.out; omega
           case rel => exact ⟨((((rd_T45 l0 x25_1).f2) != 3)), (wrap64 (x25_1 + 1)), z4458, z4458, H', ⟨zfb39⟩, ⟨zcb41⟩⟩
       · rw [if_neg c11] at H
         have c11b0 : decide (x25_1 < (l0.length : Int)) = false := decide_eq_false c11
         clear c11
         by_cases c19 : x6_1 = true
         · subst c19
           rw [if_pos rfl] at H
           replace H := Option.bind_eq_some_iff.mp H
           obtain ⟨⟨t111, t112, t113, t114, t115, t118, t119⟩, A200, H⟩ := H
           try dsimp only at H
           have A20 := aM A200
           clear A200
           replace H := ifS H; obtain ⟨c21, H⟩ := H
           have c21b0 : decide (0 < (l0.length : Int)) = true := decide_eq_true c21
           have c21b1 : decide (0 < l0.length) = true := decide_eq_true (by omega)
           clear c21
           obtain ⟨y123, hy123⟩ : ∃ y_ : List (S45), y_ = (([(⟨(rd_T45 l0 0).f0, (rd_T45 l0 0).f1, 1, (⟨t111, t112, t113, t114, t115, t118⟩ : S26)⟩ : S45)] : List (S45))) := ⟨_, rfl⟩
           first | (replace H := bindS H; rw [← hy123] at H; try dsimp only at H) | rw [← hy123] at H
           have Ny123 := aM hy123
           clear hy123
           obtain rfl := Option.some.inj H
           try go_wp2_with (first | ((with_reducible refine gate_callee (f := 34) rfl ?_); refine goesL_ (some 44) rfl rfl Try.func34 (by kernel_rfl) rfl #[.slice (some ad101) l0.length c0] rfl zee81 ?_; (with_reducible refine (spec_l5Fold.calls k1 _ _ l0 t111 t112 t113 t114 t115 t118 t119 _ ?side1 ?side2 A20.out).mono ?_); (case side1 => exact (cZ (Kd.C_below HR0.out HB.out))); (case side2 => exact HC0.out); rintro e w22 ⟨v116, rfl, ho0, hb⟩; refine ⟨_, rfl, ?_⟩; have _ := aM (Kd.R_lower ho0 (below_size hbZ)); have _ := aM (below_step hbZ hb); clear HB; rename_i HO117 HB; (try clear hb); (try clear ho0)) | ((with_reducible refine gate_dst (N := 9) rfl ?_); refine box_event ?hg (N := 9) ?hd (cs := #[.int .i64 0, .int .i64 0, .int .i64 0, .int .i64 0, .slice none 0 0, .bool false]) (t := 26) ?hr ?_; (case hd => rfl); (case hg => rfl); (case hr => first | (go_simp; done) | (go_simp; rfl)); intro gb120 hg w23 hbox hb; have _ := aM (Kd.R_below (rZ HO117.out) hb); have _ := aM (below_step hbZ hb); have _ := aM hbox; have _ := szZ hg; have _ := szZ hg; clear HO117 HB; rename_i HO117 HB BK120 GW120 GE120; clear hb hbox hg; obtain ⟨hcz24_0, hcz24_1, hcz24_2, hcz24_3, hcz24_4, hcz24_5, hfz24_0, hfz24_1, hfz24_2, hfz24_3, hfz24_4, hfz24_5⟩ := cellsZ6 BK120.out; obtain ⟨Ao25, co25, eo25⟩ := Kd.R_slice HO117.out; subst eo25))
           have n0_ : Aside0 (Kd.R (Kd.int .i64) 3 ((((((w23.setCell ⟨gb120, 0, none⟩ (.int .i64 t111)).setCell ⟨gb120, 1, none⟩ (.int .i64 t112)).setCell ⟨gb120, 2, none⟩ (.int .i64 t113)).setCell ⟨gb120, 3, none⟩ (.int .i64 t114)).setCell ⟨gb120, 4, none⟩ (.slice Ao25 t115.length co25)).setCell ⟨gb120, 5, none⟩ (.bool t118)) w.heap.size (fun _ => True) (.slice Ao25 t115.length co25) t115) := ⟨by (with_reducible repeat (first | apply Kd.R_alloc | apply Kd.R_drewN | apply Kd.R_drew)); exact Kd.R_mono (Kd.R_far (p := ⟨gb120, 5, none⟩) (Kd.R_far (p := ⟨gb120, 4, none⟩) (Kd.R_far (p := ⟨gb120, 3, none⟩) (Kd.R_far (p := ⟨gb120, 2, none⟩) (Kd.R_far (p := ⟨gb120, 1, none⟩) (Kd.R_far (p := ⟨gb120, 0, none⟩) (Kd.R_types HO117.out BK120.out (by decide)) (fun _ hk => hk.2) (.int .i64 t111)) (fun _ hk => hk.2) (.int .i64 t112)) (fun _ hk => hk.2) (.int .i64 t113)) (fun _ hk => hk.2) (.int .i64 t114)) (fun _ hk => hk.2) (.slice Ao25 t115.length co25)) (fun _ hk => hk.2) (.bool t118)) (fun _ hk => trivial)⟩
           have n1_ : Aside0 (((((((w23.setCell ⟨gb120, 0, none⟩ (.int .i64 t111)).setCell ⟨gb120, 1, none⟩ (.int .i64 t112)).setCell ⟨gb120, 2, none⟩ (.int .i64 t113)).setCell ⟨gb120, 3, none⟩ (.int .i64 t114)).setCell ⟨gb120, 4, none⟩ (.slice Ao25 t115.length co25)).setCell ⟨gb120, 5, none⟩ (.bool t118)).heap[gb120]? = some (.cells #[.int .i64 t111, .int .i64 t112, .int .i64 t113, .int .i64 t114, .slice Ao25 t115.length co25, .bool t118] 26 (0, 0))) := ⟨bkZ⟩
           have n2_ : Aside0 (Below w.heap.size w ((((((w23.setCell ⟨gb120, 0, none⟩ (.int .i64 t111)).setCell ⟨gb120, 1, none⟩ (.int .i64 t112)).setCell ⟨gb120, 2, none⟩ (.int .i64 t113)).setCell ⟨gb120, 3, none⟩ (.int .i64 t114)).setCell ⟨gb120, 4, none⟩ (.slice Ao25 t115.length co25)).setCell ⟨gb120, 5, none⟩ (.bool t118))) := ⟨zcb41⟩
           (try clear HO117)
           (try clear BK120)
           (try clear HB)
           generalize ((((((w23.setCell ⟨gb120, 0, none⟩ (.int .i64 t111)).setCell ⟨gb120, 1, none⟩ (.int .i64 t112)).setCell ⟨gb120, 2, none⟩ (.int .i64 t113)).setCell ⟨gb120, 3, none⟩ (.int .i64 t114)).setCell ⟨gb120, 4, none⟩ (.slice Ao25 t115.length co25)).setCell ⟨gb120, 5, none⟩ (.bool t118)) = w26 at n0_ n1_ n2_ ⊢
           have HO117 := n0_
           have BK120 := n1_
           have HB := n2_
           clear n0_ n1_ n2_
           have _ := aM (Kd.R_drew HO117.out)
           have _ := aM (blk_drew BK120.out)
           have _ := aM (below_drew1 HB.out)
           clear HO117
           clear BK120
           clear HB
           rename_i HO117 BK120 HB
           have p121 : 0 ≤ (0 : Int) := (by omega)
           have q121 : 0 < (l0.length : Int) := of_decide_eq_true z1200
           obtain ⟨ad121, A121_7, c121_7, e121, hx121_0, hx121_1, hx121_2, hx121_3, hx121_4, hx121_5, hx121_6, hx121_7, hx121_8, hl121_7, hi121_7⟩ := at_T45 HR0.out 0 p121 q121
           have hw121_8 := hx121_8
           (try rw [show ((0 : Int)).toNat = 0 from rfl, show 0 * 9 = 0 from rfl, Addr.add_zero'] at hw121_8)
           have hw121_7 := hx121_7
           (try rw [show ((0 : Int)).toNat = 0 from rfl, show 0 * 9 = 0 from rfl, Addr.add_zero'] at hw121_7)
           have hw121_6 := hx121_6
           (try rw [show ((0 : Int)).toNat = 0 from rfl, show 0 * 9 = 0 from rfl, Addr.add_zero'] at hw121_6)
           have hw121_5 := hx121_5
           (try rw [show ((0 : Int)).toNat = 0 from rfl, show 0 * 9 = 0 from rfl, Addr.add_zero'] at hw121_5)
           have hw121_4 := hx121_4
           (try rw [show ((0 : Int)).toNat = 0 from rfl, show 0 * 9 = 0 from rfl, Addr.add_zero'] at hw121_4)
           have hw121_3 := hx121_3
           (try rw [show ((0 : Int)).toNat = 0 from rfl, show 0 * 9 = 0 from rfl, Addr.add_zero'] at hw121_3)
           have hw121_2 := hx121_2
           (try rw [show ((0 : Int)).toNat = 0 from rfl, show 0 * 9 = 0 from rfl, Addr.add_zero'] at hw121_2)
           have hw121_1 := hx121_1
           (try rw [show ((0 : Int)).toNat = 0 from rfl, show 0 * 9 = 0 from rfl, Addr.add_zero'] at hw121_1)
           have hw121_0 := hx121_0
           (try rw [show ((0 : Int)).toNat = 0 from rfl, show 0 * 9 = 0 from rfl, Addr.add_zero'] at hw121_0)
           obtain rfl : ad101 = ad121 := (by injection e121)
           have qi121 : (0 < l0.length) = True := eq_true (by omega)
           (try rw [show ((0 : Int)).toNat = 0 from rfl, show 0 * 9 = 0 from rfl, Addr.add_zero'] at hx121_0 hx121_1 hx121_2 hx121_3 hx121_4 hx121_5 hx121_6 hx121_7 hx121_8)
           (try (have ez_ := hx121_7.symm.trans TW101_7.out; simp only [Option.some.injEq, Value.slice.injEq, true_and] at ez_; obtain ⟨ez1_, ez2_⟩ := ez_; subst ez1_ ez2_))
           have TW121_7 := aM hx121_7
           replace hx121_0 := (HB.out.cell (World.block_lt_of_cell? w _ hx121_0)).trans hx121_0
           replace hx121_1 := (HB.out.cell (World.block_lt_of_cell? w _ hx121_1)).trans hx121_1
           replace hx121_2 := (HB.out.cell (World.block_lt_of_cell? w _ hx121_2)).trans hx121_2
           replace hx121_3 := (HB.out.cell (World.block_lt_of_cell? w _ hx121_3)).trans hx121_3
           replace hx121_4 := (HB.out.cell (World.block_lt_of_cell? w _ hx121_4)).trans hx121_4
           replace hx121_5 := (HB.out.cell (World.block_lt_of_cell? w _ hx121_5)).trans hx121_5
           replace hx121_6 := (HB.out.cell (World.block_lt_of_cell? w _ hx121_6)).trans hx121_6
           replace hx121_7 := (HB.out.cell (World.block_lt_of_cell? w _ hx121_7)).trans hx121_7
           replace hx121_8 := (HB.out.cell (World.block_lt_of_cell? w _ hx121_8)).trans hx121_8
           have HR121_7 := aM hi121_7
           have HC121_7 := aM hl121_7
           clear hi121_7 hl121_7
           replace p121 := eq_true p121
           replace q121 := eq_true q121
           have p122 : 0 ≤ (0 : Int) := (by omega)
           have q122 : 0 < (l0.length : Int) := of_decide_eq_true z1200
           obtain ⟨ad122, A122_7, c122_7, e122, hx122_0, hx122_1, hx122_2, hx122_3, hx122_4, hx122_5, hx122_6, hx122_7, hx122_8, hl122_7, hi122_7⟩ := at_T45 HR0.out 0 p122 q122
           have hw122_8 := hx122_8
           (try rw [show ((0 : Int)).toNat = 0 from rfl, show 0 * 9 = 0 from rfl, Addr.add_zero'] at hw122_8)
           have hw122_7 := hx122_7
           (try rw [show ((0 : Int)).toNat = 0 from rfl, show 0 * 9 = 0 from rfl, Addr.add_zero'] at hw122_7)
           have hw122_6 := hx122_6
           (try rw [show ((0 : Int)).toNat = 0 from rfl, show 0 * 9 = 0 from rfl, Addr.add_zero'] at hw122_6)
           have hw122_5 := hx122_5
           (try rw [show ((0 : Int)).toNat = 0 from rfl, show 0 * 9 = 0 from rfl, Addr.add_zero'] at hw122_5)
           have hw122_4 := hx122_4
           (try rw [show ((0 : Int)).toNat = 0 from rfl, show 0 * 9 = 0 from rfl, Addr.add_zero'] at hw122_4)
           have hw122_3 := hx122_3
           (try rw [show ((0 : Int)).toNat = 0 from rfl, show 0 * 9 = 0 from rfl, Addr.add_zero'] at hw122_3)
           have hw122_2 := hx122_2
           (try rw [show ((0 : Int)).toNat = 0 from rfl, show 0 * 9 = 0 from rfl, Addr.add_zero'] at hw122_2)
           have hw122_1 := hx122_1
           (try rw [show ((0 : Int)).toNat = 0 from rfl, show 0 * 9 = 0 from rfl, Addr.add_zero'] at hw122_1)
           have hw122_0 := hx122_0
           (try rw [show ((0 : Int)).toNat = 0 from rfl, show 0 * 9 = 0 from rfl, Addr.add_zero'] at hw122_0)
           obtain rfl : ad101 = ad122 := (by injection e122)
           have qi122 : (0 < l0.length) = True := eq_true (by omega)
           (try rw [show ((0 : Int)).toNat = 0 from rfl, show 0 * 9 = 0 from rfl, Addr.add_zero'] at hx122_0 hx122_1 hx122_2 hx122_3 hx122_4 hx122_5 hx122_6 hx122_7 hx122_8)
           replace hx122_0 := (HB.out.cell (World.block_lt_of_cell? w _ hx122_0)).trans hx122_0
           replace hx122_1 := (HB.out.cell (World.block_lt_of_cell? w _ hx122_1)).trans hx122_1
           replace hx122_2 := (HB.out.cell (World.block_lt_of_cell? w _ hx122_2)).trans hx122_2
           replace hx122_3 := (HB.out.cell (World.block_lt_of_cell? w _ hx122_3)).trans hx122_3
           replace hx122_4 := (HB.out.cell (World.block_lt_of_cell? w _ hx122_4)).trans hx122_4
           replace hx122_5 := (HB.out.cell (World.block_lt_of_cell? w _ hx122_5)).trans hx122_5
           replace hx122_6 := (HB.out.cell (World.block_lt_of_cell? w _ hx122_6)).trans hx122_6
           replace hx122_7 := (HB.out.cell (World.block_lt_of_cell? w _ hx122_7)).trans hx122_7
           replace hx122_8 := (HB.out.cell (World.block_lt_of_cell? w _ hx122_8)).trans hx122_8
           have HR122_7 := aM hi122_7
           have HC122_7 := aM hl122_7
           clear hi122_7 hl122_7
           replace p122 := eq_true p122
           replace q122 := eq_true q122
           have ea_ := Option.some.inj (hx121_7.symm.trans hx122_7)
           injection ea_ with ea_ en_ ec_
           subst ea_
           subst ec_
           clear en_
           refine sA 13 spec_l8Pack.tab17 spec_l8Pack.bits17 (fun w' => w'.cell? ⟨gb120, 0, none⟩ = some (.int .i64 t111) ∧ w'.cell? ⟨gb120, 1, none⟩ = some (.int .i64 t112) ∧ w'.cell? ⟨gb120, 2, none⟩ = some (.int .i64 t113) ∧ w'.cell? ⟨gb120, 3, none⟩ = some (.int .i64 t114) ∧ w'.cell? ⟨gb120, 4, none⟩ = some (.slice Ao25 t115.length co25) ∧ w'.cell? ⟨gb120, 5, none⟩ = some (.bool t118) ∧ w'.cell? ad101 = some (.string ((rd_T45 l0 0).f0)) ∧ w'.cell? ⟨ad101.block, ad101.off + 1, none⟩ = some (.int .i64 ((rd_T45 l0 0).f1)) ∧ w'.cell? ⟨ad101.block, ad101.off + 2, none⟩ = some (.int .i64 ((rd_T45 l0 0).f2)) ∧ w'.cell? ⟨ad101.block, ad101.off + 3, none⟩ = some (.int .i64 ((rd_T45 l0 0).f3.f0)) ∧ w'.cell? ⟨ad101.block, ad101.off + 4, none⟩ = some (.int .i64 ((rd_T45 l0 0).f3.f1)) ∧ w'.cell? ⟨ad101.block, ad101.off + 5, none⟩ = some (.int .i64 ((rd_T45 l0 0).f3.f2)) ∧ w'.cell? ⟨ad101.block, ad101.off + 6, none⟩ = some (.int .i64 ((rd_T45 l0 0).f3.f3)) ∧ w'.cell? ⟨ad101.block, ad101.off + 7, none⟩ = some (.slice A121_7 ((rd_T45 l0 0).f3.f4).length c121_7) ∧ w'.cell? ⟨ad101.block, ad101.off + 8, none⟩ = some (.bool ((rd_T45 l0 0).f3.f5)) ∧ w'.cell? ad101 = some (.string ((rd_T45 l0 0).f0)) ∧ w'.cell? ⟨ad101.block, ad101.off + 1, none⟩ = some (.int .i64 ((rd_T45 l0 0).f1)) ∧ w'.cell? ⟨ad101.block, ad101.off + 2, none⟩ = some (.int .i64 ((rd_T45 l0 0).f2)) ∧ w'.cell? ⟨ad101.block, ad101.off + 3, none⟩ = some (.int .i64 ((rd_T45 l0 0).f3.f0)) ∧ w'.cell? ⟨ad101.block, ad101.off + 4, none⟩ = some (.int .i64 ((rd_T45 l0 0).f3.f1)) ∧ w'.cell? ⟨ad101.block, ad101.off + 5, none⟩ = some (.int .i64 ((rd_T45 l0 0).f3.f2)) ∧ w'.cell? ⟨ad101.block, ad101.off + 6, none⟩ = some (.int .i64 ((rd_T45 l0 0).f3.f3)) ∧ w'.cell? ⟨ad101.block, ad101.off + 7, none⟩ = some (.slice A121_7 ((rd_T45 l0 0).f3.f4).length c121_7) ∧ w'.cell? ⟨ad101.block, ad101.off + 8, none⟩ = some (.bool ((rd_T45 l0 0).f3.f5))) [] (fun hHeld HT_ HW_ => ?_)
           generalize w26.drew = w27 at HO117 BK120 HB HR121_7 HR122_7 hx121_0 hx121_1 hx121_2 hx121_3 hx121_4 hx121_5 hx121_6 hx121_7 hx121_8 hx122_0 hx122_1 hx122_2 hx122_3 hx122_4 hx122_5 hx122_6 hx122_7 hx122_8 hHeld ⊢
           refine pA 0 47 HT_ ?_; refine pA 1 48 HT_ ?_; refine pA 2 49 HT_ ?_; refine pA 4 51 HT_ ?_; refine pA 5 52 HT_ ?_; refine pA 6 53 HT_ ?_; refine pA 8 55 HT_ ?_; refine tA 3 50 HT_ HW_ hHeld ?_; refine tA 7 54 HT_ HW_ hHeld ?_; refine tA 9 56 HT_ HW_ hHeld ?_; refine pA 10 57 HT_ ?_; refine oA 11 58 HT_ (fun K hK => ?_)
           refine Kd.S_lit1_step k45 _ 45 ?hg (N := 58) ?hd (xs := ([(⟨(rd_T45 l0 0).f0, (rd_T45 l0 0).f1, 1, (⟨t111, t112, t113, t114, t115, t118⟩ : S26)⟩ : S45)] : List (S45))) (inner := [.string ((rd_T45 l0 0).f0), .int .i64 ((rd_T45 l0 0).f1), .int .i64 1, .int .i64 t111, .int .i64 t112, .int .i64 t113, .int .i64 t114, .slice Ao25 t115.length co25, .bool t118]) (ok := (fun _ => True)) (okp := (fun _ => True)) ?hr ?hp (fun _ hk => hk) ((show ∀ k_, w27.heap.size ≤ k_ → (fun _ => True) k_ from fun k_ hk => trivial) _ (Nat.le_refl _)) (Below.refl _ _) (Nat.le_refl _) (by simp) ?_; (case hd => rfl); (case hg => rfl); (case hr => first | (go_simp; done) | (go_simp; rfl)); (case hp => exact (Reps.c9 (show Kd.M k45 _ _ _ (⟨(rd_T45 l0 0).f0, (rd_T45 l0 0).f1, 1, (⟨t111, t112, t113, t114, t115, t118⟩ : S26)⟩ : S45) [.string ((rd_T45 l0 0).f0), .int .i64 ((rd_T45 l0 0).f1), .int .i64 1, .int .i64 t111, .int .i64 t112, .int .i64 t113, .int .i64 t114, .slice Ao25 t115.length co25, .bool t118] from (k45_mkM _ _ _ (⟨(rd_T45 l0 0).f0, (rd_T45 l0 0).f1, 1, (⟨t111, t112, t113, t114, t115, t118⟩ : S26)⟩ : S45) (Kd.R_mono (ok' := (fun _ => True)) (HO117.out) (fun k_ hk => trivial)))) (Reps.none _ _)))
           intro v124 w28 ho29 hb hg_ hnew_
           clear hg_ hnew_
           (first | rw [← Ny123.out] at ho29 | (simp only [Int.reduceToNat] at ho29; rw [← Ny123.out] at ho29))
           have _ := aM ho29
           have _ := bB gb120 hb
           have _ := aM (below_step hbZ hb)
           clear BK120
           clear HB
           clear HO117
           rename_i HO125 BK120 HB
           clear hb ho29
           refine hK.out _ _ sZ (fun hHeld => ?_)
           clear hK K
           refine nA 58 ?_; refine pA 12 4 HT_ ?_
           refine done_ (done_of HT_.out (by kernel_rfl)) ?_
           try go_wp2
           go_ret
           exact ⟨_, z674d, by (with_reducible repeat (first | apply Kd.S_alloc | apply Kd.S_drewN | apply Kd.S_drew)); exact HO125.out, zcb41⟩
         · replace c19 := Bool.eq_false_iff.mpr c19
           subst c19
           rw [if_neg (show ¬ (false = true) by decide)] at H
           by_cases c30 : a1 = true
           · subst c30
             rw [if_pos rfl] at H
             replace H := Option.bind_eq_some_iff.mp H
             obtain ⟨⟨t126, t127, t128, t129, t130, t133, t134⟩, A310, H⟩ := H
             try dsimp only at H
             have A31 := aM A310
             clear A310
             replace H := ifS H; obtain ⟨c32, H⟩ := H
             have c32b0 : decide (0 < (l0.length : Int)) = true := decide_eq_true c32
             have c32b1 : decide (0 < l0.length) = true := decide_eq_true (by omega)
             clear c32
             obtain ⟨y138, hy138⟩ : ∃ y_ : List (S45), y_ = (([(⟨(rd_T45 l0 0).f0, (rd_T45 l0 0).f1, 1, (⟨t126, t127, t128, t129, t130, t133⟩ : S26)⟩ : S45)] : List (S45))) := ⟨_, rfl⟩
             first | (replace H := bindS H; rw [← hy138] at H; try dsimp only at H) | rw [← hy138] at H
             have Ny138 := aM hy138
             clear hy138
             obtain rfl := Option.some.inj H
             try go_wp2_with (first | ((with_reducible refine gate_callee (f := 34) rfl ?_); refine goesL_ (some 44) rfl rfl Try.func34 (by kernel_rfl) rfl #[.slice (some ad101) l0.length c0] rfl zee81 ?_; (with_reducible refine (spec_l5Fold.calls k1 _ _ l0 t126 t127 t128 t129 t130 t133 t134 _ ?side1 ?side2 A31.out).mono ?_); (case side1 => exact (cZ (Kd.C_below HR0.out HB.out))); (case side2 => exact HC0.out); rintro e w33 ⟨v131, rfl, ho0, hb⟩; refine ⟨_, rfl, ?_⟩; have _ := aM (Kd.R_lower ho0 (below_size hbZ)); have _ := aM (below_step hbZ hb); clear HB; rename_i HO132 HB; (try clear hb); (try clear ho0)) | ((with_reducible refine gate_dst (N := 9) rfl ?_); refine box_event ?hg (N := 9) ?hd (cs := #[.int .i64 0, .int .i64 0, .int .i64 0, .int .i64 0, .slice none 0 0, .bool false]) (t := 26) ?hr ?_; (case hd => rfl); (case hg => rfl); (case hr => first | (go_simp; done) | (go_simp; rfl)); intro gb135 hg w34 hbox hb; have _ := aM (Kd.R_below (rZ HO132.out) hb); have _ := aM (below_step hbZ hb); have _ := aM hbox; have _ := szZ hg; have _ := szZ hg; clear HO132 HB; rename_i HO132 HB BK135 GW135 GE135; clear hb hbox hg; obtain ⟨hcz35_0, hcz35_1, hcz35_2, hcz35_3, hcz35_4, hcz35_5, hfz35_0, hfz35_1, hfz35_2, hfz35_3, hfz35_4, hfz35_5⟩ := cellsZ6 BK135.out; obtain ⟨Ao36, co36, eo36⟩ := Kd.R_slice HO132.out; subst eo36))
             have n0_ : Aside0 (Kd.R (Kd.int .i64) 3 ((((((w34.setCell ⟨gb135, 0, none⟩ (.int .i64 t126)).setCell ⟨gb135, 1, none⟩ (.int .i64 t127)).setCell ⟨gb135, 2, none⟩ (.int .i64 t128)).setCell ⟨gb135, 3, none⟩ (.int .i64 t129)).setCell ⟨gb135, 4, none⟩ (.slice Ao36 t130.length co36)).setCell ⟨gb135, 5, none⟩ (.bool t133)) w.heap.size (fun _ => True) (.slice Ao36 t130.length co36) t130) := ⟨by (with_reducible repeat (first | apply Kd.R_alloc | apply Kd.R_drewN | apply Kd.R_drew)); exact Kd.R_mono (Kd.R_far (p := ⟨gb135, 5, none⟩) (Kd.R_far (p := ⟨gb135, 4, none⟩) (Kd.R_far (p := ⟨gb135, 3, none⟩) (Kd.R_far (p := ⟨gb135, 2, none⟩) (Kd.R_far (p := ⟨gb135, 1, none⟩) (Kd.R_far (p := ⟨gb135, 0, none⟩) (Kd.R_types HO132.out BK135.out (by decide)) (fun _ hk => hk.2) (.int .i64 t126)) (fun _ hk => hk.2) (.int .i64 t127)) (fun _ hk => hk.2) (.int .i64 t128)) (fun _ hk => hk.2) (.int .i64 t129)) (fun _ hk => hk.2) (.slice Ao36 t130.length co36)) (fun _ hk => hk.2) (.bool t133)) (fun _ hk => trivial)⟩
             have n1_ : Aside0 (((((((w34.setCell ⟨gb135, 0, none⟩ (.int .i64 t126)).setCell ⟨gb135, 1, none⟩ (.int .i64 t127)).setCell ⟨gb135, 2, none⟩ (.int .i64 t128)).setCell ⟨gb135, 3, none⟩ (.int .i64 t129)).setCell ⟨gb135, 4, none⟩ (.slice Ao36 t130.length co36)).setCell ⟨gb135, 5, none⟩ (.bool t133)).heap[gb135]? = some (.cells #[.int .i64 t126, .int .i64 t127, .int .i64 t128, .int .i64 t129, .slice Ao36 t130.length co36, .bool t133] 26 (0, 0))) := ⟨bkZ⟩
             have n2_ : Aside0 (Below w.heap.size w ((((((w34.setCell ⟨gb135, 0, none⟩ (.int .i64 t126)).setCell ⟨gb135, 1, none⟩ (.int .i64 t127)).setCell ⟨gb135, 2, none⟩ (.int .i64 t128)).setCell ⟨gb135, 3, none⟩ (.int .i64 t129)).setCell ⟨gb135, 4, none⟩ (.slice Ao36 t130.length co36)).setCell ⟨gb135, 5, none⟩ (.bool t133))) := ⟨zcb41⟩
             (try clear HO132)
             (try clear BK135)
             (try clear HB)
             generalize ((((((w34.setCell ⟨gb135, 0, none⟩ (.int .i64 t126)).setCell ⟨gb135, 1, none⟩ (.int .i64 t127)).setCell ⟨gb135, 2, none⟩ (.int .i64 t128)).setCell ⟨gb135, 3, none⟩ (.int .i64 t129)).setCell ⟨gb135, 4, none⟩ (.slice Ao36 t130.length co36)).setCell ⟨gb135, 5, none⟩ (.bool t133)) = w37 at n0_ n1_ n2_ ⊢
             have HO132 := n0_
             have BK135 := n1_
             have HB := n2_
             clear n0_ n1_ n2_
             have _ := aM (Kd.R_drew HO132.out)
             have _ := aM (blk_drew BK135.out)
             have _ := aM (below_drew1 HB.out)
             clear HO132
             clear BK135
             clear HB
             rename_i HO132 BK135 HB
             have p136 : 0 ≤ (0 : Int) := (by omega)
             have q136 : 0 < (l0.length : Int) := of_decide_eq_true z1200
             obtain ⟨ad136, A136_7, c136_7, e136, hx136_0, hx136_1, hx136_2, hx136_3, hx136_4, hx136_5, hx136_6, hx136_7, hx136_8, hl136_7, hi136_7⟩ := at_T45 HR0.out 0 p136 q136
             have hw136_8 := hx136_8
             (try rw [show ((0 : Int)).toNat = 0 from rfl, show 0 * 9 = 0 from rfl, Addr.add_zero'] at hw136_8)
             have hw136_7 := hx136_7
             (try rw [show ((0 : Int)).toNat = 0 from rfl, show 0 * 9 = 0 from rfl, Addr.add_zero'] at hw136_7)
             have hw136_6 := hx136_6
             (try rw [show ((0 : Int)).toNat = 0 from rfl, show 0 * 9 = 0 from rfl, Addr.add_zero'] at hw136_6)
             have hw136_5 := hx136_5
             (try rw [show ((0 : Int)).toNat = 0 from rfl, show 0 * 9 = 0 from rfl, Addr.add_zero'] at hw136_5)
             have hw136_4 := hx136_4
             (try rw [show ((0 : Int)).toNat = 0 from rfl, show 0 * 9 = 0 from rfl, Addr.add_zero'] at hw136_4)
             have hw136_3 := hx136_3
             (try rw [show ((0 : Int)).toNat = 0 from rfl, show 0 * 9 = 0 from rfl, Addr.add_zero'] at hw136_3)
             have hw136_2 := hx136_2
             (try rw [show ((0 : Int)).toNat = 0 from rfl, show 0 * 9 = 0 from rfl, Addr.add_zero'] at hw136_2)
             have hw136_1 := hx136_1
             (try rw [show ((0 : Int)).toNat = 0 from rfl, show 0 * 9 = 0 from rfl, Addr.add_zero'] at hw136_1)
             have hw136_0 := hx136_0
             (try rw [show ((0 : Int)).toNat = 0 from rfl, show 0 * 9 = 0 from rfl, Addr.add_zero'] at hw136_0)
             obtain rfl : ad101 = ad136 := (by injection e136)
             have qi136 : (0 < l0.length) = True := eq_true (by omega)
             (try rw [show ((0 : Int)).toNat = 0 from rfl, show 0 * 9 = 0 from rfl, Addr.add_zero'] at hx136_0 hx136_1 hx136_2 hx136_3 hx136_4 hx136_5 hx136_6 hx136_7 hx136_8)
             (try (have ez_ := hx136_7.symm.trans TW101_7.out; simp only [Option.some.injEq, Value.slice.injEq, true_and] at ez_; obtain ⟨ez1_, ez2_⟩ := ez_; subst ez1_ ez2_))
             (try (have ez_ := hx136_7.symm.trans TW121_7.out; simp only [Option.some.injEq, Value.slice.injEq, true_and] at ez_; obtain ⟨ez1_, ez2_⟩ := ez_; subst ez1_ ez2_))
             have TW136_7 := aM hx136_7
             replace hx136_0 := (HB.out.cell (World.block_lt_of_cell? w _ hx136_0)).trans hx136_0
             replace hx136_1 := (HB.out.cell (World.block_lt_of_cell? w _ hx136_1)).trans hx136_1
             replace hx136_2 := (HB.out.cell (World.block_lt_of_cell? w _ hx136_2)).trans hx136_2
             replace hx136_3 := (HB.out.cell (World.block_lt_of_cell? w _ hx136_3)).trans hx136_3
             replace hx136_4 := (HB.out.cell (World.block_lt_of_cell? w _ hx136_4)).trans hx136_4
             replace hx136_5 := (HB.out.cell (World.block_lt_of_cell? w _ hx136_5)).trans hx136_5
             replace hx136_6 := (HB.out.cell (World.block_lt_of_cell? w _ hx136_6)).trans hx136_6
             replace hx136_7 := (HB.out.cell (World.block_lt_of_cell? w _ hx136_7)).trans hx136_7
             replace hx136_8 := (HB.out.cell (World.block_lt_of_cell? w _ hx136_8)).trans hx136_8
             have HR136_7 := aM hi136_7
             have HC136_7 := aM hl136_7
             clear hi136_7 hl136_7
             replace p136 := eq_true p136
             replace q136 := eq_true q136
             have p137 : 0 ≤ (0 : Int) := (by omega)
             have q137 : 0 < (l0.length : Int) := of_decide_eq_true z1200
             obtain ⟨ad137, A137_7, c137_7, e137, hx137_0, hx137_1, hx137_2, hx137_3, hx137_4, hx137_5, hx137_6, hx137_7, hx137_8, hl137_7, hi137_7⟩ := at_T45 HR0.out 0 p137 q137
             have hw137_8 := hx137_8
             (try rw [show ((0 : Int)).toNat = 0 from rfl, show 0 * 9 = 0 from rfl, Addr.add_zero'] at hw137_8)
             have hw137_7 := hx137_7
             (try rw [show ((0 : Int)).toNat = 0 from rfl, show 0 * 9 = 0 from rfl, Addr.add_zero'] at hw137_7)
             have hw137_6 := hx137_6
             (try rw [show ((0 : Int)).toNat = 0 from rfl, show 0 * 9 = 0 from rfl, Addr.add_zero'] at hw137_6)
             have hw137_5 := hx137_5
             (try rw [show ((0 : Int)).toNat = 0 from rfl, show 0 * 9 = 0 from rfl, Addr.add_zero'] at hw137_5)
             have hw137_4 := hx137_4
             (try rw [show ((0 : Int)).toNat = 0 from rfl, show 0 * 9 = 0 from rfl, Addr.add_zero'] at hw137_4)
             have hw137_3 := hx137_3
             (try rw [show ((0 : Int)).toNat = 0 from rfl, show 0 * 9 = 0 from rfl, Addr.add_zero'] at hw137_3)
             have hw137_2 := hx137_2
             (try rw [show ((0 : Int)).toNat = 0 from rfl, show 0 * 9 = 0 from rfl, Addr.add_zero'] at hw137_2)
             have hw137_1 := hx137_1
             (try rw [show ((0 : Int)).toNat = 0 from rfl, show 0 * 9 = 0 from rfl, Addr.add_zero'] at hw137_1)
             have hw137_0 := hx137_0
             (try rw [show ((0 : Int)).toNat = 0 from rfl, show 0 * 9 = 0 from rfl, Addr.add_zero'] at hw137_0)
             obtain rfl : ad101 = ad137 := (by injection e137)
             have qi137 : (0 < l0.length) = True := eq_true (by omega)
             (try rw [show ((0 : Int)).toNat = 0 from rfl, show 0 * 9 = 0 from rfl, Addr.add_zero'] at hx137_0 hx137_1 hx137_2 hx137_3 hx137_4 hx137_5 hx137_6 hx137_7 hx137_8)
             replace hx137_0 := (HB.out.cell (World.block_lt_of_cell? w _ hx137_0)).trans hx137_0
             replace hx137_1 := (HB.out.cell (World.block_lt_of_cell? w _ hx137_1)).trans hx137_1
             replace hx137_2 := (HB.out.cell (World.block_lt_of_cell? w _ hx137_2)).trans hx137_2
             replace hx137_3 := (HB.out.cell (World.block_lt_of_cell? w _ hx137_3)).trans hx137_3
             replace hx137_4 := (HB.out.cell (World.block_lt_of_cell? w _ hx137_4)).trans hx137_4
             replace hx137_5 := (HB.out.cell (World.block_lt_of_cell? w _ hx137_5)).trans hx137_5
             replace hx137_6 := (HB.out.cell (World.block_lt_of_cell? w _ hx137_6)).trans hx137_6
             replace hx137_7 := (HB.out.cell (World.block_lt_of_cell? w _ hx137_7)).trans hx137_7
             replace hx137_8 := (HB.out.cell (World.block_lt_of_cell? w _ hx137_8)).trans hx137_8
             have HR137_7 := aM hi137_7
             have HC137_7 := aM hl137_7
             clear hi137_7 hl137_7
             replace p137 := eq_true p137
             replace q137 := eq_true q137
             have ea_ := Option.some.inj (hx136_7.symm.trans hx137_7)
             injection ea_ with ea_ en_ ec_
             subst ea_
             subst ec_
             clear en_
             refine sA 13 spec_l8Pack.tab17 spec_l8Pack.bits17 (fun w' => w'.cell? ⟨gb135, 0, none⟩ = some (.int .i64 t126) ∧ w'.cell? ⟨gb135, 1, none⟩ = some (.int .i64 t127) ∧ w'.cell? ⟨gb135, 2, none⟩ = some (.int .i64 t128) ∧ w'.cell? ⟨gb135, 3, none⟩ = some (.int .i64 t129) ∧ w'.cell? ⟨gb135, 4, none⟩ = some (.slice Ao36 t130.length co36) ∧ w'.cell? ⟨gb135, 5, none⟩ = some (.bool t133) ∧ w'.cell? ad101 = some (.string ((rd_T45 l0 0).f0)) ∧ w'.cell? ⟨ad101.block, ad101.off + 1, none⟩ = some (.int .i64 ((rd_T45 l0 0).f1)) ∧ w'.cell? ⟨ad101.block, ad101.off + 2, none⟩ = some (.int .i64 ((rd_T45 l0 0).f2)) ∧ w'.cell? ⟨ad101.block, ad101.off + 3, none⟩ = some (.int .i64 ((rd_T45 l0 0).f3.f0)) ∧ w'.cell? ⟨ad101.block, ad101.off + 4, none⟩ = some (.int .i64 ((rd_T45 l0 0).f3.f1)) ∧ w'.cell? ⟨ad101.block, ad101.off + 5, none⟩ = some (.int .i64 ((rd_T45 l0 0).f3.f2)) ∧ w'.cell? ⟨ad101.block, ad101.off + 6, none⟩ = some (.int .i64 ((rd_T45 l0 0).f3.f3)) ∧ w'.cell? ⟨ad101.block, ad101.off + 7, none⟩ = some (.slice A136_7 ((rd_T45 l0 0).f3.f4).length c136_7) ∧ w'.cell? ⟨ad101.block, ad101.off + 8, none⟩ = some (.bool ((rd_T45 l0 0).f3.f5)) ∧ w'.cell? ad101 = some (.string ((rd_T45 l0 0).f0)) ∧ w'.cell? ⟨ad101.block, ad101.off + 1, none⟩ = some (.int .i64 ((rd_T45 l0 0).f1)) ∧ w'.cell? ⟨ad101.block, ad101.off + 2, none⟩ = some (.int .i64 ((rd_T45 l0 0).f2)) ∧ w'.cell? ⟨ad101.block, ad101.off + 3, none⟩ = some (.int .i64 ((rd_T45 l0 0).f3.f0)) ∧ w'.cell? ⟨ad101.block, ad101.off + 4, none⟩ = some (.int .i64 ((rd_T45 l0 0).f3.f1)) ∧ w'.cell? ⟨ad101.block, ad101.off + 5, none⟩ = some (.int .i64 ((rd_T45 l0 0).f3.f2)) ∧ w'.cell? ⟨ad101.block, ad101.off + 6, none⟩ = some (.int .i64 ((rd_T45 l0 0).f3.f3)) ∧ w'.cell? ⟨ad101.block, ad101.off + 7, none⟩ = some (.slice A136_7 ((rd_T45 l0 0).f3.f4).length c136_7) ∧ w'.cell? ⟨ad101.block, ad101.off + 8, none⟩ = some (.bool ((rd_T45 l0 0).f3.f5))) [] (fun hHeld HT_ HW_ => ?_)
             generalize w37.drew = w38 at HO132 BK135 HB HR136_7 HR137_7 hx136_0 hx136_1 hx136_2 hx136_3 hx136_4 hx136_5 hx136_6 hx136_7 hx136_8 hx137_0 hx137_1 hx137_2 hx137_3 hx137_4 hx137_5 hx137_6 hx137_7 hx137_8 hHeld ⊢
             refine pA 0 47 HT_ ?_; refine pA 1 48 HT_ ?_; refine pA 2 49 HT_ ?_; refine pA 4 51 HT_ ?_; refine pA 5 52 HT_ ?_; refine pA 6 53 HT_ ?_; refine pA 8 55 HT_ ?_; refine tA 3 50 HT_ HW_ hHeld ?_; refine tA 7 54 HT_ HW_ hHeld ?_; refine tA 9 56 HT_ HW_ hHeld ?_; refine pA 10 57 HT_ ?_; refine oA 11 58 HT_ (fun K hK => ?_)
             refine Kd.S_lit1_step k45 _ 45 ?hg (N := 58) ?hd (xs := ([(⟨(rd_T45 l0 0).f0, (rd_T45 l0 0).f1, 1, (⟨t126, t127, t128, t129, t130, t133⟩ : S26)⟩ : S45)] : List (S45))) (inner := [.string ((rd_T45 l0 0).f0), .int .i64 ((rd_T45 l0 0).f1), .int .i64 1, .int .i64 t126, .int .i64 t127, .int .i64 t128, .int .i64 t129, .slice Ao36 t130.length co36, .bool t133]) (ok := (fun _ => True)) (okp := (fun _ => True)) ?hr ?hp (fun _ hk => hk) ((show ∀ k_, w38.heap.size ≤ k_ → (fun _ => True) k_ from fun k_ hk => trivial) _ (Nat.le_refl _)) (Below.refl _ _) (Nat.le_refl _) (by simp) ?_; (case hd => rfl); (case hg => rfl); (case hr => first | (go_simp; done) | (go_simp; rfl)); (case hp => exact (Reps.c9 (show Kd.M k45 _ _ _ (⟨(rd_T45 l0 0).f0, (rd_T45 l0 0).f1, 1, (⟨t126, t127, t128, t129, t130, t133⟩ : S26)⟩ : S45) [.string ((rd_T45 l0 0).f0), .int .i64 ((rd_T45 l0 0).f1), .int .i64 1, .int .i64 t126, .int .i64 t127, .int .i64 t128, .int .i64 t129, .slice Ao36 t130.length co36, .bool t133] from (k45_mkM _ _ _ (⟨(rd_T45 l0 0).f0, (rd_T45 l0 0).f1, 1, (⟨t126, t127, t128, t129, t130, t133⟩ : S26)⟩ : S45) (Kd.R_mono (ok' := (fun _ => True)) (HO132.out) (fun k_ hk => trivial)))) (Reps.none _ _)))
             intro v139 w39 ho40 hb hg_ hnew_
             clear hg_ hnew_
             (first | rw [← Ny138.out] at ho40 | (simp only [Int.reduceToNat] at ho40; rw [← Ny138.out] at ho40))
             have _ := aM ho40
             have _ := bB gb135 hb
             have _ := aM (below_step hbZ hb)
             clear BK135
             clear HB
             clear HO132
             rename_i HO140 BK135 HB
             clear hb ho40
             refine hK.out _ _ sZ (fun hHeld => ?_)
             clear hK K
             refine nA 58 ?_; refine pA 12 4 HT_ ?_
             refine done_ (done_of HT_.out (by kernel_rfl)) ?_
             try go_wp2
             go_ret
             exact ⟨_, z674d, by (with_reducible repeat (first | apply Kd.S_alloc | apply Kd.S_drewN | apply Kd.S_drew)); exact HO140.out, zcb41⟩
           · replace c30 := Bool.eq_false_iff.mpr c30
             subst c30
             rw [if_neg (show ¬ (false = true) by decide)] at H
             replace H := Option.bind_eq_some_iff.mp H
             obtain ⟨⟨t141, t142, t143, t144, t145, t148, t149⟩, A410, H⟩ := H
             try dsimp only at H
             have A41 := aM A410
             clear A410
             replace H := ifS H; obtain ⟨c42, H⟩ := H
             have c42b0 : decide (0 < (l0.length : Int)) = true := decide_eq_true c42
             have c42b1 : decide (0 < l0.length) = true := decide_eq_true (by omega)
             clear c42
             obtain ⟨y153, hy153⟩ : ∃ y_ : List (S45), y_ = (([(⟨(rd_T45 l0 0).f0, (rd_T45 l0 0).f1, 3, (⟨t141, t142, t143, t144, t145, t148⟩ : S26)⟩ : S45)] : List (S45))) := ⟨_, rfl⟩
             first | (replace H := bindS H; rw [← hy153] at H; try dsimp only at H) | rw [← hy153] at H
             have Ny153 := aM hy153
             clear hy153
             obtain rfl := Option.some.inj H
             try go_wp2_with (first | ((with_reducible refine gate_callee (f := 34) rfl ?_); refine goesL_ (some 44) rfl rfl Try.func34 (by kernel_rfl) rfl #[.slice (some ad101) l0.length c0] rfl zee81 ?_; (with_reducible refine (spec_l5Fold.calls k1 _ _ l0 t141 t142 t143 t144 t145 t148 t149 _ ?side1 ?side2 A41.out).mono ?_); (case side1 => exact (cZ (Kd.C_below HR0.out HB.out))); (case side2 => exact HC0.out); rintro e w43 ⟨v146, rfl, ho0, hb⟩; refine ⟨_, rfl, ?_⟩; have _ := aM (Kd.R_lower ho0 (below_size hbZ)); have _ := aM (below_step hbZ hb); clear HB; rename_i HO147 HB; (try clear hb); (try clear ho0)) | ((with_reducible refine gate_dst (N := 9) rfl ?_); refine box_event ?hg (N := 9) ?hd (cs := #[.int .i64 0, .int .i64 0, .int .i64 0, .int .i64 0, .slice none 0 0, .bool false]) (t := 26) ?hr ?_; (case hd => rfl); (case hg => rfl); (case hr => first | (go_simp; done) | (go_simp; rfl)); intro gb150 hg w44 hbox hb; have _ := aM (Kd.R_below (rZ HO147.out) hb); have _ := aM (below_step hbZ hb); have _ := aM hbox; have _ := szZ hg; have _ := szZ hg; clear HO147 HB; rename_i HO147 HB BK150 GW150 GE150; clear hb hbox hg; obtain ⟨hcz45_0, hcz45_1, hcz45_2, hcz45_3, hcz45_4, hcz45_5, hfz45_0, hfz45_1, hfz45_2, hfz45_3, hfz45_4, hfz45_5⟩ := cellsZ6 BK150.out; obtain ⟨Ao46, co46, eo46⟩ := Kd.R_slice HO147.out; subst eo46))
             have n0_ : Aside0 (Kd.R (Kd.int .i64) 3 ((((((w44.setCell ⟨gb150, 0, none⟩ (.int .i64 t141)).setCell ⟨gb150, 1, none⟩ (.int .i64 t142)).setCell ⟨gb150, 2, none⟩ (.int .i64 t143)).setCell ⟨gb150, 3, none⟩ (.int .i64 t144)).setCell ⟨gb150, 4, none⟩ (.slice Ao46 t145.length co46)).setCell ⟨gb150, 5, none⟩ (.bool t148)) w.heap.size (fun _ => True) (.slice Ao46 t145.length co46) t145) := ⟨by (with_reducible repeat (first | apply Kd.R_alloc | apply Kd.R_drewN | apply Kd.R_drew)); exact Kd.R_mono (Kd.R_far (p := ⟨gb150, 5, none⟩) (Kd.R_far (p := ⟨gb150, 4, none⟩) (Kd.R_far (p := ⟨gb150, 3, none⟩) (Kd.R_far (p := ⟨gb150, 2, none⟩) (Kd.R_far (p := ⟨gb150, 1, none⟩) (Kd.R_far (p := ⟨gb150, 0, none⟩) (Kd.R_types HO147.out BK150.out (by decide)) (fun _ hk => hk.2) (.int .i64 t141)) (fun _ hk => hk.2) (.int .i64 t142)) (fun _ hk => hk.2) (.int .i64 t143)) (fun _ hk => hk.2) (.int .i64 t144)) (fun _ hk => hk.2) (.slice Ao46 t145.length co46)) (fun _ hk => hk.2) (.bool t148)) (fun _ hk => trivial)⟩
             have n1_ : Aside0 (((((((w44.setCell ⟨gb150, 0, none⟩ (.int .i64 t141)).setCell ⟨gb150, 1, none⟩ (.int .i64 t142)).setCell ⟨gb150, 2, none⟩ (.int .i64 t143)).setCell ⟨gb150, 3, none⟩ (.int .i64 t144)).setCell ⟨gb150, 4, none⟩ (.slice Ao46 t145.length co46)).setCell ⟨gb150, 5, none⟩ (.bool t148)).heap[gb150]? = some (.cells #[.int .i64 t141, .int .i64 t142, .int .i64 t143, .int .i64 t144, .slice Ao46 t145.length co46, .bool t148] 26 (0, 0))) := ⟨bkZ⟩
             have n2_ : Aside0 (Below w.heap.size w ((((((w44.setCell ⟨gb150, 0, none⟩ (.int .i64 t141)).setCell ⟨gb150, 1, none⟩ (.int .i64 t142)).setCell ⟨gb150, 2, none⟩ (.int .i64 t143)).setCell ⟨gb150, 3, none⟩ (.int .i64 t144)).setCell ⟨gb150, 4, none⟩ (.slice Ao46 t145.length co46)).setCell ⟨gb150, 5, none⟩ (.bool t148))) := ⟨zcb41⟩
             (try clear HO147)
             (try clear BK150)
             (try clear HB)
             generalize ((((((w44.setCell ⟨gb150, 0, none⟩ (.int .i64 t141)).setCell ⟨gb150, 1, none⟩ (.int .i64 t142)).setCell ⟨gb150, 2, none⟩ (.int .i64 t143)).setCell ⟨gb150, 3, none⟩ (.int .i64 t144)).setCell ⟨gb150, 4, none⟩ (.slice Ao46 t145.length co46)).setCell ⟨gb150, 5, none⟩ (.bool t148)) = w47 at n0_ n1_ n2_ ⊢
             have HO147 := n0_
             have BK150 := n1_
             have HB := n2_
             clear n0_ n1_ n2_
             have _ := aM (Kd.R_drew HO147.out)
             have _ := aM (blk_drew BK150.out)
             have _ := aM (below_drew1 HB.out)
             clear HO147
             clear BK150
             clear HB
             rename_i HO147 BK150 HB
             have p151 : 0 ≤ (0 : Int) := (by omega)
             have q151 : 0 < (l0.length : Int) := of_decide_eq_true z1200
             obtain ⟨ad151, A151_7, c151_7, e151, hx151_0, hx151_1, hx151_2, hx151_3, hx151_4, hx151_5, hx151_6, hx151_7, hx151_8, hl151_7, hi151_7⟩ := at_T45 HR0.out 0 p151 q151
             have hw151_8 := hx151_8
             (try rw [show ((0 : Int)).toNat = 0 from rfl, show 0 * 9 = 0 from rfl, Addr.add_zero'] at hw151_8)
             have hw151_7 := hx151_7
             (try rw [show ((0 : Int)).toNat = 0 from rfl, show 0 * 9 = 0 from rfl, Addr.add_zero'] at hw151_7)
             have hw151_6 := hx151_6
             (try rw [show ((0 : Int)).toNat = 0 from rfl, show 0 * 9 = 0 from rfl, Addr.add_zero'] at hw151_6)
             have hw151_5 := hx151_5
             (try rw [show ((0 : Int)).toNat = 0 from rfl, show 0 * 9 = 0 from rfl, Addr.add_zero'] at hw151_5)
             have hw151_4 := hx151_4
             (try rw [show ((0 : Int)).toNat = 0 from rfl, show 0 * 9 = 0 from rfl, Addr.add_zero'] at hw151_4)
             have hw151_3 := hx151_3
             (try rw [show ((0 : Int)).toNat = 0 from rfl, show 0 * 9 = 0 from rfl, Addr.add_zero'] at hw151_3)
             have hw151_2 := hx151_2
             (try rw [show ((0 : Int)).toNat = 0 from rfl, show 0 * 9 = 0 from rfl, Addr.add_zero'] at hw151_2)
             have hw151_1 := hx151_1
             (try rw [show ((0 : Int)).toNat = 0 from rfl, show 0 * 9 = 0 from rfl, Addr.add_zero'] at hw151_1)
             have hw151_0 := hx151_0
             (try rw [show ((0 : Int)).toNat = 0 from rfl, show 0 * 9 = 0 from rfl, Addr.add_zero'] at hw151_0)
             obtain rfl : ad101 = ad151 := (by injection e151)
             have qi151 : (0 < l0.length) = True := eq_true (by omega)
             (try rw [show ((0 : Int)).toNat = 0 from rfl, show 0 * 9 = 0 from rfl, Addr.add_zero'] at hx151_0 hx151_1 hx151_2 hx151_3 hx151_4 hx151_5 hx151_6 hx151_7 hx151_8)
             (try (have ez_ := hx151_7.symm.trans TW101_7.out; simp only [Option.some.injEq, Value.slice.injEq, true_and] at ez_; obtain ⟨ez1_, ez2_⟩ := ez_; subst ez1_ ez2_))
             (try (have ez_ := hx151_7.symm.trans TW121_7.out; simp only [Option.some.injEq, Value.slice.injEq, true_and] at ez_; obtain ⟨ez1_, ez2_⟩ := ez_; subst ez1_ ez2_))
             (try (have ez_ := hx151_7.symm.trans TW136_7.out; simp only [Option.some.injEq, Value.slice.injEq, true_and] at ez_; obtain ⟨ez1_, ez2_⟩ := ez_; subst ez1_ ez2_))
             have TW151_7 := aM hx151_7
             replace hx151_0 := (HB.out.cell (World.block_lt_of_cell? w _ hx151_0)).trans hx151_0
             replace hx151_1 := (HB.out.cell (World.block_lt_of_cell? w _ hx151_1)).trans hx151_1
             replace hx151_2 := (HB.out.cell (World.block_lt_of_cell? w _ hx151_2)).trans hx151_2
             replace hx151_3 := (HB.out.cell (World.block_lt_of_cell? w _ hx151_3)).trans hx151_3
             replace hx151_4 := (HB.out.cell (World.block_lt_of_cell? w _ hx151_4)).trans hx151_4
             replace hx151_5 := (HB.out.cell (World.block_lt_of_cell? w _ hx151_5)).trans hx151_5
             replace hx151_6 := (HB.out.cell (World.block_lt_of_cell? w _ hx151_6)).trans hx151_6
             replace hx151_7 := (HB.out.cell (World.block_lt_of_cell? w _ hx151_7)).trans hx151_7
             replace hx151_8 := (HB.out.cell (World.block_lt_of_cell? w _ hx151_8)).trans hx151_8
             have HR151_7 := aM hi151_7
             have HC151_7 := aM hl151_7
             clear hi151_7 hl151_7
             replace p151 := eq_true p151
             replace q151 := eq_true q151
             have p152 : 0 ≤ (0 : Int) := (by omega)
             have q152 : 0 < (l0.length : Int) := of_decide_eq_true z1200
             obtain ⟨ad152, A152_7, c152_7, e152, hx152_0, hx152_1, hx152_2, hx152_3, hx152_4, hx152_5, hx152_6, hx152_7, hx152_8, hl152_7, hi152_7⟩ := at_T45 HR0.out 0 p152 q152
             have hw152_8 := hx152_8
             (try rw [show ((0 : Int)).toNat = 0 from rfl, show 0 * 9 = 0 from rfl, Addr.add_zero'] at hw152_8)
             have hw152_7 := hx152_7
             (try rw [show ((0 : Int)).toNat = 0 from rfl, show 0 * 9 = 0 from rfl, Addr.add_zero'] at hw152_7)
             have hw152_6 := hx152_6
             (try rw [show ((0 : Int)).toNat = 0 from rfl, show 0 * 9 = 0 from rfl, Addr.add_zero'] at hw152_6)
             have hw152_5 := hx152_5
             (try rw [show ((0 : Int)).toNat = 0 from rfl, show 0 * 9 = 0 from rfl, Addr.add_zero'] at hw152_5)
             have hw152_4 := hx152_4
             (try rw [show ((0 : Int)).toNat = 0 from rfl, show 0 * 9 = 0 from rfl, Addr.add_zero'] at hw152_4)
             have hw152_3 := hx152_3
             (try rw [show ((0 : Int)).toNat = 0 from rfl, show 0 * 9 = 0 from rfl, Addr.add_zero'] at hw152_3)
             have hw152_2 := hx152_2
             (try rw [show ((0 : Int)).toNat = 0 from rfl, show 0 * 9 = 0 from rfl, Addr.add_zero'] at hw152_2)
             have hw152_1 := hx152_1
             (try rw [show ((0 : Int)).toNat = 0 from rfl, show 0 * 9 = 0 from rfl, Addr.add_zero'] at hw152_1)
             have hw152_0 := hx152_0
             (try rw [show ((0 : Int)).toNat = 0 from rfl, show 0 * 9 = 0 from rfl, Addr.add_zero'] at hw152_0)
             obtain rfl : ad101 = ad152 := (by injection e152)
             have qi152 : (0 < l0.length) = True := eq_true (by omega)
             (try rw [show ((0 : Int)).toNat = 0 from rfl, show 0 * 9 = 0 from rfl, Addr.add_zero'] at hx152_0 hx152_1 hx152_2 hx152_3 hx152_4 hx152_5 hx152_6 hx152_7 hx152_8)
             replace hx152_0 := (HB.out.cell (World.block_lt_of_cell? w _ hx152_0)).trans hx152_0
             replace hx152_1 := (HB.out.cell (World.block_lt_of_cell? w _ hx152_1)).trans hx152_1
             replace hx152_2 := (HB.out.cell (World.block_lt_of_cell? w _ hx152_2)).trans hx152_2
             replace hx152_3 := (HB.out.cell (World.block_lt_of_cell? w _ hx152_3)).trans hx152_3
             replace hx152_4 := (HB.out.cell (World.block_lt_of_cell? w _ hx152_4)).trans hx152_4
             replace hx152_5 := (HB.out.cell (World.block_lt_of_cell? w _ hx152_5)).trans hx152_5
             replace hx152_6 := (HB.out.cell (World.block_lt_of_cell? w _ hx152_6)).trans hx152_6
             replace hx152_7 := (HB.out.cell (World.block_lt_of_cell? w _ hx152_7)).trans hx152_7
             replace hx152_8 := (HB.out.cell (World.block_lt_of_cell? w _ hx152_8)).trans hx152_8
             have HR152_7 := aM hi152_7
             have HC152_7 := aM hl152_7
             clear hi152_7 hl152_7
             replace p152 := eq_true p152
             replace q152 := eq_true q152
             have ea_ := Option.some.inj (hx151_7.symm.trans hx152_7)
             injection ea_ with ea_ en_ ec_
             subst ea_
             subst ec_
             clear en_
             refine sA 13 spec_l8Pack.tab17 spec_l8Pack.bits17 (fun w' => w'.cell? ⟨gb150, 0, none⟩ = some (.int .i64 t141) ∧ w'.cell? ⟨gb150, 1, none⟩ = some (.int .i64 t142) ∧ w'.cell? ⟨gb150, 2, none⟩ = some (.int .i64 t143) ∧ w'.cell? ⟨gb150, 3, none⟩ = some (.int .i64 t144) ∧ w'.cell? ⟨gb150, 4, none⟩ = some (.slice Ao46 t145.length co46) ∧ w'.cell? ⟨gb150, 5, none⟩ = some (.bool t148) ∧ w'.cell? ad101 = some (.string ((rd_T45 l0 0).f0)) ∧ w'.cell? ⟨ad101.block, ad101.off + 1, none⟩ = some (.int .i64 ((rd_T45 l0 0).f1)) ∧ w'.cell? ⟨ad101.block, ad101.off + 2, none⟩ = some (.int .i64 ((rd_T45 l0 0).f2)) ∧ w'.cell? ⟨ad101.block, ad101.off + 3, none⟩ = some (.int .i64 ((rd_T45 l0 0).f3.f0)) ∧ w'.cell? ⟨ad101.block, ad101.off + 4, none⟩ = some (.int .i64 ((rd_T45 l0 0).f3.f1)) ∧ w'.cell? ⟨ad101.block, ad101.off + 5, none⟩ = some (.int .i64 ((rd_T45 l0 0).f3.f2)) ∧ w'.cell? ⟨ad101.block, ad101.off + 6, none⟩ = some (.int .i64 ((rd_T45 l0 0).f3.f3)) ∧ w'.cell? ⟨ad101.block, ad101.off + 7, none⟩ = some (.slice A151_7 ((rd_T45 l0 0).f3.f4).length c151_7) ∧ w'.cell? ⟨ad101.block, ad101.off + 8, none⟩ = some (.bool ((rd_T45 l0 0).f3.f5)) ∧ w'.cell? ad101 = some (.string ((rd_T45 l0 0).f0)) ∧ w'.cell? ⟨ad101.block, ad101.off + 1, none⟩ = some (.int .i64 ((rd_T45 l0 0).f1)) ∧ w'.cell? ⟨ad101.block, ad101.off + 2, none⟩ = some (.int .i64 ((rd_T45 l0 0).f2)) ∧ w'.cell? ⟨ad101.block, ad101.off + 3, none⟩ = some (.int .i64 ((rd_T45 l0 0).f3.f0)) ∧ w'.cell? ⟨ad101.block, ad101.off + 4, none⟩ = some (.int .i64 ((rd_T45 l0 0).f3.f1)) ∧ w'.cell? ⟨ad101.block, ad101.off + 5, none⟩ = some (.int .i64 ((rd_T45 l0 0).f3.f2)) ∧ w'.cell? ⟨ad101.block, ad101.off + 6, none⟩ = some (.int .i64 ((rd_T45 l0 0).f3.f3)) ∧ w'.cell? ⟨ad101.block, ad101.off + 7, none⟩ = some (.slice A151_7 ((rd_T45 l0 0).f3.f4).length c151_7) ∧ w'.cell? ⟨ad101.block, ad101.off + 8, none⟩ = some (.bool ((rd_T45 l0 0).f3.f5))) [] (fun hHeld HT_ HW_ => ?_)
             generalize w47.drew = w48 at HO147 BK150 HB HR151_7 HR152_7 hx151_0 hx151_1 hx151_2 hx151_3 hx151_4 hx151_5 hx151_6 hx151_7 hx151_8 hx152_0 hx152_1 hx152_2 hx152_3 hx152_4 hx152_5 hx152_6 hx152_7 hx152_8 hHeld ⊢
             refine pA 0 47 HT_ ?_; refine pA 1 48 HT_ ?_; refine pA 2 49 HT_ ?_; refine pA 4 51 HT_ ?_; refine pA 5 52 HT_ ?_; refine pA 6 53 HT_ ?_; refine pA 8 55 HT_ ?_; refine tA 3 50 HT_ HW_ hHeld ?_; refine tA 7 54 HT_ HW_ hHeld ?_; refine tA 9 56 HT_ HW_ hHeld ?_; refine pA 10 57 HT_ ?_; refine oA 11 58 HT_ (fun K hK => ?_)
             refine Kd.S_lit1_step k45 _ 45 ?hg (N := 58) ?hd (xs := ([(⟨(rd_T45 l0 0).f0, (rd_T45 l0 0).f1, 3, (⟨t141, t142, t143, t144, t145, t148⟩ : S26)⟩ : S45)] : List (S45))) (inner := [.string ((rd_T45 l0 0).f0), .int .i64 ((rd_T45 l0 0).f1), .int .i64 3, .int .i64 t141, .int .i64 t142, .int .i64 t143, .int .i64 t144, .slice Ao46 t145.length co46, .bool t148]) (ok := (fun _ => True)) (okp := (fun _ => True)) ?hr ?hp (fun _ hk => hk) ((show ∀ k_, w48.heap.size ≤ k_ → (fun _ => True) k_ from fun k_ hk => trivial) _ (Nat.le_refl _)) (Below.refl _ _) (Nat.le_refl _) (by simp) ?_; (case hd => rfl); (case hg => rfl); (case hr => first | (go_simp; done) | (go_simp; rfl)); (case hp => exact (Reps.c9 (show Kd.M k45 _ _ _ (⟨(rd_T45 l0 0).f0, (rd_T45 l0 0).f1, 3, (⟨t141, t142, t143, t144, t145, t148⟩ : S26)⟩ : S45) [.string ((rd_T45 l0 0).f0), .int .i64 ((rd_T45 l0 0).f1), .int .i64 3, .int .i64 t141, .int .i64 t142, .int .i64 t143, .int .i64 t144, .slice Ao46 t145.length co46, .bool t148] from (k45_mkM _ _ _ (⟨(rd_T45 l0 0).f0, (rd_T45 l0 0).f1, 3, (⟨t141, t142, t143, t144, t145, t148⟩ : S26)⟩ : S45) (Kd.R_mono (ok' := (fun _ => True)) (HO147.out) (fun k_ hk => trivial)))) (Reps.none _ _)))
             intro v154 w49 ho50 hb hg_ hnew_
             clear hg_ hnew_
             (first | rw [← Ny153.out] at ho50 | (simp only [Int.reduceToNat] at ho50; rw [← Ny153.out] at ho50))
             have _ := aM ho50
             have _ := bB gb150 hb
             have _ := aM (below_step hbZ hb)
             clear BK150
             clear HB
             clear HO147
             rename_i HO155 BK150 HB
             clear hb ho50
             refine hK.out _ _ sZ (fun hHeld => ?_)
             clear hK K
             refine nA 58 ?_; refine pA 12 4 HT_ ?_
             refine done_ (done_of HT_.out (by kernel_rfl)) ?_
             try go_wp2
             go_ret
             exact ⟨_, z674d, by (with_reducible repeat (first | apply Kd.S_alloc | apply Kd.S_drewN | apply Kd.S_drew)); exact HO155.out, zcb41⟩
end Go.Proofs.Ytdkokfnnebdppaa.P
