/- Part 5 of the walks and words that GoodB uses. No conditions of its own. -/
import Derived.Test.YteogadaloebdaaaDoorMGoodB4

-- written by a program of this session's (wip/pp)
namespace Go.Proofs.YteogadaloebdaaaDoor.P
open Go.RowKit Go.Proofs.YteogadaloebdaaaDoorW.PrintWords Go.Proofs.YteogadaloebdaaaDoorW.PrintLast Go.Proofs.YteogadaloebdaaaDoorW.PrintMore
attribute [local go_sem] max2_int min2_int max_two min_two max_three min_three max_four min_four str_geq str_gtr str_leq   -- for this text's walks alone
set_option linter.unusedVariables false
set_option linter.unusedSimpArgs false

/-! ### impl_GoodBoard: function 26 -/
mutual
def impl_GoodBoard.j0 : Nat → Bool → Int → Int → Int → List (S97) → Option (Bool)
 | 0, _, _, _, _, _ => none
 | k + 1, x26, x102000, x102001, x102002, x102003 => if x26 = true then (some false) else (impl_GoodBoard.l0 k x102003 (x102003.length : Int) 0 x102000 x102001 x102002 x102003)
def impl_GoodBoard.l0 : Nat → List (S97) → Int → Int → Int → Int → Int → List (S97) → Option (Bool)
 | 0, _, _, _, _, _, _, _ => none
 | k + 1, x28, x29, x30, x102000, x102001, x102002, x102003 => if x30 < x29 then (if 0 ≤ x30 then (if x30 < (x28.length : Int) then ((impl_GoodKey.f k ((rd_T97 x28 x30).f0.f0) ((rd_T97 x28 x30).f0.f1) ((rd_T97 x28 x30).f0.f2)).bind fun t107 => (if t107 = true then (if x102000 = 0 then (none) else (if (Int.tmod ((rd_T97 x28 x30).f0.f2) x102000) = 0 then ((impl_GoodAgg.f k ((rd_T97 x28 x30).f1.f0) ((rd_T97 x28 x30).f1.f1) ((rd_T97 x28 x30).f1.f2) ((rd_T97 x28 x30).f1.f3) ((rd_T97 x28 x30).f1.f4) ((rd_T97 x28 x30).f1.f5)).bind fun t108 => (if t108 = true then (if ((rd_T97 x28 x30).f1.f0) = 0 then (impl_GoodBoard.j2 k x30 x28 x29 x30 true x102000 x102001 x102002 x102003 ((rd_T97 x28 x30).f0.f0) ((rd_T97 x28 x30).f0.f1) ((rd_T97 x28 x30).f0.f2) ((rd_T97 x28 x30).f1.f0) ((rd_T97 x28 x30).f1.f1) ((rd_T97 x28 x30).f1.f2) ((rd_T97 x28 x30).f1.f3) ((rd_T97 x28 x30).f1.f4) ((rd_T97 x28 x30).f1.f5) ((rd_T97 x28 x30).f2) ((rd_T97 x28 x30).f3)) else ((impl_within.f ((rd_T97 x28 x30).f2) 0 1000000).bind fun t109 => (if t109 = true then (if ((rd_T97 x28 x30).f2) = 0 then (impl_GoodBoard.j2 k x30 x28 x29 x30 (!((rd_T97 x28 x30).f3)) x102000 x102001 x102002 x102003 ((rd_T97 x28 x30).f0.f0) ((rd_T97 x28 x30).f0.f1) ((rd_T97 x28 x30).f0.f2) ((rd_T97 x28 x30).f1.f0) ((rd_T97 x28 x30).f1.f1) ((rd_T97 x28 x30).f1.f2) ((rd_T97 x28 x30).f1.f3) ((rd_T97 x28 x30).f1.f4) ((rd_T97 x28 x30).f1.f5) ((rd_T97 x28 x30).f2) ((rd_T97 x28 x30).f3)) else (impl_GoodBoard.j2 k x30 x28 x29 x30 false x102000 x102001 x102002 x102003 ((rd_T97 x28 x30).f0.f0) ((rd_T97 x28 x30).f0.f1) ((rd_T97 x28 x30).f0.f2) ((rd_T97 x28 x30).f1.f0) ((rd_T97 x28 x30).f1.f1) ((rd_T97 x28 x30).f1.f2) ((rd_T97 x28 x30).f1.f3) ((rd_T97 x28 x30).f1.f4) ((rd_T97 x28 x30).f1.f5) ((rd_T97 x28 x30).f2) ((rd_T97 x28 x30).f3))) else (impl_GoodBoard.j2 k x30 x28 x29 x30 true x102000 x102001 x102002 x102003 ((rd_T97 x28 x30).f0.f0) ((rd_T97 x28 x30).f0.f1) ((rd_T97 x28 x30).f0.f2) ((rd_T97 x28 x30).f1.f0) ((rd_T97 x28 x30).f1.f1) ((rd_T97 x28 x30).f1.f2) ((rd_T97 x28 x30).f1.f3) ((rd_T97 x28 x30).f1.f4) ((rd_T97 x28 x30).f1.f5) ((rd_T97 x28 x30).f2) ((rd_T97 x28 x30).f3))))) else (impl_GoodBoard.j2 k x30 x28 x29 x30 true x102000 x102001 x102002 x102003 ((rd_T97 x28 x30).f0.f0) ((rd_T97 x28 x30).f0.f1) ((rd_T97 x28 x30).f0.f2) ((rd_T97 x28 x30).f1.f0) ((rd_T97 x28 x30).f1.f1) ((rd_T97 x28 x30).f1.f2) ((rd_T97 x28 x30).f1.f3) ((rd_T97 x28 x30).f1.f4) ((rd_T97 x28 x30).f1.f5) ((rd_T97 x28 x30).f2) ((rd_T97 x28 x30).f3)))) else (impl_GoodBoard.j2 k x30 x28 x29 x30 true x102000 x102001 x102002 x102003 ((rd_T97 x28 x30).f0.f0) ((rd_T97 x28 x30).f0.f1) ((rd_T97 x28 x30).f0.f2) ((rd_T97 x28 x30).f1.f0) ((rd_T97 x28 x30).f1.f1) ((rd_T97 x28 x30).f1.f2) ((rd_T97 x28 x30).f1.f3) ((rd_T97 x28 x30).f1.f4) ((rd_T97 x28 x30).f1.f5) ((rd_T97 x28 x30).f2) ((rd_T97 x28 x30).f3)))) else (impl_GoodBoard.j2 k x30 x28 x29 x30 true x102000 x102001 x102002 x102003 ((rd_T97 x28 x30).f0.f0) ((rd_T97 x28 x30).f0.f1) ((rd_T97 x28 x30).f0.f2) ((rd_T97 x28 x30).f1.f0) ((rd_T97 x28 x30).f1.f1) ((rd_T97 x28 x30).f1.f2) ((rd_T97 x28 x30).f1.f3) ((rd_T97 x28 x30).f1.f4) ((rd_T97 x28 x30).f1.f5) ((rd_T97 x28 x30).f2) ((rd_T97 x28 x30).f3)))) else (none)) else (none)) else (some true)
def impl_GoodBoard.j2 : Nat → Int → List (S97) → Int → Int → Bool → Int → Int → Int → List (S97) → ByteArray → List (S69) → Int → Int → Int → Int → Int → List Int → Bool → Int → Bool → Option (Bool)
 | 0, _, _, _, _, _, _, _, _, _, _, _, _, _, _, _, _, _, _, _, _ => none
 | k + 1, x3, x28, x29, x30, x75, x102000, x102001, x102002, x102003, x107000, x107001, x107002, x107003, x107004, x107005, x107006, x107007, x107008, x107009, x107010 => if x75 = true then (some false) else (if x3 > 0 then (if 0 ≤ (wrap64 (x3 - 1)) then (if (wrap64 (x3 - 1)) < (x102003.length : Int) then ((impl_CompareKeys.f k ((rd_T97 x102003 (wrap64 (x3 - 1))).f0.f0) ((rd_T97 x102003 (wrap64 (x3 - 1))).f0.f1) ((rd_T97 x102003 (wrap64 (x3 - 1))).f0.f2) x107000 x107001 x107002).bind fun t111 => (if t111 ≥ 0 then (some false) else (impl_GoodBoard.l0 k x28 x29 (wrap64 (x30 + 1)) x102000 x102001 x102002 x102003))) else (none)) else (none)) else (impl_GoodBoard.l0 k x28 x29 (wrap64 (x30 + 1)) x102000 x102001 x102002 x102003))
end
def impl_GoodBoard.f (k : Nat) (a0_0 : Int) (a0_1 : Int) (a0_2 : Int) (l0_3 : List (S97)) : Option (Bool) := (impl_isSize.f a0_0).bind fun t102 => (if t102 = true then ((impl_within.f a0_1 0 1000000).bind fun t103 => (if t103 = true then ((impl_isTime.f a0_2).bind fun t104 => (if t104 = true then (impl_GoodBoard.j0 k (decide ((l0_3.length : Int) > 40)) a0_0 a0_1 a0_2 l0_3) else (impl_GoodBoard.j0 k true a0_0 a0_1 a0_2 l0_3))) else (impl_GoodBoard.j0 k true a0_0 a0_1 a0_2 l0_3))) else (impl_GoodBoard.j0 k true a0_0 a0_1 a0_2 l0_3))
theorem impl_GoodBoard.mono_l : ∀ k, (∀ y0 y1 y2 y3 y4, LeO (impl_GoodBoard.j0 k y0 y1 y2 y3 y4) (impl_GoodBoard.j0 (k + 1) y0 y1 y2 y3 y4)) ∧ (∀ y0 y1 y2 y3 y4 y5 y6, LeO (impl_GoodBoard.l0 k y0 y1 y2 y3 y4 y5 y6) (impl_GoodBoard.l0 (k + 1) y0 y1 y2 y3 y4 y5 y6)) ∧ (∀ y0 y1 y2 y3 y4 y5 y6 y7 y8 y9 y10 y11 y12 y13 y14 y15 y16 y17 y18 y19, LeO (impl_GoodBoard.j2 k y0 y1 y2 y3 y4 y5 y6 y7 y8 y9 y10 y11 y12 y13 y14 y15 y16 y17 y18 y19) (impl_GoodBoard.j2 (k + 1) y0 y1 y2 y3 y4 y5 y6 y7 y8 y9 y10 y11 y12 y13 y14 y15 y16 y17 y18 y19))
 | 0 => ⟨fun _ _ _ _ _ r h => by simp [impl_GoodBoard.j0] at h, fun _ _ _ _ _ _ _ r h => by simp [impl_GoodBoard.l0] at h, fun _ _ _ _ _ _ _ _ _ _ _ _ _ _ _ _ _ _ _ _ r h => by simp [impl_GoodBoard.j2] at h⟩
 | k + 1 => by
  obtain ⟨ih0, ih1, ih2⟩ := impl_GoodBoard.mono_l k
  refine ⟨?_, ?_, ?_⟩
  · intro y0 y1 y2 y3 y4
    unfold impl_GoodBoard.j0
    repeat' first
     | (with_reducible first | exact ih0 .. | exact ih1 .. | exact ih2 .. | exact impl_CompareKeys.mono .. | exact impl_GoodAgg.mono .. | exact impl_GoodKey.mono .. | exact LeO.refl _ | exact LeO.none _ | refine LeO.ite ?_ ?_ | refine LeO.bind ?_ (fun _ => ?_))
     | exact LeO.none _
     | refine LeO.ite ?_ ?_
     | refine LeO.bind ?_ (fun _ => ?_)
  · intro y0 y1 y2 y3 y4 y5 y6
    unfold impl_GoodBoard.l0
    repeat' first
     | (with_reducible first | exact ih0 .. | exact ih1 .. | exact ih2 .. | exact impl_CompareKeys.mono .. | exact impl_GoodAgg.mono .. | exact impl_GoodKey.mono .. | exact LeO.refl _ | exact LeO.none _ | refine LeO.ite ?_ ?_ | refine LeO.bind ?_ (fun _ => ?_))
     | exact LeO.none _
     | refine LeO.ite ?_ ?_
     | refine LeO.bind ?_ (fun _ => ?_)
  · intro y0 y1 y2 y3 y4 y5 y6 y7 y8 y9 y10 y11 y12 y13 y14 y15 y16 y17 y18 y19
    unfold impl_GoodBoard.j2
    repeat' first
     | (with_reducible first | exact ih0 .. | exact ih1 .. | exact ih2 .. | exact impl_CompareKeys.mono .. | exact impl_GoodAgg.mono .. | exact impl_GoodKey.mono .. | exact LeO.refl _ | exact LeO.none _ | refine LeO.ite ?_ ?_ | refine LeO.bind ?_ (fun _ => ?_))
     | exact LeO.none _
     | refine LeO.ite ?_ ?_
     | refine LeO.bind ?_ (fun _ => ?_)
theorem impl_GoodBoard.mono : ∀ a0 a1 a2 a3 k, LeO (impl_GoodBoard.f k a0 a1 a2 a3) (impl_GoodBoard.f (k + 1) a0 a1 a2 a3) := by
 intro a0 a1 a2 a3 k
 obtain ⟨ih0, ih1, ih2⟩ := impl_GoodBoard.mono_l k
 unfold impl_GoodBoard.f
 repeat' first
  | (with_reducible first | exact ih0 .. | exact ih1 .. | exact ih2 .. | exact impl_CompareKeys.mono .. | exact impl_GoodAgg.mono .. | exact impl_GoodKey.mono .. | exact LeO.refl _ | exact LeO.none _ | refine LeO.ite ?_ ?_ | refine LeO.bind ?_ (fun _ => ?_))
  | exact LeO.none _
  | refine LeO.ite ?_ ?_
  | refine LeO.bind ?_ (fun _ => ?_)
def impl_GoodBoard.T8 : Bool × List (List Nat × List Nat) := (true, [([], []), ([0], [0]), ([1], [1]), ([2], [2]), ([3, 2], [2, 3]), ([2], [2]), ([5, 2], [2, 5]), ([4, 6, 2], [2, 4, 6]), ([7, 2], [2, 7]), ([8, 2], [2, 8]), ([2], [2]), ([10, 2], [2, 10]), ([9, 11, 2, 2], [2, 9, 11]), ([12, 2], [2, 12]), ([2, 13], [2, 13])])
def impl_GoodBoard.B8 : List Nat := [0, 1, 3, 7, 15, 7, 39, 127, 255, 511, 7, 1031, 4095, 8191, 16383]
theorem impl_GoodBoard.tab8 : rtab .any (opsOf Tryd.f26 8) = impl_GoodBoard.T8 := by kernel_rfl
theorem impl_GoodBoard.bits8 : waitsOk impl_GoodBoard.T8.2 impl_GoodBoard.B8 = true := by kernel_rfl
set_option maxHeartbeats 8000000 in
set_option maxRecDepth 100000 in
theorem impl_GoodBoard.calls (k : Nat) (a0_0 : Int) (a0_1 : Int) (a0_2 : Int) (A0_3 : Option Addr) (c0_3 : Nat) (l0_3 : List (S97)) (r : Bool) (w : World) (hr0_3 : Kd.C k97 w A0_3 l0_3.length l0_3) (hc0_3 : l0_3.length ≤ c0_3) (h : impl_GoodBoard.f k a0_0 a0_1 a0_2 l0_3 = some r) :
 Calls Tryd.prog 26 #[.agg #[.int .i64 a0_0, .int .i64 a0_1, .int .i64 a0_2, .slice A0_3 l0_3.length c0_3]] w fun e w' => e = .returned (.bool r) ∧ Below w.heap.size w w' := by
 have hu55 := Tryd.underlying55
 have hu97 := Tryd.underlying97
 have hu25 := Tryd.underlying25
 have hu95 := Tryd.underlying95
 have HR0_3 := aM hr0_3
 have HC0_3 := aM hc0_3
 clear hr0_3 hc0_3
 have HB := aM (Below.refl w.heap.size w)
 have H : ((impl_isSize.f a0_0).bind fun t102 => (if t102 = true then ((impl_within.f a0_1 0 1000000).bind fun t103 => (if t103 = true then ((impl_isTime.f a0_2).bind fun t104 => (if t104 = true then (impl_GoodBoard.j0 k (decide ((l0_3.length : Int) > 40)) a0_0 a0_1 a0_2 l0_3) else (impl_GoodBoard.j0 k true a0_0 a0_1 a0_2 l0_3))) else (impl_GoodBoard.j0 k true a0_0 a0_1 a0_2 l0_3))) else (impl_GoodBoard.j0 k true a0_0 a0_1 a0_2 l0_3))) = some r := h
 clear h
 have HC2 := aM H
 clear H
 go_enter Tryd.func26, Tryd.ntmps26
 go_upto_region 1 with (first | ((with_reducible refine gate_dst (N := 1) rfl ?_); (try (refine gate_guard (by rfl) ?_; dsimp only)); refine box_event ?hg (N := 1) ?hd (cs := #[.int .i64 a0_0, .int .i64 a0_1, .int .i64 a0_2, .slice A0_3 l0_3.length c0_3]) (t := 55) ?hr ?_; (case hd => rfl); (case hg => rfl); (case hr => first | (go_simp; done) | (go_simp; rfl)); intro gb101 hg w3 hbox hb; have _ := aM (below_step hbZ hb); have _ := aM hbox; have _ := szZ hg; have _ := szZ hg; clear HB; rename_i HB BK101 GW101 GE101; clear hb hbox hg))
 (try simp only [Act.put, List.setIfInBounds_toArray, List.set_cons_zero, List.set_cons_succ])
 go_cut [26] (fun v26 wc => ∃ (kq : Nat) (x26_1 : Bool), v26 = .bool x26_1 ∧ Aside0 (impl_GoodBoard.j0 kq x26_1 a0_0 a0_1 a0_2 l0_3 = some r) ∧ Aside0 (kq ≤ k) ∧ Aside0 (wc.heap[gb101]? = some (.cells #[.int .i64 a0_0, .int .i64 a0_1, .int .i64 a0_2, (.slice A0_3 l0_3.length c0_3)] 55 (0, 0))) ∧ Aside0 (Below w.heap.size w wc))
 case first =>
  have H := HC2.out
  clear HC2
  replace H := Option.bind_eq_some_iff.mp H
  obtain ⟨t102, A40, H⟩ := H
  try dsimp only at H
  have A4 := aM A40
  clear A40
  by_cases c5 : t102 = true
  · subst c5
    have H1 : ((impl_within.f a0_1 0 1000000).bind fun t103 => (if t103 = true then ((impl_isTime.f a0_2).bind fun t104 => (if t104 = true then (impl_GoodBoard.j0 k (decide ((l0_3.length : Int) > 40)) a0_0 a0_1 a0_2 l0_3) else (impl_GoodBoard.j0 k true a0_0 a0_1 a0_2 l0_3))) else (impl_GoodBoard.j0 k true a0_0 a0_1 a0_2 l0_3))) = some r := by rw [if_pos rfl] at H; exact H
    clear H
    have H := H1
    clear H1
    replace H := Option.bind_eq_some_iff.mp H
    obtain ⟨t103, A60, H⟩ := H
    try dsimp only at H
    have A6 := aM A60
    clear A60
    by_cases c7 : t103 = true
    · subst c7
      have H1 : ((impl_isTime.f a0_2).bind fun t104 => (if t104 = true then (impl_GoodBoard.j0 k (decide ((l0_3.length : Int) > 40)) a0_0 a0_1 a0_2 l0_3) else (impl_GoodBoard.j0 k true a0_0 a0_1 a0_2 l0_3))) = some r := by rw [if_pos rfl] at H; exact H
      clear H
      have H := H1
      clear H1
      replace H := Option.bind_eq_some_iff.mp H
      obtain ⟨t104, A80, H⟩ := H
      try dsimp only at H
      have A8 := aM A80
      clear A80
      by_cases c9 : t104 = true
      · subst c9
        have H1 : (impl_GoodBoard.j0 k (decide ((l0_3.length : Int) > 40)) a0_0 a0_1 a0_2 l0_3) = some r := by rw [if_pos rfl] at H; exact H
        clear H
        have H := H1
        clear H1
        have H' := aM H
        clear H
        obtain ⟨hcz10_0, hcz10_1, hcz10_2, hcz10_3, hfz10_0, hfz10_1, hfz10_2, hfz10_3⟩ := cellsZ4 BK101.out
        go_wp2_with (first | ((with_reducible refine gate_callee (f := 60) rfl ?_); refine goesL_ (some 7) rfl rfl Tryd.func60 (by kernel_rfl) rfl #[.int .i64 a0_0] rfl zee81 ?_; (with_reducible refine (impl_isSize.calls a0_0 true _ A4.out).mono ?_); rintro e w' ⟨rfl, ⟨nd, rfl⟩⟩; refine ⟨_, rfl, ?_⟩) | (go_at_call 61; (with_reducible refine (impl_within.calls a0_1 0 1000000 true _ A6.out).mono ?_); rintro e w' ⟨rfl, ⟨nd, rfl⟩⟩) | (go_at_call 62; (with_reducible refine (impl_isTime.calls a0_2 true _ A8.out).mono ?_); rintro e w' ⟨rfl, ⟨nd, rfl⟩⟩))
        go_meet
        case rel => exact ⟨_, (decide ((l0_3.length : Int) > 40)), z4458, H', ⟨zb79b⟩, ⟨bkZ⟩, ⟨zcb41⟩⟩
      · replace c9 := Bool.eq_false_iff.mpr c9
        subst c9
        have H1 : (impl_GoodBoard.j0 k true a0_0 a0_1 a0_2 l0_3) = some r := by rw [if_neg (show ¬ (false = true) by decide)] at H; exact H
        clear H
        have H := H1
        clear H1
        have H' := aM H
        clear H
        obtain ⟨hcz11_0, hcz11_1, hcz11_2, hcz11_3, hfz11_0, hfz11_1, hfz11_2, hfz11_3⟩ := cellsZ4 BK101.out
        go_wp2_with (first | ((with_reducible refine gate_callee (f := 60) rfl ?_); refine goesL_ (some 7) rfl rfl Tryd.func60 (by kernel_rfl) rfl #[.int .i64 a0_0] rfl zee81 ?_; (with_reducible refine (impl_isSize.calls a0_0 true _ A4.out).mono ?_); rintro e w' ⟨rfl, ⟨nd, rfl⟩⟩; refine ⟨_, rfl, ?_⟩) | (go_at_call 61; (with_reducible refine (impl_within.calls a0_1 0 1000000 true _ A6.out).mono ?_); rintro e w' ⟨rfl, ⟨nd, rfl⟩⟩) | (go_at_call 62; (with_reducible refine (impl_isTime.calls a0_2 false _ A8.out).mono ?_); rintro e w' ⟨rfl, ⟨nd, rfl⟩⟩))
        go_meet
        case rel => exact ⟨_, (true), z4458, H', ⟨zb79b⟩, ⟨bkZ⟩, ⟨zcb41⟩⟩
    · replace c7 := Bool.eq_false_iff.mpr c7
      subst c7
      have H1 : (impl_GoodBoard.j0 k true a0_0 a0_1 a0_2 l0_3) = some r := by rw [if_neg (show ¬ (false = true) by decide)] at H; exact H
      clear H
      have H := H1
      clear H1
      have H' := aM H
      clear H
      obtain ⟨hcz12_0, hcz12_1, hcz12_2, hcz12_3, hfz12_0, hfz12_1, hfz12_2, hfz12_3⟩ := cellsZ4 BK101.out
      go_wp2_with (first | ((with_reducible refine gate_callee (f := 60) rfl ?_); refine goesL_ (some 7) rfl rfl Tryd.func60 (by kernel_rfl) rfl #[.int .i64 a0_0] rfl zee81 ?_; (with_reducible refine (impl_isSize.calls a0_0 true _ A4.out).mono ?_); rintro e w' ⟨rfl, ⟨nd, rfl⟩⟩; refine ⟨_, rfl, ?_⟩) | (go_at_call 61; (with_reducible refine (impl_within.calls a0_1 0 1000000 false _ A6.out).mono ?_); rintro e w' ⟨rfl, ⟨nd, rfl⟩⟩))
      go_meet
      case rel => exact ⟨_, (true), z4458, H', ⟨zb79b⟩, ⟨bkZ⟩, ⟨zcb41⟩⟩
  · replace c5 := Bool.eq_false_iff.mpr c5
    subst c5
    have H1 : (impl_GoodBoard.j0 k true a0_0 a0_1 a0_2 l0_3) = some r := by rw [if_neg (show ¬ (false = true) by decide)] at H; exact H
    clear H
    have H := H1
    clear H1
    have H' := aM H
    clear H
    obtain ⟨hcz13_0, hcz13_1, hcz13_2, hcz13_3, hfz13_0, hfz13_1, hfz13_2, hfz13_3⟩ := cellsZ4 BK101.out
    go_wp2_with (first | ((with_reducible refine gate_callee (f := 60) rfl ?_); refine goesL_ (some 7) rfl rfl Tryd.func60 (by kernel_rfl) rfl #[.int .i64 a0_0] rfl zee81 ?_; (with_reducible refine (impl_isSize.calls a0_0 false _ A4.out).mono ?_); rintro e w' ⟨rfl, ⟨nd, rfl⟩⟩; refine ⟨_, rfl, ?_⟩))
    go_meet
    case rel => exact ⟨_, (true), z4458, H', ⟨zb79b⟩, ⟨bkZ⟩, ⟨zcb41⟩⟩
 case rest =>
  clear HC2
  try clear c2
  try clear p2
  try clear c5
  try clear c6
  try clear c7
  try clear c9
  try clear hcz10_0 hcz10_1 hcz10_2 hcz10_3
  try clear hcz11_0 hcz11_1 hcz11_2 hcz11_3
  try clear hcz12_0 hcz12_1 hcz12_2 hcz12_3
  try clear hcz13_0 hcz13_1 hcz13_2 hcz13_3
  try clear hfz10_0 hfz10_1 hfz10_2 hfz10_3
  try clear hfz11_0 hfz11_1 hfz11_2 hfz11_3
  try clear hfz12_0 hfz12_1 hfz12_2 hfz12_3
  try clear hfz13_0 hfz13_1 hfz13_2 hfz13_3
  obtain ⟨kq, x26_1, rfl, HA, HJ1, BK101, HB⟩ := hcut
  cases kq with
  | zero => exact absurd HA.out (by simp [impl_GoodBoard.j0])
  | succ kj1 =>
   have H := HA.out
   clear HA
   simp only [impl_GoodBoard.j0] at H
   by_cases c14 : x26_1 = true
   · subst c14
     have H1 : (some false) = some r := by rw [if_pos rfl] at H; exact H
     clear H
     have H := H1
     clear H1
     obtain rfl := Option.some.inj H
     go_wp2
     go_ret
     exact ⟨z674d, zcb41⟩
   · replace c14 := Bool.eq_false_iff.mpr c14
     subst c14
     have H1 : (impl_GoodBoard.l0 kj1 l0_3 (l0_3.length : Int) 0 a0_0 a0_1 a0_2 l0_3) = some r := by rw [if_neg (show ¬ (false = true) by decide)] at H; exact H
     clear H
     have H := H1
     clear H1
     have H' := aM H
     clear H
     obtain ⟨hcz15_0, hcz15_1, hcz15_2, hcz15_3, hfz15_0, hfz15_1, hfz15_2, hfz15_3⟩ := cellsZ4 BK101.out
     go_wp2
     go_loopg [30] kj1 (fun kq v30 w' => ∃ (x30_2 : Int), v30 = .int .i64 x30_2 ∧ Aside0 (impl_GoodBoard.l0 kq l0_3 (l0_3.length : Int) x30_2 a0_0 a0_1 a0_2 l0_3 = some r) ∧ Aside0 (kq ≤ kj1) ∧ Aside0 (w'.heap[gb101]? = some (.cells #[.int .i64 a0_0, .int .i64 a0_1, .int .i64 a0_2, (.slice A0_3 l0_3.length c0_3)] 55 (0, 0))) ∧ Aside0 (Below w.heap.size w w'))
     case atStart => exact ⟨(0), z4458, H', ⟨Nat.le_refl _⟩, ⟨bkZ⟩, ⟨zcb41⟩⟩
     case round =>
      clear H'
      try clear c1
      try clear c2
      try clear p2
      try clear c5
      try clear c6
      try clear c7
      try clear c9
      try clear c14
      try clear hcz10_0 hcz10_1 hcz10_2 hcz10_3
      try clear hcz11_0 hcz11_1 hcz11_2 hcz11_3
      try clear hcz12_0 hcz12_1 hcz12_2 hcz12_3
      try clear hcz13_0 hcz13_1 hcz13_2 hcz13_3
      try clear hcz15_0 hcz15_1 hcz15_2 hcz15_3
      try clear hfz10_0 hfz10_1 hfz10_2 hfz10_3
      try clear hfz11_0 hfz11_1 hfz11_2 hfz11_3
      try clear hfz12_0 hfz12_1 hfz12_2 hfz12_3
      try clear hfz13_0 hfz13_1 hfz13_2 hfz13_3
      try clear hfz15_0 hfz15_1 hfz15_2 hfz15_3
      try clear p2
      obtain ⟨x30_2, rfl, HA, HK2, BK101, HB⟩ := hrel
      cases gk with
      | zero => exact absurd HA.out (by simp [impl_GoodBoard.l0])
      | succ k2 =>
       have H := HA.out
       clear HA
       simp only [impl_GoodBoard.l0] at H
       by_cases c16 : x30_2 < (l0_3.length : Int)
       · rw [if_pos c16] at H
         have c16b0 : decide (x30_2 < (l0_3.length : Int)) = true := decide_eq_true c16
         clear c16
         by_cases c17 : 0 ≤ x30_2
         · rw [if_pos c17] at H
           have c17b0 : decide (0 ≤ x30_2) = true := decide_eq_true c17
           clear c17
           by_cases c18 : x30_2 < (l0_3.length : Int)
           · rw [if_pos c18] at H
             have c18b0 : decide (x30_2 < (l0_3.length : Int)) = true := decide_eq_true c18
             clear c18
             have HC19 := aM H
             clear H
             have p105 : 0 ≤ (x30_2 : Int) := of_decide_eq_true z1200
             have q105 : x30_2 < (l0_3.length : Int) := of_decide_eq_true z1200
             obtain ⟨ad105, A105_1, c105_1, A105_7, c105_7, e105, hx105_0, hx105_1, hx105_2, hx105_3, hx105_4, hx105_5, hx105_6, hx105_7, hx105_8, hx105_9, hx105_10, hl105_1, hi105_1, hl105_7, hi105_7⟩ := at_T97 HR0_3.out x30_2 p105 q105
             cases e105
             replace hx105_0 := (HB.out.cell (World.block_lt_of_cell? w _ hx105_0)).trans hx105_0
             replace hx105_1 := (HB.out.cell (World.block_lt_of_cell? w _ hx105_1)).trans hx105_1
             replace hx105_2 := (HB.out.cell (World.block_lt_of_cell? w _ hx105_2)).trans hx105_2
             replace hx105_3 := (HB.out.cell (World.block_lt_of_cell? w _ hx105_3)).trans hx105_3
             replace hx105_4 := (HB.out.cell (World.block_lt_of_cell? w _ hx105_4)).trans hx105_4
             replace hx105_5 := (HB.out.cell (World.block_lt_of_cell? w _ hx105_5)).trans hx105_5
             replace hx105_6 := (HB.out.cell (World.block_lt_of_cell? w _ hx105_6)).trans hx105_6
             replace hx105_7 := (HB.out.cell (World.block_lt_of_cell? w _ hx105_7)).trans hx105_7
             replace hx105_8 := (HB.out.cell (World.block_lt_of_cell? w _ hx105_8)).trans hx105_8
             replace hx105_9 := (HB.out.cell (World.block_lt_of_cell? w _ hx105_9)).trans hx105_9
             replace hx105_10 := (HB.out.cell (World.block_lt_of_cell? w _ hx105_10)).trans hx105_10
             have HR105_1 := aM hi105_1
             have HC105_1 := aM hl105_1
             clear hi105_1 hl105_1
             have HR105_7 := aM hi105_7
             have HC105_7 := aM hl105_7
             clear hi105_7 hl105_7
             replace p105 := eq_true p105
             replace q105 := eq_true q105
             go_upto_region 6 with (first | ((with_reducible refine gate_dst (N := 4) rfl ?_); (try (refine gate_guard (by rfl) ?_; dsimp only)); refine box_event ?hg (N := 4) ?hd (cs := #[.string (⟨#[]⟩ : ByteArray), .slice none 0 0, .int .i64 0, .int .i64 0, .int .i64 0, .int .i64 0, .int .i64 0, .slice none 0 0, .bool false, .int .i64 0, .bool false]) (t := 97) ?hr ?_; (case hd => rfl); (case hg => rfl); (case hr => first | (go_simp; done) | (go_simp; rfl)); intro gb106 hg w20 hbox hb; have _ := bB gb101 hb; have _ := aM (below_step hbZ hb); have _ := aM hbox; have _ := szZ hg; have _ := szZ hg; have ⟨_, _⟩ := nbB gb101 hg; clear BK101 HB; rename_i BK101 HB BK106 GW106 GE106 NB101_106 NB106_101; clear hb hbox hg; have hnb21 := NB106_101.out; have hnc21 := NB101_106.out; have hcz22_0 : w20.cell? ⟨gb106, 0, none⟩ = some (.string (⟨#[]⟩ : ByteArray)) := (blk_cell BK106.out 0).trans rfl; have hcz22_1 : w20.cell? ⟨gb106, 1, none⟩ = some (.slice none 0 0) := (blk_cell BK106.out 1).trans rfl; have hcz22_2 : w20.cell? ⟨gb106, 2, none⟩ = some (.int .i64 0) := (blk_cell BK106.out 2).trans rfl; have hcz22_3 : w20.cell? ⟨gb106, 3, none⟩ = some (.int .i64 0) := (blk_cell BK106.out 3).trans rfl; have hcz22_4 : w20.cell? ⟨gb106, 4, none⟩ = some (.int .i64 0) := (blk_cell BK106.out 4).trans rfl; have hcz22_5 : w20.cell? ⟨gb106, 5, none⟩ = some (.int .i64 0) := (blk_cell BK106.out 5).trans rfl; have hcz22_6 : w20.cell? ⟨gb106, 6, none⟩ = some (.int .i64 0) := (blk_cell BK106.out 6).trans rfl; have hcz22_7 : w20.cell? ⟨gb106, 7, none⟩ = some (.slice none 0 0) := (blk_cell BK106.out 7).trans rfl; have hcz22_8 : w20.cell? ⟨gb106, 8, none⟩ = some (.bool false) := (blk_cell BK106.out 8).trans rfl; have hcz22_9 : w20.cell? ⟨gb106, 9, none⟩ = some (.int .i64 0) := (blk_cell BK106.out 9).trans rfl; have hcz22_10 : w20.cell? ⟨gb106, 10, none⟩ = some (.bool false) := (blk_cell BK106.out 10).trans rfl; have hfz22_0 := blk_frozen BK106.out 0; have hfz22_1 := blk_frozen BK106.out 1; have hfz22_2 := blk_frozen BK106.out 2; have hfz22_3 := blk_frozen BK106.out 3; have hfz22_4 := blk_frozen BK106.out 4; have hfz22_5 := blk_frozen BK106.out 5; have hfz22_6 := blk_frozen BK106.out 6; have hfz22_7 := blk_frozen BK106.out 7; have hfz22_8 := blk_frozen BK106.out 8; have hfz22_9 := blk_frozen BK106.out 9; have hfz22_10 := blk_frozen BK106.out 10))
             (try simp only [Act.put, List.setIfInBounds_toArray, List.set_cons_zero, List.set_cons_succ])
             go_cut [75] (fun v75 wc => ∃ (kq : Nat) (x75_18 : Bool), v75 = .bool x75_18 ∧ Aside0 (impl_GoodBoard.j2 kq x30_2 l0_3 (l0_3.length : Int) x30_2 x75_18 a0_0 a0_1 a0_2 l0_3 ((rd_T97 l0_3 x30_2).f0.f0) ((rd_T97 l0_3 x30_2).f0.f1) ((rd_T97 l0_3 x30_2).f0.f2) ((rd_T97 l0_3 x30_2).f1.f0) ((rd_T97 l0_3 x30_2).f1.f1) ((rd_T97 l0_3 x30_2).f1.f2) ((rd_T97 l0_3 x30_2).f1.f3) ((rd_T97 l0_3 x30_2).f1.f4) ((rd_T97 l0_3 x30_2).f1.f5) ((rd_T97 l0_3 x30_2).f2) ((rd_T97 l0_3 x30_2).f3) = some r) ∧ Aside0 (kq ≤ k2) ∧ Aside0 (wc.heap[gb101]? = some (.cells #[.int .i64 a0_0, .int .i64 a0_1, .int .i64 a0_2, (.slice (some ad105) l0_3.length c0_3)] 55 (0, 0))) ∧ Aside0 (wc.heap[gb106]? = some (.cells #[.string ((rd_T97 l0_3 x30_2).f0.f0), (.slice A105_1 ((rd_T97 l0_3 x30_2).f0.f1).length c105_1), .int .i64 ((rd_T97 l0_3 x30_2).f0.f2), .int .i64 ((rd_T97 l0_3 x30_2).f1.f0), .int .i64 ((rd_T97 l0_3 x30_2).f1.f1), .int .i64 ((rd_T97 l0_3 x30_2).f1.f2), .int .i64 ((rd_T97 l0_3 x30_2).f1.f3), (.slice A105_7 ((rd_T97 l0_3 x30_2).f1.f4).length c105_7), .bool ((rd_T97 l0_3 x30_2).f1.f5), .int .i64 ((rd_T97 l0_3 x30_2).f2), .bool ((rd_T97 l0_3 x30_2).f3)] 97 (0, 0))) ∧ Aside0 (Below w.heap.size w wc))
             case first =>
              have H := HC19.out
              clear HC19
              replace H := Option.bind_eq_some_iff.mp H
              obtain ⟨t107, A230, H⟩ := H
              try dsimp only at H
              have A23 := aM A230
              clear A230
              by_cases c24 : t107 = true
              · subst c24
                have H1 : (if a0_0 = 0 then (none) else (if (Int.tmod ((rd_T97 l0_3 x30_2).f0.f2) a0_0) = 0 then ((impl_GoodAgg.f k2 ((rd_T97 l0_3 x30_2).f1.f0) ((rd_T97 l0_3 x30_2).f1.f1) ((rd_T97 l0_3 x30_2).f1.f2) ((rd_T97 l0_3 x30_2).f1.f3) ((rd_T97 l0_3 x30_2).f1.f4) ((rd_T97 l0_3 x30_2).f1.f5)).bind fun t108 => (if t108 = true then (if ((rd_T97 l0_3 x30_2).f1.f0) = 0 then (impl_GoodBoard.j2 k2 x30_2 l0_3 (l0_3.length : Int) x30_2 true a0_0 a0_1 a0_2 l0_3 ((rd_T97 l0_3 x30_2).f0.f0) ((rd_T97 l0_3 x30_2).f0.f1) ((rd_T97 l0_3 x30_2).f0.f2) ((rd_T97 l0_3 x30_2).f1.f0) ((rd_T97 l0_3 x30_2).f1.f1) ((rd_T97 l0_3 x30_2).f1.f2) ((rd_T97 l0_3 x30_2).f1.f3) ((rd_T97 l0_3 x30_2).f1.f4) ((rd_T97 l0_3 x30_2).f1.f5) ((rd_T97 l0_3 x30_2).f2) ((rd_T97 l0_3 x30_2).f3)) else ((impl_within.f ((rd_T97 l0_3 x30_2).f2) 0 1000000).bind fun t109 => (if t109 = true then (if ((rd_T97 l0_3 x30_2).f2) = 0 then (impl_GoodBoard.j2 k2 x30_2 l0_3 (l0_3.length : Int) x30_2 (!((rd_T97 l0_3 x30_2).f3)) a0_0 a0_1 a0_2 l0_3 ((rd_T97 l0_3 x30_2).f0.f0) ((rd_T97 l0_3 x30_2).f0.f1) ((rd_T97 l0_3 x30_2).f0.f2) ((rd_T97 l0_3 x30_2).f1.f0) ((rd_T97 l0_3 x30_2).f1.f1) ((rd_T97 l0_3 x30_2).f1.f2) ((rd_T97 l0_3 x30_2).f1.f3) ((rd_T97 l0_3 x30_2).f1.f4) ((rd_T97 l0_3 x30_2).f1.f5) ((rd_T97 l0_3 x30_2).f2) ((rd_T97 l0_3 x30_2).f3)) else (impl_GoodBoard.j2 k2 x30_2 l0_3 (l0_3.length : Int) x30_2 false a0_0 a0_1 a0_2 l0_3 ((rd_T97 l0_3 x30_2).f0.f0) ((rd_T97 l0_3 x30_2).f0.f1) ((rd_T97 l0_3 x30_2).f0.f2) ((rd_T97 l0_3 x30_2).f1.f0) ((rd_T97 l0_3 x30_2).f1.f1) ((rd_T97 l0_3 x30_2).f1.f2) ((rd_T97 l0_3 x30_2).f1.f3) ((rd_T97 l0_3 x30_2).f1.f4) ((rd_T97 l0_3 x30_2).f1.f5) ((rd_T97 l0_3 x30_2).f2) ((rd_T97 l0_3 x30_2).f3))) else (impl_GoodBoard.j2 k2 x30_2 l0_3 (l0_3.length : Int) x30_2 true a0_0 a0_1 a0_2 l0_3 ((rd_T97 l0_3 x30_2).f0.f0) ((rd_T97 l0_3 x30_2).f0.f1) ((rd_T97 l0_3 x30_2).f0.f2) ((rd_T97 l0_3 x30_2).f1.f0) ((rd_T97 l0_3 x30_2).f1.f1) ((rd_T97 l0_3 x30_2).f1.f2) ((rd_T97 l0_3 x30_2).f1.f3) ((rd_T97 l0_3 x30_2).f1.f4) ((rd_T97 l0_3 x30_2).f1.f5) ((rd_T97 l0_3 x30_2).f2) ((rd_T97 l0_3 x30_2).f3))))) else (impl_GoodBoard.j2 k2 x30_2 l0_3 (l0_3.length : Int) x30_2 true a0_0 a0_1 a0_2 l0_3 ((rd_T97 l0_3 x30_2).f0.f0) ((rd_T97 l0_3 x30_2).f0.f1) ((rd_T97 l0_3 x30_2).f0.f2) ((rd_T97 l0_3 x30_2).f1.f0) ((rd_T97 l0_3 x30_2).f1.f1) ((rd_T97 l0_3 x30_2).f1.f2) ((rd_T97 l0_3 x30_2).f1.f3) ((rd_T97 l0_3 x30_2).f1.f4) ((rd_T97 l0_3 x30_2).f1.f5) ((rd_T97 l0_3 x30_2).f2) ((rd_T97 l0_3 x30_2).f3)))) else (impl_GoodBoard.j2 k2 x30_2 l0_3 (l0_3.length : Int) x30_2 true a0_0 a0_1 a0_2 l0_3 ((rd_T97 l0_3 x30_2).f0.f0) ((rd_T97 l0_3 x30_2).f0.f1) ((rd_T97 l0_3 x30_2).f0.f2) ((rd_T97 l0_3 x30_2).f1.f0) ((rd_T97 l0_3 x30_2).f1.f1) ((rd_T97 l0_3 x30_2).f1.f2) ((rd_T97 l0_3 x30_2).f1.f3) ((rd_T97 l0_3 x30_2).f1.f4) ((rd_T97 l0_3 x30_2).f1.f5) ((rd_T97 l0_3 x30_2).f2) ((rd_T97 l0_3 x30_2).f3)))) = some r := by rw [if_pos rfl] at H; exact H
                clear H
                have H := H1
                clear H1
                by_cases c25 : a0_0 = 0
                · rw [if_pos c25] at H
                  exact absurd H (by simp)
                · rw [if_neg c25] at H
                  have c25b0 : (a0_0 == 0) = false := beq_eq_false_iff_ne.mpr c25
                  have c25b1 : (a0_0 != 0) = true := bne_iff_ne.mpr c25
                  (first | rw [c25b0] | (simp only [i64_w, i32_w]; rw [c25b0]) | skip)
                  by_cases c26 : (Int.tmod ((rd_T97 l0_3 x30_2).f0.f2) a0_0) = 0
                  · rw [if_pos c26] at H
                    have c26b0 : ((Int.tmod ((rd_T97 l0_3 x30_2).f0.f2) a0_0) == 0) = true := beq_iff_eq.mpr c26
                    have c26b1 : ((Int.tmod ((rd_T97 l0_3 x30_2).f0.f2) a0_0) != 0) = false := bne_eq_false_iff_eq.mpr c26
                    clear c26
                    replace H := Option.bind_eq_some_iff.mp H
                    obtain ⟨t108, A270, H⟩ := H
                    try dsimp only at H
                    have A27 := aM A270
                    clear A270
                    by_cases c28 : t108 = true
                    · subst c28
                      have H1 : (if ((rd_T97 l0_3 x30_2).f1.f0) = 0 then (impl_GoodBoard.j2 k2 x30_2 l0_3 (l0_3.length : Int) x30_2 true a0_0 a0_1 a0_2 l0_3 ((rd_T97 l0_3 x30_2).f0.f0) ((rd_T97 l0_3 x30_2).f0.f1) ((rd_T97 l0_3 x30_2).f0.f2) ((rd_T97 l0_3 x30_2).f1.f0) ((rd_T97 l0_3 x30_2).f1.f1) ((rd_T97 l0_3 x30_2).f1.f2) ((rd_T97 l0_3 x30_2).f1.f3) ((rd_T97 l0_3 x30_2).f1.f4) ((rd_T97 l0_3 x30_2).f1.f5) ((rd_T97 l0_3 x30_2).f2) ((rd_T97 l0_3 x30_2).f3)) else ((impl_within.f ((rd_T97 l0_3 x30_2).f2) 0 1000000).bind fun t109 => (if t109 = true then (if ((rd_T97 l0_3 x30_2).f2) = 0 then (impl_GoodBoard.j2 k2 x30_2 l0_3 (l0_3.length : Int) x30_2 (!((rd_T97 l0_3 x30_2).f3)) a0_0 a0_1 a0_2 l0_3 ((rd_T97 l0_3 x30_2).f0.f0) ((rd_T97 l0_3 x30_2).f0.f1) ((rd_T97 l0_3 x30_2).f0.f2) ((rd_T97 l0_3 x30_2).f1.f0) ((rd_T97 l0_3 x30_2).f1.f1) ((rd_T97 l0_3 x30_2).f1.f2) ((rd_T97 l0_3 x30_2).f1.f3) ((rd_T97 l0_3 x30_2).f1.f4) ((rd_T97 l0_3 x30_2).f1.f5) ((rd_T97 l0_3 x30_2).f2) ((rd_T97 l0_3 x30_2).f3)) else (impl_GoodBoard.j2 k2 x30_2 l0_3 (l0_3.length : Int) x30_2 false a0_0 a0_1 a0_2 l0_3 ((rd_T97 l0_3 x30_2).f0.f0) ((rd_T97 l0_3 x30_2).f0.f1) ((rd_T97 l0_3 x30_2).f0.f2) ((rd_T97 l0_3 x30_2).f1.f0) ((rd_T97 l0_3 x30_2).f1.f1) ((rd_T97 l0_3 x30_2).f1.f2) ((rd_T97 l0_3 x30_2).f1.f3) ((rd_T97 l0_3 x30_2).f1.f4) ((rd_T97 l0_3 x30_2).f1.f5) ((rd_T97 l0_3 x30_2).f2) ((rd_T97 l0_3 x30_2).f3))) else (impl_GoodBoard.j2 k2 x30_2 l0_3 (l0_3.length : Int) x30_2 true a0_0 a0_1 a0_2 l0_3 ((rd_T97 l0_3 x30_2).f0.f0) ((rd_T97 l0_3 x30_2).f0.f1) ((rd_T97 l0_3 x30_2).f0.f2) ((rd_T97 l0_3 x30_2).f1.f0) ((rd_T97 l0_3 x30_2).f1.f1) ((rd_T97 l0_3 x30_2).f1.f2) ((rd_T97 l0_3 x30_2).f1.f3) ((rd_T97 l0_3 x30_2).f1.f4) ((rd_T97 l0_3 x30_2).f1.f5) ((rd_T97 l0_3 x30_2).f2) ((rd_T97 l0_3 x30_2).f3))))) = some r := by rw [if_pos rfl] at H; exact H
                      clear H
                      have H := H1
                      clear H1
                      by_cases c29 : ((rd_T97 l0_3 x30_2).f1.f0) = 0
                      · rw [if_pos c29] at H
                        have c29b0 : (((rd_T97 l0_3 x30_2).f1.f0) == 0) = true := beq_iff_eq.mpr c29
                        have c29b1 : (((rd_T97 l0_3 x30_2).f1.f0) != 0) = false := bne_eq_false_iff_eq.mpr c29
                        clear c29
                        have H' := aM H
                        clear H
                        have hnb30 := NB106_101.out
                        have hnc30 := NB101_106.out
                        have hcz31_0 : w20.cell? ⟨gb106, 0, none⟩ = some (.string (⟨#[]⟩ : ByteArray)) := (blk_cell BK106.out 0).trans rfl
                        have hcz31_1 : w20.cell? ⟨gb106, 1, none⟩ = some (.slice none 0 0) := (blk_cell BK106.out 1).trans rfl
                        have hcz31_2 : w20.cell? ⟨gb106, 2, none⟩ = some (.int .i64 0) := (blk_cell BK106.out 2).trans rfl
                        have hcz31_3 : w20.cell? ⟨gb106, 3, none⟩ = some (.int .i64 0) := (blk_cell BK106.out 3).trans rfl
                        have hcz31_4 : w20.cell? ⟨gb106, 4, none⟩ = some (.int .i64 0) := (blk_cell BK106.out 4).trans rfl
                        have hcz31_5 : w20.cell? ⟨gb106, 5, none⟩ = some (.int .i64 0) := (blk_cell BK106.out 5).trans rfl
                        have hcz31_6 : w20.cell? ⟨gb106, 6, none⟩ = some (.int .i64 0) := (blk_cell BK106.out 6).trans rfl
                        have hcz31_7 : w20.cell? ⟨gb106, 7, none⟩ = some (.slice none 0 0) := (blk_cell BK106.out 7).trans rfl
                        have hcz31_8 : w20.cell? ⟨gb106, 8, none⟩ = some (.bool false) := (blk_cell BK106.out 8).trans rfl
                        have hcz31_9 : w20.cell? ⟨gb106, 9, none⟩ = some (.int .i64 0) := (blk_cell BK106.out 9).trans rfl
                        have hcz31_10 : w20.cell? ⟨gb106, 10, none⟩ = some (.bool false) := (blk_cell BK106.out 10).trans rfl
                        have hfz31_0 := blk_frozen BK106.out 0
                        have hfz31_1 := blk_frozen BK106.out 1
                        have hfz31_2 := blk_frozen BK106.out 2
                        have hfz31_3 := blk_frozen BK106.out 3
                        have hfz31_4 := blk_frozen BK106.out 4
                        have hfz31_5 := blk_frozen BK106.out 5
                        have hfz31_6 := blk_frozen BK106.out 6
                        have hfz31_7 := blk_frozen BK106.out 7
                        have hfz31_8 := blk_frozen BK106.out 8
                        have hfz31_9 := blk_frozen BK106.out 9
                        have hfz31_10 := blk_frozen BK106.out 10
                        go_wp2_with (first | ((with_reducible refine gate_callee (f := 31) rfl ?_); refine goesL_ (some 37) rfl rfl Tryd.func31 (by kernel_rfl) rfl #[.agg #[.string ((rd_T97 l0_3 x30_2).f0.f0), .slice A105_1 ((rd_T97 l0_3 x30_2).f0.f1).length c105_1, .int .i64 ((rd_T97 l0_3 x30_2).f0.f2)]] rfl zee81 ?_; (with_reducible refine (impl_GoodKey.calls k2 ((rd_T97 l0_3 x30_2).f0.f0) _ _ ((rd_T97 l0_3 x30_2).f0.f1) ((rd_T97 l0_3 x30_2).f0.f2) true _ ?side1 ?side2 A23.out).mono ?_); (case side1 => exact Kd.C_below HR105_1.out hbZ); (case side2 => exact HC105_1.out); rintro e w32 ⟨rfl, hb⟩; refine ⟨_, rfl, ?_⟩; have _ := bB gb101 hb; have _ := aM (blk_below (g := gb106) (o := .cells #[.string ((rd_T97 l0_3 x30_2).f0.f0), .slice A105_1 ((rd_T97 l0_3 x30_2).f0.f1).length c105_1, .int .i64 ((rd_T97 l0_3 x30_2).f0.f2), .int .i64 ((rd_T97 l0_3 x30_2).f1.f0), .int .i64 ((rd_T97 l0_3 x30_2).f1.f1), .int .i64 ((rd_T97 l0_3 x30_2).f1.f2), .int .i64 ((rd_T97 l0_3 x30_2).f1.f3), .slice A105_7 ((rd_T97 l0_3 x30_2).f1.f4).length c105_7, .bool ((rd_T97 l0_3 x30_2).f1.f5), .int .i64 ((rd_T97 l0_3 x30_2).f2), .bool ((rd_T97 l0_3 x30_2).f3)] 97 (0, 0)) bkZ hb); have _ := aM (below_step hbZ hb); clear BK101 BK106 HB; rename_i BK101 BK106 HB; (try clear hb); have hcz33_0 : w32.cell? ⟨gb106, 0, none⟩ = some (.string ((rd_T97 l0_3 x30_2).f0.f0)) := (blk_cell BK106.out 0).trans rfl; have hcz33_1 : w32.cell? ⟨gb106, 1, none⟩ = some (.slice A105_1 ((rd_T97 l0_3 x30_2).f0.f1).length c105_1) := (blk_cell BK106.out 1).trans rfl; have hcz33_2 : w32.cell? ⟨gb106, 2, none⟩ = some (.int .i64 ((rd_T97 l0_3 x30_2).f0.f2)) := (blk_cell BK106.out 2).trans rfl; have hcz33_3 : w32.cell? ⟨gb106, 3, none⟩ = some (.int .i64 ((rd_T97 l0_3 x30_2).f1.f0)) := (blk_cell BK106.out 3).trans rfl; have hcz33_4 : w32.cell? ⟨gb106, 4, none⟩ = some (.int .i64 ((rd_T97 l0_3 x30_2).f1.f1)) := (blk_cell BK106.out 4).trans rfl; have hcz33_5 : w32.cell? ⟨gb106, 5, none⟩ = some (.int .i64 ((rd_T97 l0_3 x30_2).f1.f2)) := (blk_cell BK106.out 5).trans rfl; have hcz33_6 : w32.cell? ⟨gb106, 6, none⟩ = some (.int .i64 ((rd_T97 l0_3 x30_2).f1.f3)) := (blk_cell BK106.out 6).trans rfl; have hcz33_7 : w32.cell? ⟨gb106, 7, none⟩ = some (.slice A105_7 ((rd_T97 l0_3 x30_2).f1.f4).length c105_7) := (blk_cell BK106.out 7).trans rfl; have hcz33_8 : w32.cell? ⟨gb106, 8, none⟩ = some (.bool ((rd_T97 l0_3 x30_2).f1.f5)) := (blk_cell BK106.out 8).trans rfl; have hcz33_9 : w32.cell? ⟨gb106, 9, none⟩ = some (.int .i64 ((rd_T97 l0_3 x30_2).f2)) := (blk_cell BK106.out 9).trans rfl; have hcz33_10 : w32.cell? ⟨gb106, 10, none⟩ = some (.bool ((rd_T97 l0_3 x30_2).f3)) := (blk_cell BK106.out 10).trans rfl; have hfz33_0 := blk_frozen BK106.out 0; have hfz33_1 := blk_frozen BK106.out 1; have hfz33_2 := blk_frozen BK106.out 2; have hfz33_3 := blk_frozen BK106.out 3; have hfz33_4 := blk_frozen BK106.out 4; have hfz33_5 := blk_frozen BK106.out 5; have hfz33_6 := blk_frozen BK106.out 6; have hfz33_7 := blk_frozen BK106.out 7; have hfz33_8 := blk_frozen BK106.out 8; have hfz33_9 := blk_frozen BK106.out 9; have hfz33_10 := blk_frozen BK106.out 10; obtain ⟨hcz34_0, hcz34_1, hcz34_2, hcz34_3, hfz34_0, hfz34_1, hfz34_2, hfz34_3⟩ := cellsZ4 BK101.out) | (go_at_call 63; (with_reducible refine (impl_GoodAgg.calls k2 ((rd_T97 l0_3 x30_2).f1.f0) ((rd_T97 l0_3 x30_2).f1.f1) ((rd_T97 l0_3 x30_2).f1.f2) ((rd_T97 l0_3 x30_2).f1.f3) _ _ ((rd_T97 l0_3 x30_2).f1.f4) ((rd_T97 l0_3 x30_2).f1.f5) true _ ?side1 ?side2 A27.out).mono ?_); (case side1 => exact (cZ (Kd.C_below HR105_7.out HB.out))); (case side2 => exact HC105_7.out); rintro e w35 ⟨rfl, hb⟩; have _ := bB gb101 hb; have _ := bB gb106 hb; have _ := aM (below_step hbZ hb); clear BK101 BK106 HB; rename_i BK101 BK106 HB; (try clear hb); have hcz36_0 : w35.cell? ⟨gb106, 0, none⟩ = some (.string ((rd_T97 l0_3 x30_2).f0.f0)) := (blk_cell BK106.out 0).trans rfl; have hcz36_1 : w35.cell? ⟨gb106, 1, none⟩ = some (.slice A105_1 ((rd_T97 l0_3 x30_2).f0.f1).length c105_1) := (blk_cell BK106.out 1).trans rfl; have hcz36_2 : w35.cell? ⟨gb106, 2, none⟩ = some (.int .i64 ((rd_T97 l0_3 x30_2).f0.f2)) := (blk_cell BK106.out 2).trans rfl; have hcz36_3 : w35.cell? ⟨gb106, 3, none⟩ = some (.int .i64 ((rd_T97 l0_3 x30_2).f1.f0)) := (blk_cell BK106.out 3).trans rfl; have hcz36_4 : w35.cell? ⟨gb106, 4, none⟩ = some (.int .i64 ((rd_T97 l0_3 x30_2).f1.f1)) := (blk_cell BK106.out 4).trans rfl; have hcz36_5 : w35.cell? ⟨gb106, 5, none⟩ = some (.int .i64 ((rd_T97 l0_3 x30_2).f1.f2)) := (blk_cell BK106.out 5).trans rfl; have hcz36_6 : w35.cell? ⟨gb106, 6, none⟩ = some (.int .i64 ((rd_T97 l0_3 x30_2).f1.f3)) := (blk_cell BK106.out 6).trans rfl; have hcz36_7 : w35.cell? ⟨gb106, 7, none⟩ = some (.slice A105_7 ((rd_T97 l0_3 x30_2).f1.f4).length c105_7) := (blk_cell BK106.out 7).trans rfl; have hcz36_8 : w35.cell? ⟨gb106, 8, none⟩ = some (.bool ((rd_T97 l0_3 x30_2).f1.f5)) := (blk_cell BK106.out 8).trans rfl; have hcz36_9 : w35.cell? ⟨gb106, 9, none⟩ = some (.int .i64 ((rd_T97 l0_3 x30_2).f2)) := (blk_cell BK106.out 9).trans rfl; have hcz36_10 : w35.cell? ⟨gb106, 10, none⟩ = some (.bool ((rd_T97 l0_3 x30_2).f3)) := (blk_cell BK106.out 10).trans rfl; have hfz36_0 := blk_frozen BK106.out 0; have hfz36_1 := blk_frozen BK106.out 1; have hfz36_2 := blk_frozen BK106.out 2; have hfz36_3 := blk_frozen BK106.out 3; have hfz36_4 := blk_frozen BK106.out 4; have hfz36_5 := blk_frozen BK106.out 5; have hfz36_6 := blk_frozen BK106.out 6; have hfz36_7 := blk_frozen BK106.out 7; have hfz36_8 := blk_frozen BK106.out 8; have hfz36_9 := blk_frozen BK106.out 9; have hfz36_10 := blk_frozen BK106.out 10))
                        go_meet
                        case rel => exact ⟨_, (true), z4458, H', ⟨zdc19⟩, ⟨bkZ⟩, ⟨bkZ⟩, ⟨zcb41⟩⟩
                      · rw [if_neg c29] at H
                        have c29b0 : (((rd_T97 l0_3 x30_2).f1.f0) == 0) = false := beq_eq_false_iff_ne.mpr c29
                        have c29b1 : (((rd_T97 l0_3 x30_2).f1.f0) != 0) = true := bne_iff_ne.mpr c29
                        replace H := Option.bind_eq_some_iff.mp H
                        obtain ⟨t109, A370, H⟩ := H
                        try dsimp only at H
                        have A37 := aM A370
                        clear A370
                        by_cases c38 : t109 = true
                        · subst c38
                          have H1 : (if ((rd_T97 l0_3 x30_2).f2) = 0 then (impl_GoodBoard.j2 k2 x30_2 l0_3 (l0_3.length : Int) x30_2 (!((rd_T97 l0_3 x30_2).f3)) a0_0 a0_1 a0_2 l0_3 ((rd_T97 l0_3 x30_2).f0.f0) ((rd_T97 l0_3 x30_2).f0.f1) ((rd_T97 l0_3 x30_2).f0.f2) ((rd_T97 l0_3 x30_2).f1.f0) ((rd_T97 l0_3 x30_2).f1.f1) ((rd_T97 l0_3 x30_2).f1.f2) ((rd_T97 l0_3 x30_2).f1.f3) ((rd_T97 l0_3 x30_2).f1.f4) ((rd_T97 l0_3 x30_2).f1.f5) ((rd_T97 l0_3 x30_2).f2) ((rd_T97 l0_3 x30_2).f3)) else (impl_GoodBoard.j2 k2 x30_2 l0_3 (l0_3.length : Int) x30_2 false a0_0 a0_1 a0_2 l0_3 ((rd_T97 l0_3 x30_2).f0.f0) ((rd_T97 l0_3 x30_2).f0.f1) ((rd_T97 l0_3 x30_2).f0.f2) ((rd_T97 l0_3 x30_2).f1.f0) ((rd_T97 l0_3 x30_2).f1.f1) ((rd_T97 l0_3 x30_2).f1.f2) ((rd_T97 l0_3 x30_2).f1.f3) ((rd_T97 l0_3 x30_2).f1.f4) ((rd_T97 l0_3 x30_2).f1.f5) ((rd_T97 l0_3 x30_2).f2) ((rd_T97 l0_3 x30_2).f3))) = some r := by rw [if_pos rfl] at H; exact H
                          clear H
                          have H := H1
                          clear H1
                          by_cases c39 : ((rd_T97 l0_3 x30_2).f2) = 0
                          · rw [if_pos c39] at H
                            have c39b0 : (((rd_T97 l0_3 x30_2).f2) == 0) = true := beq_iff_eq.mpr c39
                            have c39b1 : (((rd_T97 l0_3 x30_2).f2) != 0) = false := bne_eq_false_iff_eq.mpr c39
                            clear c39
                            have H' := aM H
                            clear H
                            have hnb40 := NB106_101.out
                            have hnc40 := NB101_106.out
                            have hcz41_0 : w20.cell? ⟨gb106, 0, none⟩ = some (.string (⟨#[]⟩ : ByteArray)) := (blk_cell BK106.out 0).trans rfl
                            have hcz41_1 : w20.cell? ⟨gb106, 1, none⟩ = some (.slice none 0 0) := (blk_cell BK106.out 1).trans rfl
                            have hcz41_2 : w20.cell? ⟨gb106, 2, none⟩ = some (.int .i64 0) := (blk_cell BK106.out 2).trans rfl
                            have hcz41_3 : w20.cell? ⟨gb106, 3, none⟩ = some (.int .i64 0) := (blk_cell BK106.out 3).trans rfl
                            have hcz41_4 : w20.cell? ⟨gb106, 4, none⟩ = some (.int .i64 0) := (blk_cell BK106.out 4).trans rfl
                            have hcz41_5 : w20.cell? ⟨gb106, 5, none⟩ = some (.int .i64 0) := (blk_cell BK106.out 5).trans rfl
                            have hcz41_6 : w20.cell? ⟨gb106, 6, none⟩ = some (.int .i64 0) := (blk_cell BK106.out 6).trans rfl
                            have hcz41_7 : w20.cell? ⟨gb106, 7, none⟩ = some (.slice none 0 0) := (blk_cell BK106.out 7).trans rfl
                            have hcz41_8 : w20.cell? ⟨gb106, 8, none⟩ = some (.bool false) := (blk_cell BK106.out 8).trans rfl
                            have hcz41_9 : w20.cell? ⟨gb106, 9, none⟩ = some (.int .i64 0) := (blk_cell BK106.out 9).trans rfl
                            have hcz41_10 : w20.cell? ⟨gb106, 10, none⟩ = some (.bool false) := (blk_cell BK106.out 10).trans rfl
                            have hfz41_0 := blk_frozen BK106.out 0
                            have hfz41_1 := blk_frozen BK106.out 1
                            have hfz41_2 := blk_frozen BK106.out 2
                            have hfz41_3 := blk_frozen BK106.out 3
                            have hfz41_4 := blk_frozen BK106.out 4
                            have hfz41_5 := blk_frozen BK106.out 5
                            have hfz41_6 := blk_frozen BK106.out 6
                            have hfz41_7 := blk_frozen BK106.out 7
                            have hfz41_8 := blk_frozen BK106.out 8
                            have hfz41_9 := blk_frozen BK106.out 9
                            have hfz41_10 := blk_frozen BK106.out 10
                            go_wp2_with (first | ((with_reducible refine gate_callee (f := 31) rfl ?_); refine goesL_ (some 37) rfl rfl Tryd.func31 (by kernel_rfl) rfl #[.agg #[.string ((rd_T97 l0_3 x30_2).f0.f0), .slice A105_1 ((rd_T97 l0_3 x30_2).f0.f1).length c105_1, .int .i64 ((rd_T97 l0_3 x30_2).f0.f2)]] rfl zee81 ?_; (with_reducible refine (impl_GoodKey.calls k2 ((rd_T97 l0_3 x30_2).f0.f0) _ _ ((rd_T97 l0_3 x30_2).f0.f1) ((rd_T97 l0_3 x30_2).f0.f2) true _ ?side1 ?side2 A23.out).mono ?_); (case side1 => exact Kd.C_below HR105_1.out hbZ); (case side2 => exact HC105_1.out); rintro e w42 ⟨rfl, hb⟩; refine ⟨_, rfl, ?_⟩; have _ := bB gb101 hb; have _ := aM (blk_below (g := gb106) (o := .cells #[.string ((rd_T97 l0_3 x30_2).f0.f0), .slice A105_1 ((rd_T97 l0_3 x30_2).f0.f1).length c105_1, .int .i64 ((rd_T97 l0_3 x30_2).f0.f2), .int .i64 ((rd_T97 l0_3 x30_2).f1.f0), .int .i64 ((rd_T97 l0_3 x30_2).f1.f1), .int .i64 ((rd_T97 l0_3 x30_2).f1.f2), .int .i64 ((rd_T97 l0_3 x30_2).f1.f3), .slice A105_7 ((rd_T97 l0_3 x30_2).f1.f4).length c105_7, .bool ((rd_T97 l0_3 x30_2).f1.f5), .int .i64 ((rd_T97 l0_3 x30_2).f2), .bool ((rd_T97 l0_3 x30_2).f3)] 97 (0, 0)) bkZ hb); have _ := aM (below_step hbZ hb); clear BK101 BK106 HB; rename_i BK101 BK106 HB; (try clear hb); have hcz43_0 : w42.cell? ⟨gb106, 0, none⟩ = some (.string ((rd_T97 l0_3 x30_2).f0.f0)) := (blk_cell BK106.out 0).trans rfl; have hcz43_1 : w42.cell? ⟨gb106, 1, none⟩ = some (.slice A105_1 ((rd_T97 l0_3 x30_2).f0.f1).length c105_1) := (blk_cell BK106.out 1).trans rfl; have hcz43_2 : w42.cell? ⟨gb106, 2, none⟩ = some (.int .i64 ((rd_T97 l0_3 x30_2).f0.f2)) := (blk_cell BK106.out 2).trans rfl; have hcz43_3 : w42.cell? ⟨gb106, 3, none⟩ = some (.int .i64 ((rd_T97 l0_3 x30_2).f1.f0)) := (blk_cell BK106.out 3).trans rfl; have hcz43_4 : w42.cell? ⟨gb106, 4, none⟩ = some (.int .i64 ((rd_T97 l0_3 x30_2).f1.f1)) := (blk_cell BK106.out 4).trans rfl; have hcz43_5 : w42.cell? ⟨gb106, 5, none⟩ = some (.int .i64 ((rd_T97 l0_3 x30_2).f1.f2)) := (blk_cell BK106.out 5).trans rfl; have hcz43_6 : w42.cell? ⟨gb106, 6, none⟩ = some (.int .i64 ((rd_T97 l0_3 x30_2).f1.f3)) := (blk_cell BK106.out 6).trans rfl; have hcz43_7 : w42.cell? ⟨gb106, 7, none⟩ = some (.slice A105_7 ((rd_T97 l0_3 x30_2).f1.f4).length c105_7) := (blk_cell BK106.out 7).trans rfl; have hcz43_8 : w42.cell? ⟨gb106, 8, none⟩ = some (.bool ((rd_T97 l0_3 x30_2).f1.f5)) := (blk_cell BK106.out 8).trans rfl; have hcz43_9 : w42.cell? ⟨gb106, 9, none⟩ = some (.int .i64 ((rd_T97 l0_3 x30_2).f2)) := (blk_cell BK106.out 9).trans rfl; have hcz43_10 : w42.cell? ⟨gb106, 10, none⟩ = some (.bool ((rd_T97 l0_3 x30_2).f3)) := (blk_cell BK106.out 10).trans rfl; have hfz43_0 := blk_frozen BK106.out 0; have hfz43_1 := blk_frozen BK106.out 1; have hfz43_2 := blk_frozen BK106.out 2; have hfz43_3 := blk_frozen BK106.out 3; have hfz43_4 := blk_frozen BK106.out 4; have hfz43_5 := blk_frozen BK106.out 5; have hfz43_6 := blk_frozen BK106.out 6; have hfz43_7 := blk_frozen BK106.out 7; have hfz43_8 := blk_frozen BK106.out 8; have hfz43_9 := blk_frozen BK106.out 9; have hfz43_10 := blk_frozen BK106.out 10; obtain ⟨hcz44_0, hcz44_1, hcz44_2, hcz44_3, hfz44_0, hfz44_1, hfz44_2, hfz44_3⟩ := cellsZ4 BK101.out) | (go_at_call 63; (with_reducible refine (impl_GoodAgg.calls k2 ((rd_T97 l0_3 x30_2).f1.f0) ((rd_T97 l0_3 x30_2).f1.f1) ((rd_T97 l0_3 x30_2).f1.f2) ((rd_T97 l0_3 x30_2).f1.f3) _ _ ((rd_T97 l0_3 x30_2).f1.f4) ((rd_T97 l0_3 x30_2).f1.f5) true _ ?side1 ?side2 A27.out).mono ?_); (case side1 => exact (cZ (Kd.C_below HR105_7.out HB.out))); (case side2 => exact HC105_7.out); rintro e w45 ⟨rfl, hb⟩; have _ := bB gb101 hb; have _ := bB gb106 hb; have _ := aM (below_step hbZ hb); clear BK101 BK106 HB; rename_i BK101 BK106 HB; (try clear hb); have hcz46_0 : w45.cell? ⟨gb106, 0, none⟩ = some (.string ((rd_T97 l0_3 x30_2).f0.f0)) := (blk_cell BK106.out 0).trans rfl; have hcz46_1 : w45.cell? ⟨gb106, 1, none⟩ = some (.slice A105_1 ((rd_T97 l0_3 x30_2).f0.f1).length c105_1) := (blk_cell BK106.out 1).trans rfl; have hcz46_2 : w45.cell? ⟨gb106, 2, none⟩ = some (.int .i64 ((rd_T97 l0_3 x30_2).f0.f2)) := (blk_cell BK106.out 2).trans rfl; have hcz46_3 : w45.cell? ⟨gb106, 3, none⟩ = some (.int .i64 ((rd_T97 l0_3 x30_2).f1.f0)) := (blk_cell BK106.out 3).trans rfl; have hcz46_4 : w45.cell? ⟨gb106, 4, none⟩ = some (.int .i64 ((rd_T97 l0_3 x30_2).f1.f1)) := (blk_cell BK106.out 4).trans rfl; have hcz46_5 : w45.cell? ⟨gb106, 5, none⟩ = some (.int .i64 ((rd_T97 l0_3 x30_2).f1.f2)) := (blk_cell BK106.out 5).trans rfl; have hcz46_6 : w45.cell? ⟨gb106, 6, none⟩ = some (.int .i64 ((rd_T97 l0_3 x30_2).f1.f3)) := (blk_cell BK106.out 6).trans rfl; have hcz46_7 : w45.cell? ⟨gb106, 7, none⟩ = some (.slice A105_7 ((rd_T97 l0_3 x30_2).f1.f4).length c105_7) := (blk_cell BK106.out 7).trans rfl; have hcz46_8 : w45.cell? ⟨gb106, 8, none⟩ = some (.bool ((rd_T97 l0_3 x30_2).f1.f5)) := (blk_cell BK106.out 8).trans rfl; have hcz46_9 : w45.cell? ⟨gb106, 9, none⟩ = some (.int .i64 ((rd_T97 l0_3 x30_2).f2)) := (blk_cell BK106.out 9).trans rfl; have hcz46_10 : w45.cell? ⟨gb106, 10, none⟩ = some (.bool ((rd_T97 l0_3 x30_2).f3)) := (blk_cell BK106.out 10).trans rfl; have hfz46_0 := blk_frozen BK106.out 0; have hfz46_1 := blk_frozen BK106.out 1; have hfz46_2 := blk_frozen BK106.out 2; have hfz46_3 := blk_frozen BK106.out 3; have hfz46_4 := blk_frozen BK106.out 4; have hfz46_5 := blk_frozen BK106.out 5; have hfz46_6 := blk_frozen BK106.out 6; have hfz46_7 := blk_frozen BK106.out 7; have hfz46_8 := blk_frozen BK106.out 8; have hfz46_9 := blk_frozen BK106.out 9; have hfz46_10 := blk_frozen BK106.out 10) | (go_at_call 61; (with_reducible refine (impl_within.calls ((rd_T97 l0_3 x30_2).f2) 0 1000000 true _ A37.out).mono ?_); rintro e w' ⟨rfl, ⟨nd, rfl⟩⟩))
                            go_meet
                            case rel => exact ⟨_, (!((rd_T97 l0_3 x30_2).f3)), z4458, H', ⟨zdc19⟩, ⟨bkZ⟩, ⟨bkZ⟩, ⟨zcb41⟩⟩
                          · rw [if_neg c39] at H
                            have c39b0 : (((rd_T97 l0_3 x30_2).f2) == 0) = false := beq_eq_false_iff_ne.mpr c39
                            have c39b1 : (((rd_T97 l0_3 x30_2).f2) != 0) = true := bne_iff_ne.mpr c39
                            have H' := aM H
                            clear H
                            have hnb47 := NB106_101.out
                            have hnc47 := NB101_106.out
                            have hcz48_0 : w20.cell? ⟨gb106, 0, none⟩ = some (.string (⟨#[]⟩ : ByteArray)) := (blk_cell BK106.out 0).trans rfl
                            have hcz48_1 : w20.cell? ⟨gb106, 1, none⟩ = some (.slice none 0 0) := (blk_cell BK106.out 1).trans rfl
                            have hcz48_2 : w20.cell? ⟨gb106, 2, none⟩ = some (.int .i64 0) := (blk_cell BK106.out 2).trans rfl
                            have hcz48_3 : w20.cell? ⟨gb106, 3, none⟩ = some (.int .i64 0) := (blk_cell BK106.out 3).trans rfl
                            have hcz48_4 : w20.cell? ⟨gb106, 4, none⟩ = some (.int .i64 0) := (blk_cell BK106.out 4).trans rfl
                            have hcz48_5 : w20.cell? ⟨gb106, 5, none⟩ = some (.int .i64 0) := (blk_cell BK106.out 5).trans rfl
                            have hcz48_6 : w20.cell? ⟨gb106, 6, none⟩ = some (.int .i64 0) := (blk_cell BK106.out 6).trans rfl
                            have hcz48_7 : w20.cell? ⟨gb106, 7, none⟩ = some (.slice none 0 0) := (blk_cell BK106.out 7).trans rfl
                            have hcz48_8 : w20.cell? ⟨gb106, 8, none⟩ = some (.bool false) := (blk_cell BK106.out 8).trans rfl
                            have hcz48_9 : w20.cell? ⟨gb106, 9, none⟩ = some (.int .i64 0) := (blk_cell BK106.out 9).trans rfl
                            have hcz48_10 : w20.cell? ⟨gb106, 10, none⟩ = some (.bool false) := (blk_cell BK106.out 10).trans rfl
                            have hfz48_0 := blk_frozen BK106.out 0
                            have hfz48_1 := blk_frozen BK106.out 1
                            have hfz48_2 := blk_frozen BK106.out 2
                            have hfz48_3 := blk_frozen BK106.out 3
                            have hfz48_4 := blk_frozen BK106.out 4
                            have hfz48_5 := blk_frozen BK106.out 5
                            have hfz48_6 := blk_frozen BK106.out 6
                            have hfz48_7 := blk_frozen BK106.out 7
                            have hfz48_8 := blk_frozen BK106.out 8
                            have hfz48_9 := blk_frozen BK106.out 9
                            have hfz48_10 := blk_frozen BK106.out 10
                            go_wp2_with (first | ((with_reducible refine gate_callee (f := 31) rfl ?_); refine goesL_ (some 37) rfl rfl Tryd.func31 (by kernel_rfl) rfl #[.agg #[.string ((rd_T97 l0_3 x30_2).f0.f0), .slice A105_1 ((rd_T97 l0_3 x30_2).f0.f1).length c105_1, .int .i64 ((rd_T97 l0_3 x30_2).f0.f2)]] rfl zee81 ?_; (with_reducible refine (impl_GoodKey.calls k2 ((rd_T97 l0_3 x30_2).f0.f0) _ _ ((rd_T97 l0_3 x30_2).f0.f1) ((rd_T97 l0_3 x30_2).f0.f2) true _ ?side1 ?side2 A23.out).mono ?_); (case side1 => exact Kd.C_below HR105_1.out hbZ); (case side2 => exact HC105_1.out); rintro e w49 ⟨rfl, hb⟩; refine ⟨_, rfl, ?_⟩; have _ := bB gb101 hb; have _ := aM (blk_below (g := gb106) (o := .cells #[.string ((rd_T97 l0_3 x30_2).f0.f0), .slice A105_1 ((rd_T97 l0_3 x30_2).f0.f1).length c105_1, .int .i64 ((rd_T97 l0_3 x30_2).f0.f2), .int .i64 ((rd_T97 l0_3 x30_2).f1.f0), .int .i64 ((rd_T97 l0_3 x30_2).f1.f1), .int .i64 ((rd_T97 l0_3 x30_2).f1.f2), .int .i64 ((rd_T97 l0_3 x30_2).f1.f3), .slice A105_7 ((rd_T97 l0_3 x30_2).f1.f4).length c105_7, .bool ((rd_T97 l0_3 x30_2).f1.f5), .int .i64 ((rd_T97 l0_3 x30_2).f2), .bool ((rd_T97 l0_3 x30_2).f3)] 97 (0, 0)) bkZ hb); have _ := aM (below_step hbZ hb); clear BK101 BK106 HB; rename_i BK101 BK106 HB; (try clear hb); have hcz50_0 : w49.cell? ⟨gb106, 0, none⟩ = some (.string ((rd_T97 l0_3 x30_2).f0.f0)) := (blk_cell BK106.out 0).trans rfl; have hcz50_1 : w49.cell? ⟨gb106, 1, none⟩ = some (.slice A105_1 ((rd_T97 l0_3 x30_2).f0.f1).length c105_1) := (blk_cell BK106.out 1).trans rfl; have hcz50_2 : w49.cell? ⟨gb106, 2, none⟩ = some (.int .i64 ((rd_T97 l0_3 x30_2).f0.f2)) := (blk_cell BK106.out 2).trans rfl; have hcz50_3 : w49.cell? ⟨gb106, 3, none⟩ = some (.int .i64 ((rd_T97 l0_3 x30_2).f1.f0)) := (blk_cell BK106.out 3).trans rfl; have hcz50_4 : w49.cell? ⟨gb106, 4, none⟩ = some (.int .i64 ((rd_T97 l0_3 x30_2).f1.f1)) := (blk_cell BK106.out 4).trans rfl; have hcz50_5 : w49.cell? ⟨gb106, 5, none⟩ = some (.int .i64 ((rd_T97 l0_3 x30_2).f1.f2)) := (blk_cell BK106.out 5).trans rfl; have hcz50_6 : w49.cell? ⟨gb106, 6, none⟩ = some (.int .i64 ((rd_T97 l0_3 x30_2).f1.f3)) := (blk_cell BK106.out 6).trans rfl; have hcz50_7 : w49.cell? ⟨gb106, 7, none⟩ = some (.slice A105_7 ((rd_T97 l0_3 x30_2).f1.f4).length c105_7) := (blk_cell BK106.out 7).trans rfl; have hcz50_8 : w49.cell? ⟨gb106, 8, none⟩ = some (.bool ((rd_T97 l0_3 x30_2).f1.f5)) := (blk_cell BK106.out 8).trans rfl; have hcz50_9 : w49.cell? ⟨gb106, 9, none⟩ = some (.int .i64 ((rd_T97 l0_3 x30_2).f2)) := (blk_cell BK106.out 9).trans rfl; have hcz50_10 : w49.cell? ⟨gb106, 10, none⟩ = some (.bool ((rd_T97 l0_3 x30_2).f3)) := (blk_cell BK106.out 10).trans rfl; have hfz50_0 := blk_frozen BK106.out 0; have hfz50_1 := blk_frozen BK106.out 1; have hfz50_2 := blk_frozen BK106.out 2; have hfz50_3 := blk_frozen BK106.out 3; have hfz50_4 := blk_frozen BK106.out 4; have hfz50_5 := blk_frozen BK106.out 5; have hfz50_6 := blk_frozen BK106.out 6; have hfz50_7 := blk_frozen BK106.out 7; have hfz50_8 := blk_frozen BK106.out 8; have hfz50_9 := blk_frozen BK106.out 9; have hfz50_10 := blk_frozen BK106.out 10; obtain ⟨hcz51_0, hcz51_1, hcz51_2, hcz51_3, hfz51_0, hfz51_1, hfz51_2, hfz51_3⟩ := cellsZ4 BK101.out) | (go_at_call 63; (with_reducible refine (impl_GoodAgg.calls k2 ((rd_T97 l0_3 x30_2).f1.f0) ((rd_T97 l0_3 x30_2).f1.f1) ((rd_T97 l0_3 x30_2).f1.f2) ((rd_T97 l0_3 x30_2).f1.f3) _ _ ((rd_T97 l0_3 x30_2).f1.f4) ((rd_T97 l0_3 x30_2).f1.f5) true _ ?side1 ?side2 A27.out).mono ?_); (case side1 => exact (cZ (Kd.C_below HR105_7.out HB.out))); (case side2 => exact HC105_7.out); rintro e w52 ⟨rfl, hb⟩; have _ := bB gb101 hb; have _ := bB gb106 hb; have _ := aM (below_step hbZ hb); clear BK101 BK106 HB; rename_i BK101 BK106 HB; (try clear hb); have hcz53_0 : w52.cell? ⟨gb106, 0, none⟩ = some (.string ((rd_T97 l0_3 x30_2).f0.f0)) := (blk_cell BK106.out 0).trans rfl; have hcz53_1 : w52.cell? ⟨gb106, 1, none⟩ = some (.slice A105_1 ((rd_T97 l0_3 x30_2).f0.f1).length c105_1) := (blk_cell BK106.out 1).trans rfl; have hcz53_2 : w52.cell? ⟨gb106, 2, none⟩ = some (.int .i64 ((rd_T97 l0_3 x30_2).f0.f2)) := (blk_cell BK106.out 2).trans rfl; have hcz53_3 : w52.cell? ⟨gb106, 3, none⟩ = some (.int .i64 ((rd_T97 l0_3 x30_2).f1.f0)) := (blk_cell BK106.out 3).trans rfl; have hcz53_4 : w52.cell? ⟨gb106, 4, none⟩ = some (.int .i64 ((rd_T97 l0_3 x30_2).f1.f1)) := (blk_cell BK106.out 4).trans rfl; have hcz53_5 : w52.cell? ⟨gb106, 5, none⟩ = some (.int .i64 ((rd_T97 l0_3 x30_2).f1.f2)) := (blk_cell BK106.out 5).trans rfl; have hcz53_6 : w52.cell? ⟨gb106, 6, none⟩ = some (.int .i64 ((rd_T97 l0_3 x30_2).f1.f3)) := (blk_cell BK106.out 6).trans rfl; have hcz53_7 : w52.cell? ⟨gb106, 7, none⟩ = some (.slice A105_7 ((rd_T97 l0_3 x30_2).f1.f4).length c105_7) := (blk_cell BK106.out 7).trans rfl; have hcz53_8 : w52.cell? ⟨gb106, 8, none⟩ = some (.bool ((rd_T97 l0_3 x30_2).f1.f5)) := (blk_cell BK106.out 8).trans rfl; have hcz53_9 : w52.cell? ⟨gb106, 9, none⟩ = some (.int .i64 ((rd_T97 l0_3 x30_2).f2)) := (blk_cell BK106.out 9).trans rfl; have hcz53_10 : w52.cell? ⟨gb106, 10, none⟩ = some (.bool ((rd_T97 l0_3 x30_2).f3)) := (blk_cell BK106.out 10).trans rfl; have hfz53_0 := blk_frozen BK106.out 0; have hfz53_1 := blk_frozen BK106.out 1; have hfz53_2 := blk_frozen BK106.out 2; have hfz53_3 := blk_frozen BK106.out 3; have hfz53_4 := blk_frozen BK106.out 4; have hfz53_5 := blk_frozen BK106.out 5; have hfz53_6 := blk_frozen BK106.out 6; have hfz53_7 := blk_frozen BK106.out 7; have hfz53_8 := blk_frozen BK106.out 8; have hfz53_9 := blk_frozen BK106.out 9; have hfz53_10 := blk_frozen BK106.out 10) | (go_at_call 61; (with_reducible refine (impl_within.calls ((rd_T97 l0_3 x30_2).f2) 0 1000000 true _ A37.out).mono ?_); rintro e w' ⟨rfl, ⟨nd, rfl⟩⟩))
                            go_meet
                            case rel => exact ⟨_, (false), z4458, H', ⟨zdc19⟩, ⟨bkZ⟩, ⟨bkZ⟩, ⟨zcb41⟩⟩
                        · replace c38 := Bool.eq_false_iff.mpr c38
                          subst c38
                          have H1 : (impl_GoodBoard.j2 k2 x30_2 l0_3 (l0_3.length : Int) x30_2 true a0_0 a0_1 a0_2 l0_3 ((rd_T97 l0_3 x30_2).f0.f0) ((rd_T97 l0_3 x30_2).f0.f1) ((rd_T97 l0_3 x30_2).f0.f2) ((rd_T97 l0_3 x30_2).f1.f0) ((rd_T97 l0_3 x30_2).f1.f1) ((rd_T97 l0_3 x30_2).f1.f2) ((rd_T97 l0_3 x30_2).f1.f3) ((rd_T97 l0_3 x30_2).f1.f4) ((rd_T97 l0_3 x30_2).f1.f5) ((rd_T97 l0_3 x30_2).f2) ((rd_T97 l0_3 x30_2).f3)) = some r := by rw [if_neg (show ¬ (false = true) by decide)] at H; exact H
                          clear H
                          have H := H1
                          clear H1
                          have H' := aM H
                          clear H
                          have hnb54 := NB106_101.out
                          have hnc54 := NB101_106.out
                          have hcz55_0 : w20.cell? ⟨gb106, 0, none⟩ = some (.string (⟨#[]⟩ : ByteArray)) := (blk_cell BK106.out 0).trans rfl
                          have hcz55_1 : w20.cell? ⟨gb106, 1, none⟩ = some (.slice none 0 0) := (blk_cell BK106.out 1).trans rfl
                          have hcz55_2 : w20.cell? ⟨gb106, 2, none⟩ = some (.int .i64 0) := (blk_cell BK106.out 2).trans rfl
                          have hcz55_3 : w20.cell? ⟨gb106, 3, none⟩ = some (.int .i64 0) := (blk_cell BK106.out 3).trans rfl
                          have hcz55_4 : w20.cell? ⟨gb106, 4, none⟩ = some (.int .i64 0) := (blk_cell BK106.out 4).trans rfl
                          have hcz55_5 : w20.cell? ⟨gb106, 5, none⟩ = some (.int .i64 0) := (blk_cell BK106.out 5).trans rfl
                          have hcz55_6 : w20.cell? ⟨gb106, 6, none⟩ = some (.int .i64 0) := (blk_cell BK106.out 6).trans rfl
                          have hcz55_7 : w20.cell? ⟨gb106, 7, none⟩ = some (.slice none 0 0) := (blk_cell BK106.out 7).trans rfl
                          have hcz55_8 : w20.cell? ⟨gb106, 8, none⟩ = some (.bool false) := (blk_cell BK106.out 8).trans rfl
                          have hcz55_9 : w20.cell? ⟨gb106, 9, none⟩ = some (.int .i64 0) := (blk_cell BK106.out 9).trans rfl
                          have hcz55_10 : w20.cell? ⟨gb106, 10, none⟩ = some (.bool false) := (blk_cell BK106.out 10).trans rfl
                          have hfz55_0 := blk_frozen BK106.out 0
                          have hfz55_1 := blk_frozen BK106.out 1
                          have hfz55_2 := blk_frozen BK106.out 2
                          have hfz55_3 := blk_frozen BK106.out 3
                          have hfz55_4 := blk_frozen BK106.out 4
                          have hfz55_5 := blk_frozen BK106.out 5
                          have hfz55_6 := blk_frozen BK106.out 6
                          have hfz55_7 := blk_frozen BK106.out 7
                          have hfz55_8 := blk_frozen BK106.out 8
                          have hfz55_9 := blk_frozen BK106.out 9
                          have hfz55_10 := blk_frozen BK106.out 10
                          go_wp2_with (first | ((with_reducible refine gate_callee (f := 31) rfl ?_); refine goesL_ (some 37) rfl rfl Tryd.func31 (by kernel_rfl) rfl #[.agg #[.string ((rd_T97 l0_3 x30_2).f0.f0), .slice A105_1 ((rd_T97 l0_3 x30_2).f0.f1).length c105_1, .int .i64 ((rd_T97 l0_3 x30_2).f0.f2)]] rfl zee81 ?_; (with_reducible refine (impl_GoodKey.calls k2 ((rd_T97 l0_3 x30_2).f0.f0) _ _ ((rd_T97 l0_3 x30_2).f0.f1) ((rd_T97 l0_3 x30_2).f0.f2) true _ ?side1 ?side2 A23.out).mono ?_); (case side1 => exact Kd.C_below HR105_1.out hbZ); (case side2 => exact HC105_1.out); rintro e w56 ⟨rfl, hb⟩; refine ⟨_, rfl, ?_⟩; have _ := bB gb101 hb; have _ := aM (blk_below (g := gb106) (o := .cells #[.string ((rd_T97 l0_3 x30_2).f0.f0), .slice A105_1 ((rd_T97 l0_3 x30_2).f0.f1).length c105_1, .int .i64 ((rd_T97 l0_3 x30_2).f0.f2), .int .i64 ((rd_T97 l0_3 x30_2).f1.f0), .int .i64 ((rd_T97 l0_3 x30_2).f1.f1), .int .i64 ((rd_T97 l0_3 x30_2).f1.f2), .int .i64 ((rd_T97 l0_3 x30_2).f1.f3), .slice A105_7 ((rd_T97 l0_3 x30_2).f1.f4).length c105_7, .bool ((rd_T97 l0_3 x30_2).f1.f5), .int .i64 ((rd_T97 l0_3 x30_2).f2), .bool ((rd_T97 l0_3 x30_2).f3)] 97 (0, 0)) bkZ hb); have _ := aM (below_step hbZ hb); clear BK101 BK106 HB; rename_i BK101 BK106 HB; (try clear hb); have hcz57_0 : w56.cell? ⟨gb106, 0, none⟩ = some (.string ((rd_T97 l0_3 x30_2).f0.f0)) := (blk_cell BK106.out 0).trans rfl; have hcz57_1 : w56.cell? ⟨gb106, 1, none⟩ = some (.slice A105_1 ((rd_T97 l0_3 x30_2).f0.f1).length c105_1) := (blk_cell BK106.out 1).trans rfl; have hcz57_2 : w56.cell? ⟨gb106, 2, none⟩ = some (.int .i64 ((rd_T97 l0_3 x30_2).f0.f2)) := (blk_cell BK106.out 2).trans rfl; have hcz57_3 : w56.cell? ⟨gb106, 3, none⟩ = some (.int .i64 ((rd_T97 l0_3 x30_2).f1.f0)) := (blk_cell BK106.out 3).trans rfl; have hcz57_4 : w56.cell? ⟨gb106, 4, none⟩ = some (.int .i64 ((rd_T97 l0_3 x30_2).f1.f1)) := (blk_cell BK106.out 4).trans rfl; have hcz57_5 : w56.cell? ⟨gb106, 5, none⟩ = some (.int .i64 ((rd_T97 l0_3 x30_2).f1.f2)) := (blk_cell BK106.out 5).trans rfl; have hcz57_6 : w56.cell? ⟨gb106, 6, none⟩ = some (.int .i64 ((rd_T97 l0_3 x30_2).f1.f3)) := (blk_cell BK106.out 6).trans rfl; have hcz57_7 : w56.cell? ⟨gb106, 7, none⟩ = some (.slice A105_7 ((rd_T97 l0_3 x30_2).f1.f4).length c105_7) := (blk_cell BK106.out 7).trans rfl; have hcz57_8 : w56.cell? ⟨gb106, 8, none⟩ = some (.bool ((rd_T97 l0_3 x30_2).f1.f5)) := (blk_cell BK106.out 8).trans rfl; have hcz57_9 : w56.cell? ⟨gb106, 9, none⟩ = some (.int .i64 ((rd_T97 l0_3 x30_2).f2)) := (blk_cell BK106.out 9).trans rfl; have hcz57_10 : w56.cell? ⟨gb106, 10, none⟩ = some (.bool ((rd_T97 l0_3 x30_2).f3)) := (blk_cell BK106.out 10).trans rfl; have hfz57_0 := blk_frozen BK106.out 0; have hfz57_1 := blk_frozen BK106.out 1; have hfz57_2 := blk_frozen BK106.out 2; have hfz57_3 := blk_frozen BK106.out 3; have hfz57_4 := blk_frozen BK106.out 4; have hfz57_5 := blk_frozen BK106.out 5; have hfz57_6 := blk_frozen BK106.out 6; have hfz57_7 := blk_frozen BK106.out 7; have hfz57_8 := blk_frozen BK106.out 8; have hfz57_9 := blk_frozen BK106.out 9; have hfz57_10 := blk_frozen BK106.out 10; obtain ⟨hcz58_0, hcz58_1, hcz58_2, hcz58_3, hfz58_0, hfz58_1, hfz58_2, hfz58_3⟩ := cellsZ4 BK101.out) | (go_at_call 63; (with_reducible refine (impl_GoodAgg.calls k2 ((rd_T97 l0_3 x30_2).f1.f0) ((rd_T97 l0_3 x30_2).f1.f1) ((rd_T97 l0_3 x30_2).f1.f2) ((rd_T97 l0_3 x30_2).f1.f3) _ _ ((rd_T97 l0_3 x30_2).f1.f4) ((rd_T97 l0_3 x30_2).f1.f5) true _ ?side1 ?side2 A27.out).mono ?_); (case side1 => exact (cZ (Kd.C_below HR105_7.out HB.out))); (case side2 => exact HC105_7.out); rintro e w59 ⟨rfl, hb⟩; have _ := bB gb101 hb; have _ := bB gb106 hb; have _ := aM (below_step hbZ hb); clear BK101 BK106 HB; rename_i BK101 BK106 HB; (try clear hb); have hcz60_0 : w59.cell? ⟨gb106, 0, none⟩ = some (.string ((rd_T97 l0_3 x30_2).f0.f0)) := (blk_cell BK106.out 0).trans rfl; have hcz60_1 : w59.cell? ⟨gb106, 1, none⟩ = some (.slice A105_1 ((rd_T97 l0_3 x30_2).f0.f1).length c105_1) := (blk_cell BK106.out 1).trans rfl; have hcz60_2 : w59.cell? ⟨gb106, 2, none⟩ = some (.int .i64 ((rd_T97 l0_3 x30_2).f0.f2)) := (blk_cell BK106.out 2).trans rfl; have hcz60_3 : w59.cell? ⟨gb106, 3, none⟩ = some (.int .i64 ((rd_T97 l0_3 x30_2).f1.f0)) := (blk_cell BK106.out 3).trans rfl; have hcz60_4 : w59.cell? ⟨gb106, 4, none⟩ = some (.int .i64 ((rd_T97 l0_3 x30_2).f1.f1)) := (blk_cell BK106.out 4).trans rfl; have hcz60_5 : w59.cell? ⟨gb106, 5, none⟩ = some (.int .i64 ((rd_T97 l0_3 x30_2).f1.f2)) := (blk_cell BK106.out 5).trans rfl; have hcz60_6 : w59.cell? ⟨gb106, 6, none⟩ = some (.int .i64 ((rd_T97 l0_3 x30_2).f1.f3)) := (blk_cell BK106.out 6).trans rfl; have hcz60_7 : w59.cell? ⟨gb106, 7, none⟩ = some (.slice A105_7 ((rd_T97 l0_3 x30_2).f1.f4).length c105_7) := (blk_cell BK106.out 7).trans rfl; have hcz60_8 : w59.cell? ⟨gb106, 8, none⟩ = some (.bool ((rd_T97 l0_3 x30_2).f1.f5)) := (blk_cell BK106.out 8).trans rfl; have hcz60_9 : w59.cell? ⟨gb106, 9, none⟩ = some (.int .i64 ((rd_T97 l0_3 x30_2).f2)) := (blk_cell BK106.out 9).trans rfl; have hcz60_10 : w59.cell? ⟨gb106, 10, none⟩ = some (.bool ((rd_T97 l0_3 x30_2).f3)) := (blk_cell BK106.out 10).trans rfl; have hfz60_0 := blk_frozen BK106.out 0; have hfz60_1 := blk_frozen BK106.out 1; have hfz60_2 := blk_frozen BK106.out 2; have hfz60_3 := blk_frozen BK106.out 3; have hfz60_4 := blk_frozen BK106.out 4; have hfz60_5 := blk_frozen BK106.out 5; have hfz60_6 := blk_frozen BK106.out 6; have hfz60_7 := blk_frozen BK106.out 7; have hfz60_8 := blk_frozen BK106.out 8; have hfz60_9 := blk_frozen BK106.out 9; have hfz60_10 := blk_frozen BK106.out 10) | (go_at_call 61; (with_reducible refine (impl_within.calls ((rd_T97 l0_3 x30_2).f2) 0 1000000 false _ A37.out).mono ?_); rintro e w' ⟨rfl, ⟨nd, rfl⟩⟩))
                          go_meet
                          case rel => exact ⟨_, (true), z4458, H', ⟨zdc19⟩, ⟨bkZ⟩, ⟨bkZ⟩, ⟨zcb41⟩⟩
                    · replace c28 := Bool.eq_false_iff.mpr c28
                      subst c28
                      have H1 : (impl_GoodBoard.j2 k2 x30_2 l0_3 (l0_3.length : Int) x30_2 true a0_0 a0_1 a0_2 l0_3 ((rd_T97 l0_3 x30_2).f0.f0) ((rd_T97 l0_3 x30_2).f0.f1) ((rd_T97 l0_3 x30_2).f0.f2) ((rd_T97 l0_3 x30_2).f1.f0) ((rd_T97 l0_3 x30_2).f1.f1) ((rd_T97 l0_3 x30_2).f1.f2) ((rd_T97 l0_3 x30_2).f1.f3) ((rd_T97 l0_3 x30_2).f1.f4) ((rd_T97 l0_3 x30_2).f1.f5) ((rd_T97 l0_3 x30_2).f2) ((rd_T97 l0_3 x30_2).f3)) = some r := by rw [if_neg (show ¬ (false = true) by decide)] at H; exact H
                      clear H
                      have H := H1
                      clear H1
                      have H' := aM H
                      clear H
                      have hnb61 := NB106_101.out
                      have hnc61 := NB101_106.out
                      have hcz62_0 : w20.cell? ⟨gb106, 0, none⟩ = some (.string (⟨#[]⟩ : ByteArray)) := (blk_cell BK106.out 0).trans rfl
                      have hcz62_1 : w20.cell? ⟨gb106, 1, none⟩ = some (.slice none 0 0) := (blk_cell BK106.out 1).trans rfl
                      have hcz62_2 : w20.cell? ⟨gb106, 2, none⟩ = some (.int .i64 0) := (blk_cell BK106.out 2).trans rfl
                      have hcz62_3 : w20.cell? ⟨gb106, 3, none⟩ = some (.int .i64 0) := (blk_cell BK106.out 3).trans rfl
                      have hcz62_4 : w20.cell? ⟨gb106, 4, none⟩ = some (.int .i64 0) := (blk_cell BK106.out 4).trans rfl
                      have hcz62_5 : w20.cell? ⟨gb106, 5, none⟩ = some (.int .i64 0) := (blk_cell BK106.out 5).trans rfl
                      have hcz62_6 : w20.cell? ⟨gb106, 6, none⟩ = some (.int .i64 0) := (blk_cell BK106.out 6).trans rfl
                      have hcz62_7 : w20.cell? ⟨gb106, 7, none⟩ = some (.slice none 0 0) := (blk_cell BK106.out 7).trans rfl
                      have hcz62_8 : w20.cell? ⟨gb106, 8, none⟩ = some (.bool false) := (blk_cell BK106.out 8).trans rfl
                      have hcz62_9 : w20.cell? ⟨gb106, 9, none⟩ = some (.int .i64 0) := (blk_cell BK106.out 9).trans rfl
                      have hcz62_10 : w20.cell? ⟨gb106, 10, none⟩ = some (.bool false) := (blk_cell BK106.out 10).trans rfl
                      have hfz62_0 := blk_frozen BK106.out 0
                      have hfz62_1 := blk_frozen BK106.out 1
                      have hfz62_2 := blk_frozen BK106.out 2
                      have hfz62_3 := blk_frozen BK106.out 3
                      have hfz62_4 := blk_frozen BK106.out 4
                      have hfz62_5 := blk_frozen BK106.out 5
                      have hfz62_6 := blk_frozen BK106.out 6
                      have hfz62_7 := blk_frozen BK106.out 7
                      have hfz62_8 := blk_frozen BK106.out 8
                      have hfz62_9 := blk_frozen BK106.out 9
                      have hfz62_10 := blk_frozen BK106.out 10
                      go_wp2_with (first | ((with_reducible refine gate_callee (f := 31) rfl ?_); refine goesL_ (some 37) rfl rfl Tryd.func31 (by kernel_rfl) rfl #[.agg #[.string ((rd_T97 l0_3 x30_2).f0.f0), .slice A105_1 ((rd_T97 l0_3 x30_2).f0.f1).length c105_1, .int .i64 ((rd_T97 l0_3 x30_2).f0.f2)]] rfl zee81 ?_; (with_reducible refine (impl_GoodKey.calls k2 ((rd_T97 l0_3 x30_2).f0.f0) _ _ ((rd_T97 l0_3 x30_2).f0.f1) ((rd_T97 l0_3 x30_2).f0.f2) true _ ?side1 ?side2 A23.out).mono ?_); (case side1 => exact Kd.C_below HR105_1.out hbZ); (case side2 => exact HC105_1.out); rintro e w63 ⟨rfl, hb⟩; refine ⟨_, rfl, ?_⟩; have _ := bB gb101 hb; have _ := aM (blk_below (g := gb106) (o := .cells #[.string ((rd_T97 l0_3 x30_2).f0.f0), .slice A105_1 ((rd_T97 l0_3 x30_2).f0.f1).length c105_1, .int .i64 ((rd_T97 l0_3 x30_2).f0.f2), .int .i64 ((rd_T97 l0_3 x30_2).f1.f0), .int .i64 ((rd_T97 l0_3 x30_2).f1.f1), .int .i64 ((rd_T97 l0_3 x30_2).f1.f2), .int .i64 ((rd_T97 l0_3 x30_2).f1.f3), .slice A105_7 ((rd_T97 l0_3 x30_2).f1.f4).length c105_7, .bool ((rd_T97 l0_3 x30_2).f1.f5), .int .i64 ((rd_T97 l0_3 x30_2).f2), .bool ((rd_T97 l0_3 x30_2).f3)] 97 (0, 0)) bkZ hb); have _ := aM (below_step hbZ hb); clear BK101 BK106 HB; rename_i BK101 BK106 HB; (try clear hb); have hcz64_0 : w63.cell? ⟨gb106, 0, none⟩ = some (.string ((rd_T97 l0_3 x30_2).f0.f0)) := (blk_cell BK106.out 0).trans rfl; have hcz64_1 : w63.cell? ⟨gb106, 1, none⟩ = some (.slice A105_1 ((rd_T97 l0_3 x30_2).f0.f1).length c105_1) := (blk_cell BK106.out 1).trans rfl; have hcz64_2 : w63.cell? ⟨gb106, 2, none⟩ = some (.int .i64 ((rd_T97 l0_3 x30_2).f0.f2)) := (blk_cell BK106.out 2).trans rfl; have hcz64_3 : w63.cell? ⟨gb106, 3, none⟩ = some (.int .i64 ((rd_T97 l0_3 x30_2).f1.f0)) := (blk_cell BK106.out 3).trans rfl; have hcz64_4 : w63.cell? ⟨gb106, 4, none⟩ = some (.int .i64 ((rd_T97 l0_3 x30_2).f1.f1)) := (blk_cell BK106.out 4).trans rfl; have hcz64_5 : w63.cell? ⟨gb106, 5, none⟩ = some (.int .i64 ((rd_T97 l0_3 x30_2).f1.f2)) := (blk_cell BK106.out 5).trans rfl; have hcz64_6 : w63.cell? ⟨gb106, 6, none⟩ = some (.int .i64 ((rd_T97 l0_3 x30_2).f1.f3)) := (blk_cell BK106.out 6).trans rfl; have hcz64_7 : w63.cell? ⟨gb106, 7, none⟩ = some (.slice A105_7 ((rd_T97 l0_3 x30_2).f1.f4).length c105_7) := (blk_cell BK106.out 7).trans rfl; have hcz64_8 : w63.cell? ⟨gb106, 8, none⟩ = some (.bool ((rd_T97 l0_3 x30_2).f1.f5)) := (blk_cell BK106.out 8).trans rfl; have hcz64_9 : w63.cell? ⟨gb106, 9, none⟩ = some (.int .i64 ((rd_T97 l0_3 x30_2).f2)) := (blk_cell BK106.out 9).trans rfl; have hcz64_10 : w63.cell? ⟨gb106, 10, none⟩ = some (.bool ((rd_T97 l0_3 x30_2).f3)) := (blk_cell BK106.out 10).trans rfl; have hfz64_0 := blk_frozen BK106.out 0; have hfz64_1 := blk_frozen BK106.out 1; have hfz64_2 := blk_frozen BK106.out 2; have hfz64_3 := blk_frozen BK106.out 3; have hfz64_4 := blk_frozen BK106.out 4; have hfz64_5 := blk_frozen BK106.out 5; have hfz64_6 := blk_frozen BK106.out 6; have hfz64_7 := blk_frozen BK106.out 7; have hfz64_8 := blk_frozen BK106.out 8; have hfz64_9 := blk_frozen BK106.out 9; have hfz64_10 := blk_frozen BK106.out 10; obtain ⟨hcz65_0, hcz65_1, hcz65_2, hcz65_3, hfz65_0, hfz65_1, hfz65_2, hfz65_3⟩ := cellsZ4 BK101.out) | (go_at_call 63; (with_reducible refine (impl_GoodAgg.calls k2 ((rd_T97 l0_3 x30_2).f1.f0) ((rd_T97 l0_3 x30_2).f1.f1) ((rd_T97 l0_3 x30_2).f1.f2) ((rd_T97 l0_3 x30_2).f1.f3) _ _ ((rd_T97 l0_3 x30_2).f1.f4) ((rd_T97 l0_3 x30_2).f1.f5) false _ ?side1 ?side2 A27.out).mono ?_); (case side1 => exact (cZ (Kd.C_below HR105_7.out HB.out))); (case side2 => exact HC105_7.out); rintro e w66 ⟨rfl, hb⟩; have _ := bB gb101 hb; have _ := bB gb106 hb; have _ := aM (below_step hbZ hb); clear BK101 BK106 HB; rename_i BK101 BK106 HB; (try clear hb)))
                      go_meet
                      case rel => exact ⟨_, (true), z4458, H', ⟨zdc19⟩, ⟨bkZ⟩, ⟨bkZ⟩, ⟨zcb41⟩⟩
                  · rw [if_neg c26] at H
                    have c26b0 : ((Int.tmod ((rd_T97 l0_3 x30_2).f0.f2) a0_0) == 0) = false := beq_eq_false_iff_ne.mpr c26
                    have c26b1 : ((Int.tmod ((rd_T97 l0_3 x30_2).f0.f2) a0_0) != 0) = true := bne_iff_ne.mpr c26
                    have H' := aM H
                    clear H
                    have hnb67 := NB106_101.out
                    have hnc67 := NB101_106.out
                    have hcz68_0 : w20.cell? ⟨gb106, 0, none⟩ = some (.string (⟨#[]⟩ : ByteArray)) := (blk_cell BK106.out 0).trans rfl
                    have hcz68_1 : w20.cell? ⟨gb106, 1, none⟩ = some (.slice none 0 0) := (blk_cell BK106.out 1).trans rfl
                    have hcz68_2 : w20.cell? ⟨gb106, 2, none⟩ = some (.int .i64 0) := (blk_cell BK106.out 2).trans rfl
                    have hcz68_3 : w20.cell? ⟨gb106, 3, none⟩ = some (.int .i64 0) := (blk_cell BK106.out 3).trans rfl
                    have hcz68_4 : w20.cell? ⟨gb106, 4, none⟩ = some (.int .i64 0) := (blk_cell BK106.out 4).trans rfl
                    have hcz68_5 : w20.cell? ⟨gb106, 5, none⟩ = some (.int .i64 0) := (blk_cell BK106.out 5).trans rfl
                    have hcz68_6 : w20.cell? ⟨gb106, 6, none⟩ = some (.int .i64 0) := (blk_cell BK106.out 6).trans rfl
                    have hcz68_7 : w20.cell? ⟨gb106, 7, none⟩ = some (.slice none 0 0) := (blk_cell BK106.out 7).trans rfl
                    have hcz68_8 : w20.cell? ⟨gb106, 8, none⟩ = some (.bool false) := (blk_cell BK106.out 8).trans rfl
                    have hcz68_9 : w20.cell? ⟨gb106, 9, none⟩ = some (.int .i64 0) := (blk_cell BK106.out 9).trans rfl
                    have hcz68_10 : w20.cell? ⟨gb106, 10, none⟩ = some (.bool false) := (blk_cell BK106.out 10).trans rfl
                    have hfz68_0 := blk_frozen BK106.out 0
                    have hfz68_1 := blk_frozen BK106.out 1
                    have hfz68_2 := blk_frozen BK106.out 2
                    have hfz68_3 := blk_frozen BK106.out 3
                    have hfz68_4 := blk_frozen BK106.out 4
                    have hfz68_5 := blk_frozen BK106.out 5
                    have hfz68_6 := blk_frozen BK106.out 6
                    have hfz68_7 := blk_frozen BK106.out 7
                    have hfz68_8 := blk_frozen BK106.out 8
                    have hfz68_9 := blk_frozen BK106.out 9
                    have hfz68_10 := blk_frozen BK106.out 10
                    go_wp2_with (first | ((with_reducible refine gate_callee (f := 31) rfl ?_); refine goesL_ (some 37) rfl rfl Tryd.func31 (by kernel_rfl) rfl #[.agg #[.string ((rd_T97 l0_3 x30_2).f0.f0), .slice A105_1 ((rd_T97 l0_3 x30_2).f0.f1).length c105_1, .int .i64 ((rd_T97 l0_3 x30_2).f0.f2)]] rfl zee81 ?_; (with_reducible refine (impl_GoodKey.calls k2 ((rd_T97 l0_3 x30_2).f0.f0) _ _ ((rd_T97 l0_3 x30_2).f0.f1) ((rd_T97 l0_3 x30_2).f0.f2) true _ ?side1 ?side2 A23.out).mono ?_); (case side1 => exact Kd.C_below HR105_1.out hbZ); (case side2 => exact HC105_1.out); rintro e w69 ⟨rfl, hb⟩; refine ⟨_, rfl, ?_⟩; have _ := bB gb101 hb; have _ := aM (blk_below (g := gb106) (o := .cells #[.string ((rd_T97 l0_3 x30_2).f0.f0), .slice A105_1 ((rd_T97 l0_3 x30_2).f0.f1).length c105_1, .int .i64 ((rd_T97 l0_3 x30_2).f0.f2), .int .i64 ((rd_T97 l0_3 x30_2).f1.f0), .int .i64 ((rd_T97 l0_3 x30_2).f1.f1), .int .i64 ((rd_T97 l0_3 x30_2).f1.f2), .int .i64 ((rd_T97 l0_3 x30_2).f1.f3), .slice A105_7 ((rd_T97 l0_3 x30_2).f1.f4).length c105_7, .bool ((rd_T97 l0_3 x30_2).f1.f5), .int .i64 ((rd_T97 l0_3 x30_2).f2), .bool ((rd_T97 l0_3 x30_2).f3)] 97 (0, 0)) bkZ hb); have _ := aM (below_step hbZ hb); clear BK101 BK106 HB; rename_i BK101 BK106 HB; (try clear hb); have hcz70_0 : w69.cell? ⟨gb106, 0, none⟩ = some (.string ((rd_T97 l0_3 x30_2).f0.f0)) := (blk_cell BK106.out 0).trans rfl; have hcz70_1 : w69.cell? ⟨gb106, 1, none⟩ = some (.slice A105_1 ((rd_T97 l0_3 x30_2).f0.f1).length c105_1) := (blk_cell BK106.out 1).trans rfl; have hcz70_2 : w69.cell? ⟨gb106, 2, none⟩ = some (.int .i64 ((rd_T97 l0_3 x30_2).f0.f2)) := (blk_cell BK106.out 2).trans rfl; have hcz70_3 : w69.cell? ⟨gb106, 3, none⟩ = some (.int .i64 ((rd_T97 l0_3 x30_2).f1.f0)) := (blk_cell BK106.out 3).trans rfl; have hcz70_4 : w69.cell? ⟨gb106, 4, none⟩ = some (.int .i64 ((rd_T97 l0_3 x30_2).f1.f1)) := (blk_cell BK106.out 4).trans rfl; have hcz70_5 : w69.cell? ⟨gb106, 5, none⟩ = some (.int .i64 ((rd_T97 l0_3 x30_2).f1.f2)) := (blk_cell BK106.out 5).trans rfl; have hcz70_6 : w69.cell? ⟨gb106, 6, none⟩ = some (.int .i64 ((rd_T97 l0_3 x30_2).f1.f3)) := (blk_cell BK106.out 6).trans rfl; have hcz70_7 : w69.cell? ⟨gb106, 7, none⟩ = some (.slice A105_7 ((rd_T97 l0_3 x30_2).f1.f4).length c105_7) := (blk_cell BK106.out 7).trans rfl; have hcz70_8 : w69.cell? ⟨gb106, 8, none⟩ = some (.bool ((rd_T97 l0_3 x30_2).f1.f5)) := (blk_cell BK106.out 8).trans rfl; have hcz70_9 : w69.cell? ⟨gb106, 9, none⟩ = some (.int .i64 ((rd_T97 l0_3 x30_2).f2)) := (blk_cell BK106.out 9).trans rfl; have hcz70_10 : w69.cell? ⟨gb106, 10, none⟩ = some (.bool ((rd_T97 l0_3 x30_2).f3)) := (blk_cell BK106.out 10).trans rfl; have hfz70_0 := blk_frozen BK106.out 0; have hfz70_1 := blk_frozen BK106.out 1; have hfz70_2 := blk_frozen BK106.out 2; have hfz70_3 := blk_frozen BK106.out 3; have hfz70_4 := blk_frozen BK106.out 4; have hfz70_5 := blk_frozen BK106.out 5; have hfz70_6 := blk_frozen BK106.out 6; have hfz70_7 := blk_frozen BK106.out 7; have hfz70_8 := blk_frozen BK106.out 8; have hfz70_9 := blk_frozen BK106.out 9; have hfz70_10 := blk_frozen BK106.out 10; obtain ⟨hcz71_0, hcz71_1, hcz71_2, hcz71_3, hfz71_0, hfz71_1, hfz71_2, hfz71_3⟩ := cellsZ4 BK101.out))
                    go_meet
                    case rel => exact ⟨_, (true), z4458, H', ⟨zdc19⟩, ⟨bkZ⟩, ⟨bkZ⟩, ⟨zcb41⟩⟩
              · replace c24 := Bool.eq_false_iff.mpr c24
                subst c24
                have H1 : (impl_GoodBoard.j2 k2 x30_2 l0_3 (l0_3.length : Int) x30_2 true a0_0 a0_1 a0_2 l0_3 ((rd_T97 l0_3 x30_2).f0.f0) ((rd_T97 l0_3 x30_2).f0.f1) ((rd_T97 l0_3 x30_2).f0.f2) ((rd_T97 l0_3 x30_2).f1.f0) ((rd_T97 l0_3 x30_2).f1.f1) ((rd_T97 l0_3 x30_2).f1.f2) ((rd_T97 l0_3 x30_2).f1.f3) ((rd_T97 l0_3 x30_2).f1.f4) ((rd_T97 l0_3 x30_2).f1.f5) ((rd_T97 l0_3 x30_2).f2) ((rd_T97 l0_3 x30_2).f3)) = some r := by rw [if_neg (show ¬ (false = true) by decide)] at H; exact H
                clear H
                have H := H1
                clear H1
                have H' := aM H
                clear H
                have hnb72 := NB106_101.out
                have hnc72 := NB101_106.out
                have hcz73_0 : w20.cell? ⟨gb106, 0, none⟩ = some (.string (⟨#[]⟩ : ByteArray)) := (blk_cell BK106.out 0).trans rfl
                have hcz73_1 : w20.cell? ⟨gb106, 1, none⟩ = some (.slice none 0 0) := (blk_cell BK106.out 1).trans rfl
                have hcz73_2 : w20.cell? ⟨gb106, 2, none⟩ = some (.int .i64 0) := (blk_cell BK106.out 2).trans rfl
                have hcz73_3 : w20.cell? ⟨gb106, 3, none⟩ = some (.int .i64 0) := (blk_cell BK106.out 3).trans rfl
                have hcz73_4 : w20.cell? ⟨gb106, 4, none⟩ = some (.int .i64 0) := (blk_cell BK106.out 4).trans rfl
                have hcz73_5 : w20.cell? ⟨gb106, 5, none⟩ = some (.int .i64 0) := (blk_cell BK106.out 5).trans rfl
                have hcz73_6 : w20.cell? ⟨gb106, 6, none⟩ = some (.int .i64 0) := (blk_cell BK106.out 6).trans rfl
                have hcz73_7 : w20.cell? ⟨gb106, 7, none⟩ = some (.slice none 0 0) := (blk_cell BK106.out 7).trans rfl
                have hcz73_8 : w20.cell? ⟨gb106, 8, none⟩ = some (.bool false) := (blk_cell BK106.out 8).trans rfl
                have hcz73_9 : w20.cell? ⟨gb106, 9, none⟩ = some (.int .i64 0) := (blk_cell BK106.out 9).trans rfl
                have hcz73_10 : w20.cell? ⟨gb106, 10, none⟩ = some (.bool false) := (blk_cell BK106.out 10).trans rfl
                have hfz73_0 := blk_frozen BK106.out 0
                have hfz73_1 := blk_frozen BK106.out 1
                have hfz73_2 := blk_frozen BK106.out 2
                have hfz73_3 := blk_frozen BK106.out 3
                have hfz73_4 := blk_frozen BK106.out 4
                have hfz73_5 := blk_frozen BK106.out 5
                have hfz73_6 := blk_frozen BK106.out 6
                have hfz73_7 := blk_frozen BK106.out 7
                have hfz73_8 := blk_frozen BK106.out 8
                have hfz73_9 := blk_frozen BK106.out 9
                have hfz73_10 := blk_frozen BK106.out 10
                go_wp2_with (first | ((with_reducible refine gate_callee (f := 31) rfl ?_); refine goesL_ (some 37) rfl rfl Tryd.func31 (by kernel_rfl) rfl #[.agg #[.string ((rd_T97 l0_3 x30_2).f0.f0), .slice A105_1 ((rd_T97 l0_3 x30_2).f0.f1).length c105_1, .int .i64 ((rd_T97 l0_3 x30_2).f0.f2)]] rfl zee81 ?_; (with_reducible refine (impl_GoodKey.calls k2 ((rd_T97 l0_3 x30_2).f0.f0) _ _ ((rd_T97 l0_3 x30_2).f0.f1) ((rd_T97 l0_3 x30_2).f0.f2) false _ ?side1 ?side2 A23.out).mono ?_); (case side1 => exact Kd.C_below HR105_1.out hbZ); (case side2 => exact HC105_1.out); rintro e w74 ⟨rfl, hb⟩; refine ⟨_, rfl, ?_⟩; have _ := bB gb101 hb; have _ := aM (blk_below (g := gb106) (o := .cells #[.string ((rd_T97 l0_3 x30_2).f0.f0), .slice A105_1 ((rd_T97 l0_3 x30_2).f0.f1).length c105_1, .int .i64 ((rd_T97 l0_3 x30_2).f0.f2), .int .i64 ((rd_T97 l0_3 x30_2).f1.f0), .int .i64 ((rd_T97 l0_3 x30_2).f1.f1), .int .i64 ((rd_T97 l0_3 x30_2).f1.f2), .int .i64 ((rd_T97 l0_3 x30_2).f1.f3), .slice A105_7 ((rd_T97 l0_3 x30_2).f1.f4).length c105_7, .bool ((rd_T97 l0_3 x30_2).f1.f5), .int .i64 ((rd_T97 l0_3 x30_2).f2), .bool ((rd_T97 l0_3 x30_2).f3)] 97 (0, 0)) bkZ hb); have _ := aM (below_step hbZ hb); clear BK101 BK106 HB; rename_i BK101 BK106 HB; (try clear hb)))
                go_meet
                case rel => exact ⟨_, (true), z4458, H', ⟨zdc19⟩, ⟨bkZ⟩, ⟨bkZ⟩, ⟨zcb41⟩⟩
             case rest =>
              clear HC19
              try clear c1
              try clear p1
              try clear q1
              try clear hx1
              try clear c2
              try clear p2
              try clear c3
              try clear c4
              try clear c5
              try clear c6
              try clear c7
              try clear c9
              try clear c10
              try clear p10
              try clear q10
              try clear hx10
              try clear c14
              try clear c16
              try clear c16b0
              try clear c17
              try clear c17b0
              try clear c18
              try clear c18b0
              try clear c21
              try clear c24
              try clear c25
              try clear c25b0
              try clear c25b1
              try clear c26
              try clear c26b0
              try clear c26b1
              try clear c28
              try clear c29
              try clear c29b0
              try clear c29b1
              try clear c30
              try clear c31
              try clear c38
              try clear c39
              try clear c39b0
              try clear c39b1
              try clear c40
              try clear c47
              try clear c54
              try clear c60
              try clear c61
              try clear c67
              try clear c72
              try clear hcz10_0 hcz10_1 hcz10_2 hcz10_3
              try clear hcz11_0 hcz11_1 hcz11_2 hcz11_3
              try clear hcz12_0 hcz12_1 hcz12_2 hcz12_3
              try clear hcz13_0 hcz13_1 hcz13_2 hcz13_3
              try clear hcz15_0 hcz15_1 hcz15_2 hcz15_3
              try clear hcz22_0 hcz22_1 hcz22_10 hcz22_2 hcz22_3 hcz22_4 hcz22_5 hcz22_6 hcz22_7 hcz22_8 hcz22_9
              try clear hcz31_0 hcz31_1 hcz31_10 hcz31_2 hcz31_3 hcz31_4 hcz31_5 hcz31_6 hcz31_7 hcz31_8 hcz31_9
              try clear hcz33_0 hcz33_1 hcz33_10 hcz33_2 hcz33_3 hcz33_4 hcz33_5 hcz33_6 hcz33_7 hcz33_8 hcz33_9
              try clear hcz34_0 hcz34_1 hcz34_2 hcz34_3
              try clear hcz36_0 hcz36_1 hcz36_10 hcz36_2 hcz36_3 hcz36_4 hcz36_5 hcz36_6 hcz36_7 hcz36_8 hcz36_9
              try clear hcz41_0 hcz41_1 hcz41_10 hcz41_2 hcz41_3 hcz41_4 hcz41_5 hcz41_6 hcz41_7 hcz41_8 hcz41_9
              try clear hcz43_0 hcz43_1 hcz43_10 hcz43_2 hcz43_3 hcz43_4 hcz43_5 hcz43_6 hcz43_7 hcz43_8 hcz43_9
              try clear hcz44_0 hcz44_1 hcz44_2 hcz44_3
              try clear hcz46_0 hcz46_1 hcz46_10 hcz46_2 hcz46_3 hcz46_4 hcz46_5 hcz46_6 hcz46_7 hcz46_8 hcz46_9
              try clear hcz48_0 hcz48_1 hcz48_10 hcz48_2 hcz48_3 hcz48_4 hcz48_5 hcz48_6 hcz48_7 hcz48_8 hcz48_9
              try clear hcz50_0 hcz50_1 hcz50_10 hcz50_2 hcz50_3 hcz50_4 hcz50_5 hcz50_6 hcz50_7 hcz50_8 hcz50_9
              try clear hcz51_0 hcz51_1 hcz51_2 hcz51_3
              try clear hcz53_0 hcz53_1 hcz53_10 hcz53_2 hcz53_3 hcz53_4 hcz53_5 hcz53_6 hcz53_7 hcz53_8 hcz53_9
              try clear hcz55_0 hcz55_1 hcz55_10 hcz55_2 hcz55_3 hcz55_4 hcz55_5 hcz55_6 hcz55_7 hcz55_8 hcz55_9
              try clear hcz57_0 hcz57_1 hcz57_10 hcz57_2 hcz57_3 hcz57_4 hcz57_5 hcz57_6 hcz57_7 hcz57_8 hcz57_9
              try clear hcz58_0 hcz58_1 hcz58_2 hcz58_3
              try clear hcz60_0 hcz60_1 hcz60_10 hcz60_2 hcz60_3 hcz60_4 hcz60_5 hcz60_6 hcz60_7 hcz60_8 hcz60_9
              try clear hcz62_0 hcz62_1 hcz62_10 hcz62_2 hcz62_3 hcz62_4 hcz62_5 hcz62_6 hcz62_7 hcz62_8 hcz62_9
              try clear hcz64_0 hcz64_1 hcz64_10 hcz64_2 hcz64_3 hcz64_4 hcz64_5 hcz64_6 hcz64_7 hcz64_8 hcz64_9
              try clear hcz65_0 hcz65_1 hcz65_2 hcz65_3
              try clear hcz68_0 hcz68_1 hcz68_10 hcz68_2 hcz68_3 hcz68_4 hcz68_5 hcz68_6 hcz68_7 hcz68_8 hcz68_9
              try clear hcz70_0 hcz70_1 hcz70_10 hcz70_2 hcz70_3 hcz70_4 hcz70_5 hcz70_6 hcz70_7 hcz70_8 hcz70_9
              try clear hcz71_0 hcz71_1 hcz71_2 hcz71_3
              try clear hcz73_0 hcz73_1 hcz73_10 hcz73_2 hcz73_3 hcz73_4 hcz73_5 hcz73_6 hcz73_7 hcz73_8 hcz73_9
              try clear hfz10_0 hfz10_1 hfz10_2 hfz10_3
              try clear hfz11_0 hfz11_1 hfz11_2 hfz11_3
              try clear hfz12_0 hfz12_1 hfz12_2 hfz12_3
              try clear hfz13_0 hfz13_1 hfz13_2 hfz13_3
              try clear hfz15_0 hfz15_1 hfz15_2 hfz15_3
              try clear hfz22_0 hfz22_1 hfz22_10 hfz22_2 hfz22_3 hfz22_4 hfz22_5 hfz22_6 hfz22_7 hfz22_8 hfz22_9
              try clear hfz31_0 hfz31_1 hfz31_10 hfz31_2 hfz31_3 hfz31_4 hfz31_5 hfz31_6 hfz31_7 hfz31_8 hfz31_9
              try clear hfz33_0 hfz33_1 hfz33_10 hfz33_2 hfz33_3 hfz33_4 hfz33_5 hfz33_6 hfz33_7 hfz33_8 hfz33_9
              try clear hfz34_0 hfz34_1 hfz34_2 hfz34_3
              try clear hfz36_0 hfz36_1 hfz36_10 hfz36_2 hfz36_3 hfz36_4 hfz36_5 hfz36_6 hfz36_7 hfz36_8 hfz36_9
              try clear hfz41_0 hfz41_1 hfz41_10 hfz41_2 hfz41_3 hfz41_4 hfz41_5 hfz41_6 hfz41_7 hfz41_8 hfz41_9
              try clear hfz43_0 hfz43_1 hfz43_10 hfz43_2 hfz43_3 hfz43_4 hfz43_5 hfz43_6 hfz43_7 hfz43_8 hfz43_9
              try clear hfz44_0 hfz44_1 hfz44_2 hfz44_3
              try clear hfz46_0 hfz46_1 hfz46_10 hfz46_2 hfz46_3 hfz46_4 hfz46_5 hfz46_6 hfz46_7 hfz46_8 hfz46_9
              try clear hfz48_0 hfz48_1 hfz48_10 hfz48_2 hfz48_3 hfz48_4 hfz48_5 hfz48_6 hfz48_7 hfz48_8 hfz48_9
              try clear hfz50_0 hfz50_1 hfz50_10 hfz50_2 hfz50_3 hfz50_4 hfz50_5 hfz50_6 hfz50_7 hfz50_8 hfz50_9
              try clear hfz51_0 hfz51_1 hfz51_2 hfz51_3
              try clear hfz53_0 hfz53_1 hfz53_10 hfz53_2 hfz53_3 hfz53_4 hfz53_5 hfz53_6 hfz53_7 hfz53_8 hfz53_9
              try clear hfz55_0 hfz55_1 hfz55_10 hfz55_2 hfz55_3 hfz55_4 hfz55_5 hfz55_6 hfz55_7 hfz55_8 hfz55_9
              try clear hfz57_0 hfz57_1 hfz57_10 hfz57_2 hfz57_3 hfz57_4 hfz57_5 hfz57_6 hfz57_7 hfz57_8 hfz57_9
              try clear hfz58_0 hfz58_1 hfz58_2 hfz58_3
              try clear hfz60_0 hfz60_1 hfz60_10 hfz60_2 hfz60_3 hfz60_4 hfz60_5 hfz60_6 hfz60_7 hfz60_8 hfz60_9
              try clear hfz62_0 hfz62_1 hfz62_10 hfz62_2 hfz62_3 hfz62_4 hfz62_5 hfz62_6 hfz62_7 hfz62_8 hfz62_9
              try clear hfz64_0 hfz64_1 hfz64_10 hfz64_2 hfz64_3 hfz64_4 hfz64_5 hfz64_6 hfz64_7 hfz64_8 hfz64_9
              try clear hfz65_0 hfz65_1 hfz65_2 hfz65_3
              try clear hfz68_0 hfz68_1 hfz68_10 hfz68_2 hfz68_3 hfz68_4 hfz68_5 hfz68_6 hfz68_7 hfz68_8 hfz68_9
              try clear hfz70_0 hfz70_1 hfz70_10 hfz70_2 hfz70_3 hfz70_4 hfz70_5 hfz70_6 hfz70_7 hfz70_8 hfz70_9
              try clear hfz71_0 hfz71_1 hfz71_2 hfz71_3
              try clear hfz73_0 hfz73_1 hfz73_10 hfz73_2 hfz73_3 hfz73_4 hfz73_5 hfz73_6 hfz73_7 hfz73_8 hfz73_9
              try clear hx105_0
              try clear hx105_1
              try clear hx105_10
              try clear hx105_2
              try clear hx105_3
              try clear hx105_4
              try clear hx105_5
              try clear hx105_6
              try clear hx105_7
              try clear hx105_8
              try clear hx105_9
              try clear p105
              try clear p2
              try clear q105
              obtain ⟨kq, x75_18, rfl, HA, HJ18, BK101, BK106, HB⟩ := hcut
              cases kq with
              | zero => exact absurd HA.out (by simp [impl_GoodBoard.j2])
              | succ kj18 =>
               have H := HA.out
               clear HA
               simp only [impl_GoodBoard.j2] at H
               by_cases c75 : x75_18 = true
               · subst c75
                 have H1 : (some false) = some r := by rw [if_pos rfl] at H; exact H
                 clear H
                 have H := H1
                 clear H1
                 obtain rfl := Option.some.inj H
                 go_wp2
                 go_ret
                 exact ⟨z674d, zcb41⟩
               · replace c75 := Bool.eq_false_iff.mpr c75
                 subst c75
                 have H1 : (if x30_2 > 0 then (if 0 ≤ (wrap64 (x30_2 - 1)) then (if (wrap64 (x30_2 - 1)) < (l0_3.length : Int) then ((impl_CompareKeys.f kj18 ((rd_T97 l0_3 (wrap64 (x30_2 - 1))).f0.f0) ((rd_T97 l0_3 (wrap64 (x30_2 - 1))).f0.f1) ((rd_T97 l0_3 (wrap64 (x30_2 - 1))).f0.f2) ((rd_T97 l0_3 x30_2).f0.f0) ((rd_T97 l0_3 x30_2).f0.f1) ((rd_T97 l0_3 x30_2).f0.f2)).bind fun t111 => (if t111 ≥ 0 then (some false) else (impl_GoodBoard.l0 kj18 l0_3 (l0_3.length : Int) (wrap64 (x30_2 + 1)) a0_0 a0_1 a0_2 l0_3))) else (none)) else (none)) else (impl_GoodBoard.l0 kj18 l0_3 (l0_3.length : Int) (wrap64 (x30_2 + 1)) a0_0 a0_1 a0_2 l0_3)) = some r := by rw [if_neg (show ¬ (false = true) by decide)] at H; exact H
                 clear H
                 have H := H1
                 clear H1
                 by_cases c76 : x30_2 > 0
                 · rw [if_pos c76] at H
                   have c76b0 : decide (0 < x30_2) = true := decide_eq_true c76
                   clear c76
                   obtain ⟨ji77, hji77⟩ : ∃ j_ : Int, (wrap64 (x30_2 - 1)) = j_ := ⟨_, rfl⟩
                   replace H : (if 0 ≤ (ji77) then (if (ji77) < (l0_3.length : Int) then ((impl_CompareKeys.f kj18 ((rd_T97 l0_3 (ji77)).f0.f0) ((rd_T97 l0_3 (ji77)).f0.f1) ((rd_T97 l0_3 (ji77)).f0.f2) ((rd_T97 l0_3 x30_2).f0.f0) ((rd_T97 l0_3 x30_2).f0.f1) ((rd_T97 l0_3 x30_2).f0.f2)).bind fun t111 => (if t111 ≥ 0 then (some false) else (impl_GoodBoard.l0 kj18 l0_3 (l0_3.length : Int) (wrap64 (x30_2 + 1)) a0_0 a0_1 a0_2 l0_3))) else (none)) else (none)) = some r := by first | (rw [hji77] at H; exact H) | (simp only [hji77] at H ⊢; exact H)
                   have hji77w : (IntKind.i64.wrap (x30_2 - 1)) = ji77 := (i64_w _).trans hji77
                   by_cases c78 : 0 ≤ (ji77)
                   · rw [if_pos c78] at H
                     have c78b0 : decide (0 ≤ (ji77)) = true := decide_eq_true c78
                     clear c78
                     by_cases c79 : (ji77) < (l0_3.length : Int)
                     · rw [if_pos c79] at H
                       have c79b0 : decide ((ji77) < (l0_3.length : Int)) = true := decide_eq_true c79
                       clear c79
                       replace H := Option.bind_eq_some_iff.mp H
                       obtain ⟨t111, A800, H⟩ := H
                       try dsimp only at H
                       have A80 := aM A800
                       clear A800
                       by_cases c81 : t111 ≥ 0
                       · rw [if_pos c81] at H
                         have c81b0 : decide (0 ≤ t111) = true := decide_eq_true c81
                         clear c81
                         obtain rfl := Option.some.inj H
                         try go_wp2
                         have _ := aM (blk_drew BK101.out)
                         have _ := aM (blk_drew BK106.out)
                         have _ := aM (below_drew1 HB.out)
                         clear BK101
                         clear BK106
                         clear HB
                         rename_i BK101 BK106 HB
                         have p110 : 0 ≤ ((ji77) : Int) := of_decide_eq_true z1200
                         have q110 : (ji77) < (l0_3.length : Int) := of_decide_eq_true z1200
                         obtain ⟨ad110, A110_1, c110_1, A110_7, c110_7, e110, hx110_0, hx110_1, hx110_2, hx110_3, hx110_4, hx110_5, hx110_6, hx110_7, hx110_8, hx110_9, hx110_10, hl110_1, hi110_1, hl110_7, hi110_7⟩ := at_T97 HR0_3.out (ji77) p110 q110
                         have hw110_10 := hx110_10
                         have hw110_9 := hx110_9
                         have hw110_8 := hx110_8
                         have hw110_7 := hx110_7
                         have hw110_6 := hx110_6
                         have hw110_5 := hx110_5
                         have hw110_4 := hx110_4
                         have hw110_3 := hx110_3
                         have hw110_2 := hx110_2
                         have hw110_1 := hx110_1
                         have hw110_0 := hx110_0
                         obtain rfl : ad105 = ad110 := (by injection e110)
                         replace hx110_0 := (HB.out.cell (World.block_lt_of_cell? w _ hx110_0)).trans hx110_0
                         replace hx110_1 := (HB.out.cell (World.block_lt_of_cell? w _ hx110_1)).trans hx110_1
                         replace hx110_2 := (HB.out.cell (World.block_lt_of_cell? w _ hx110_2)).trans hx110_2
                         replace hx110_3 := (HB.out.cell (World.block_lt_of_cell? w _ hx110_3)).trans hx110_3
                         replace hx110_4 := (HB.out.cell (World.block_lt_of_cell? w _ hx110_4)).trans hx110_4
                         replace hx110_5 := (HB.out.cell (World.block_lt_of_cell? w _ hx110_5)).trans hx110_5
                         replace hx110_6 := (HB.out.cell (World.block_lt_of_cell? w _ hx110_6)).trans hx110_6
                         replace hx110_7 := (HB.out.cell (World.block_lt_of_cell? w _ hx110_7)).trans hx110_7
                         replace hx110_8 := (HB.out.cell (World.block_lt_of_cell? w _ hx110_8)).trans hx110_8
                         replace hx110_9 := (HB.out.cell (World.block_lt_of_cell? w _ hx110_9)).trans hx110_9
                         replace hx110_10 := (HB.out.cell (World.block_lt_of_cell? w _ hx110_10)).trans hx110_10
                         have HR110_1 := aM hi110_1
                         have HC110_1 := aM hl110_1
                         clear hi110_1 hl110_1
                         have HR110_7 := aM hi110_7
                         have HC110_7 := aM hl110_7
                         clear hi110_7 hl110_7
                         replace p110 := eq_true p110
                         replace q110 := eq_true q110
                         refine start_ (n := 15) (S := fun w' => w'.cell? ⟨gb101, 0, none⟩ = some (.int .i64 a0_0) ∧ w'.cell? ⟨gb101, 1, none⟩ = some (.int .i64 a0_1) ∧ w'.cell? ⟨gb101, 2, none⟩ = some (.int .i64 a0_2) ∧ w'.cell? ⟨gb101, 3, none⟩ = some (.slice (some ad105) l0_3.length c0_3) ∧ w'.cell? ⟨gb106, 0, none⟩ = some (.string ((rd_T97 l0_3 x30_2).f0.f0)) ∧ w'.cell? ⟨gb106, 1, none⟩ = some (.slice A105_1 ((rd_T97 l0_3 x30_2).f0.f1).length c105_1) ∧ w'.cell? ⟨gb106, 2, none⟩ = some (.int .i64 ((rd_T97 l0_3 x30_2).f0.f2)) ∧ w'.cell? ⟨gb106, 3, none⟩ = some (.int .i64 ((rd_T97 l0_3 x30_2).f1.f0)) ∧ w'.cell? ⟨gb106, 4, none⟩ = some (.int .i64 ((rd_T97 l0_3 x30_2).f1.f1)) ∧ w'.cell? ⟨gb106, 5, none⟩ = some (.int .i64 ((rd_T97 l0_3 x30_2).f1.f2)) ∧ w'.cell? ⟨gb106, 6, none⟩ = some (.int .i64 ((rd_T97 l0_3 x30_2).f1.f3)) ∧ w'.cell? ⟨gb106, 7, none⟩ = some (.slice A105_7 ((rd_T97 l0_3 x30_2).f1.f4).length c105_7) ∧ w'.cell? ⟨gb106, 8, none⟩ = some (.bool ((rd_T97 l0_3 x30_2).f1.f5)) ∧ w'.cell? ⟨gb106, 9, none⟩ = some (.int .i64 ((rd_T97 l0_3 x30_2).f2)) ∧ w'.cell? ⟨gb106, 10, none⟩ = some (.bool ((rd_T97 l0_3 x30_2).f3)) ∧ w'.cell? (ad105.add (((ji77)).toNat * 11)) = some (.string ((rd_T97 l0_3 (ji77)).f0.f0)) ∧ w'.cell? ⟨(ad105.add (((ji77)).toNat * 11)).block, (ad105.add (((ji77)).toNat * 11)).off + 1, none⟩ = some (.slice A110_1 ((rd_T97 l0_3 (ji77)).f0.f1).length c110_1) ∧ w'.cell? ⟨(ad105.add (((ji77)).toNat * 11)).block, (ad105.add (((ji77)).toNat * 11)).off + 2, none⟩ = some (.int .i64 ((rd_T97 l0_3 (ji77)).f0.f2)) ∧ w'.cell? ⟨(ad105.add (((ji77)).toNat * 11)).block, (ad105.add (((ji77)).toNat * 11)).off + 3, none⟩ = some (.int .i64 ((rd_T97 l0_3 (ji77)).f1.f0)) ∧ w'.cell? ⟨(ad105.add (((ji77)).toNat * 11)).block, (ad105.add (((ji77)).toNat * 11)).off + 4, none⟩ = some (.int .i64 ((rd_T97 l0_3 (ji77)).f1.f1)) ∧ w'.cell? ⟨(ad105.add (((ji77)).toNat * 11)).block, (ad105.add (((ji77)).toNat * 11)).off + 5, none⟩ = some (.int .i64 ((rd_T97 l0_3 (ji77)).f1.f2)) ∧ w'.cell? ⟨(ad105.add (((ji77)).toNat * 11)).block, (ad105.add (((ji77)).toNat * 11)).off + 6, none⟩ = some (.int .i64 ((rd_T97 l0_3 (ji77)).f1.f3)) ∧ w'.cell? ⟨(ad105.add (((ji77)).toNat * 11)).block, (ad105.add (((ji77)).toNat * 11)).off + 7, none⟩ = some (.slice A110_7 ((rd_T97 l0_3 (ji77)).f1.f4).length c110_7) ∧ w'.cell? ⟨(ad105.add (((ji77)).toNat * 11)).block, (ad105.add (((ji77)).toNat * 11)).off + 8, none⟩ = some (.bool ((rd_T97 l0_3 (ji77)).f1.f5)) ∧ w'.cell? ⟨(ad105.add (((ji77)).toNat * 11)).block, (ad105.add (((ji77)).toNat * 11)).off + 9, none⟩ = some (.int .i64 ((rd_T97 l0_3 (ji77)).f2)) ∧ w'.cell? ⟨(ad105.add (((ji77)).toNat * 11)).block, (ad105.add (((ji77)).toNat * 11)).off + 10, none⟩ = some (.bool ((rd_T97 l0_3 (ji77)).f3))) (ds := []) #[false, false, false, false, false, false, false, false, false, false, false, false, false, false, false] (by kernel_rfl) rfl rfl ⟨(blk_cell BK101.out 0).trans rfl, (blk_cell BK101.out 1).trans rfl, (blk_cell BK101.out 2).trans rfl, (blk_cell BK101.out 3).trans rfl, (blk_cell BK106.out 0).trans rfl, (blk_cell BK106.out 1).trans rfl, (blk_cell BK106.out 2).trans rfl, (blk_cell BK106.out 3).trans rfl, (blk_cell BK106.out 4).trans rfl, (blk_cell BK106.out 5).trans rfl, (blk_cell BK106.out 6).trans rfl, (blk_cell BK106.out 7).trans rfl, (blk_cell BK106.out 8).trans rfl, (blk_cell BK106.out 9).trans rfl, (blk_cell BK106.out 10).trans rfl, ((HB.out.cell (World.block_lt_of_cell? w _ hw110_0)).trans hw110_0), ((HB.out.cell (World.block_lt_of_cell? w _ hw110_1)).trans hw110_1), ((HB.out.cell (World.block_lt_of_cell? w _ hw110_2)).trans hw110_2), ((HB.out.cell (World.block_lt_of_cell? w _ hw110_3)).trans hw110_3), ((HB.out.cell (World.block_lt_of_cell? w _ hw110_4)).trans hw110_4), ((HB.out.cell (World.block_lt_of_cell? w _ hw110_5)).trans hw110_5), ((HB.out.cell (World.block_lt_of_cell? w _ hw110_6)).trans hw110_6), ((HB.out.cell (World.block_lt_of_cell? w _ hw110_7)).trans hw110_7), ((HB.out.cell (World.block_lt_of_cell? w _ hw110_8)).trans hw110_8), ((HB.out.cell (World.block_lt_of_cell? w _ hw110_9)).trans hw110_9), ((HB.out.cell (World.block_lt_of_cell? w _ hw110_10)).trans hw110_10)⟩ (fun hHeld => ?_); refine with_tabW impl_GoodBoard.tab8 impl_GoodBoard.bits8 (fun HT_ HW_ => ?_)
                         generalize wc.drew = w82 at BK101 BK106 HB HR110_1 HR110_7 hx110_0 hx110_1 hx110_10 hx110_2 hx110_3 hx110_4 hx110_5 hx110_6 hx110_7 hx110_8 hx110_9 hHeld ⊢
                         refine pure_ (i := 0) (N := some 76) (v := ?_) (a' := ?_) #[true, false, false, false, false, false, false, false, false, false, false, false, false, false, false] rfl rfl (any_of HT_.out (by kernel_rfl)) (fun _ _ _ h => h) (Or.inl ⟨by rfl, ?_⟩) ?_ ?_
                         rotate_left
                         · intro w'
                           go_simp
                           with_reducible rfl
                         rotate_left
                         · simp only [Act.put, List.setIfInBounds_toArray, List.set_cons_zero, List.set_cons_succ, i64_w, i32_w]
                           rfl
                         refine pure_ (i := 1) (N := some 77) (v := ?_) (a' := ?_) #[true, true, false, false, false, false, false, false, false, false, false, false, false, false, false] rfl rfl (any_of HT_.out (by kernel_rfl)) (fun _ _ _ h => h) (Or.inl ⟨by rfl, ?_⟩) ?_ ?_
                         rotate_left
                         · intro w'
                           go_simp
                           with_reducible rfl
                         rotate_left
                         · simp only [Act.put, List.setIfInBounds_toArray, List.set_cons_zero, List.set_cons_succ, i64_w, i32_w]
                           rfl
                         refine pure_ (i := 2) (N := some 78) (v := ?_) (a' := ?_) #[true, true, true, false, false, false, false, false, false, false, false, false, false, false, false] rfl rfl (any_of HT_.out (by kernel_rfl)) (fun _ _ _ h => h) (Or.inl ⟨by rfl, ?_⟩) ?_ ?_
                         rotate_left
                         · intro w'
                           go_simp
                           with_reducible rfl
                         rotate_left
                         · simp only [Act.put, List.setIfInBounds_toArray, List.set_cons_zero, List.set_cons_succ, i64_w, i32_w]
                           rfl
                         refine pure_ (i := 3) (N := some 79) (v := ?_) (a' := ?_) #[true, true, true, true, false, false, false, false, false, false, false, false, false, false, false] rfl rfl (any_of HT_.out (by kernel_rfl)) (fun _ _ _ h => h) (Or.inl ⟨by rfl, ?_⟩) ?_ ?_
                         rotate_left
                         · intro w'
                           go_simp
                           with_reducible rfl
                         rotate_left
                         · simp only [Act.put, List.setIfInBounds_toArray, List.set_cons_zero, List.set_cons_succ, i64_w, i32_w]
                           rfl
                         refine pure_ (i := 5) (N := some 81) (v := ?_) (a' := ?_) #[true, true, true, true, false, true, false, false, false, false, false, false, false, false, false] rfl rfl (any_of HT_.out (by kernel_rfl)) (fun _ _ _ h => h) (Or.inl ⟨by rfl, ?_⟩) ?_ ?_
                         rotate_left
                         · intro w'
                           go_simp
                           with_reducible rfl
                         rotate_left
                         · simp only [Act.put, List.setIfInBounds_toArray, List.set_cons_zero, List.set_cons_succ, i64_w, i32_w]
                           rfl
                         refine pure_ (i := 6) (N := some 82) (v := ?_) (a' := ?_) #[true, true, true, true, false, true, true, false, false, false, false, false, false, false, false] rfl rfl (any_of HT_.out (by kernel_rfl)) (fun _ _ _ h => h) (Or.inl ⟨by rfl, ?_⟩) ?_ ?_
                         rotate_left
                         · intro w'
                           go_simp
                           with_reducible rfl
                         rotate_left
                         · simp only [Act.put, List.setIfInBounds_toArray, List.set_cons_zero, List.set_cons_succ, i64_w, i32_w]
                           rfl
                         refine pure_ (i := 10) (N := some 86) (v := ?_) (a' := ?_) #[true, true, true, true, false, true, true, false, false, false, true, false, false, false, false] rfl rfl (any_of HT_.out (by kernel_rfl)) (fun _ _ _ h => h) (Or.inl ⟨by rfl, ?_⟩) ?_ ?_
                         rotate_left
                         · intro w'
                           go_simp
                           with_reducible rfl
                         rotate_left
                         · simp only [Act.put, List.setIfInBounds_toArray, List.set_cons_zero, List.set_cons_succ, i64_w, i32_w]
                           rfl
                         refine take_ (i := 4) (N := some 80) (v := ?_) (a' := ?_) #[true, true, true, true, true, true, true, false, false, false, true, false, false, false, false] rfl rfl (take_ofW HT_.out HW_.out (by kernel_rfl)) (fun _ _ _ h => h) (Or.inl ⟨by rfl, ?_⟩) hHeld ?_ ?_
                         rotate_left
                         · rintro w' ⟨s0, s1, s2, s3, s4, s5, s6, s7, s8, s9, s10, s11, s12, s13, s14, s15, s16, s17, s18, s19, s20, s21, s22, s23, s24, s25⟩
                           go_simp
                           with_reducible rfl
                         rotate_left
                         · simp only [Act.put, List.setIfInBounds_toArray, List.set_cons_zero, List.set_cons_succ, i64_w, i32_w]
                           rfl
                         refine pure_ (i := 7) (N := some 83) (v := ?_) (a' := ?_) #[true, true, true, true, true, true, true, true, false, false, true, false, false, false, false] rfl rfl (any_of HT_.out (by kernel_rfl)) (fun _ _ _ h => h) (Or.inl ⟨by rfl, ?_⟩) ?_ ?_
                         rotate_left
                         · intro w'
                           go_simp
                           with_reducible rfl
                         rotate_left
                         · simp only [Act.put, List.setIfInBounds_toArray, List.set_cons_zero, List.set_cons_succ, i64_w, i32_w]
                           rfl
                         refine pure_ (i := 8) (N := some 84) (v := ?_) (a' := ?_) #[true, true, true, true, true, true, true, true, true, false, true, false, false, false, false] rfl rfl (any_of HT_.out (by kernel_rfl)) (fun _ _ _ h => h) (Or.inl ⟨by rfl, ?_⟩) ?_ ?_
                         rotate_left
                         · intro w'
                           go_simp
                           with_reducible rfl
                         rotate_left
                         · simp only [Act.put, List.setIfInBounds_toArray, List.set_cons_zero, List.set_cons_succ, i64_w, i32_w]
                           rfl
                         refine take_ (i := 9) (N := some 85) (v := ?_) (a' := ?_) #[true, true, true, true, true, true, true, true, true, true, true, false, false, false, false] rfl rfl (take_ofW HT_.out HW_.out (by kernel_rfl)) (fun _ _ _ h => h) (Or.inl ⟨by rfl, ?_⟩) hHeld ?_ ?_
                         rotate_left
                         · rintro w' ⟨s0, s1, s2, s3, s4, s5, s6, s7, s8, s9, s10, s11, s12, s13, s14, s15, s16, s17, s18, s19, s20, s21, s22, s23, s24, s25⟩
                           go_simp
                           with_reducible rfl
                         rotate_left
                         · simp only [Act.put, List.setIfInBounds_toArray, List.set_cons_zero, List.set_cons_succ, i64_w, i32_w]
                           rfl
                         refine take_ (i := 11) (N := some 87) (v := ?_) (a' := ?_) #[true, true, true, true, true, true, true, true, true, true, true, true, false, false, false] rfl rfl (take_ofW HT_.out HW_.out (by kernel_rfl)) (fun _ _ _ h => h) (Or.inl ⟨by rfl, ?_⟩) hHeld ?_ ?_
                         rotate_left
                         · rintro w' ⟨s0, s1, s2, s3, s4, s5, s6, s7, s8, s9, s10, s11, s12, s13, s14, s15, s16, s17, s18, s19, s20, s21, s22, s23, s24, s25⟩
                           go_simp
                           with_reducible rfl
                         rotate_left
                         · simp only [Act.put, List.setIfInBounds_toArray, List.set_cons_zero, List.set_cons_succ, i64_w, i32_w]
                           rfl
                         refine one_ (i := 12) (N := some 88) #[true, true, true, true, true, true, true, true, true, true, true, true, true, false, false] rfl rfl (one_of HT_.out (by kernel_rfl)) (by decide) (fun K hK => ?_)
                         refine goes_ Tryd.func11 (by kernel_rfl) rfl #[.agg #[.string ((rd_T97 l0_3 (ji77)).f0.f0), .slice A110_1 ((rd_T97 l0_3 (ji77)).f0.f1).length c110_1, .int .i64 ((rd_T97 l0_3 (ji77)).f0.f2)], .agg #[.string ((rd_T97 l0_3 x30_2).f0.f0), .slice A105_1 ((rd_T97 l0_3 x30_2).f0.f1).length c105_1, .int .i64 ((rd_T97 l0_3 x30_2).f0.f2)]] (by rfl) rfl rfl (by (try simp only [List.map_toArray, List.map_cons, List.map_nil]); first | done | (simp only [hji77]; rfl) | rfl | (simp only [List.length_drop, List.length_take]; rfl)) ?_
                         with_reducible refine (impl_CompareKeys.calls kj18 ((rd_T97 l0_3 (ji77)).f0.f0) _ _ ((rd_T97 l0_3 (ji77)).f0.f1) ((rd_T97 l0_3 (ji77)).f0.f2) ((rd_T97 l0_3 x30_2).f0.f0) _ _ ((rd_T97 l0_3 x30_2).f0.f1) ((rd_T97 l0_3 x30_2).f0.f2) t111 _ ?side1 ?side2 ?side3 ?side4 A80.out).mono ?_
                         (case side1 => exact (cZ (Kd.C_below HR110_1.out HB.out)))
                         (case side2 => exact HC110_1.out)
                         (case side3 => exact (cZ (Kd.C_below HR105_1.out HB.out)))
                         (case side4 => exact HC105_1.out)
                         rintro e w83 ⟨rfl, hb⟩
                         refine ⟨_, rfl, ?_⟩
                         have _ := bB gb101 hb
                         have _ := bB gb106 hb
                         have _ := aM (below_step hbZ hb)
                         clear BK101
                         clear BK106
                         clear HB
                         rename_i BK101 BK106 HB
                         (try clear hb)
                         (try clear hb2)
                         (try clear hk)
                         (try clear hi)
                         refine hK.out _ _ ⟨(blk_cell BK101.out 0).trans rfl, (blk_cell BK101.out 1).trans rfl, (blk_cell BK101.out 2).trans rfl, (blk_cell BK101.out 3).trans rfl, (blk_cell BK106.out 0).trans rfl, (blk_cell BK106.out 1).trans rfl, (blk_cell BK106.out 2).trans rfl, (blk_cell BK106.out 3).trans rfl, (blk_cell BK106.out 4).trans rfl, (blk_cell BK106.out 5).trans rfl, (blk_cell BK106.out 6).trans rfl, (blk_cell BK106.out 7).trans rfl, (blk_cell BK106.out 8).trans rfl, (blk_cell BK106.out 9).trans rfl, (blk_cell BK106.out 10).trans rfl, ((HB.out.cell (World.block_lt_of_cell? w _ hw110_0)).trans hw110_0), ((HB.out.cell (World.block_lt_of_cell? w _ hw110_1)).trans hw110_1), ((HB.out.cell (World.block_lt_of_cell? w _ hw110_2)).trans hw110_2), ((HB.out.cell (World.block_lt_of_cell? w _ hw110_3)).trans hw110_3), ((HB.out.cell (World.block_lt_of_cell? w _ hw110_4)).trans hw110_4), ((HB.out.cell (World.block_lt_of_cell? w _ hw110_5)).trans hw110_5), ((HB.out.cell (World.block_lt_of_cell? w _ hw110_6)).trans hw110_6), ((HB.out.cell (World.block_lt_of_cell? w _ hw110_7)).trans hw110_7), ((HB.out.cell (World.block_lt_of_cell? w _ hw110_8)).trans hw110_8), ((HB.out.cell (World.block_lt_of_cell? w _ hw110_9)).trans hw110_9), ((HB.out.cell (World.block_lt_of_cell? w _ hw110_10)).trans hw110_10)⟩ (fun hHeld => ?_)
                         clear hK K
                         refine norm_ (a' := ?_) ?_ ?_
                         rotate_left
                         · show Act.put _ (some 88) _ = _
                           simp only [Act.put, List.setIfInBounds_toArray, List.set_cons_zero, List.set_cons_succ, i64_w, i32_w]
                           rfl
                         refine pure_ (i := 13) (N := some 89) (v := ?_) (a' := ?_) #[true, true, true, true, true, true, true, true, true, true, true, true, true, true, false] rfl rfl (any_of HT_.out (by kernel_rfl)) (fun _ _ _ h => h) (Or.inl ⟨by rfl, ?_⟩) ?_ ?_
                         rotate_left
                         · intro w'
                           go_simp
                           with_reducible rfl
                         rotate_left
                         · simp only [Act.put, List.setIfInBounds_toArray, List.set_cons_zero, List.set_cons_succ, i64_w, i32_w]
                           rfl
                         refine pure_ (i := 14) (N := some 90) (v := ?_) (a' := ?_) #[true, true, true, true, true, true, true, true, true, true, true, true, true, true, true] rfl rfl (any_of HT_.out (by kernel_rfl)) (fun _ _ _ h => h) (Or.inl ⟨by rfl, ?_⟩) ?_ ?_
                         rotate_left
                         · intro w'
                           go_simp
                           with_reducible rfl
                         rotate_left
                         · simp only [Act.put, List.setIfInBounds_toArray, List.set_cons_zero, List.set_cons_succ, i64_w, i32_w]
                           rfl
                         refine done_ (done_of HT_.out (by kernel_rfl)) ?_
                         try go_wp2
                         go_ret
                         exact ⟨by first | rfl | (simp [errW_none, errW_some] <;> rfl) | (simp only [← hji77]; first | rfl | (simp [errW_none, errW_some] <;> rfl)) | (simp [*, errW_none, errW_some] <;> rfl), zcb41⟩
                       · rw [if_neg c81] at H
                         have c81b0 : decide (0 ≤ t111) = false := decide_eq_false c81
                         clear c81
                         have H' := aM H
                         clear H
                         try go_wp2
                         have _ := aM (blk_drew BK101.out)
                         have _ := aM (blk_drew BK106.out)
                         have _ := aM (below_drew1 HB.out)
                         clear BK101
                         clear BK106
                         clear HB
                         rename_i BK101 BK106 HB
                         have p110 : 0 ≤ ((ji77) : Int) := of_decide_eq_true z1200
                         have q110 : (ji77) < (l0_3.length : Int) := of_decide_eq_true z1200
                         obtain ⟨ad110, A110_1, c110_1, A110_7, c110_7, e110, hx110_0, hx110_1, hx110_2, hx110_3, hx110_4, hx110_5, hx110_6, hx110_7, hx110_8, hx110_9, hx110_10, hl110_1, hi110_1, hl110_7, hi110_7⟩ := at_T97 HR0_3.out (ji77) p110 q110
                         have hw110_10 := hx110_10
                         have hw110_9 := hx110_9
                         have hw110_8 := hx110_8
                         have hw110_7 := hx110_7
                         have hw110_6 := hx110_6
                         have hw110_5 := hx110_5
                         have hw110_4 := hx110_4
                         have hw110_3 := hx110_3
                         have hw110_2 := hx110_2
                         have hw110_1 := hx110_1
                         have hw110_0 := hx110_0
                         obtain rfl : ad105 = ad110 := (by injection e110)
                         replace hx110_0 := (HB.out.cell (World.block_lt_of_cell? w _ hx110_0)).trans hx110_0
                         replace hx110_1 := (HB.out.cell (World.block_lt_of_cell? w _ hx110_1)).trans hx110_1
                         replace hx110_2 := (HB.out.cell (World.block_lt_of_cell? w _ hx110_2)).trans hx110_2
                         replace hx110_3 := (HB.out.cell (World.block_lt_of_cell? w _ hx110_3)).trans hx110_3
                         replace hx110_4 := (HB.out.cell (World.block_lt_of_cell? w _ hx110_4)).trans hx110_4
                         replace hx110_5 := (HB.out.cell (World.block_lt_of_cell? w _ hx110_5)).trans hx110_5
                         replace hx110_6 := (HB.out.cell (World.block_lt_of_cell? w _ hx110_6)).trans hx110_6
                         replace hx110_7 := (HB.out.cell (World.block_lt_of_cell? w _ hx110_7)).trans hx110_7
                         replace hx110_8 := (HB.out.cell (World.block_lt_of_cell? w _ hx110_8)).trans hx110_8
                         replace hx110_9 := (HB.out.cell (World.block_lt_of_cell? w _ hx110_9)).trans hx110_9
                         replace hx110_10 := (HB.out.cell (World.block_lt_of_cell? w _ hx110_10)).trans hx110_10
                         have HR110_1 := aM hi110_1
                         have HC110_1 := aM hl110_1
                         clear hi110_1 hl110_1
                         have HR110_7 := aM hi110_7
                         have HC110_7 := aM hl110_7
                         clear hi110_7 hl110_7
                         replace p110 := eq_true p110
                         replace q110 := eq_true q110
                         refine start_ (n := 15) (S := fun w' => w'.cell? ⟨gb101, 0, none⟩ = some (.int .i64 a0_0) ∧ w'.cell? ⟨gb101, 1, none⟩ = some (.int .i64 a0_1) ∧ w'.cell? ⟨gb101, 2, none⟩ = some (.int .i64 a0_2) ∧ w'.cell? ⟨gb101, 3, none⟩ = some (.slice (some ad105) l0_3.length c0_3) ∧ w'.cell? ⟨gb106, 0, none⟩ = some (.string ((rd_T97 l0_3 x30_2).f0.f0)) ∧ w'.cell? ⟨gb106, 1, none⟩ = some (.slice A105_1 ((rd_T97 l0_3 x30_2).f0.f1).length c105_1) ∧ w'.cell? ⟨gb106, 2, none⟩ = some (.int .i64 ((rd_T97 l0_3 x30_2).f0.f2)) ∧ w'.cell? ⟨gb106, 3, none⟩ = some (.int .i64 ((rd_T97 l0_3 x30_2).f1.f0)) ∧ w'.cell? ⟨gb106, 4, none⟩ = some (.int .i64 ((rd_T97 l0_3 x30_2).f1.f1)) ∧ w'.cell? ⟨gb106, 5, none⟩ = some (.int .i64 ((rd_T97 l0_3 x30_2).f1.f2)) ∧ w'.cell? ⟨gb106, 6, none⟩ = some (.int .i64 ((rd_T97 l0_3 x30_2).f1.f3)) ∧ w'.cell? ⟨gb106, 7, none⟩ = some (.slice A105_7 ((rd_T97 l0_3 x30_2).f1.f4).length c105_7) ∧ w'.cell? ⟨gb106, 8, none⟩ = some (.bool ((rd_T97 l0_3 x30_2).f1.f5)) ∧ w'.cell? ⟨gb106, 9, none⟩ = some (.int .i64 ((rd_T97 l0_3 x30_2).f2)) ∧ w'.cell? ⟨gb106, 10, none⟩ = some (.bool ((rd_T97 l0_3 x30_2).f3)) ∧ w'.cell? (ad105.add (((ji77)).toNat * 11)) = some (.string ((rd_T97 l0_3 (ji77)).f0.f0)) ∧ w'.cell? ⟨(ad105.add (((ji77)).toNat * 11)).block, (ad105.add (((ji77)).toNat * 11)).off + 1, none⟩ = some (.slice A110_1 ((rd_T97 l0_3 (ji77)).f0.f1).length c110_1) ∧ w'.cell? ⟨(ad105.add (((ji77)).toNat * 11)).block, (ad105.add (((ji77)).toNat * 11)).off + 2, none⟩ = some (.int .i64 ((rd_T97 l0_3 (ji77)).f0.f2)) ∧ w'.cell? ⟨(ad105.add (((ji77)).toNat * 11)).block, (ad105.add (((ji77)).toNat * 11)).off + 3, none⟩ = some (.int .i64 ((rd_T97 l0_3 (ji77)).f1.f0)) ∧ w'.cell? ⟨(ad105.add (((ji77)).toNat * 11)).block, (ad105.add (((ji77)).toNat * 11)).off + 4, none⟩ = some (.int .i64 ((rd_T97 l0_3 (ji77)).f1.f1)) ∧ w'.cell? ⟨(ad105.add (((ji77)).toNat * 11)).block, (ad105.add (((ji77)).toNat * 11)).off + 5, none⟩ = some (.int .i64 ((rd_T97 l0_3 (ji77)).f1.f2)) ∧ w'.cell? ⟨(ad105.add (((ji77)).toNat * 11)).block, (ad105.add (((ji77)).toNat * 11)).off + 6, none⟩ = some (.int .i64 ((rd_T97 l0_3 (ji77)).f1.f3)) ∧ w'.cell? ⟨(ad105.add (((ji77)).toNat * 11)).block, (ad105.add (((ji77)).toNat * 11)).off + 7, none⟩ = some (.slice A110_7 ((rd_T97 l0_3 (ji77)).f1.f4).length c110_7) ∧ w'.cell? ⟨(ad105.add (((ji77)).toNat * 11)).block, (ad105.add (((ji77)).toNat * 11)).off + 8, none⟩ = some (.bool ((rd_T97 l0_3 (ji77)).f1.f5)) ∧ w'.cell? ⟨(ad105.add (((ji77)).toNat * 11)).block, (ad105.add (((ji77)).toNat * 11)).off + 9, none⟩ = some (.int .i64 ((rd_T97 l0_3 (ji77)).f2)) ∧ w'.cell? ⟨(ad105.add (((ji77)).toNat * 11)).block, (ad105.add (((ji77)).toNat * 11)).off + 10, none⟩ = some (.bool ((rd_T97 l0_3 (ji77)).f3))) (ds := []) #[false, false, false, false, false, false, false, false, false, false, false, false, false, false, false] (by kernel_rfl) rfl rfl ⟨(blk_cell BK101.out 0).trans rfl, (blk_cell BK101.out 1).trans rfl, (blk_cell BK101.out 2).trans rfl, (blk_cell BK101.out 3).trans rfl, (blk_cell BK106.out 0).trans rfl, (blk_cell BK106.out 1).trans rfl, (blk_cell BK106.out 2).trans rfl, (blk_cell BK106.out 3).trans rfl, (blk_cell BK106.out 4).trans rfl, (blk_cell BK106.out 5).trans rfl, (blk_cell BK106.out 6).trans rfl, (blk_cell BK106.out 7).trans rfl, (blk_cell BK106.out 8).trans rfl, (blk_cell BK106.out 9).trans rfl, (blk_cell BK106.out 10).trans rfl, ((HB.out.cell (World.block_lt_of_cell? w _ hw110_0)).trans hw110_0), ((HB.out.cell (World.block_lt_of_cell? w _ hw110_1)).trans hw110_1), ((HB.out.cell (World.block_lt_of_cell? w _ hw110_2)).trans hw110_2), ((HB.out.cell (World.block_lt_of_cell? w _ hw110_3)).trans hw110_3), ((HB.out.cell (World.block_lt_of_cell? w _ hw110_4)).trans hw110_4), ((HB.out.cell (World.block_lt_of_cell? w _ hw110_5)).trans hw110_5), ((HB.out.cell (World.block_lt_of_cell? w _ hw110_6)).trans hw110_6), ((HB.out.cell (World.block_lt_of_cell? w _ hw110_7)).trans hw110_7), ((HB.out.cell (World.block_lt_of_cell? w _ hw110_8)).trans hw110_8), ((HB.out.cell (World.block_lt_of_cell? w _ hw110_9)).trans hw110_9), ((HB.out.cell (World.block_lt_of_cell? w _ hw110_10)).trans hw110_10)⟩ (fun hHeld => ?_); refine with_tabW impl_GoodBoard.tab8 impl_GoodBoard.bits8 (fun HT_ HW_ => ?_)
                         generalize wc.drew = w84 at BK101 BK106 HB HR110_1 HR110_7 hx110_0 hx110_1 hx110_10 hx110_2 hx110_3 hx110_4 hx110_5 hx110_6 hx110_7 hx110_8 hx110_9 hHeld ⊢
                         refine pure_ (i := 0) (N := some 76) (v := ?_) (a' := ?_) #[true, false, false, false, false, false, false, false, false, false, false, false, false, false, false] rfl rfl (any_of HT_.out (by kernel_rfl)) (fun _ _ _ h => h) (Or.inl ⟨by rfl, ?_⟩) ?_ ?_
                         rotate_left
                         · intro w'
                           go_simp
                           with_reducible rfl
                         rotate_left
                         · simp only [Act.put, List.setIfInBounds_toArray, List.set_cons_zero, List.set_cons_succ, i64_w, i32_w]
                           rfl
                         refine pure_ (i := 1) (N := some 77) (v := ?_) (a' := ?_) #[true, true, false, false, false, false, false, false, false, false, false, false, false, false, false] rfl rfl (any_of HT_.out (by kernel_rfl)) (fun _ _ _ h => h) (Or.inl ⟨by rfl, ?_⟩) ?_ ?_
                         rotate_left
                         · intro w'
                           go_simp
                           with_reducible rfl
                         rotate_left
                         · simp only [Act.put, List.setIfInBounds_toArray, List.set_cons_zero, List.set_cons_succ, i64_w, i32_w]
                           rfl
                         refine pure_ (i := 2) (N := some 78) (v := ?_) (a' := ?_) #[true, true, true, false, false, false, false, false, false, false, false, false, false, false, false] rfl rfl (any_of HT_.out (by kernel_rfl)) (fun _ _ _ h => h) (Or.inl ⟨by rfl, ?_⟩) ?_ ?_
                         rotate_left
                         · intro w'
                           go_simp
                           with_reducible rfl
                         rotate_left
                         · simp only [Act.put, List.setIfInBounds_toArray, List.set_cons_zero, List.set_cons_succ, i64_w, i32_w]
                           rfl
                         refine pure_ (i := 3) (N := some 79) (v := ?_) (a' := ?_) #[true, true, true, true, false, false, false, false, false, false, false, false, false, false, false] rfl rfl (any_of HT_.out (by kernel_rfl)) (fun _ _ _ h => h) (Or.inl ⟨by rfl, ?_⟩) ?_ ?_
                         rotate_left
                         · intro w'
                           go_simp
                           with_reducible rfl
                         rotate_left
                         · simp only [Act.put, List.setIfInBounds_toArray, List.set_cons_zero, List.set_cons_succ, i64_w, i32_w]
                           rfl
                         refine pure_ (i := 5) (N := some 81) (v := ?_) (a' := ?_) #[true, true, true, true, false, true, false, false, false, false, false, false, false, false, false] rfl rfl (any_of HT_.out (by kernel_rfl)) (fun _ _ _ h => h) (Or.inl ⟨by rfl, ?_⟩) ?_ ?_
                         rotate_left
                         · intro w'
                           go_simp
                           with_reducible rfl
                         rotate_left
                         · simp only [Act.put, List.setIfInBounds_toArray, List.set_cons_zero, List.set_cons_succ, i64_w, i32_w]
                           rfl
                         refine pure_ (i := 6) (N := some 82) (v := ?_) (a' := ?_) #[true, true, true, true, false, true, true, false, false, false, false, false, false, false, false] rfl rfl (any_of HT_.out (by kernel_rfl)) (fun _ _ _ h => h) (Or.inl ⟨by rfl, ?_⟩) ?_ ?_
                         rotate_left
                         · intro w'
                           go_simp
                           with_reducible rfl
                         rotate_left
                         · simp only [Act.put, List.setIfInBounds_toArray, List.set_cons_zero, List.set_cons_succ, i64_w, i32_w]
                           rfl
                         refine pure_ (i := 10) (N := some 86) (v := ?_) (a' := ?_) #[true, true, true, true, false, true, true, false, false, false, true, false, false, false, false] rfl rfl (any_of HT_.out (by kernel_rfl)) (fun _ _ _ h => h) (Or.inl ⟨by rfl, ?_⟩) ?_ ?_
                         rotate_left
                         · intro w'
                           go_simp
                           with_reducible rfl
                         rotate_left
                         · simp only [Act.put, List.setIfInBounds_toArray, List.set_cons_zero, List.set_cons_succ, i64_w, i32_w]
                           rfl
                         refine take_ (i := 4) (N := some 80) (v := ?_) (a' := ?_) #[true, true, true, true, true, true, true, false, false, false, true, false, false, false, false] rfl rfl (take_ofW HT_.out HW_.out (by kernel_rfl)) (fun _ _ _ h => h) (Or.inl ⟨by rfl, ?_⟩) hHeld ?_ ?_
                         rotate_left
                         · rintro w' ⟨s0, s1, s2, s3, s4, s5, s6, s7, s8, s9, s10, s11, s12, s13, s14, s15, s16, s17, s18, s19, s20, s21, s22, s23, s24, s25⟩
                           go_simp
                           with_reducible rfl
                         rotate_left
                         · simp only [Act.put, List.setIfInBounds_toArray, List.set_cons_zero, List.set_cons_succ, i64_w, i32_w]
                           rfl
                         refine pure_ (i := 7) (N := some 83) (v := ?_) (a' := ?_) #[true, true, true, true, true, true, true, true, false, false, true, false, false, false, false] rfl rfl (any_of HT_.out (by kernel_rfl)) (fun _ _ _ h => h) (Or.inl ⟨by rfl, ?_⟩) ?_ ?_
                         rotate_left
                         · intro w'
                           go_simp
                           with_reducible rfl
                         rotate_left
                         · simp only [Act.put, List.setIfInBounds_toArray, List.set_cons_zero, List.set_cons_succ, i64_w, i32_w]
                           rfl
                         refine pure_ (i := 8) (N := some 84) (v := ?_) (a' := ?_) #[true, true, true, true, true, true, true, true, true, false, true, false, false, false, false] rfl rfl (any_of HT_.out (by kernel_rfl)) (fun _ _ _ h => h) (Or.inl ⟨by rfl, ?_⟩) ?_ ?_
                         rotate_left
                         · intro w'
                           go_simp
                           with_reducible rfl
                         rotate_left
                         · simp only [Act.put, List.setIfInBounds_toArray, List.set_cons_zero, List.set_cons_succ, i64_w, i32_w]
                           rfl
                         refine take_ (i := 9) (N := some 85) (v := ?_) (a' := ?_) #[true, true, true, true, true, true, true, true, true, true, true, false, false, false, false] rfl rfl (take_ofW HT_.out HW_.out (by kernel_rfl)) (fun _ _ _ h => h) (Or.inl ⟨by rfl, ?_⟩) hHeld ?_ ?_
                         rotate_left
                         · rintro w' ⟨s0, s1, s2, s3, s4, s5, s6, s7, s8, s9, s10, s11, s12, s13, s14, s15, s16, s17, s18, s19, s20, s21, s22, s23, s24, s25⟩
                           go_simp
                           with_reducible rfl
                         rotate_left
                         · simp only [Act.put, List.setIfInBounds_toArray, List.set_cons_zero, List.set_cons_succ, i64_w, i32_w]
                           rfl
                         refine take_ (i := 11) (N := some 87) (v := ?_) (a' := ?_) #[true, true, true, true, true, true, true, true, true, true, true, true, false, false, false] rfl rfl (take_ofW HT_.out HW_.out (by kernel_rfl)) (fun _ _ _ h => h) (Or.inl ⟨by rfl, ?_⟩) hHeld ?_ ?_
                         rotate_left
                         · rintro w' ⟨s0, s1, s2, s3, s4, s5, s6, s7, s8, s9, s10, s11, s12, s13, s14, s15, s16, s17, s18, s19, s20, s21, s22, s23, s24, s25⟩
                           go_simp
                           with_reducible rfl
                         rotate_left
                         · simp only [Act.put, List.setIfInBounds_toArray, List.set_cons_zero, List.set_cons_succ, i64_w, i32_w]
                           rfl
                         refine one_ (i := 12) (N := some 88) #[true, true, true, true, true, true, true, true, true, true, true, true, true, false, false] rfl rfl (one_of HT_.out (by kernel_rfl)) (by decide) (fun K hK => ?_)
                         refine goes_ Tryd.func11 (by kernel_rfl) rfl #[.agg #[.string ((rd_T97 l0_3 (ji77)).f0.f0), .slice A110_1 ((rd_T97 l0_3 (ji77)).f0.f1).length c110_1, .int .i64 ((rd_T97 l0_3 (ji77)).f0.f2)], .agg #[.string ((rd_T97 l0_3 x30_2).f0.f0), .slice A105_1 ((rd_T97 l0_3 x30_2).f0.f1).length c105_1, .int .i64 ((rd_T97 l0_3 x30_2).f0.f2)]] (by rfl) rfl rfl (by (try simp only [List.map_toArray, List.map_cons, List.map_nil]); first | done | (simp only [hji77]; rfl) | rfl | (simp only [List.length_drop, List.length_take]; rfl)) ?_
                         with_reducible refine (impl_CompareKeys.calls kj18 ((rd_T97 l0_3 (ji77)).f0.f0) _ _ ((rd_T97 l0_3 (ji77)).f0.f1) ((rd_T97 l0_3 (ji77)).f0.f2) ((rd_T97 l0_3 x30_2).f0.f0) _ _ ((rd_T97 l0_3 x30_2).f0.f1) ((rd_T97 l0_3 x30_2).f0.f2) t111 _ ?side1 ?side2 ?side3 ?side4 A80.out).mono ?_
                         (case side1 => exact (cZ (Kd.C_below HR110_1.out HB.out)))
                         (case side2 => exact HC110_1.out)
                         (case side3 => exact (cZ (Kd.C_below HR105_1.out HB.out)))
                         (case side4 => exact HC105_1.out)
                         rintro e w85 ⟨rfl, hb⟩
                         refine ⟨_, rfl, ?_⟩
                         have _ := bB gb101 hb
                         have _ := bB gb106 hb
                         have _ := aM (below_step hbZ hb)
                         clear BK101
                         clear BK106
                         clear HB
                         rename_i BK101 BK106 HB
                         (try clear hb)
                         (try clear hb2)
                         (try clear hk)
                         (try clear hi)
                         refine hK.out _ _ ⟨(blk_cell BK101.out 0).trans rfl, (blk_cell BK101.out 1).trans rfl, (blk_cell BK101.out 2).trans rfl, (blk_cell BK101.out 3).trans rfl, (blk_cell BK106.out 0).trans rfl, (blk_cell BK106.out 1).trans rfl, (blk_cell BK106.out 2).trans rfl, (blk_cell BK106.out 3).trans rfl, (blk_cell BK106.out 4).trans rfl, (blk_cell BK106.out 5).trans rfl, (blk_cell BK106.out 6).trans rfl, (blk_cell BK106.out 7).trans rfl, (blk_cell BK106.out 8).trans rfl, (blk_cell BK106.out 9).trans rfl, (blk_cell BK106.out 10).trans rfl, ((HB.out.cell (World.block_lt_of_cell? w _ hw110_0)).trans hw110_0), ((HB.out.cell (World.block_lt_of_cell? w _ hw110_1)).trans hw110_1), ((HB.out.cell (World.block_lt_of_cell? w _ hw110_2)).trans hw110_2), ((HB.out.cell (World.block_lt_of_cell? w _ hw110_3)).trans hw110_3), ((HB.out.cell (World.block_lt_of_cell? w _ hw110_4)).trans hw110_4), ((HB.out.cell (World.block_lt_of_cell? w _ hw110_5)).trans hw110_5), ((HB.out.cell (World.block_lt_of_cell? w _ hw110_6)).trans hw110_6), ((HB.out.cell (World.block_lt_of_cell? w _ hw110_7)).trans hw110_7), ((HB.out.cell (World.block_lt_of_cell? w _ hw110_8)).trans hw110_8), ((HB.out.cell (World.block_lt_of_cell? w _ hw110_9)).trans hw110_9), ((HB.out.cell (World.block_lt_of_cell? w _ hw110_10)).trans hw110_10)⟩ (fun hHeld => ?_)
                         clear hK K
                         refine norm_ (a' := ?_) ?_ ?_
                         rotate_left
                         · show Act.put _ (some 88) _ = _
                           simp only [Act.put, List.setIfInBounds_toArray, List.set_cons_zero, List.set_cons_succ, i64_w, i32_w]
                           rfl
                         refine pure_ (i := 13) (N := some 89) (v := ?_) (a' := ?_) #[true, true, true, true, true, true, true, true, true, true, true, true, true, true, false] rfl rfl (any_of HT_.out (by kernel_rfl)) (fun _ _ _ h => h) (Or.inl ⟨by rfl, ?_⟩) ?_ ?_
                         rotate_left
                         · intro w'
                           go_simp
                           with_reducible rfl
                         rotate_left
                         · simp only [Act.put, List.setIfInBounds_toArray, List.set_cons_zero, List.set_cons_succ, i64_w, i32_w]
                           rfl
                         refine pure_ (i := 14) (N := some 90) (v := ?_) (a' := ?_) #[true, true, true, true, true, true, true, true, true, true, true, true, true, true, true] rfl rfl (any_of HT_.out (by kernel_rfl)) (fun _ _ _ h => h) (Or.inl ⟨by rfl, ?_⟩) ?_ ?_
                         rotate_left
                         · intro w'
                           go_simp
                           with_reducible rfl
                         rotate_left
                         · simp only [Act.put, List.setIfInBounds_toArray, List.set_cons_zero, List.set_cons_succ, i64_w, i32_w]
                           rfl
                         refine done_ (done_of HT_.out (by kernel_rfl)) ?_
                         try go_wp2
                         go_roundg kj18
                         case measure => have := HJ1.out; have := HK2.out; have := HJ18.out; omega
                         case rel => exact ⟨(wrap64 (x30_2 + 1)), z4458, H', ⟨by have := HJ1.out; have := HK2.out; have := HJ18.out; omega⟩, ⟨bkZ⟩, ⟨zcb41⟩⟩
                     · rw [if_neg c79] at H
                       exact absurd H (by simp)
                   · rw [if_neg c78] at H
                     exact absurd H (by simp)
                 · rw [if_neg c76] at H
                   have c76b0 : decide (0 < x30_2) = false := decide_eq_false c76
                   clear c76
                   have H' := aM H
                   clear H
                   try go_wp2
                   have _ := aM (blk_drew BK101.out)
                   have _ := aM (blk_drew BK106.out)
                   have _ := aM (below_drew1 HB.out)
                   clear BK101
                   clear BK106
                   clear HB
                   rename_i BK101 BK106 HB
                   refine start_ (n := 15) (S := fun w' => True) (ds := []) #[false, false, false, false, false, false, false, false, false, false, false, false, false, false, false] (by kernel_rfl) rfl rfl trivial (fun hHeld => ?_); refine with_tabW impl_GoodBoard.tab8 impl_GoodBoard.bits8 (fun HT_ HW_ => ?_)
                   generalize wc.drew = w86 at BK101 BK106 HB hHeld ⊢
                   refine pure_ (i := 0) (N := some 76) (v := ?_) (a' := ?_) #[true, false, false, false, false, false, false, false, false, false, false, false, false, false, false] rfl rfl (any_of HT_.out (by kernel_rfl)) (fun _ _ _ h => h) (Or.inl ⟨by rfl, ?_⟩) ?_ ?_
                   rotate_left
                   · intro w'
                     go_simp
                     with_reducible rfl
                   rotate_left
                   · simp only [Act.put, List.setIfInBounds_toArray, List.set_cons_zero, List.set_cons_succ, i64_w, i32_w]
                     rfl
                   refine pure_ (i := 1) (N := some 77) (v := ?_) (a' := ?_) #[true, true, false, false, false, false, false, false, false, false, false, false, false, false, false] rfl rfl (any_of HT_.out (by kernel_rfl)) (fun _ _ _ h => h) (Or.inl ⟨by rfl, ?_⟩) ?_ ?_
                   rotate_left
                   · intro w'
                     go_simp
                     with_reducible rfl
                   rotate_left
                   · simp only [Act.put, List.setIfInBounds_toArray, List.set_cons_zero, List.set_cons_succ, i64_w, i32_w]
                     rfl
                   refine pure_ (i := 2) (N := some 78) (v := ?_) (a' := ?_) #[true, true, true, false, false, false, false, false, false, false, false, false, false, false, false] rfl rfl (any_of HT_.out (by kernel_rfl)) (fun _ _ _ h => h) (Or.inl ⟨by rfl, ?_⟩) ?_ ?_
                   rotate_left
                   · intro w'
                     go_simp
                     with_reducible rfl
                   rotate_left
                   · simp only [Act.put, List.setIfInBounds_toArray, List.set_cons_zero, List.set_cons_succ, i64_w, i32_w]
                     rfl
                   refine pure_ (i := 3) (N := some 79) (v := undef) (a' := ?_) #[true, true, true, true, false, false, false, false, false, false, false, false, false, false, false] rfl rfl (any_of HT_.out (by kernel_rfl)) (fun _ _ _ h => h) (Or.inr ⟨by rfl, rfl⟩) ?_ ?_
                   rotate_left
                   · simp only [Act.put, List.setIfInBounds_toArray, List.set_cons_zero, List.set_cons_succ, i64_w, i32_w]
                     rfl
                   refine pure_ (i := 4) (N := some 80) (v := undef) (a' := ?_) #[true, true, true, true, true, false, false, false, false, false, false, false, false, false, false] rfl rfl (any_of HT_.out (by kernel_rfl)) (fun _ _ _ h => h) (Or.inr ⟨by rfl, rfl⟩) ?_ ?_
                   rotate_left
                   · simp only [Act.put, List.setIfInBounds_toArray, List.set_cons_zero, List.set_cons_succ, i64_w, i32_w]
                     rfl
                   refine pure_ (i := 5) (N := some 81) (v := undef) (a' := ?_) #[true, true, true, true, true, true, false, false, false, false, false, false, false, false, false] rfl rfl (any_of HT_.out (by kernel_rfl)) (fun _ _ _ h => h) (Or.inr ⟨by rfl, rfl⟩) ?_ ?_
                   rotate_left
                   · simp only [Act.put, List.setIfInBounds_toArray, List.set_cons_zero, List.set_cons_succ, i64_w, i32_w]
                     rfl
                   refine pure_ (i := 6) (N := some 82) (v := undef) (a' := ?_) #[true, true, true, true, true, true, true, false, false, false, false, false, false, false, false] rfl rfl (any_of HT_.out (by kernel_rfl)) (fun _ _ _ h => h) (Or.inr ⟨by rfl, rfl⟩) ?_ ?_
                   rotate_left
                   · simp only [Act.put, List.setIfInBounds_toArray, List.set_cons_zero, List.set_cons_succ, i64_w, i32_w]
                     rfl
                   refine pure_ (i := 7) (N := some 83) (v := undef) (a' := ?_) #[true, true, true, true, true, true, true, true, false, false, false, false, false, false, false] rfl rfl (any_of HT_.out (by kernel_rfl)) (fun _ _ _ h => h) (Or.inr ⟨by rfl, rfl⟩) ?_ ?_
                   rotate_left
                   · simp only [Act.put, List.setIfInBounds_toArray, List.set_cons_zero, List.set_cons_succ, i64_w, i32_w]
                     rfl
                   refine pure_ (i := 8) (N := some 84) (v := undef) (a' := ?_) #[true, true, true, true, true, true, true, true, true, false, false, false, false, false, false] rfl rfl (any_of HT_.out (by kernel_rfl)) (fun _ _ _ h => h) (Or.inr ⟨by rfl, rfl⟩) ?_ ?_
                   rotate_left
                   · simp only [Act.put, List.setIfInBounds_toArray, List.set_cons_zero, List.set_cons_succ, i64_w, i32_w]
                     rfl
                   refine pure_ (i := 9) (N := some 85) (v := undef) (a' := ?_) #[true, true, true, true, true, true, true, true, true, true, false, false, false, false, false] rfl rfl (any_of HT_.out (by kernel_rfl)) (fun _ _ _ h => h) (Or.inr ⟨by rfl, rfl⟩) ?_ ?_
                   rotate_left
                   · simp only [Act.put, List.setIfInBounds_toArray, List.set_cons_zero, List.set_cons_succ, i64_w, i32_w]
                     rfl
                   refine pure_ (i := 10) (N := some 86) (v := undef) (a' := ?_) #[true, true, true, true, true, true, true, true, true, true, true, false, false, false, false] rfl rfl (any_of HT_.out (by kernel_rfl)) (fun _ _ _ h => h) (Or.inr ⟨by rfl, rfl⟩) ?_ ?_
                   rotate_left
                   · simp only [Act.put, List.setIfInBounds_toArray, List.set_cons_zero, List.set_cons_succ, i64_w, i32_w]
                     rfl
                   refine pure_ (i := 11) (N := some 87) (v := undef) (a' := ?_) #[true, true, true, true, true, true, true, true, true, true, true, true, false, false, false] rfl rfl (any_of HT_.out (by kernel_rfl)) (fun _ _ _ h => h) (Or.inr ⟨by rfl, rfl⟩) ?_ ?_
                   rotate_left
                   · simp only [Act.put, List.setIfInBounds_toArray, List.set_cons_zero, List.set_cons_succ, i64_w, i32_w]
                     rfl
                   refine pure_ (i := 12) (N := some 88) (v := undef) (a' := ?_) #[true, true, true, true, true, true, true, true, true, true, true, true, true, false, false] rfl rfl (any_of HT_.out (by kernel_rfl)) (fun _ _ _ h => h) (Or.inr ⟨by rfl, rfl⟩) ?_ ?_
                   rotate_left
                   · simp only [Act.put, List.setIfInBounds_toArray, List.set_cons_zero, List.set_cons_succ, i64_w, i32_w]
                     rfl
                   refine pure_ (i := 13) (N := some 89) (v := undef) (a' := ?_) #[true, true, true, true, true, true, true, true, true, true, true, true, true, true, false] rfl rfl (any_of HT_.out (by kernel_rfl)) (fun _ _ _ h => h) (Or.inr ⟨by rfl, rfl⟩) ?_ ?_
                   rotate_left
                   · simp only [Act.put, List.setIfInBounds_toArray, List.set_cons_zero, List.set_cons_succ, i64_w, i32_w]
                     rfl
                   refine pure_ (i := 14) (N := some 90) (v := ?_) (a' := ?_) #[true, true, true, true, true, true, true, true, true, true, true, true, true, true, true] rfl rfl (any_of HT_.out (by kernel_rfl)) (fun _ _ _ h => h) (Or.inl ⟨by rfl, ?_⟩) ?_ ?_
                   rotate_left
                   · intro w'
                     go_simp
                     with_reducible rfl
                   rotate_left
                   · simp only [Act.put, List.setIfInBounds_toArray, List.set_cons_zero, List.set_cons_succ, i64_w, i32_w]
                     rfl
                   refine done_ (done_of HT_.out (by kernel_rfl)) ?_
                   try go_wp2
                   go_roundg kj18
                   case measure => have := HJ1.out; have := HK2.out; have := HJ18.out; omega
                   case rel => exact ⟨(wrap64 (x30_2 + 1)), z4458, H', ⟨by have := HJ1.out; have := HK2.out; have := HJ18.out; omega⟩, ⟨bkZ⟩, ⟨zcb41⟩⟩
           · rw [if_neg c18] at H
             exact absurd H (by simp)
         · rw [if_neg c17] at H
           exact absurd H (by simp)
       · rw [if_neg c16] at H
         have c16b0 : decide (x30_2 < (l0_3.length : Int)) = false := decide_eq_false c16
         clear c16
         obtain rfl := Option.some.inj H
         go_wp2
         go_ret
         exact ⟨z674d, zcb41⟩

end Go.Proofs.YteogadaloebdaaaDoor.P

-- written by a program of this session's (wip/pp)
namespace Go.Proofs.YteogadaloebdaaaDoor.P
open Go.RowKit Go.Proofs.YteogadaloebdaaaDoorW.PrintWords Go.Proofs.YteogadaloebdaaaDoorW.PrintLast Go.Proofs.YteogadaloebdaaaDoorW.PrintMore
attribute [local go_sem] max2_int min2_int max_two min_two max_three min_three max_four min_four str_geq str_gtr str_leq   -- for this text's walks alone
set_option linter.unusedVariables false
set_option linter.unusedSimpArgs false

/-! ### laws_eqTag: function 78 -/
def laws_eqTag.f (a0_0 : ByteArray) (a0_1 : ByteArray) (a1_0 : ByteArray) (a1_1 : ByteArray) : Option (Bool) := if a0_0.toList = a1_0.toList then (if a0_1.toList = a1_1.toList then (some true) else (some false)) else (some false)
set_option maxHeartbeats 8000000 in
set_option maxRecDepth 100000 in
theorem laws_eqTag.calls (a0_0 : ByteArray) (a0_1 : ByteArray) (a1_0 : ByteArray) (a1_1 : ByteArray) (r : Bool) (w : World) (h : laws_eqTag.f a0_0 a0_1 a1_0 a1_1 = some r) :
 Calls Tryd.prog 78 #[.agg #[.string a0_0, .string a0_1], .agg #[.string a1_0, .string a1_1]] w fun e w' => e = .returned (.bool r) ∧ Below w.heap.size w w' := by
 have hu69 := Tryd.underlying69
 have HB := aM (Below.refl w.heap.size w)
 have H : (if a0_0.toList = a1_0.toList then (if a0_1.toList = a1_1.toList then (some true) else (some false)) else (some false)) = some r := h
 clear h
 by_cases c3 : a0_0.toList = a1_0.toList
 · rw [if_pos c3] at H
   have c3b0 : (a0_0.toList == a1_0.toList) = true := beq_iff_eq.mpr c3
   have c3b1 : (a0_0.toList != a1_0.toList) = false := bne_eq_false_iff_eq.mpr c3
   clear c3
   by_cases c4 : a0_1.toList = a1_1.toList
   · rw [if_pos c4] at H
     have c4b0 : (a0_1.toList == a1_1.toList) = true := beq_iff_eq.mpr c4
     have c4b1 : (a0_1.toList != a1_1.toList) = false := bne_eq_false_iff_eq.mpr c4
     clear c4
     obtain rfl := Option.some.inj H
     go_enter Tryd.func78, Tryd.ntmps78
     go_wp2_with (first | ((with_reducible refine gate_dst (N := 2) rfl ?_); refine box_event ?hg (N := 2) ?hd (cs := #[.string a0_0, .string a0_1]) (t := 69) ?hr ?_; (case hd => rfl); (case hg => rfl); (case hr => first | (go_simp; done) | (go_simp; rfl)); intro gb101 hg w5 hbox hb; have _ := aM (below_step hbZ hb); have _ := aM hbox; have _ := szZ hg; have _ := szZ hg; clear HB; rename_i HB BK101 GW101 GE101; clear hb hbox hg) | ((with_reducible refine gate_dst (N := 3) rfl ?_); refine box_event ?hg (N := 3) ?hd (cs := #[.string a1_0, .string a1_1]) (t := 69) ?hr ?_; (case hd => rfl); (case hg => rfl); (case hr => first | (go_simp; done) | (go_simp; rfl)); intro gb102 hg w6 hbox hb; have _ := bB gb101 hb; have _ := aM (below_step hbZ hb); have _ := aM hbox; have _ := szZ hg; have _ := szZ hg; have ⟨_, _⟩ := nbB gb101 hg; clear BK101 HB; rename_i BK101 HB BK102 GW102 GE102 NB101_102 NB102_101; clear hb hbox hg; have hnb7 := NB101_102.out; have hnc7 := NB102_101.out; obtain ⟨hcz8_0, hcz8_1, hfz8_0, hfz8_1⟩ := cellsZ2 BK101.out; obtain ⟨hcz9_0, hcz9_1, hfz9_0, hfz9_1⟩ := cellsZ2 BK102.out))
     go_ret
     exact ⟨z674d, zcb41⟩
   · rw [if_neg c4] at H
     have c4b0 : (a0_1.toList == a1_1.toList) = false := beq_eq_false_iff_ne.mpr c4
     have c4b1 : (a0_1.toList != a1_1.toList) = true := bne_iff_ne.mpr c4
     obtain rfl := Option.some.inj H
     go_enter Tryd.func78, Tryd.ntmps78
     go_wp2_with (first | ((with_reducible refine gate_dst (N := 2) rfl ?_); refine box_event ?hg (N := 2) ?hd (cs := #[.string a0_0, .string a0_1]) (t := 69) ?hr ?_; (case hd => rfl); (case hg => rfl); (case hr => first | (go_simp; done) | (go_simp; rfl)); intro gb101 hg w10 hbox hb; have _ := aM (below_step hbZ hb); have _ := aM hbox; have _ := szZ hg; have _ := szZ hg; clear HB; rename_i HB BK101 GW101 GE101; clear hb hbox hg) | ((with_reducible refine gate_dst (N := 3) rfl ?_); refine box_event ?hg (N := 3) ?hd (cs := #[.string a1_0, .string a1_1]) (t := 69) ?hr ?_; (case hd => rfl); (case hg => rfl); (case hr => first | (go_simp; done) | (go_simp; rfl)); intro gb102 hg w11 hbox hb; have _ := bB gb101 hb; have _ := aM (below_step hbZ hb); have _ := aM hbox; have _ := szZ hg; have _ := szZ hg; have ⟨_, _⟩ := nbB gb101 hg; clear BK101 HB; rename_i BK101 HB BK102 GW102 GE102 NB101_102 NB102_101; clear hb hbox hg; have hnb12 := NB101_102.out; have hnc12 := NB102_101.out; obtain ⟨hcz13_0, hcz13_1, hfz13_0, hfz13_1⟩ := cellsZ2 BK101.out; obtain ⟨hcz14_0, hcz14_1, hfz14_0, hfz14_1⟩ := cellsZ2 BK102.out))
     go_ret
     exact ⟨z674d, zcb41⟩
 · rw [if_neg c3] at H
   have c3b0 : (a0_0.toList == a1_0.toList) = false := beq_eq_false_iff_ne.mpr c3
   have c3b1 : (a0_0.toList != a1_0.toList) = true := bne_iff_ne.mpr c3
   obtain rfl := Option.some.inj H
   go_enter Tryd.func78, Tryd.ntmps78
   go_wp2_with (first | ((with_reducible refine gate_dst (N := 2) rfl ?_); refine box_event ?hg (N := 2) ?hd (cs := #[.string a0_0, .string a0_1]) (t := 69) ?hr ?_; (case hd => rfl); (case hg => rfl); (case hr => first | (go_simp; done) | (go_simp; rfl)); intro gb101 hg w15 hbox hb; have _ := aM (below_step hbZ hb); have _ := aM hbox; have _ := szZ hg; have _ := szZ hg; clear HB; rename_i HB BK101 GW101 GE101; clear hb hbox hg) | ((with_reducible refine gate_dst (N := 3) rfl ?_); refine box_event ?hg (N := 3) ?hd (cs := #[.string a1_0, .string a1_1]) (t := 69) ?hr ?_; (case hd => rfl); (case hg => rfl); (case hr => first | (go_simp; done) | (go_simp; rfl)); intro gb102 hg w16 hbox hb; have _ := bB gb101 hb; have _ := aM (below_step hbZ hb); have _ := aM hbox; have _ := szZ hg; have _ := szZ hg; have ⟨_, _⟩ := nbB gb101 hg; clear BK101 HB; rename_i BK101 HB BK102 GW102 GE102 NB101_102 NB102_101; clear hb hbox hg; have hnb17 := NB101_102.out; have hnc17 := NB102_101.out; obtain ⟨hcz18_0, hcz18_1, hfz18_0, hfz18_1⟩ := cellsZ2 BK101.out; obtain ⟨hcz19_0, hcz19_1, hfz19_0, hfz19_1⟩ := cellsZ2 BK102.out))
   go_ret
   exact ⟨z674d, zcb41⟩

end Go.Proofs.YteogadaloebdaaaDoor.P

-- written by a program of this session's (wip/pp)
namespace Go.Proofs.YteogadaloebdaaaDoor.P
open Go.RowKit Go.Proofs.YteogadaloebdaaaDoorW.PrintWords Go.Proofs.YteogadaloebdaaaDoorW.PrintLast Go.Proofs.YteogadaloebdaaaDoorW.PrintMore
attribute [local go_sem] max2_int min2_int max_two min_two max_three min_three max_four min_four str_geq str_gtr str_leq   -- for this text's walks alone
set_option linter.unusedVariables false
set_option linter.unusedSimpArgs false

/-! ### laws_eqTagS: function 48 -/
def laws_eqTagS.l0 : Nat → List (S69) → List (S69) → Int → Option (Bool)
 | 0, _, _, _ => none
 | k + 1, x0, x1, x5 => if x5 < (x0.length : Int) then (if 0 ≤ x5 then (if x5 < (x1.length : Int) then ((laws_eqTag.f ((rd_T69 x0 x5).f0) ((rd_T69 x0 x5).f1) ((rd_T69 x1 x5).f0) ((rd_T69 x1 x5).f1)).bind fun t103 => (if t103 = true then (laws_eqTagS.l0 k x0 x1 (wrap64 (x5 + 1))) else (some false))) else (none)) else (none)) else (some true)
def laws_eqTagS.f (k : Nat) (l0 : List (S69)) (l1 : List (S69)) : Option (Bool) := if (l0.length : Int) = (l1.length : Int) then (laws_eqTagS.l0 k l0 l1 0) else (some false)
theorem laws_eqTagS.mono_l : ∀ k, (∀ y0 y1 y2, LeO (laws_eqTagS.l0 k y0 y1 y2) (laws_eqTagS.l0 (k + 1) y0 y1 y2))
 | 0 => fun _ _ _ r h => by simp [laws_eqTagS.l0] at h
 | k + 1 => by
  have ih0 := laws_eqTagS.mono_l k
  · intro y0 y1 y2
    unfold laws_eqTagS.l0
    repeat' first
     | (with_reducible first | exact ih0 .. | exact LeO.refl _ | exact LeO.none _ | refine LeO.ite ?_ ?_ | refine LeO.bind ?_ (fun _ => ?_))
     | exact LeO.none _
     | refine LeO.ite ?_ ?_
     | refine LeO.bind ?_ (fun _ => ?_)
theorem laws_eqTagS.mono : ∀ a0 a1 k, LeO (laws_eqTagS.f k a0 a1) (laws_eqTagS.f (k + 1) a0 a1) := by
 intro a0 a1 k
 have ih0 := laws_eqTagS.mono_l k
 unfold laws_eqTagS.f
 repeat' first
  | (with_reducible first | exact ih0 .. | exact LeO.refl _ | exact LeO.none _ | refine LeO.ite ?_ ?_ | refine LeO.bind ?_ (fun _ => ?_))
  | exact LeO.none _
  | refine LeO.ite ?_ ?_
  | refine LeO.bind ?_ (fun _ => ?_)
def laws_eqTagS.T6 : Bool × List (List Nat × List Nat) := (true, [([], []), ([], []), ([0, 1], [0, 1]), ([2], [2]), ([], []), ([], []), ([4, 5], [4, 5]), ([6], [6]), ([3, 7], [3, 7]), ([8], [8])])
def laws_eqTagS.B6 : List Nat := [0, 0, 3, 7, 0, 0, 48, 112, 255, 511]
theorem laws_eqTagS.tab6 : rtab .any (opsOf Tryd.f48 6) = laws_eqTagS.T6 := by kernel_rfl
theorem laws_eqTagS.bits6 : waitsOk laws_eqTagS.T6.2 laws_eqTagS.B6 = true := by kernel_rfl
set_option maxHeartbeats 8000000 in
set_option maxRecDepth 100000 in
theorem laws_eqTagS.calls (k : Nat) (A0 : Option Addr) (c0 : Nat) (l0 : List (S69)) (A1 : Option Addr) (c1 : Nat) (l1 : List (S69)) (r : Bool) (w : World) (hr0 : Kd.C k69 w A0 l0.length l0) (hc0 : l0.length ≤ c0) (hr1 : Kd.C k69 w A1 l1.length l1) (hc1 : l1.length ≤ c1) (h : laws_eqTagS.f k l0 l1 = some r) :
 Calls Tryd.prog 48 #[.slice A0 l0.length c0, .slice A1 l1.length c1] w fun e w' => e = .returned (.bool r) ∧ Below w.heap.size w w' := by
 have hu69 := Tryd.underlying69
 have HR0 := aM hr0
 have HC0 := aM hc0
 clear hr0 hc0
 have HR1 := aM hr1
 have HC1 := aM hc1
 clear hr1 hc1
 have HB := aM (Below.refl w.heap.size w)
 have H : (if (l0.length : Int) = (l1.length : Int) then (laws_eqTagS.l0 k l0 l1 0) else (some false)) = some r := h
 clear h
 by_cases c3 : (l0.length : Int) = (l1.length : Int)
 · rw [if_pos c3] at H
   have c3b0 : ((l0.length : Int) == (l1.length : Int)) = true := beq_iff_eq.mpr c3
   have c3b1 : ((l0.length : Int) != (l1.length : Int)) = false := bne_eq_false_iff_eq.mpr c3
   have c3b2 : (l0.length == l1.length) = true := by first | simpa using c3 | (simp at c3 ⊢; omega)
   clear c3
   have H' := aM H
   clear H
   go_enter Tryd.func48, Tryd.ntmps48
   go_wp2
   go_loopg [5] k (fun kq v5 w' => ∃ (x5_1 : Int), v5 = .int .i64 x5_1 ∧ Aside0 (laws_eqTagS.l0 kq l0 l1 x5_1 = some r) ∧ Aside0 (kq ≤ k) ∧ Aside0 (Below w.heap.size w w'))
   case atStart => exact ⟨(0), z4458, H', ⟨Nat.le_refl _⟩, ⟨z5acd⟩⟩
   case round =>
    clear H'
    try clear c1
    try clear p2
    try clear c3
    try clear c3b0
    try clear c3b1
    try clear c3b2
    obtain ⟨x5_1, rfl, HA, HK1, HB⟩ := hrel
    cases gk with
    | zero => exact absurd HA.out (by simp [laws_eqTagS.l0])
    | succ k1 =>
     have H := HA.out
     clear HA
     simp only [laws_eqTagS.l0] at H
     by_cases c4 : x5_1 < (l0.length : Int)
     · rw [if_pos c4] at H
       have c4b0 : decide (x5_1 < (l0.length : Int)) = true := decide_eq_true c4
       clear c4
       by_cases c5 : 0 ≤ x5_1
       · rw [if_pos c5] at H
         have c5b0 : decide (0 ≤ x5_1) = true := decide_eq_true c5
         clear c5
         by_cases c6 : x5_1 < (l1.length : Int)
         · rw [if_pos c6] at H
           have c6b0 : decide (x5_1 < (l1.length : Int)) = true := decide_eq_true c6
           clear c6
           replace H := Option.bind_eq_some_iff.mp H
           obtain ⟨t103, A70, H⟩ := H
           try dsimp only at H
           have A7 := aM A70
           clear A70
           by_cases c8 : t103 = true
           · subst c8
             have H1 : (laws_eqTagS.l0 k1 l0 l1 (wrap64 (x5_1 + 1))) = some r := by rw [if_pos rfl] at H; exact H
             clear H
             have H := H1
             clear H1
             have H' := aM H
             clear H
             try go_wp2
             have _ := aM (below_drew1 HB.out)
             clear HB
             rename_i HB
             have p101 : 0 ≤ (x5_1 : Int) := of_decide_eq_true z1200
             have q101 : x5_1 < (l0.length : Int) := of_decide_eq_true z1200
             obtain ⟨ad101, e101, hx101_0, hx101_1⟩ := at_T69 HR0.out x5_1 p101 q101
             have hw101_1 := hx101_1
             have hw101_0 := hx101_0
             cases e101
             replace hx101_0 := (HB.out.cell (World.block_lt_of_cell? w _ hx101_0)).trans hx101_0
             replace hx101_1 := (HB.out.cell (World.block_lt_of_cell? w _ hx101_1)).trans hx101_1
             replace p101 := eq_true p101
             replace q101 := eq_true q101
             have p102 : 0 ≤ (x5_1 : Int) := of_decide_eq_true z1200
             have q102 : x5_1 < (l1.length : Int) := of_decide_eq_true z1200
             obtain ⟨ad102, e102, hx102_0, hx102_1⟩ := at_T69 HR1.out x5_1 p102 q102
             have hw102_1 := hx102_1
             have hw102_0 := hx102_0
             cases e102
             replace hx102_0 := (HB.out.cell (World.block_lt_of_cell? w _ hx102_0)).trans hx102_0
             replace hx102_1 := (HB.out.cell (World.block_lt_of_cell? w _ hx102_1)).trans hx102_1
             replace p102 := eq_true p102
             replace q102 := eq_true q102
             refine start_ (n := 10) (S := fun w' => w'.cell? (ad101.add ((x5_1).toNat * 2)) = some (.string ((rd_T69 l0 x5_1).f0)) ∧ w'.cell? ⟨(ad101.add ((x5_1).toNat * 2)).block, (ad101.add ((x5_1).toNat * 2)).off + 1, none⟩ = some (.string ((rd_T69 l0 x5_1).f1)) ∧ w'.cell? (ad102.add ((x5_1).toNat * 2)) = some (.string ((rd_T69 l1 x5_1).f0)) ∧ w'.cell? ⟨(ad102.add ((x5_1).toNat * 2)).block, (ad102.add ((x5_1).toNat * 2)).off + 1, none⟩ = some (.string ((rd_T69 l1 x5_1).f1))) (ds := []) #[false, false, false, false, false, false, false, false, false, false] (by kernel_rfl) rfl rfl ⟨((HB.out.cell (World.block_lt_of_cell? w _ hw101_0)).trans hw101_0), ((HB.out.cell (World.block_lt_of_cell? w _ hw101_1)).trans hw101_1), ((HB.out.cell (World.block_lt_of_cell? w _ hw102_0)).trans hw102_0), ((HB.out.cell (World.block_lt_of_cell? w _ hw102_1)).trans hw102_1)⟩ (fun hHeld => ?_); refine with_tabW laws_eqTagS.tab6 laws_eqTagS.bits6 (fun HT_ HW_ => ?_)
             generalize wr.drew = w9 at HB hx101_0 hx101_1 hx102_0 hx102_1 hHeld ⊢
             refine pure_ (i := 0) (N := some 17) (v := ?_) (a' := ?_) #[true, false, false, false, false, false, false, false, false, false] rfl rfl (any_of HT_.out (by kernel_rfl)) (fun _ _ _ h => h) (Or.inl ⟨by rfl, ?_⟩) ?_ ?_
             rotate_left
             · intro w'
               go_simp
               with_reducible rfl
             rotate_left
             · simp only [Act.put, List.setIfInBounds_toArray, List.set_cons_zero, List.set_cons_succ, i64_w, i32_w]
               rfl
             refine pure_ (i := 1) (N := some 18) (v := ?_) (a' := ?_) #[true, true, false, false, false, false, false, false, false, false] rfl rfl (any_of HT_.out (by kernel_rfl)) (fun _ _ _ h => h) (Or.inl ⟨by rfl, ?_⟩) ?_ ?_
             rotate_left
             · intro w'
               go_simp
               with_reducible rfl
             rotate_left
             · simp only [Act.put, List.setIfInBounds_toArray, List.set_cons_zero, List.set_cons_succ, i64_w, i32_w]
               rfl
             refine pure_ (i := 2) (N := some 19) (v := ?_) (a' := ?_) #[true, true, true, false, false, false, false, false, false, false] rfl rfl (any_of HT_.out (by kernel_rfl)) (fun _ _ _ h => h) (Or.inl ⟨by rfl, ?_⟩) ?_ ?_
             rotate_left
             · intro w'
               go_simp
               with_reducible rfl
             rotate_left
             · simp only [Act.put, List.setIfInBounds_toArray, List.set_cons_zero, List.set_cons_succ, i64_w, i32_w]
               rfl
             refine pure_ (i := 4) (N := some 21) (v := ?_) (a' := ?_) #[true, true, true, false, true, false, false, false, false, false] rfl rfl (any_of HT_.out (by kernel_rfl)) (fun _ _ _ h => h) (Or.inl ⟨by rfl, ?_⟩) ?_ ?_
             rotate_left
             · intro w'
               go_simp
               with_reducible rfl
             rotate_left
             · simp only [Act.put, List.setIfInBounds_toArray, List.set_cons_zero, List.set_cons_succ, i64_w, i32_w]
               rfl
             refine pure_ (i := 5) (N := some 22) (v := ?_) (a' := ?_) #[true, true, true, false, true, true, false, false, false, false] rfl rfl (any_of HT_.out (by kernel_rfl)) (fun _ _ _ h => h) (Or.inl ⟨by rfl, ?_⟩) ?_ ?_
             rotate_left
             · intro w'
               go_simp
               with_reducible rfl
             rotate_left
             · simp only [Act.put, List.setIfInBounds_toArray, List.set_cons_zero, List.set_cons_succ, i64_w, i32_w]
               rfl
             refine pure_ (i := 6) (N := some 23) (v := ?_) (a' := ?_) #[true, true, true, false, true, true, true, false, false, false] rfl rfl (any_of HT_.out (by kernel_rfl)) (fun _ _ _ h => h) (Or.inl ⟨by rfl, ?_⟩) ?_ ?_
             rotate_left
             · intro w'
               go_simp
               with_reducible rfl
             rotate_left
             · simp only [Act.put, List.setIfInBounds_toArray, List.set_cons_zero, List.set_cons_succ, i64_w, i32_w]
               rfl
             refine take_ (i := 3) (N := some 20) (v := ?_) (a' := ?_) #[true, true, true, true, true, true, true, false, false, false] rfl rfl (take_ofW HT_.out HW_.out (by kernel_rfl)) (fun _ _ _ h => h) (Or.inl ⟨by rfl, ?_⟩) hHeld ?_ ?_
             rotate_left
             · rintro w' ⟨s0, s1, s2, s3⟩
               go_simp
               with_reducible rfl
             rotate_left
             · simp only [Act.put, List.setIfInBounds_toArray, List.set_cons_zero, List.set_cons_succ, i64_w, i32_w]
               rfl
             refine take_ (i := 7) (N := some 24) (v := ?_) (a' := ?_) #[true, true, true, true, true, true, true, true, false, false] rfl rfl (take_ofW HT_.out HW_.out (by kernel_rfl)) (fun _ _ _ h => h) (Or.inl ⟨by rfl, ?_⟩) hHeld ?_ ?_
             rotate_left
             · rintro w' ⟨s0, s1, s2, s3⟩
               go_simp
               with_reducible rfl
             rotate_left
             · simp only [Act.put, List.setIfInBounds_toArray, List.set_cons_zero, List.set_cons_succ, i64_w, i32_w]
               rfl
             refine one_ (i := 8) (N := some 25) #[true, true, true, true, true, true, true, true, true, false] rfl rfl (one_of HT_.out (by kernel_rfl)) (by decide) (fun K hK => ?_)
             refine goes_ Tryd.func78 (by kernel_rfl) rfl #[.agg #[.string ((rd_T69 l0 x5_1).f0), .string ((rd_T69 l0 x5_1).f1)], .agg #[.string ((rd_T69 l1 x5_1).f0), .string ((rd_T69 l1 x5_1).f1)]] (by rfl) rfl rfl zee81 ?_
             with_reducible refine (laws_eqTag.calls ((rd_T69 l0 x5_1).f0) ((rd_T69 l0 x5_1).f1) ((rd_T69 l1 x5_1).f0) ((rd_T69 l1 x5_1).f1) true _ A7.out).mono ?_
             rintro e w10 ⟨rfl, hb⟩
             refine ⟨_, rfl, ?_⟩
             have _ := aM (below_step hbZ hb)
             clear HB
             rename_i HB
             (try clear hb)
             (try clear hb2)
             (try clear hk)
             (try clear hi)
             refine hK.out _ _ ⟨((HB.out.cell (World.block_lt_of_cell? w _ hw101_0)).trans hw101_0), ((HB.out.cell (World.block_lt_of_cell? w _ hw101_1)).trans hw101_1), ((HB.out.cell (World.block_lt_of_cell? w _ hw102_0)).trans hw102_0), ((HB.out.cell (World.block_lt_of_cell? w _ hw102_1)).trans hw102_1)⟩ (fun hHeld => ?_)
             clear hK K
             refine norm_ (a' := ?_) ?_ ?_
             rotate_left
             · show Act.put _ (some 25) _ = _
               simp only [Act.put, List.setIfInBounds_toArray, List.set_cons_zero, List.set_cons_succ, i64_w, i32_w]
               rfl
             refine pure_ (i := 9) (N := some 26) (v := ?_) (a' := ?_) #[true, true, true, true, true, true, true, true, true, true] rfl rfl (any_of HT_.out (by kernel_rfl)) (fun _ _ _ h => h) (Or.inl ⟨by rfl, ?_⟩) ?_ ?_
             rotate_left
             · intro w'
               go_simp
               with_reducible rfl
             rotate_left
             · simp only [Act.put, List.setIfInBounds_toArray, List.set_cons_zero, List.set_cons_succ, i64_w, i32_w]
               rfl
             refine done_ (done_of HT_.out (by kernel_rfl)) ?_
             try go_wp2
             go_roundg k1
             case measure => have := HK1.out; omega
             case rel => exact ⟨(wrap64 (x5_1 + 1)), z4458, H', ⟨zfb39⟩, ⟨z5acd⟩⟩
           · replace c8 := Bool.eq_false_iff.mpr c8
             subst c8
             have H1 : (some false) = some r := by rw [if_neg (show ¬ (false = true) by decide)] at H; exact H
             clear H
             have H := H1
             clear H1
             obtain rfl := Option.some.inj H
             try go_wp2
             have _ := aM (below_drew1 HB.out)
             clear HB
             rename_i HB
             have p101 : 0 ≤ (x5_1 : Int) := of_decide_eq_true z1200
             have q101 : x5_1 < (l0.length : Int) := of_decide_eq_true z1200
             obtain ⟨ad101, e101, hx101_0, hx101_1⟩ := at_T69 HR0.out x5_1 p101 q101
             have hw101_1 := hx101_1
             have hw101_0 := hx101_0
             cases e101
             replace hx101_0 := (HB.out.cell (World.block_lt_of_cell? w _ hx101_0)).trans hx101_0
             replace hx101_1 := (HB.out.cell (World.block_lt_of_cell? w _ hx101_1)).trans hx101_1
             replace p101 := eq_true p101
             replace q101 := eq_true q101
             have p102 : 0 ≤ (x5_1 : Int) := of_decide_eq_true z1200
             have q102 : x5_1 < (l1.length : Int) := of_decide_eq_true z1200
             obtain ⟨ad102, e102, hx102_0, hx102_1⟩ := at_T69 HR1.out x5_1 p102 q102
             have hw102_1 := hx102_1
             have hw102_0 := hx102_0
             cases e102
             replace hx102_0 := (HB.out.cell (World.block_lt_of_cell? w _ hx102_0)).trans hx102_0
             replace hx102_1 := (HB.out.cell (World.block_lt_of_cell? w _ hx102_1)).trans hx102_1
             replace p102 := eq_true p102
             replace q102 := eq_true q102
             refine start_ (n := 10) (S := fun w' => w'.cell? (ad101.add ((x5_1).toNat * 2)) = some (.string ((rd_T69 l0 x5_1).f0)) ∧ w'.cell? ⟨(ad101.add ((x5_1).toNat * 2)).block, (ad101.add ((x5_1).toNat * 2)).off + 1, none⟩ = some (.string ((rd_T69 l0 x5_1).f1)) ∧ w'.cell? (ad102.add ((x5_1).toNat * 2)) = some (.string ((rd_T69 l1 x5_1).f0)) ∧ w'.cell? ⟨(ad102.add ((x5_1).toNat * 2)).block, (ad102.add ((x5_1).toNat * 2)).off + 1, none⟩ = some (.string ((rd_T69 l1 x5_1).f1))) (ds := []) #[false, false, false, false, false, false, false, false, false, false] (by kernel_rfl) rfl rfl ⟨((HB.out.cell (World.block_lt_of_cell? w _ hw101_0)).trans hw101_0), ((HB.out.cell (World.block_lt_of_cell? w _ hw101_1)).trans hw101_1), ((HB.out.cell (World.block_lt_of_cell? w _ hw102_0)).trans hw102_0), ((HB.out.cell (World.block_lt_of_cell? w _ hw102_1)).trans hw102_1)⟩ (fun hHeld => ?_); refine with_tabW laws_eqTagS.tab6 laws_eqTagS.bits6 (fun HT_ HW_ => ?_)
             generalize wr.drew = w11 at HB hx101_0 hx101_1 hx102_0 hx102_1 hHeld ⊢
             refine pure_ (i := 0) (N := some 17) (v := ?_) (a' := ?_) #[true, false, false, false, false, false, false, false, false, false] rfl rfl (any_of HT_.out (by kernel_rfl)) (fun _ _ _ h => h) (Or.inl ⟨by rfl, ?_⟩) ?_ ?_
             rotate_left
             · intro w'
               go_simp
               with_reducible rfl
             rotate_left
             · simp only [Act.put, List.setIfInBounds_toArray, List.set_cons_zero, List.set_cons_succ, i64_w, i32_w]
               rfl
             refine pure_ (i := 1) (N := some 18) (v := ?_) (a' := ?_) #[true, true, false, false, false, false, false, false, false, false] rfl rfl (any_of HT_.out (by kernel_rfl)) (fun _ _ _ h => h) (Or.inl ⟨by rfl, ?_⟩) ?_ ?_
             rotate_left
             · intro w'
               go_simp
               with_reducible rfl
             rotate_left
             · simp only [Act.put, List.setIfInBounds_toArray, List.set_cons_zero, List.set_cons_succ, i64_w, i32_w]
               rfl
             refine pure_ (i := 2) (N := some 19) (v := ?_) (a' := ?_) #[true, true, true, false, false, false, false, false, false, false] rfl rfl (any_of HT_.out (by kernel_rfl)) (fun _ _ _ h => h) (Or.inl ⟨by rfl, ?_⟩) ?_ ?_
             rotate_left
             · intro w'
               go_simp
               with_reducible rfl
             rotate_left
             · simp only [Act.put, List.setIfInBounds_toArray, List.set_cons_zero, List.set_cons_succ, i64_w, i32_w]
               rfl
             refine pure_ (i := 4) (N := some 21) (v := ?_) (a' := ?_) #[true, true, true, false, true, false, false, false, false, false] rfl rfl (any_of HT_.out (by kernel_rfl)) (fun _ _ _ h => h) (Or.inl ⟨by rfl, ?_⟩) ?_ ?_
             rotate_left
             · intro w'
               go_simp
               with_reducible rfl
             rotate_left
             · simp only [Act.put, List.setIfInBounds_toArray, List.set_cons_zero, List.set_cons_succ, i64_w, i32_w]
               rfl
             refine pure_ (i := 5) (N := some 22) (v := ?_) (a' := ?_) #[true, true, true, false, true, true, false, false, false, false] rfl rfl (any_of HT_.out (by kernel_rfl)) (fun _ _ _ h => h) (Or.inl ⟨by rfl, ?_⟩) ?_ ?_
             rotate_left
             · intro w'
               go_simp
               with_reducible rfl
             rotate_left
             · simp only [Act.put, List.setIfInBounds_toArray, List.set_cons_zero, List.set_cons_succ, i64_w, i32_w]
               rfl
             refine pure_ (i := 6) (N := some 23) (v := ?_) (a' := ?_) #[true, true, true, false, true, true, true, false, false, false] rfl rfl (any_of HT_.out (by kernel_rfl)) (fun _ _ _ h => h) (Or.inl ⟨by rfl, ?_⟩) ?_ ?_
             rotate_left
             · intro w'
               go_simp
               with_reducible rfl
             rotate_left
             · simp only [Act.put, List.setIfInBounds_toArray, List.set_cons_zero, List.set_cons_succ, i64_w, i32_w]
               rfl
             refine take_ (i := 3) (N := some 20) (v := ?_) (a' := ?_) #[true, true, true, true, true, true, true, false, false, false] rfl rfl (take_ofW HT_.out HW_.out (by kernel_rfl)) (fun _ _ _ h => h) (Or.inl ⟨by rfl, ?_⟩) hHeld ?_ ?_
             rotate_left
             · rintro w' ⟨s0, s1, s2, s3⟩
               go_simp
               with_reducible rfl
             rotate_left
             · simp only [Act.put, List.setIfInBounds_toArray, List.set_cons_zero, List.set_cons_succ, i64_w, i32_w]
               rfl
             refine take_ (i := 7) (N := some 24) (v := ?_) (a' := ?_) #[true, true, true, true, true, true, true, true, false, false] rfl rfl (take_ofW HT_.out HW_.out (by kernel_rfl)) (fun _ _ _ h => h) (Or.inl ⟨by rfl, ?_⟩) hHeld ?_ ?_
             rotate_left
             · rintro w' ⟨s0, s1, s2, s3⟩
               go_simp
               with_reducible rfl
             rotate_left
             · simp only [Act.put, List.setIfInBounds_toArray, List.set_cons_zero, List.set_cons_succ, i64_w, i32_w]
               rfl
             refine one_ (i := 8) (N := some 25) #[true, true, true, true, true, true, true, true, true, false] rfl rfl (one_of HT_.out (by kernel_rfl)) (by decide) (fun K hK => ?_)
             refine goes_ Tryd.func78 (by kernel_rfl) rfl #[.agg #[.string ((rd_T69 l0 x5_1).f0), .string ((rd_T69 l0 x5_1).f1)], .agg #[.string ((rd_T69 l1 x5_1).f0), .string ((rd_T69 l1 x5_1).f1)]] (by rfl) rfl rfl zee81 ?_
             with_reducible refine (laws_eqTag.calls ((rd_T69 l0 x5_1).f0) ((rd_T69 l0 x5_1).f1) ((rd_T69 l1 x5_1).f0) ((rd_T69 l1 x5_1).f1) false _ A7.out).mono ?_
             rintro e w12 ⟨rfl, hb⟩
             refine ⟨_, rfl, ?_⟩
             have _ := aM (below_step hbZ hb)
             clear HB
             rename_i HB
             (try clear hb)
             (try clear hb2)
             (try clear hk)
             (try clear hi)
             refine hK.out _ _ ⟨((HB.out.cell (World.block_lt_of_cell? w _ hw101_0)).trans hw101_0), ((HB.out.cell (World.block_lt_of_cell? w _ hw101_1)).trans hw101_1), ((HB.out.cell (World.block_lt_of_cell? w _ hw102_0)).trans hw102_0), ((HB.out.cell (World.block_lt_of_cell? w _ hw102_1)).trans hw102_1)⟩ (fun hHeld => ?_)
             clear hK K
             refine norm_ (a' := ?_) ?_ ?_
             rotate_left
             · show Act.put _ (some 25) _ = _
               simp only [Act.put, List.setIfInBounds_toArray, List.set_cons_zero, List.set_cons_succ, i64_w, i32_w]
               rfl
             refine pure_ (i := 9) (N := some 26) (v := ?_) (a' := ?_) #[true, true, true, true, true, true, true, true, true, true] rfl rfl (any_of HT_.out (by kernel_rfl)) (fun _ _ _ h => h) (Or.inl ⟨by rfl, ?_⟩) ?_ ?_
             rotate_left
             · intro w'
               go_simp
               with_reducible rfl
             rotate_left
             · simp only [Act.put, List.setIfInBounds_toArray, List.set_cons_zero, List.set_cons_succ, i64_w, i32_w]
               rfl
             refine done_ (done_of HT_.out (by kernel_rfl)) ?_
             try go_wp2
             go_ret
             exact ⟨z674d, z5acd⟩
         · rw [if_neg c6] at H
           exact absurd H (by simp)
       · rw [if_neg c5] at H
         exact absurd H (by simp)
     · rw [if_neg c4] at H
       have c4b0 : decide (x5_1 < (l0.length : Int)) = false := decide_eq_false c4
       clear c4
       obtain rfl := Option.some.inj H
       go_wp2
       go_ret
       exact ⟨z674d, z5acd⟩
 · rw [if_neg c3] at H
   have c3b0 : ((l0.length : Int) == (l1.length : Int)) = false := beq_eq_false_iff_ne.mpr c3
   have c3b1 : ((l0.length : Int) != (l1.length : Int)) = true := bne_iff_ne.mpr c3
   have c3b2 : (l0.length == l1.length) = false := by first | simpa using c3 | (simp at c3 ⊢; omega)
   obtain rfl := Option.some.inj H
   go_enter Tryd.func48, Tryd.ntmps48
   go_wp2
   go_ret
   exact ⟨z674d, z5acd⟩

end Go.Proofs.YteogadaloebdaaaDoor.P

-- written by a program of this session's (wip/pp)
namespace Go.Proofs.YteogadaloebdaaaDoor.P
open Go.RowKit Go.Proofs.YteogadaloebdaaaDoorW.PrintWords Go.Proofs.YteogadaloebdaaaDoorW.PrintLast Go.Proofs.YteogadaloebdaaaDoorW.PrintMore
attribute [local go_sem] max2_int min2_int max_two min_two max_three min_three max_four min_four str_geq str_gtr str_leq   -- for this text's walks alone
set_option linter.unusedVariables false
set_option linter.unusedSimpArgs false

/-! ### laws_eqKey: function 17 -/
def laws_eqKey.f (k : Nat) (a0_0 : ByteArray) (l0_1 : List (S69)) (a0_2 : Int) (a1_0 : ByteArray) (l1_1 : List (S69)) (a1_2 : Int) : Option (Bool) := if a0_0.toList = a1_0.toList then ((laws_eqTagS.f k l0_1 l1_1).bind fun t103 => (if t103 = true then (if a0_2 = a1_2 then (some true) else (some false)) else (some false))) else (some false)
theorem laws_eqKey.mono : ∀ a0 a1 a2 a3 a4 a5 k, LeO (laws_eqKey.f k a0 a1 a2 a3 a4 a5) (laws_eqKey.f (k + 1) a0 a1 a2 a3 a4 a5) := by
 intro a0 a1 a2 a3 a4 a5 k
 unfold laws_eqKey.f
 repeat' first
  | (with_reducible first | exact laws_eqTagS.mono .. | exact LeO.refl _ | exact LeO.none _ | refine LeO.ite ?_ ?_ | refine LeO.bind ?_ (fun _ => ?_))
  | exact LeO.none _
  | refine LeO.ite ?_ ?_
  | refine LeO.bind ?_ (fun _ => ?_)
set_option maxHeartbeats 8000000 in
set_option maxRecDepth 100000 in
theorem laws_eqKey.calls (k : Nat) (a0_0 : ByteArray) (A0_1 : Option Addr) (c0_1 : Nat) (l0_1 : List (S69)) (a0_2 : Int) (a1_0 : ByteArray) (A1_1 : Option Addr) (c1_1 : Nat) (l1_1 : List (S69)) (a1_2 : Int) (r : Bool) (w : World) (hr0_1 : Kd.C k69 w A0_1 l0_1.length l0_1) (hc0_1 : l0_1.length ≤ c0_1) (hr1_1 : Kd.C k69 w A1_1 l1_1.length l1_1) (hc1_1 : l1_1.length ≤ c1_1) (h : laws_eqKey.f k a0_0 l0_1 a0_2 a1_0 l1_1 a1_2 = some r) :
 Calls Tryd.prog 17 #[.agg #[.string a0_0, .slice A0_1 l0_1.length c0_1, .int .i64 a0_2], .agg #[.string a1_0, .slice A1_1 l1_1.length c1_1, .int .i64 a1_2]] w fun e w' => e = .returned (.bool r) ∧ Below w.heap.size w w' := by
 have hu25 := Tryd.underlying25
 have HR0_1 := aM hr0_1
 have HC0_1 := aM hc0_1
 clear hr0_1 hc0_1
 have HR1_1 := aM hr1_1
 have HC1_1 := aM hc1_1
 clear hr1_1 hc1_1
 have HB := aM (Below.refl w.heap.size w)
 have H : (if a0_0.toList = a1_0.toList then ((laws_eqTagS.f k l0_1 l1_1).bind fun t103 => (if t103 = true then (if a0_2 = a1_2 then (some true) else (some false)) else (some false))) else (some false)) = some r := h
 clear h
 by_cases c3 : a0_0.toList = a1_0.toList
 · rw [if_pos c3] at H
   have c3b0 : (a0_0.toList == a1_0.toList) = true := beq_iff_eq.mpr c3
   have c3b1 : (a0_0.toList != a1_0.toList) = false := bne_eq_false_iff_eq.mpr c3
   clear c3
   replace H := Option.bind_eq_some_iff.mp H
   obtain ⟨t103, A40, H⟩ := H
   try dsimp only at H
   have A4 := aM A40
   clear A40
   by_cases c5 : t103 = true
   · subst c5
     have H1 : (if a0_2 = a1_2 then (some true) else (some false)) = some r := by rw [if_pos rfl] at H; exact H
     clear H
     have H := H1
     clear H1
     by_cases c6 : a0_2 = a1_2
     · rw [if_pos c6] at H
       have c6b0 : (a0_2 == a1_2) = true := beq_iff_eq.mpr c6
       have c6b1 : (a0_2 != a1_2) = false := bne_eq_false_iff_eq.mpr c6
       clear c6
       obtain rfl := Option.some.inj H
       go_enter Tryd.func17, Tryd.ntmps17
       go_wp2_with (first | ((with_reducible refine gate_dst (N := 2) rfl ?_); refine box_event ?hg (N := 2) ?hd (cs := #[.string a0_0, .slice A0_1 l0_1.length c0_1, .int .i64 a0_2]) (t := 25) ?hr ?_; (case hd => rfl); (case hg => rfl); (case hr => first | (go_simp; done) | (go_simp; rfl)); intro gb101 hg w7 hbox hb; have _ := aM (below_step hbZ hb); have _ := aM hbox; have _ := szZ hg; have _ := szZ hg; clear HB; rename_i HB BK101 GW101 GE101; clear hb hbox hg) | ((with_reducible refine gate_dst (N := 3) rfl ?_); refine box_event ?hg (N := 3) ?hd (cs := #[.string a1_0, .slice A1_1 l1_1.length c1_1, .int .i64 a1_2]) (t := 25) ?hr ?_; (case hd => rfl); (case hg => rfl); (case hr => first | (go_simp; done) | (go_simp; rfl)); intro gb102 hg w8 hbox hb; have _ := bB gb101 hb; have _ := aM (below_step hbZ hb); have _ := aM hbox; have _ := szZ hg; have _ := szZ hg; have ⟨_, _⟩ := nbB gb101 hg; clear BK101 HB; rename_i BK101 HB BK102 GW102 GE102 NB101_102 NB102_101; clear hb hbox hg; have hnb9 := NB101_102.out; have hnc9 := NB102_101.out; obtain ⟨hcz10_0, hcz10_1, hcz10_2, hfz10_0, hfz10_1, hfz10_2⟩ := cellsZ3 BK101.out; obtain ⟨hcz11_0, hcz11_1, hcz11_2, hfz11_0, hfz11_1, hfz11_2⟩ := cellsZ3 BK102.out) | ((with_reducible refine gate_callee (f := 48) rfl ?_); refine goesL_ (some 14) rfl rfl Tryd.func48 (by kernel_rfl) rfl #[.slice A0_1 l0_1.length c0_1, .slice A1_1 l1_1.length c1_1] rfl zee81 ?_; (with_reducible refine (laws_eqTagS.calls k _ _ l0_1 _ _ l1_1 true _ ?side1 ?side2 ?side3 ?side4 A4.out).mono ?_); (case side1 => exact (cZ (Kd.C_below HR0_1.out HB.out))); (case side2 => exact HC0_1.out); (case side3 => exact (cZ (Kd.C_below HR1_1.out HB.out))); (case side4 => exact HC1_1.out); rintro e w12 ⟨rfl, hb⟩; refine ⟨_, rfl, ?_⟩; have _ := bB gb101 hb; have _ := bB gb102 hb; have _ := aM (below_step hbZ hb); clear BK101 BK102 HB; rename_i BK101 BK102 HB; (try clear hb); obtain ⟨hcz13_0, hcz13_1, hcz13_2, hfz13_0, hfz13_1, hfz13_2⟩ := cellsZ3 BK101.out; obtain ⟨hcz14_0, hcz14_1, hcz14_2, hfz14_0, hfz14_1, hfz14_2⟩ := cellsZ3 BK102.out))
       go_ret
       exact ⟨z674d, zcb41⟩
     · rw [if_neg c6] at H
       have c6b0 : (a0_2 == a1_2) = false := beq_eq_false_iff_ne.mpr c6
       have c6b1 : (a0_2 != a1_2) = true := bne_iff_ne.mpr c6
       obtain rfl := Option.some.inj H
       go_enter Tryd.func17, Tryd.ntmps17
       go_wp2_with (first | ((with_reducible refine gate_dst (N := 2) rfl ?_); refine box_event ?hg (N := 2) ?hd (cs := #[.string a0_0, .slice A0_1 l0_1.length c0_1, .int .i64 a0_2]) (t := 25) ?hr ?_; (case hd => rfl); (case hg => rfl); (case hr => first | (go_simp; done) | (go_simp; rfl)); intro gb101 hg w15 hbox hb; have _ := aM (below_step hbZ hb); have _ := aM hbox; have _ := szZ hg; have _ := szZ hg; clear HB; rename_i HB BK101 GW101 GE101; clear hb hbox hg) | ((with_reducible refine gate_dst (N := 3) rfl ?_); refine box_event ?hg (N := 3) ?hd (cs := #[.string a1_0, .slice A1_1 l1_1.length c1_1, .int .i64 a1_2]) (t := 25) ?hr ?_; (case hd => rfl); (case hg => rfl); (case hr => first | (go_simp; done) | (go_simp; rfl)); intro gb102 hg w16 hbox hb; have _ := bB gb101 hb; have _ := aM (below_step hbZ hb); have _ := aM hbox; have _ := szZ hg; have _ := szZ hg; have ⟨_, _⟩ := nbB gb101 hg; clear BK101 HB; rename_i BK101 HB BK102 GW102 GE102 NB101_102 NB102_101; clear hb hbox hg; have hnb17 := NB101_102.out; have hnc17 := NB102_101.out; obtain ⟨hcz18_0, hcz18_1, hcz18_2, hfz18_0, hfz18_1, hfz18_2⟩ := cellsZ3 BK101.out; obtain ⟨hcz19_0, hcz19_1, hcz19_2, hfz19_0, hfz19_1, hfz19_2⟩ := cellsZ3 BK102.out) | ((with_reducible refine gate_callee (f := 48) rfl ?_); refine goesL_ (some 14) rfl rfl Tryd.func48 (by kernel_rfl) rfl #[.slice A0_1 l0_1.length c0_1, .slice A1_1 l1_1.length c1_1] rfl zee81 ?_; (with_reducible refine (laws_eqTagS.calls k _ _ l0_1 _ _ l1_1 true _ ?side1 ?side2 ?side3 ?side4 A4.out).mono ?_); (case side1 => exact (cZ (Kd.C_below HR0_1.out HB.out))); (case side2 => exact HC0_1.out); (case side3 => exact (cZ (Kd.C_below HR1_1.out HB.out))); (case side4 => exact HC1_1.out); rintro e w20 ⟨rfl, hb⟩; refine ⟨_, rfl, ?_⟩; have _ := bB gb101 hb; have _ := bB gb102 hb; have _ := aM (below_step hbZ hb); clear BK101 BK102 HB; rename_i BK101 BK102 HB; (try clear hb); obtain ⟨hcz21_0, hcz21_1, hcz21_2, hfz21_0, hfz21_1, hfz21_2⟩ := cellsZ3 BK101.out; obtain ⟨hcz22_0, hcz22_1, hcz22_2, hfz22_0, hfz22_1, hfz22_2⟩ := cellsZ3 BK102.out))
       go_ret
       exact ⟨z674d, zcb41⟩
   · replace c5 := Bool.eq_false_iff.mpr c5
     subst c5
     have H1 : (some false) = some r := by rw [if_neg (show ¬ (false = true) by decide)] at H; exact H
     clear H
     have H := H1
     clear H1
     obtain rfl := Option.some.inj H
     go_enter Tryd.func17, Tryd.ntmps17
     go_wp2_with (first | ((with_reducible refine gate_dst (N := 2) rfl ?_); refine box_event ?hg (N := 2) ?hd (cs := #[.string a0_0, .slice A0_1 l0_1.length c0_1, .int .i64 a0_2]) (t := 25) ?hr ?_; (case hd => rfl); (case hg => rfl); (case hr => first | (go_simp; done) | (go_simp; rfl)); intro gb101 hg w23 hbox hb; have _ := aM (below_step hbZ hb); have _ := aM hbox; have _ := szZ hg; have _ := szZ hg; clear HB; rename_i HB BK101 GW101 GE101; clear hb hbox hg) | ((with_reducible refine gate_dst (N := 3) rfl ?_); refine box_event ?hg (N := 3) ?hd (cs := #[.string a1_0, .slice A1_1 l1_1.length c1_1, .int .i64 a1_2]) (t := 25) ?hr ?_; (case hd => rfl); (case hg => rfl); (case hr => first | (go_simp; done) | (go_simp; rfl)); intro gb102 hg w24 hbox hb; have _ := bB gb101 hb; have _ := aM (below_step hbZ hb); have _ := aM hbox; have _ := szZ hg; have _ := szZ hg; have ⟨_, _⟩ := nbB gb101 hg; clear BK101 HB; rename_i BK101 HB BK102 GW102 GE102 NB101_102 NB102_101; clear hb hbox hg; have hnb25 := NB101_102.out; have hnc25 := NB102_101.out; obtain ⟨hcz26_0, hcz26_1, hcz26_2, hfz26_0, hfz26_1, hfz26_2⟩ := cellsZ3 BK101.out; obtain ⟨hcz27_0, hcz27_1, hcz27_2, hfz27_0, hfz27_1, hfz27_2⟩ := cellsZ3 BK102.out) | ((with_reducible refine gate_callee (f := 48) rfl ?_); refine goesL_ (some 14) rfl rfl Tryd.func48 (by kernel_rfl) rfl #[.slice A0_1 l0_1.length c0_1, .slice A1_1 l1_1.length c1_1] rfl zee81 ?_; (with_reducible refine (laws_eqTagS.calls k _ _ l0_1 _ _ l1_1 false _ ?side1 ?side2 ?side3 ?side4 A4.out).mono ?_); (case side1 => exact (cZ (Kd.C_below HR0_1.out HB.out))); (case side2 => exact HC0_1.out); (case side3 => exact (cZ (Kd.C_below HR1_1.out HB.out))); (case side4 => exact HC1_1.out); rintro e w28 ⟨rfl, hb⟩; refine ⟨_, rfl, ?_⟩; have _ := bB gb101 hb; have _ := bB gb102 hb; have _ := aM (below_step hbZ hb); clear BK101 BK102 HB; rename_i BK101 BK102 HB; (try clear hb)))
     go_ret
     exact ⟨z674d, zcb41⟩
 · rw [if_neg c3] at H
   have c3b0 : (a0_0.toList == a1_0.toList) = false := beq_eq_false_iff_ne.mpr c3
   have c3b1 : (a0_0.toList != a1_0.toList) = true := bne_iff_ne.mpr c3
   obtain rfl := Option.some.inj H
   go_enter Tryd.func17, Tryd.ntmps17
   go_wp2_with (first | ((with_reducible refine gate_dst (N := 2) rfl ?_); refine box_event ?hg (N := 2) ?hd (cs := #[.string a0_0, .slice A0_1 l0_1.length c0_1, .int .i64 a0_2]) (t := 25) ?hr ?_; (case hd => rfl); (case hg => rfl); (case hr => first | (go_simp; done) | (go_simp; rfl)); intro gb101 hg w29 hbox hb; have _ := aM (below_step hbZ hb); have _ := aM hbox; have _ := szZ hg; have _ := szZ hg; clear HB; rename_i HB BK101 GW101 GE101; clear hb hbox hg) | ((with_reducible refine gate_dst (N := 3) rfl ?_); refine box_event ?hg (N := 3) ?hd (cs := #[.string a1_0, .slice A1_1 l1_1.length c1_1, .int .i64 a1_2]) (t := 25) ?hr ?_; (case hd => rfl); (case hg => rfl); (case hr => first | (go_simp; done) | (go_simp; rfl)); intro gb102 hg w30 hbox hb; have _ := bB gb101 hb; have _ := aM (below_step hbZ hb); have _ := aM hbox; have _ := szZ hg; have _ := szZ hg; have ⟨_, _⟩ := nbB gb101 hg; clear BK101 HB; rename_i BK101 HB BK102 GW102 GE102 NB101_102 NB102_101; clear hb hbox hg; have hnb31 := NB101_102.out; have hnc31 := NB102_101.out; obtain ⟨hcz32_0, hcz32_1, hcz32_2, hfz32_0, hfz32_1, hfz32_2⟩ := cellsZ3 BK101.out; obtain ⟨hcz33_0, hcz33_1, hcz33_2, hfz33_0, hfz33_1, hfz33_2⟩ := cellsZ3 BK102.out))
   go_ret
   exact ⟨z674d, zcb41⟩

end Go.Proofs.YteogadaloebdaaaDoor.P

-- written by a program of this session's (wip/pp)
namespace Go.Proofs.YteogadaloebdaaaDoor.P
open Go.RowKit Go.Proofs.YteogadaloebdaaaDoorW.PrintWords Go.Proofs.YteogadaloebdaaaDoorW.PrintLast Go.Proofs.YteogadaloebdaaaDoorW.PrintMore
attribute [local go_sem] max2_int min2_int max_two min_two max_three min_three max_four min_four str_geq str_gtr str_leq   -- for this text's walks alone
set_option linter.unusedVariables false
set_option linter.unusedSimpArgs false

/-! ### laws_eqIntS: function 126 -/
def laws_eqIntS.l0 : Nat → List Int → List Int → Int → Option (Bool)
 | 0, _, _, _ => none
 | k + 1, x0, x1, x5 => if x5 < (x0.length : Int) then (if 0 ≤ x5 then (if x5 < (x1.length : Int) then (if (rd x0 x5) = (rd x1 x5) then (laws_eqIntS.l0 k x0 x1 (wrap64 (x5 + 1))) else (some false)) else (none)) else (none)) else (some true)
def laws_eqIntS.f (k : Nat) (l0 : List Int) (l1 : List Int) : Option (Bool) := if (l0.length : Int) = (l1.length : Int) then (laws_eqIntS.l0 k l0 l1 0) else (some false)
theorem laws_eqIntS.mono_l : ∀ k, (∀ y0 y1 y2, LeO (laws_eqIntS.l0 k y0 y1 y2) (laws_eqIntS.l0 (k + 1) y0 y1 y2))
 | 0 => fun _ _ _ r h => by simp [laws_eqIntS.l0] at h
 | k + 1 => by
  have ih0 := laws_eqIntS.mono_l k
  · intro y0 y1 y2
    unfold laws_eqIntS.l0
    repeat' first
     | (with_reducible first | exact ih0 .. | exact LeO.refl _ | exact LeO.none _ | refine LeO.ite ?_ ?_ | refine LeO.bind ?_ (fun _ => ?_))
     | exact LeO.none _
     | refine LeO.ite ?_ ?_
     | refine LeO.bind ?_ (fun _ => ?_)
theorem laws_eqIntS.mono : ∀ a0 a1 k, LeO (laws_eqIntS.f k a0 a1) (laws_eqIntS.f (k + 1) a0 a1) := by
 intro a0 a1 k
 have ih0 := laws_eqIntS.mono_l k
 unfold laws_eqIntS.f
 repeat' first
  | (with_reducible first | exact ih0 .. | exact LeO.refl _ | exact LeO.none _ | refine LeO.ite ?_ ?_ | refine LeO.bind ?_ (fun _ => ?_))
  | exact LeO.none _
  | refine LeO.ite ?_ ?_
  | refine LeO.bind ?_ (fun _ => ?_)
set_option maxHeartbeats 8000000 in
set_option maxRecDepth 100000 in
theorem laws_eqIntS.calls (k : Nat) (A0 : Option Addr) (c0 : Nat) (l0 : List Int) (A1 : Option Addr) (c1 : Nat) (l1 : List Int) (r : Bool) (w : World) (hr0 : Kd.C (Kd.int .i64) w A0 l0.length l0) (hc0 : l0.length ≤ c0) (hr1 : Kd.C (Kd.int .i64) w A1 l1.length l1) (hc1 : l1.length ≤ c1) (h : laws_eqIntS.f k l0 l1 = some r) :
 Calls Tryd.prog 126 #[.slice A0 l0.length c0, .slice A1 l1.length c1] w fun e w' => e = .returned (.bool r) ∧ Drawn0 w w' := by
 have HR0 := aM hr0
 have HC0 := aM hc0
 clear hr0 hc0
 have HR1 := aM hr1
 have HC1 := aM hc1
 clear hr1 hc1
 have H : (if (l0.length : Int) = (l1.length : Int) then (laws_eqIntS.l0 k l0 l1 0) else (some false)) = some r := h
 clear h
 by_cases c3 : (l0.length : Int) = (l1.length : Int)
 · rw [if_pos c3] at H
   have c3b0 : ((l0.length : Int) == (l1.length : Int)) = true := beq_iff_eq.mpr c3
   have c3b1 : ((l0.length : Int) != (l1.length : Int)) = false := bne_eq_false_iff_eq.mpr c3
   have c3b2 : (l0.length == l1.length) = true := by first | simpa using c3 | (simp at c3 ⊢; omega)
   clear c3
   have H' := aM H
   clear H
   go_enter Tryd.func126, Tryd.ntmps126
   go_wp2
   repeat (go_quiet (fail); try go_wp2)
   go_loopg [5] k (fun kq v5 w' => ∃ (x5_1 : Int), v5 = .int .i64 x5_1 ∧ Aside0 (laws_eqIntS.l0 kq l0 l1 x5_1 = some r) ∧ Aside0 (kq ≤ k) ∧ Drawn0 w w')
   case atStart => exact ⟨(0), z4458, H', ⟨Nat.le_refl _⟩, za9de⟩
   case round =>
    clear H'
    try clear c1
    try clear p2
    try clear c3
    try clear c3b0
    try clear c3b1
    try clear c3b2
    obtain ⟨x5_1, rfl, HA, HK1, ⟨m1, rfl⟩⟩ := hrel
    cases gk with
    | zero => exact absurd HA.out (by simp [laws_eqIntS.l0])
    | succ k1 =>
     have H := HA.out
     clear HA
     simp only [laws_eqIntS.l0] at H
     by_cases c4 : x5_1 < (l0.length : Int)
     · rw [if_pos c4] at H
       have c4b0 : decide (x5_1 < (l0.length : Int)) = true := decide_eq_true c4
       clear c4
       by_cases c5 : 0 ≤ x5_1
       · rw [if_pos c5] at H
         have c5b0 : decide (0 ≤ x5_1) = true := decide_eq_true c5
         clear c5
         by_cases c6 : x5_1 < (l1.length : Int)
         · rw [if_pos c6] at H
           have c6b0 : decide (x5_1 < (l1.length : Int)) = true := decide_eq_true c6
           clear c6
           by_cases c7 : (rd l0 x5_1) = (rd l1 x5_1)
           · rw [if_pos c7] at H
             have c7b0 : ((rd l0 x5_1) == (rd l1 x5_1)) = true := beq_iff_eq.mpr c7
             have c7b1 : ((rd l0 x5_1) != (rd l1 x5_1)) = false := bne_eq_false_iff_eq.mpr c7
             clear c7
             have H' := aM H
             clear H
             have p101 : 0 ≤ (x5_1 : Int) := of_decide_eq_true z1200
             have q101 : x5_1 < (l0.length : Int) := of_decide_eq_true z1200
             obtain ⟨ad101, e101, hx101_0⟩ := Kd.at_int HR0.out x5_1 p101 q101
             cases e101
             replace p101 := eq_true p101
             replace q101 := eq_true q101
             have p102 : 0 ≤ (x5_1 : Int) := of_decide_eq_true z1200
             have q102 : x5_1 < (l1.length : Int) := of_decide_eq_true z1200
             obtain ⟨ad102, e102, hx102_0⟩ := Kd.at_int HR1.out x5_1 p102 q102
             cases e102
             replace p102 := eq_true p102
             replace q102 := eq_true q102
             go_wp2
             repeat (go_quiet (fail); try go_wp2)
             go_roundg k1
             case measure => have := HK1.out; omega
             case rel => exact ⟨(wrap64 (x5_1 + 1)), z4458, H', ⟨zfb39⟩, za9de⟩
           · rw [if_neg c7] at H
             have c7b0 : ((rd l0 x5_1) == (rd l1 x5_1)) = false := beq_eq_false_iff_ne.mpr c7
             have c7b1 : ((rd l0 x5_1) != (rd l1 x5_1)) = true := bne_iff_ne.mpr c7
             obtain rfl := Option.some.inj H
             have p101 : 0 ≤ (x5_1 : Int) := of_decide_eq_true z1200
             have q101 : x5_1 < (l0.length : Int) := of_decide_eq_true z1200
             obtain ⟨ad101, e101, hx101_0⟩ := Kd.at_int HR0.out x5_1 p101 q101
             cases e101
             replace p101 := eq_true p101
             replace q101 := eq_true q101
             have p102 : 0 ≤ (x5_1 : Int) := of_decide_eq_true z1200
             have q102 : x5_1 < (l1.length : Int) := of_decide_eq_true z1200
             obtain ⟨ad102, e102, hx102_0⟩ := Kd.at_int HR1.out x5_1 p102 q102
             cases e102
             replace p102 := eq_true p102
             replace q102 := eq_true q102
             go_wp2
             repeat (go_quiet (fail); try go_wp2)
             go_ret
             exact ⟨z4458, za9de⟩
         · rw [if_neg c6] at H
           exact absurd H (by simp)
       · rw [if_neg c5] at H
         exact absurd H (by simp)
     · rw [if_neg c4] at H
       have c4b0 : decide (x5_1 < (l0.length : Int)) = false := decide_eq_false c4
       clear c4
       obtain rfl := Option.some.inj H
       go_wp2
       repeat (go_quiet (fail); try go_wp2)
       go_ret
       exact ⟨z4458, za9de⟩
 · rw [if_neg c3] at H
   have c3b0 : ((l0.length : Int) == (l1.length : Int)) = false := beq_eq_false_iff_ne.mpr c3
   have c3b1 : ((l0.length : Int) != (l1.length : Int)) = true := bne_iff_ne.mpr c3
   have c3b2 : (l0.length == l1.length) = false := by first | simpa using c3 | (simp at c3 ⊢; omega)
   obtain rfl := Option.some.inj H
   go_enter Tryd.func126, Tryd.ntmps126
   go_wp2
   repeat (go_quiet (fail); try go_wp2)
   go_ret
   exact ⟨z4458, za9de⟩

end Go.Proofs.YteogadaloebdaaaDoor.P

-- written by a program of this session's (wip/pp)
namespace Go.Proofs.YteogadaloebdaaaDoor.P
open Go.RowKit Go.Proofs.YteogadaloebdaaaDoorW.PrintWords Go.Proofs.YteogadaloebdaaaDoorW.PrintLast Go.Proofs.YteogadaloebdaaaDoorW.PrintMore
attribute [local go_sem] max2_int min2_int max_two min_two max_three min_three max_four min_four str_geq str_gtr str_leq   -- for this text's walks alone
set_option linter.unusedVariables false
set_option linter.unusedSimpArgs false

/-! ### laws_eqAgg: function 105 -/
def laws_eqAgg.f (k : Nat) (a0_0 : Int) (a0_1 : Int) (a0_2 : Int) (a0_3 : Int) (l0_4 : List Int) (a0_5 : Bool) (a1_0 : Int) (a1_1 : Int) (a1_2 : Int) (a1_3 : Int) (l1_4 : List Int) (a1_5 : Bool) : Option (Bool) := if a0_0 = a1_0 then (if a0_1 = a1_1 then (if a0_2 = a1_2 then (if a0_3 = a1_3 then ((laws_eqIntS.f k l0_4 l1_4).bind fun t103 => (if t103 = true then (if (a0_5 != a1_5) = true then (some false) else (some true)) else (some false))) else (some false)) else (some false)) else (some false)) else (some false)
theorem laws_eqAgg.mono : ∀ a0 a1 a2 a3 a4 a5 a6 a7 a8 a9 a10 a11 k, LeO (laws_eqAgg.f k a0 a1 a2 a3 a4 a5 a6 a7 a8 a9 a10 a11) (laws_eqAgg.f (k + 1) a0 a1 a2 a3 a4 a5 a6 a7 a8 a9 a10 a11) := by
 intro a0 a1 a2 a3 a4 a5 a6 a7 a8 a9 a10 a11 k
 unfold laws_eqAgg.f
 repeat' first
  | (with_reducible first | exact laws_eqIntS.mono .. | exact LeO.refl _ | exact LeO.none _ | refine LeO.ite ?_ ?_ | refine LeO.bind ?_ (fun _ => ?_))
  | exact LeO.none _
  | refine LeO.ite ?_ ?_
  | refine LeO.bind ?_ (fun _ => ?_)
set_option maxHeartbeats 8000000 in
set_option maxRecDepth 100000 in
theorem laws_eqAgg.calls (k : Nat) (a0_0 : Int) (a0_1 : Int) (a0_2 : Int) (a0_3 : Int) (A0_4 : Option Addr) (c0_4 : Nat) (l0_4 : List Int) (a0_5 : Bool) (a1_0 : Int) (a1_1 : Int) (a1_2 : Int) (a1_3 : Int) (A1_4 : Option Addr) (c1_4 : Nat) (l1_4 : List Int) (a1_5 : Bool) (r : Bool) (w : World) (hr0_4 : Kd.C (Kd.int .i64) w A0_4 l0_4.length l0_4) (hc0_4 : l0_4.length ≤ c0_4) (hr1_4 : Kd.C (Kd.int .i64) w A1_4 l1_4.length l1_4) (hc1_4 : l1_4.length ≤ c1_4) (h : laws_eqAgg.f k a0_0 a0_1 a0_2 a0_3 l0_4 a0_5 a1_0 a1_1 a1_2 a1_3 l1_4 a1_5 = some r) :
 Calls Tryd.prog 105 #[.agg #[.int .i64 a0_0, .int .i64 a0_1, .int .i64 a0_2, .int .i64 a0_3, .slice A0_4 l0_4.length c0_4, .bool a0_5], .agg #[.int .i64 a1_0, .int .i64 a1_1, .int .i64 a1_2, .int .i64 a1_3, .slice A1_4 l1_4.length c1_4, .bool a1_5]] w fun e w' => e = .returned (.bool r) ∧ Below w.heap.size w w' := by
 have hu95 := Tryd.underlying95
 have HR0_4 := aM hr0_4
 have HC0_4 := aM hc0_4
 clear hr0_4 hc0_4
 have HR1_4 := aM hr1_4
 have HC1_4 := aM hc1_4
 clear hr1_4 hc1_4
 have HB := aM (Below.refl w.heap.size w)
 have H : (if a0_0 = a1_0 then (if a0_1 = a1_1 then (if a0_2 = a1_2 then (if a0_3 = a1_3 then ((laws_eqIntS.f k l0_4 l1_4).bind fun t103 => (if t103 = true then (if (a0_5 != a1_5) = true then (some false) else (some true)) else (some false))) else (some false)) else (some false)) else (some false)) else (some false)) = some r := h
 clear h
 by_cases c3 : a0_0 = a1_0
 · rw [if_pos c3] at H
   have c3b0 : (a0_0 == a1_0) = true := beq_iff_eq.mpr c3
   have c3b1 : (a0_0 != a1_0) = false := bne_eq_false_iff_eq.mpr c3
   clear c3
   by_cases c4 : a0_1 = a1_1
   · rw [if_pos c4] at H
     have c4b0 : (a0_1 == a1_1) = true := beq_iff_eq.mpr c4
     have c4b1 : (a0_1 != a1_1) = false := bne_eq_false_iff_eq.mpr c4
     clear c4
     by_cases c5 : a0_2 = a1_2
     · rw [if_pos c5] at H
       have c5b0 : (a0_2 == a1_2) = true := beq_iff_eq.mpr c5
       have c5b1 : (a0_2 != a1_2) = false := bne_eq_false_iff_eq.mpr c5
       clear c5
       by_cases c6 : a0_3 = a1_3
       · rw [if_pos c6] at H
         have c6b0 : (a0_3 == a1_3) = true := beq_iff_eq.mpr c6
         have c6b1 : (a0_3 != a1_3) = false := bne_eq_false_iff_eq.mpr c6
         clear c6
         replace H := Option.bind_eq_some_iff.mp H
         obtain ⟨t103, A70, H⟩ := H
         try dsimp only at H
         have A7 := aM A70
         clear A70
         by_cases c8 : t103 = true
         · subst c8
           have H1 : (if (a0_5 != a1_5) = true then (some false) else (some true)) = some r := by rw [if_pos rfl] at H; exact H
           clear H
           have H := H1
           clear H1
           by_cases c9 : (a0_5 != a1_5) = true
           · rw [if_pos c9] at H
             have c9b0 : (a0_5 != a1_5) = true := c9
             (try (have c9b1 : decide (a0_5 = a1_5) = false := by simpa using c9))
             (try (have c9b2 : (a0_5 == a1_5) = false := by simpa using c9))
             (try (have c9b3 : ¬ (a0_5 = a1_5) := by simpa using c9))
             clear c9
             obtain rfl := Option.some.inj H
             go_enter Tryd.func105, Tryd.ntmps105
             go_wp2_with (first | ((with_reducible refine gate_dst (N := 2) rfl ?_); refine box_event ?hg (N := 2) ?hd (cs := #[.int .i64 a0_0, .int .i64 a0_1, .int .i64 a0_2, .int .i64 a0_3, .slice A0_4 l0_4.length c0_4, .bool a0_5]) (t := 95) ?hr ?_; (case hd => rfl); (case hg => rfl); (case hr => first | (go_simp; done) | (go_simp; rfl)); intro gb101 hg w10 hbox hb; have _ := aM (below_step hbZ hb); have _ := aM hbox; have _ := szZ hg; have _ := szZ hg; clear HB; rename_i HB BK101 GW101 GE101; clear hb hbox hg) | ((with_reducible refine gate_dst (N := 3) rfl ?_); refine box_event ?hg (N := 3) ?hd (cs := #[.int .i64 a1_0, .int .i64 a1_1, .int .i64 a1_2, .int .i64 a1_3, .slice A1_4 l1_4.length c1_4, .bool a1_5]) (t := 95) ?hr ?_; (case hd => rfl); (case hg => rfl); (case hr => first | (go_simp; done) | (go_simp; rfl)); intro gb102 hg w11 hbox hb; have _ := bB gb101 hb; have _ := aM (below_step hbZ hb); have _ := aM hbox; have _ := szZ hg; have _ := szZ hg; have ⟨_, _⟩ := nbB gb101 hg; clear BK101 HB; rename_i BK101 HB BK102 GW102 GE102 NB101_102 NB102_101; clear hb hbox hg; have hnb12 := NB101_102.out; have hnc12 := NB102_101.out; obtain ⟨hcz13_0, hcz13_1, hcz13_2, hcz13_3, hcz13_4, hcz13_5, hfz13_0, hfz13_1, hfz13_2, hfz13_3, hfz13_4, hfz13_5⟩ := cellsZ6 BK101.out; obtain ⟨hcz14_0, hcz14_1, hcz14_2, hcz14_3, hcz14_4, hcz14_5, hfz14_0, hfz14_1, hfz14_2, hfz14_3, hfz14_4, hfz14_5⟩ := cellsZ6 BK102.out) | ((with_reducible refine gate_callee (f := 126) rfl ?_); refine goesL_ (some 29) rfl rfl Tryd.func126 (by kernel_rfl) rfl #[.slice A0_4 l0_4.length c0_4, .slice A1_4 l1_4.length c1_4] rfl zee81 ?_; (with_reducible refine (laws_eqIntS.calls k _ _ l0_4 _ _ l1_4 true _ ?side1 ?side2 ?side3 ?side4 A7.out).mono ?_); (case side1 => exact (cZ (Kd.C_below HR0_4.out HB.out))); (case side2 => exact HC0_4.out); (case side3 => exact (cZ (Kd.C_below HR1_4.out HB.out))); (case side4 => exact HC1_4.out); rintro e w' ⟨rfl, ⟨nd, rfl⟩⟩; refine ⟨_, rfl, ?_⟩))
             go_ret
             exact ⟨z674d, zcb41⟩
           · rw [if_neg c9] at H
             have c9b0 : (a0_5 != a1_5) = false := by simpa using c9
             (try (have c9b1 : decide (a0_5 = a1_5) = true := by simpa using c9))
             (try (have c9b2 : (a0_5 == a1_5) = true := by simpa using c9))
             clear c9
             obtain rfl := Option.some.inj H
             go_enter Tryd.func105, Tryd.ntmps105
             go_wp2_with (first | ((with_reducible refine gate_dst (N := 2) rfl ?_); refine box_event ?hg (N := 2) ?hd (cs := #[.int .i64 a0_0, .int .i64 a0_1, .int .i64 a0_2, .int .i64 a0_3, .slice A0_4 l0_4.length c0_4, .bool a0_5]) (t := 95) ?hr ?_; (case hd => rfl); (case hg => rfl); (case hr => first | (go_simp; done) | (go_simp; rfl)); intro gb101 hg w15 hbox hb; have _ := aM (below_step hbZ hb); have _ := aM hbox; have _ := szZ hg; have _ := szZ hg; clear HB; rename_i HB BK101 GW101 GE101; clear hb hbox hg) | ((with_reducible refine gate_dst (N := 3) rfl ?_); refine box_event ?hg (N := 3) ?hd (cs := #[.int .i64 a1_0, .int .i64 a1_1, .int .i64 a1_2, .int .i64 a1_3, .slice A1_4 l1_4.length c1_4, .bool a1_5]) (t := 95) ?hr ?_; (case hd => rfl); (case hg => rfl); (case hr => first | (go_simp; done) | (go_simp; rfl)); intro gb102 hg w16 hbox hb; have _ := bB gb101 hb; have _ := aM (below_step hbZ hb); have _ := aM hbox; have _ := szZ hg; have _ := szZ hg; have ⟨_, _⟩ := nbB gb101 hg; clear BK101 HB; rename_i BK101 HB BK102 GW102 GE102 NB101_102 NB102_101; clear hb hbox hg; have hnb17 := NB101_102.out; have hnc17 := NB102_101.out; obtain ⟨hcz18_0, hcz18_1, hcz18_2, hcz18_3, hcz18_4, hcz18_5, hfz18_0, hfz18_1, hfz18_2, hfz18_3, hfz18_4, hfz18_5⟩ := cellsZ6 BK101.out; obtain ⟨hcz19_0, hcz19_1, hcz19_2, hcz19_3, hcz19_4, hcz19_5, hfz19_0, hfz19_1, hfz19_2, hfz19_3, hfz19_4, hfz19_5⟩ := cellsZ6 BK102.out) | ((with_reducible refine gate_callee (f := 126) rfl ?_); refine goesL_ (some 29) rfl rfl Tryd.func126 (by kernel_rfl) rfl #[.slice A0_4 l0_4.length c0_4, .slice A1_4 l1_4.length c1_4] rfl zee81 ?_; (with_reducible refine (laws_eqIntS.calls k _ _ l0_4 _ _ l1_4 true _ ?side1 ?side2 ?side3 ?side4 A7.out).mono ?_); (case side1 => exact (cZ (Kd.C_below HR0_4.out HB.out))); (case side2 => exact HC0_4.out); (case side3 => exact (cZ (Kd.C_below HR1_4.out HB.out))); (case side4 => exact HC1_4.out); rintro e w' ⟨rfl, ⟨nd, rfl⟩⟩; refine ⟨_, rfl, ?_⟩))
             go_ret
             exact ⟨z674d, zcb41⟩
         · replace c8 := Bool.eq_false_iff.mpr c8
           subst c8
           have H1 : (some false) = some r := by rw [if_neg (show ¬ (false = true) by decide)] at H; exact H
           clear H
           have H := H1
           clear H1
           obtain rfl := Option.some.inj H
           go_enter Tryd.func105, Tryd.ntmps105
           go_wp2_with (first | ((with_reducible refine gate_dst (N := 2) rfl ?_); refine box_event ?hg (N := 2) ?hd (cs := #[.int .i64 a0_0, .int .i64 a0_1, .int .i64 a0_2, .int .i64 a0_3, .slice A0_4 l0_4.length c0_4, .bool a0_5]) (t := 95) ?hr ?_; (case hd => rfl); (case hg => rfl); (case hr => first | (go_simp; done) | (go_simp; rfl)); intro gb101 hg w20 hbox hb; have _ := aM (below_step hbZ hb); have _ := aM hbox; have _ := szZ hg; have _ := szZ hg; clear HB; rename_i HB BK101 GW101 GE101; clear hb hbox hg) | ((with_reducible refine gate_dst (N := 3) rfl ?_); refine box_event ?hg (N := 3) ?hd (cs := #[.int .i64 a1_0, .int .i64 a1_1, .int .i64 a1_2, .int .i64 a1_3, .slice A1_4 l1_4.length c1_4, .bool a1_5]) (t := 95) ?hr ?_; (case hd => rfl); (case hg => rfl); (case hr => first | (go_simp; done) | (go_simp; rfl)); intro gb102 hg w21 hbox hb; have _ := bB gb101 hb; have _ := aM (below_step hbZ hb); have _ := aM hbox; have _ := szZ hg; have _ := szZ hg; have ⟨_, _⟩ := nbB gb101 hg; clear BK101 HB; rename_i BK101 HB BK102 GW102 GE102 NB101_102 NB102_101; clear hb hbox hg; have hnb22 := NB101_102.out; have hnc22 := NB102_101.out; obtain ⟨hcz23_0, hcz23_1, hcz23_2, hcz23_3, hcz23_4, hcz23_5, hfz23_0, hfz23_1, hfz23_2, hfz23_3, hfz23_4, hfz23_5⟩ := cellsZ6 BK101.out; obtain ⟨hcz24_0, hcz24_1, hcz24_2, hcz24_3, hcz24_4, hcz24_5, hfz24_0, hfz24_1, hfz24_2, hfz24_3, hfz24_4, hfz24_5⟩ := cellsZ6 BK102.out) | ((with_reducible refine gate_callee (f := 126) rfl ?_); refine goesL_ (some 29) rfl rfl Tryd.func126 (by kernel_rfl) rfl #[.slice A0_4 l0_4.length c0_4, .slice A1_4 l1_4.length c1_4] rfl zee81 ?_; (with_reducible refine (laws_eqIntS.calls k _ _ l0_4 _ _ l1_4 false _ ?side1 ?side2 ?side3 ?side4 A7.out).mono ?_); (case side1 => exact (cZ (Kd.C_below HR0_4.out HB.out))); (case side2 => exact HC0_4.out); (case side3 => exact (cZ (Kd.C_below HR1_4.out HB.out))); (case side4 => exact HC1_4.out); rintro e w' ⟨rfl, ⟨nd, rfl⟩⟩; refine ⟨_, rfl, ?_⟩))
           go_ret
           exact ⟨z674d, zcb41⟩
       · rw [if_neg c6] at H
         have c6b0 : (a0_3 == a1_3) = false := beq_eq_false_iff_ne.mpr c6
         have c6b1 : (a0_3 != a1_3) = true := bne_iff_ne.mpr c6
         obtain rfl := Option.some.inj H
         go_enter Tryd.func105, Tryd.ntmps105
         go_wp2_with (first | ((with_reducible refine gate_dst (N := 2) rfl ?_); refine box_event ?hg (N := 2) ?hd (cs := #[.int .i64 a0_0, .int .i64 a0_1, .int .i64 a0_2, .int .i64 a0_3, .slice A0_4 l0_4.length c0_4, .bool a0_5]) (t := 95) ?hr ?_; (case hd => rfl); (case hg => rfl); (case hr => first | (go_simp; done) | (go_simp; rfl)); intro gb101 hg w25 hbox hb; have _ := aM (below_step hbZ hb); have _ := aM hbox; have _ := szZ hg; have _ := szZ hg; clear HB; rename_i HB BK101 GW101 GE101; clear hb hbox hg) | ((with_reducible refine gate_dst (N := 3) rfl ?_); refine box_event ?hg (N := 3) ?hd (cs := #[.int .i64 a1_0, .int .i64 a1_1, .int .i64 a1_2, .int .i64 a1_3, .slice A1_4 l1_4.length c1_4, .bool a1_5]) (t := 95) ?hr ?_; (case hd => rfl); (case hg => rfl); (case hr => first | (go_simp; done) | (go_simp; rfl)); intro gb102 hg w26 hbox hb; have _ := bB gb101 hb; have _ := aM (below_step hbZ hb); have _ := aM hbox; have _ := szZ hg; have _ := szZ hg; have ⟨_, _⟩ := nbB gb101 hg; clear BK101 HB; rename_i BK101 HB BK102 GW102 GE102 NB101_102 NB102_101; clear hb hbox hg; have hnb27 := NB101_102.out; have hnc27 := NB102_101.out; obtain ⟨hcz28_0, hcz28_1, hcz28_2, hcz28_3, hcz28_4, hcz28_5, hfz28_0, hfz28_1, hfz28_2, hfz28_3, hfz28_4, hfz28_5⟩ := cellsZ6 BK101.out; obtain ⟨hcz29_0, hcz29_1, hcz29_2, hcz29_3, hcz29_4, hcz29_5, hfz29_0, hfz29_1, hfz29_2, hfz29_3, hfz29_4, hfz29_5⟩ := cellsZ6 BK102.out))
         go_ret
         exact ⟨z674d, zcb41⟩
     · rw [if_neg c5] at H
       have c5b0 : (a0_2 == a1_2) = false := beq_eq_false_iff_ne.mpr c5
       have c5b1 : (a0_2 != a1_2) = true := bne_iff_ne.mpr c5
       obtain rfl := Option.some.inj H
       go_enter Tryd.func105, Tryd.ntmps105
       go_wp2_with (first | ((with_reducible refine gate_dst (N := 2) rfl ?_); refine box_event ?hg (N := 2) ?hd (cs := #[.int .i64 a0_0, .int .i64 a0_1, .int .i64 a0_2, .int .i64 a0_3, .slice A0_4 l0_4.length c0_4, .bool a0_5]) (t := 95) ?hr ?_; (case hd => rfl); (case hg => rfl); (case hr => first | (go_simp; done) | (go_simp; rfl)); intro gb101 hg w30 hbox hb; have _ := aM (below_step hbZ hb); have _ := aM hbox; have _ := szZ hg; have _ := szZ hg; clear HB; rename_i HB BK101 GW101 GE101; clear hb hbox hg) | ((with_reducible refine gate_dst (N := 3) rfl ?_); refine box_event ?hg (N := 3) ?hd (cs := #[.int .i64 a1_0, .int .i64 a1_1, .int .i64 a1_2, .int .i64 a1_3, .slice A1_4 l1_4.length c1_4, .bool a1_5]) (t := 95) ?hr ?_; (case hd => rfl); (case hg => rfl); (case hr => first | (go_simp; done) | (go_simp; rfl)); intro gb102 hg w31 hbox hb; have _ := bB gb101 hb; have _ := aM (below_step hbZ hb); have _ := aM hbox; have _ := szZ hg; have _ := szZ hg; have ⟨_, _⟩ := nbB gb101 hg; clear BK101 HB; rename_i BK101 HB BK102 GW102 GE102 NB101_102 NB102_101; clear hb hbox hg; have hnb32 := NB101_102.out; have hnc32 := NB102_101.out; obtain ⟨hcz33_0, hcz33_1, hcz33_2, hcz33_3, hcz33_4, hcz33_5, hfz33_0, hfz33_1, hfz33_2, hfz33_3, hfz33_4, hfz33_5⟩ := cellsZ6 BK101.out; obtain ⟨hcz34_0, hcz34_1, hcz34_2, hcz34_3, hcz34_4, hcz34_5, hfz34_0, hfz34_1, hfz34_2, hfz34_3, hfz34_4, hfz34_5⟩ := cellsZ6 BK102.out))
       go_ret
       exact ⟨z674d, zcb41⟩
   · rw [if_neg c4] at H
     have c4b0 : (a0_1 == a1_1) = false := beq_eq_false_iff_ne.mpr c4
     have c4b1 : (a0_1 != a1_1) = true := bne_iff_ne.mpr c4
     obtain rfl := Option.some.inj H
     go_enter Tryd.func105, Tryd.ntmps105
     go_wp2_with (first | ((with_reducible refine gate_dst (N := 2) rfl ?_); refine box_event ?hg (N := 2) ?hd (cs := #[.int .i64 a0_0, .int .i64 a0_1, .int .i64 a0_2, .int .i64 a0_3, .slice A0_4 l0_4.length c0_4, .bool a0_5]) (t := 95) ?hr ?_; (case hd => rfl); (case hg => rfl); (case hr => first | (go_simp; done) | (go_simp; rfl)); intro gb101 hg w35 hbox hb; have _ := aM (below_step hbZ hb); have _ := aM hbox; have _ := szZ hg; have _ := szZ hg; clear HB; rename_i HB BK101 GW101 GE101; clear hb hbox hg) | ((with_reducible refine gate_dst (N := 3) rfl ?_); refine box_event ?hg (N := 3) ?hd (cs := #[.int .i64 a1_0, .int .i64 a1_1, .int .i64 a1_2, .int .i64 a1_3, .slice A1_4 l1_4.length c1_4, .bool a1_5]) (t := 95) ?hr ?_; (case hd => rfl); (case hg => rfl); (case hr => first | (go_simp; done) | (go_simp; rfl)); intro gb102 hg w36 hbox hb; have _ := bB gb101 hb; have _ := aM (below_step hbZ hb); have _ := aM hbox; have _ := szZ hg; have _ := szZ hg; have ⟨_, _⟩ := nbB gb101 hg; clear BK101 HB; rename_i BK101 HB BK102 GW102 GE102 NB101_102 NB102_101; clear hb hbox hg; have hnb37 := NB101_102.out; have hnc37 := NB102_101.out; obtain ⟨hcz38_0, hcz38_1, hcz38_2, hcz38_3, hcz38_4, hcz38_5, hfz38_0, hfz38_1, hfz38_2, hfz38_3, hfz38_4, hfz38_5⟩ := cellsZ6 BK101.out; obtain ⟨hcz39_0, hcz39_1, hcz39_2, hcz39_3, hcz39_4, hcz39_5, hfz39_0, hfz39_1, hfz39_2, hfz39_3, hfz39_4, hfz39_5⟩ := cellsZ6 BK102.out))
     go_ret
     exact ⟨z674d, zcb41⟩
 · rw [if_neg c3] at H
   have c3b0 : (a0_0 == a1_0) = false := beq_eq_false_iff_ne.mpr c3
   have c3b1 : (a0_0 != a1_0) = true := bne_iff_ne.mpr c3
   obtain rfl := Option.some.inj H
   go_enter Tryd.func105, Tryd.ntmps105
   go_wp2_with (first | ((with_reducible refine gate_dst (N := 2) rfl ?_); refine box_event ?hg (N := 2) ?hd (cs := #[.int .i64 a0_0, .int .i64 a0_1, .int .i64 a0_2, .int .i64 a0_3, .slice A0_4 l0_4.length c0_4, .bool a0_5]) (t := 95) ?hr ?_; (case hd => rfl); (case hg => rfl); (case hr => first | (go_simp; done) | (go_simp; rfl)); intro gb101 hg w40 hbox hb; have _ := aM (below_step hbZ hb); have _ := aM hbox; have _ := szZ hg; have _ := szZ hg; clear HB; rename_i HB BK101 GW101 GE101; clear hb hbox hg) | ((with_reducible refine gate_dst (N := 3) rfl ?_); refine box_event ?hg (N := 3) ?hd (cs := #[.int .i64 a1_0, .int .i64 a1_1, .int .i64 a1_2, .int .i64 a1_3, .slice A1_4 l1_4.length c1_4, .bool a1_5]) (t := 95) ?hr ?_; (case hd => rfl); (case hg => rfl); (case hr => first | (go_simp; done) | (go_simp; rfl)); intro gb102 hg w41 hbox hb; have _ := bB gb101 hb; have _ := aM (below_step hbZ hb); have _ := aM hbox; have _ := szZ hg; have _ := szZ hg; have ⟨_, _⟩ := nbB gb101 hg; clear BK101 HB; rename_i BK101 HB BK102 GW102 GE102 NB101_102 NB102_101; clear hb hbox hg; have hnb42 := NB101_102.out; have hnc42 := NB102_101.out; obtain ⟨hcz43_0, hcz43_1, hcz43_2, hcz43_3, hcz43_4, hcz43_5, hfz43_0, hfz43_1, hfz43_2, hfz43_3, hfz43_4, hfz43_5⟩ := cellsZ6 BK101.out; obtain ⟨hcz44_0, hcz44_1, hcz44_2, hcz44_3, hcz44_4, hcz44_5, hfz44_0, hfz44_1, hfz44_2, hfz44_3, hfz44_4, hfz44_5⟩ := cellsZ6 BK102.out))
   go_ret
   exact ⟨z674d, zcb41⟩

end Go.Proofs.YteogadaloebdaaaDoor.P

-- written by a program of this session's (wip/pp)
namespace Go.Proofs.YteogadaloebdaaaDoor.P
open Go.RowKit Go.Proofs.YteogadaloebdaaaDoorW.PrintWords Go.Proofs.YteogadaloebdaaaDoorW.PrintLast Go.Proofs.YteogadaloebdaaaDoorW.PrintMore
attribute [local go_sem] max2_int min2_int max_two min_two max_three min_three max_four min_four str_geq str_gtr str_leq   -- for this text's walks alone
set_option linter.unusedVariables false
set_option linter.unusedSimpArgs false

/-! ### laws_eqWin: function 90 -/
def laws_eqWin.f (k : Nat) (a0_0 : ByteArray) (l0_1 : List (S69)) (a0_2 : Int) (a0_3 : Int) (a0_4 : Int) (a0_5 : Int) (a0_6 : Int) (l0_7 : List Int) (a0_8 : Bool) (a0_9 : Int) (a0_10 : Bool) (a1_0 : ByteArray) (l1_1 : List (S69)) (a1_2 : Int) (a1_3 : Int) (a1_4 : Int) (a1_5 : Int) (a1_6 : Int) (l1_7 : List Int) (a1_8 : Bool) (a1_9 : Int) (a1_10 : Bool) : Option (Bool) := (laws_eqKey.f k a0_0 l0_1 a0_2 a1_0 l1_1 a1_2).bind fun t103 => (if t103 = true then ((laws_eqAgg.f k a0_3 a0_4 a0_5 a0_6 l0_7 a0_8 a1_3 a1_4 a1_5 a1_6 l1_7 a1_8).bind fun t104 => (if t104 = true then (if a0_9 = a1_9 then (if (a0_10 != a1_10) = true then (some false) else (some true)) else (some false)) else (some false))) else (some false))
theorem laws_eqWin.mono : ∀ a0 a1 a2 a3 a4 a5 a6 a7 a8 a9 a10 a11 a12 a13 a14 a15 a16 a17 a18 a19 a20 a21 k, LeO (laws_eqWin.f k a0 a1 a2 a3 a4 a5 a6 a7 a8 a9 a10 a11 a12 a13 a14 a15 a16 a17 a18 a19 a20 a21) (laws_eqWin.f (k + 1) a0 a1 a2 a3 a4 a5 a6 a7 a8 a9 a10 a11 a12 a13 a14 a15 a16 a17 a18 a19 a20 a21) := by
 intro a0 a1 a2 a3 a4 a5 a6 a7 a8 a9 a10 a11 a12 a13 a14 a15 a16 a17 a18 a19 a20 a21 k
 unfold laws_eqWin.f
 repeat' first
  | (with_reducible first | exact laws_eqAgg.mono .. | exact laws_eqKey.mono .. | exact LeO.refl _ | exact LeO.none _ | refine LeO.ite ?_ ?_ | refine LeO.bind ?_ (fun _ => ?_))
  | exact LeO.none _
  | refine LeO.ite ?_ ?_
  | refine LeO.bind ?_ (fun _ => ?_)
set_option maxHeartbeats 8000000 in
set_option maxRecDepth 100000 in
theorem laws_eqWin.calls (k : Nat) (a0_0 : ByteArray) (A0_1 : Option Addr) (c0_1 : Nat) (l0_1 : List (S69)) (a0_2 : Int) (a0_3 : Int) (a0_4 : Int) (a0_5 : Int) (a0_6 : Int) (A0_7 : Option Addr) (c0_7 : Nat) (l0_7 : List Int) (a0_8 : Bool) (a0_9 : Int) (a0_10 : Bool) (a1_0 : ByteArray) (A1_1 : Option Addr) (c1_1 : Nat) (l1_1 : List (S69)) (a1_2 : Int) (a1_3 : Int) (a1_4 : Int) (a1_5 : Int) (a1_6 : Int) (A1_7 : Option Addr) (c1_7 : Nat) (l1_7 : List Int) (a1_8 : Bool) (a1_9 : Int) (a1_10 : Bool) (r : Bool) (w : World) (hr0_1 : Kd.C k69 w A0_1 l0_1.length l0_1) (hc0_1 : l0_1.length ≤ c0_1) (hr0_7 : Kd.C (Kd.int .i64) w A0_7 l0_7.length l0_7) (hc0_7 : l0_7.length ≤ c0_7) (hr1_1 : Kd.C k69 w A1_1 l1_1.length l1_1) (hc1_1 : l1_1.length ≤ c1_1) (hr1_7 : Kd.C (Kd.int .i64) w A1_7 l1_7.length l1_7) (hc1_7 : l1_7.length ≤ c1_7) (h : laws_eqWin.f k a0_0 l0_1 a0_2 a0_3 a0_4 a0_5 a0_6 l0_7 a0_8 a0_9 a0_10 a1_0 l1_1 a1_2 a1_3 a1_4 a1_5 a1_6 l1_7 a1_8 a1_9 a1_10 = some r) :
 Calls Tryd.prog 90 #[.agg #[.string a0_0, .slice A0_1 l0_1.length c0_1, .int .i64 a0_2, .int .i64 a0_3, .int .i64 a0_4, .int .i64 a0_5, .int .i64 a0_6, .slice A0_7 l0_7.length c0_7, .bool a0_8, .int .i64 a0_9, .bool a0_10], .agg #[.string a1_0, .slice A1_1 l1_1.length c1_1, .int .i64 a1_2, .int .i64 a1_3, .int .i64 a1_4, .int .i64 a1_5, .int .i64 a1_6, .slice A1_7 l1_7.length c1_7, .bool a1_8, .int .i64 a1_9, .bool a1_10]] w fun e w' => e = .returned (.bool r) ∧ Below w.heap.size w w' := by
 have hu97 := Tryd.underlying97
 have hu25 := Tryd.underlying25
 have hu95 := Tryd.underlying95
 have HR0_1 := aM hr0_1
 have HC0_1 := aM hc0_1
 clear hr0_1 hc0_1
 have HR0_7 := aM hr0_7
 have HC0_7 := aM hc0_7
 clear hr0_7 hc0_7
 have HR1_1 := aM hr1_1
 have HC1_1 := aM hc1_1
 clear hr1_1 hc1_1
 have HR1_7 := aM hr1_7
 have HC1_7 := aM hc1_7
 clear hr1_7 hc1_7
 have HB := aM (Below.refl w.heap.size w)
 have H : ((laws_eqKey.f k a0_0 l0_1 a0_2 a1_0 l1_1 a1_2).bind fun t103 => (if t103 = true then ((laws_eqAgg.f k a0_3 a0_4 a0_5 a0_6 l0_7 a0_8 a1_3 a1_4 a1_5 a1_6 l1_7 a1_8).bind fun t104 => (if t104 = true then (if a0_9 = a1_9 then (if (a0_10 != a1_10) = true then (some false) else (some true)) else (some false)) else (some false))) else (some false))) = some r := h
 clear h
 replace H := Option.bind_eq_some_iff.mp H
 obtain ⟨t103, A30, H⟩ := H
 try dsimp only at H
 have A3 := aM A30
 clear A30
 by_cases c4 : t103 = true
 · subst c4
   have H1 : ((laws_eqAgg.f k a0_3 a0_4 a0_5 a0_6 l0_7 a0_8 a1_3 a1_4 a1_5 a1_6 l1_7 a1_8).bind fun t104 => (if t104 = true then (if a0_9 = a1_9 then (if (a0_10 != a1_10) = true then (some false) else (some true)) else (some false)) else (some false))) = some r := by rw [if_pos rfl] at H; exact H
   clear H
   have H := H1
   clear H1
   replace H := Option.bind_eq_some_iff.mp H
   obtain ⟨t104, A50, H⟩ := H
   try dsimp only at H
   have A5 := aM A50
   clear A50
   by_cases c6 : t104 = true
   · subst c6
     have H1 : (if a0_9 = a1_9 then (if (a0_10 != a1_10) = true then (some false) else (some true)) else (some false)) = some r := by rw [if_pos rfl] at H; exact H
     clear H
     have H := H1
     clear H1
     by_cases c7 : a0_9 = a1_9
     · rw [if_pos c7] at H
       have c7b0 : (a0_9 == a1_9) = true := beq_iff_eq.mpr c7
       have c7b1 : (a0_9 != a1_9) = false := bne_eq_false_iff_eq.mpr c7
       clear c7
       by_cases c8 : (a0_10 != a1_10) = true
       · rw [if_pos c8] at H
         have c8b0 : (a0_10 != a1_10) = true := c8
         (try (have c8b1 : decide (a0_10 = a1_10) = false := by simpa using c8))
         (try (have c8b2 : (a0_10 == a1_10) = false := by simpa using c8))
         (try (have c8b3 : ¬ (a0_10 = a1_10) := by simpa using c8))
         clear c8
         obtain rfl := Option.some.inj H
         go_enter Tryd.func90, Tryd.ntmps90
         go_wp2_with (first | ((with_reducible refine gate_dst (N := 2) rfl ?_); refine box_event ?hg (N := 2) ?hd (cs := #[.string a0_0, .slice A0_1 l0_1.length c0_1, .int .i64 a0_2, .int .i64 a0_3, .int .i64 a0_4, .int .i64 a0_5, .int .i64 a0_6, .slice A0_7 l0_7.length c0_7, .bool a0_8, .int .i64 a0_9, .bool a0_10]) (t := 97) ?hr ?_; (case hd => rfl); (case hg => rfl); (case hr => first | (go_simp; done) | (go_simp; rfl)); intro gb101 hg w9 hbox hb; have _ := aM (below_step hbZ hb); have _ := aM hbox; have _ := szZ hg; have _ := szZ hg; clear HB; rename_i HB BK101 GW101 GE101; clear hb hbox hg) | ((with_reducible refine gate_dst (N := 3) rfl ?_); refine box_event ?hg (N := 3) ?hd (cs := #[.string a1_0, .slice A1_1 l1_1.length c1_1, .int .i64 a1_2, .int .i64 a1_3, .int .i64 a1_4, .int .i64 a1_5, .int .i64 a1_6, .slice A1_7 l1_7.length c1_7, .bool a1_8, .int .i64 a1_9, .bool a1_10]) (t := 97) ?hr ?_; (case hd => rfl); (case hg => rfl); (case hr => first | (go_simp; done) | (go_simp; rfl)); intro gb102 hg w10 hbox hb; have _ := bB gb101 hb; have _ := aM (below_step hbZ hb); have _ := aM hbox; have _ := szZ hg; have _ := szZ hg; have ⟨_, _⟩ := nbB gb101 hg; clear BK101 HB; rename_i BK101 HB BK102 GW102 GE102 NB101_102 NB102_101; clear hb hbox hg; have hnb11 := NB101_102.out; have hnc11 := NB102_101.out; have hcz12_0 : w10.cell? ⟨gb101, 0, none⟩ = some (.string a0_0) := (blk_cell BK101.out 0).trans rfl; have hcz12_1 : w10.cell? ⟨gb101, 1, none⟩ = some (.slice A0_1 l0_1.length c0_1) := (blk_cell BK101.out 1).trans rfl; have hcz12_2 : w10.cell? ⟨gb101, 2, none⟩ = some (.int .i64 a0_2) := (blk_cell BK101.out 2).trans rfl; have hcz12_3 : w10.cell? ⟨gb101, 3, none⟩ = some (.int .i64 a0_3) := (blk_cell BK101.out 3).trans rfl; have hcz12_4 : w10.cell? ⟨gb101, 4, none⟩ = some (.int .i64 a0_4) := (blk_cell BK101.out 4).trans rfl; have hcz12_5 : w10.cell? ⟨gb101, 5, none⟩ = some (.int .i64 a0_5) := (blk_cell BK101.out 5).trans rfl; have hcz12_6 : w10.cell? ⟨gb101, 6, none⟩ = some (.int .i64 a0_6) := (blk_cell BK101.out 6).trans rfl; have hcz12_7 : w10.cell? ⟨gb101, 7, none⟩ = some (.slice A0_7 l0_7.length c0_7) := (blk_cell BK101.out 7).trans rfl; have hcz12_8 : w10.cell? ⟨gb101, 8, none⟩ = some (.bool a0_8) := (blk_cell BK101.out 8).trans rfl; have hcz12_9 : w10.cell? ⟨gb101, 9, none⟩ = some (.int .i64 a0_9) := (blk_cell BK101.out 9).trans rfl; have hcz12_10 : w10.cell? ⟨gb101, 10, none⟩ = some (.bool a0_10) := (blk_cell BK101.out 10).trans rfl; have hfz12_0 := blk_frozen BK101.out 0; have hfz12_1 := blk_frozen BK101.out 1; have hfz12_2 := blk_frozen BK101.out 2; have hfz12_3 := blk_frozen BK101.out 3; have hfz12_4 := blk_frozen BK101.out 4; have hfz12_5 := blk_frozen BK101.out 5; have hfz12_6 := blk_frozen BK101.out 6; have hfz12_7 := blk_frozen BK101.out 7; have hfz12_8 := blk_frozen BK101.out 8; have hfz12_9 := blk_frozen BK101.out 9; have hfz12_10 := blk_frozen BK101.out 10; have hcz13_0 : w10.cell? ⟨gb102, 0, none⟩ = some (.string a1_0) := (blk_cell BK102.out 0).trans rfl; have hcz13_1 : w10.cell? ⟨gb102, 1, none⟩ = some (.slice A1_1 l1_1.length c1_1) := (blk_cell BK102.out 1).trans rfl; have hcz13_2 : w10.cell? ⟨gb102, 2, none⟩ = some (.int .i64 a1_2) := (blk_cell BK102.out 2).trans rfl; have hcz13_3 : w10.cell? ⟨gb102, 3, none⟩ = some (.int .i64 a1_3) := (blk_cell BK102.out 3).trans rfl; have hcz13_4 : w10.cell? ⟨gb102, 4, none⟩ = some (.int .i64 a1_4) := (blk_cell BK102.out 4).trans rfl; have hcz13_5 : w10.cell? ⟨gb102, 5, none⟩ = some (.int .i64 a1_5) := (blk_cell BK102.out 5).trans rfl; have hcz13_6 : w10.cell? ⟨gb102, 6, none⟩ = some (.int .i64 a1_6) := (blk_cell BK102.out 6).trans rfl; have hcz13_7 : w10.cell? ⟨gb102, 7, none⟩ = some (.slice A1_7 l1_7.length c1_7) := (blk_cell BK102.out 7).trans rfl; have hcz13_8 : w10.cell? ⟨gb102, 8, none⟩ = some (.bool a1_8) := (blk_cell BK102.out 8).trans rfl; have hcz13_9 : w10.cell? ⟨gb102, 9, none⟩ = some (.int .i64 a1_9) := (blk_cell BK102.out 9).trans rfl; have hcz13_10 : w10.cell? ⟨gb102, 10, none⟩ = some (.bool a1_10) := (blk_cell BK102.out 10).trans rfl; have hfz13_0 := blk_frozen BK102.out 0; have hfz13_1 := blk_frozen BK102.out 1; have hfz13_2 := blk_frozen BK102.out 2; have hfz13_3 := blk_frozen BK102.out 3; have hfz13_4 := blk_frozen BK102.out 4; have hfz13_5 := blk_frozen BK102.out 5; have hfz13_6 := blk_frozen BK102.out 6; have hfz13_7 := blk_frozen BK102.out 7; have hfz13_8 := blk_frozen BK102.out 8; have hfz13_9 := blk_frozen BK102.out 9; have hfz13_10 := blk_frozen BK102.out 10) | ((with_reducible refine gate_callee (f := 17) rfl ?_); refine goesL_ (some 9) rfl rfl Tryd.func17 (by kernel_rfl) rfl #[.agg #[.string a0_0, .slice A0_1 l0_1.length c0_1, .int .i64 a0_2], .agg #[.string a1_0, .slice A1_1 l1_1.length c1_1, .int .i64 a1_2]] rfl zee81 ?_; (with_reducible refine (laws_eqKey.calls k a0_0 _ _ l0_1 a0_2 a1_0 _ _ l1_1 a1_2 true _ ?side1 ?side2 ?side3 ?side4 A3.out).mono ?_); (case side1 => exact (cZ (Kd.C_below HR0_1.out HB.out))); (case side2 => exact HC0_1.out); (case side3 => exact (cZ (Kd.C_below HR1_1.out HB.out))); (case side4 => exact HC1_1.out); rintro e w14 ⟨rfl, hb⟩; refine ⟨_, rfl, ?_⟩; have _ := bB gb101 hb; have _ := bB gb102 hb; have _ := aM (below_step hbZ hb); clear BK101 BK102 HB; rename_i BK101 BK102 HB; (try clear hb); have hcz15_0 : w14.cell? ⟨gb101, 0, none⟩ = some (.string a0_0) := (blk_cell BK101.out 0).trans rfl; have hcz15_1 : w14.cell? ⟨gb101, 1, none⟩ = some (.slice A0_1 l0_1.length c0_1) := (blk_cell BK101.out 1).trans rfl; have hcz15_2 : w14.cell? ⟨gb101, 2, none⟩ = some (.int .i64 a0_2) := (blk_cell BK101.out 2).trans rfl; have hcz15_3 : w14.cell? ⟨gb101, 3, none⟩ = some (.int .i64 a0_3) := (blk_cell BK101.out 3).trans rfl; have hcz15_4 : w14.cell? ⟨gb101, 4, none⟩ = some (.int .i64 a0_4) := (blk_cell BK101.out 4).trans rfl; have hcz15_5 : w14.cell? ⟨gb101, 5, none⟩ = some (.int .i64 a0_5) := (blk_cell BK101.out 5).trans rfl; have hcz15_6 : w14.cell? ⟨gb101, 6, none⟩ = some (.int .i64 a0_6) := (blk_cell BK101.out 6).trans rfl; have hcz15_7 : w14.cell? ⟨gb101, 7, none⟩ = some (.slice A0_7 l0_7.length c0_7) := (blk_cell BK101.out 7).trans rfl; have hcz15_8 : w14.cell? ⟨gb101, 8, none⟩ = some (.bool a0_8) := (blk_cell BK101.out 8).trans rfl; have hcz15_9 : w14.cell? ⟨gb101, 9, none⟩ = some (.int .i64 a0_9) := (blk_cell BK101.out 9).trans rfl; have hcz15_10 : w14.cell? ⟨gb101, 10, none⟩ = some (.bool a0_10) := (blk_cell BK101.out 10).trans rfl; have hfz15_0 := blk_frozen BK101.out 0; have hfz15_1 := blk_frozen BK101.out 1; have hfz15_2 := blk_frozen BK101.out 2; have hfz15_3 := blk_frozen BK101.out 3; have hfz15_4 := blk_frozen BK101.out 4; have hfz15_5 := blk_frozen BK101.out 5; have hfz15_6 := blk_frozen BK101.out 6; have hfz15_7 := blk_frozen BK101.out 7; have hfz15_8 := blk_frozen BK101.out 8; have hfz15_9 := blk_frozen BK101.out 9; have hfz15_10 := blk_frozen BK101.out 10; have hcz16_0 : w14.cell? ⟨gb102, 0, none⟩ = some (.string a1_0) := (blk_cell BK102.out 0).trans rfl; have hcz16_1 : w14.cell? ⟨gb102, 1, none⟩ = some (.slice A1_1 l1_1.length c1_1) := (blk_cell BK102.out 1).trans rfl; have hcz16_2 : w14.cell? ⟨gb102, 2, none⟩ = some (.int .i64 a1_2) := (blk_cell BK102.out 2).trans rfl; have hcz16_3 : w14.cell? ⟨gb102, 3, none⟩ = some (.int .i64 a1_3) := (blk_cell BK102.out 3).trans rfl; have hcz16_4 : w14.cell? ⟨gb102, 4, none⟩ = some (.int .i64 a1_4) := (blk_cell BK102.out 4).trans rfl; have hcz16_5 : w14.cell? ⟨gb102, 5, none⟩ = some (.int .i64 a1_5) := (blk_cell BK102.out 5).trans rfl; have hcz16_6 : w14.cell? ⟨gb102, 6, none⟩ = some (.int .i64 a1_6) := (blk_cell BK102.out 6).trans rfl; have hcz16_7 : w14.cell? ⟨gb102, 7, none⟩ = some (.slice A1_7 l1_7.length c1_7) := (blk_cell BK102.out 7).trans rfl; have hcz16_8 : w14.cell? ⟨gb102, 8, none⟩ = some (.bool a1_8) := (blk_cell BK102.out 8).trans rfl; have hcz16_9 : w14.cell? ⟨gb102, 9, none⟩ = some (.int .i64 a1_9) := (blk_cell BK102.out 9).trans rfl; have hcz16_10 : w14.cell? ⟨gb102, 10, none⟩ = some (.bool a1_10) := (blk_cell BK102.out 10).trans rfl; have hfz16_0 := blk_frozen BK102.out 0; have hfz16_1 := blk_frozen BK102.out 1; have hfz16_2 := blk_frozen BK102.out 2; have hfz16_3 := blk_frozen BK102.out 3; have hfz16_4 := blk_frozen BK102.out 4; have hfz16_5 := blk_frozen BK102.out 5; have hfz16_6 := blk_frozen BK102.out 6; have hfz16_7 := blk_frozen BK102.out 7; have hfz16_8 := blk_frozen BK102.out 8; have hfz16_9 := blk_frozen BK102.out 9; have hfz16_10 := blk_frozen BK102.out 10) | ((with_reducible refine gate_callee (f := 105) rfl ?_); refine goesL_ (some 15) rfl rfl Tryd.func105 (by kernel_rfl) rfl #[.agg #[.int .i64 a0_3, .int .i64 a0_4, .int .i64 a0_5, .int .i64 a0_6, .slice A0_7 l0_7.length c0_7, .bool a0_8], .agg #[.int .i64 a1_3, .int .i64 a1_4, .int .i64 a1_5, .int .i64 a1_6, .slice A1_7 l1_7.length c1_7, .bool a1_8]] rfl zee81 ?_; (with_reducible refine (laws_eqAgg.calls k a0_3 a0_4 a0_5 a0_6 _ _ l0_7 a0_8 a1_3 a1_4 a1_5 a1_6 _ _ l1_7 a1_8 true _ ?side1 ?side2 ?side3 ?side4 A5.out).mono ?_); (case side1 => exact (cZ (Kd.C_below HR0_7.out HB.out))); (case side2 => exact HC0_7.out); (case side3 => exact (cZ (Kd.C_below HR1_7.out HB.out))); (case side4 => exact HC1_7.out); rintro e w17 ⟨rfl, hb⟩; refine ⟨_, rfl, ?_⟩; have _ := bB gb101 hb; have _ := bB gb102 hb; have _ := aM (below_step hbZ hb); clear BK101 BK102 HB; rename_i BK101 BK102 HB; (try clear hb); have hcz18_0 : w17.cell? ⟨gb101, 0, none⟩ = some (.string a0_0) := (blk_cell BK101.out 0).trans rfl; have hcz18_1 : w17.cell? ⟨gb101, 1, none⟩ = some (.slice A0_1 l0_1.length c0_1) := (blk_cell BK101.out 1).trans rfl; have hcz18_2 : w17.cell? ⟨gb101, 2, none⟩ = some (.int .i64 a0_2) := (blk_cell BK101.out 2).trans rfl; have hcz18_3 : w17.cell? ⟨gb101, 3, none⟩ = some (.int .i64 a0_3) := (blk_cell BK101.out 3).trans rfl; have hcz18_4 : w17.cell? ⟨gb101, 4, none⟩ = some (.int .i64 a0_4) := (blk_cell BK101.out 4).trans rfl; have hcz18_5 : w17.cell? ⟨gb101, 5, none⟩ = some (.int .i64 a0_5) := (blk_cell BK101.out 5).trans rfl; have hcz18_6 : w17.cell? ⟨gb101, 6, none⟩ = some (.int .i64 a0_6) := (blk_cell BK101.out 6).trans rfl; have hcz18_7 : w17.cell? ⟨gb101, 7, none⟩ = some (.slice A0_7 l0_7.length c0_7) := (blk_cell BK101.out 7).trans rfl; have hcz18_8 : w17.cell? ⟨gb101, 8, none⟩ = some (.bool a0_8) := (blk_cell BK101.out 8).trans rfl; have hcz18_9 : w17.cell? ⟨gb101, 9, none⟩ = some (.int .i64 a0_9) := (blk_cell BK101.out 9).trans rfl; have hcz18_10 : w17.cell? ⟨gb101, 10, none⟩ = some (.bool a0_10) := (blk_cell BK101.out 10).trans rfl; have hfz18_0 := blk_frozen BK101.out 0; have hfz18_1 := blk_frozen BK101.out 1; have hfz18_2 := blk_frozen BK101.out 2; have hfz18_3 := blk_frozen BK101.out 3; have hfz18_4 := blk_frozen BK101.out 4; have hfz18_5 := blk_frozen BK101.out 5; have hfz18_6 := blk_frozen BK101.out 6; have hfz18_7 := blk_frozen BK101.out 7; have hfz18_8 := blk_frozen BK101.out 8; have hfz18_9 := blk_frozen BK101.out 9; have hfz18_10 := blk_frozen BK101.out 10; have hcz19_0 : w17.cell? ⟨gb102, 0, none⟩ = some (.string a1_0) := (blk_cell BK102.out 0).trans rfl; have hcz19_1 : w17.cell? ⟨gb102, 1, none⟩ = some (.slice A1_1 l1_1.length c1_1) := (blk_cell BK102.out 1).trans rfl; have hcz19_2 : w17.cell? ⟨gb102, 2, none⟩ = some (.int .i64 a1_2) := (blk_cell BK102.out 2).trans rfl; have hcz19_3 : w17.cell? ⟨gb102, 3, none⟩ = some (.int .i64 a1_3) := (blk_cell BK102.out 3).trans rfl; have hcz19_4 : w17.cell? ⟨gb102, 4, none⟩ = some (.int .i64 a1_4) := (blk_cell BK102.out 4).trans rfl; have hcz19_5 : w17.cell? ⟨gb102, 5, none⟩ = some (.int .i64 a1_5) := (blk_cell BK102.out 5).trans rfl; have hcz19_6 : w17.cell? ⟨gb102, 6, none⟩ = some (.int .i64 a1_6) := (blk_cell BK102.out 6).trans rfl; have hcz19_7 : w17.cell? ⟨gb102, 7, none⟩ = some (.slice A1_7 l1_7.length c1_7) := (blk_cell BK102.out 7).trans rfl; have hcz19_8 : w17.cell? ⟨gb102, 8, none⟩ = some (.bool a1_8) := (blk_cell BK102.out 8).trans rfl; have hcz19_9 : w17.cell? ⟨gb102, 9, none⟩ = some (.int .i64 a1_9) := (blk_cell BK102.out 9).trans rfl; have hcz19_10 : w17.cell? ⟨gb102, 10, none⟩ = some (.bool a1_10) := (blk_cell BK102.out 10).trans rfl; have hfz19_0 := blk_frozen BK102.out 0; have hfz19_1 := blk_frozen BK102.out 1; have hfz19_2 := blk_frozen BK102.out 2; have hfz19_3 := blk_frozen BK102.out 3; have hfz19_4 := blk_frozen BK102.out 4; have hfz19_5 := blk_frozen BK102.out 5; have hfz19_6 := blk_frozen BK102.out 6; have hfz19_7 := blk_frozen BK102.out 7; have hfz19_8 := blk_frozen BK102.out 8; have hfz19_9 := blk_frozen BK102.out 9; have hfz19_10 := blk_frozen BK102.out 10))
         go_ret
         exact ⟨z674d, zcb41⟩
       · rw [if_neg c8] at H
         have c8b0 : (a0_10 != a1_10) = false := by simpa using c8
         (try (have c8b1 : decide (a0_10 = a1_10) = true := by simpa using c8))
         (try (have c8b2 : (a0_10 == a1_10) = true := by simpa using c8))
         clear c8
         obtain rfl := Option.some.inj H
         go_enter Tryd.func90, Tryd.ntmps90
         go_wp2_with (first | ((with_reducible refine gate_dst (N := 2) rfl ?_); refine box_event ?hg (N := 2) ?hd (cs := #[.string a0_0, .slice A0_1 l0_1.length c0_1, .int .i64 a0_2, .int .i64 a0_3, .int .i64 a0_4, .int .i64 a0_5, .int .i64 a0_6, .slice A0_7 l0_7.length c0_7, .bool a0_8, .int .i64 a0_9, .bool a0_10]) (t := 97) ?hr ?_; (case hd => rfl); (case hg => rfl); (case hr => first | (go_simp; done) | (go_simp; rfl)); intro gb101 hg w20 hbox hb; have _ := aM (below_step hbZ hb); have _ := aM hbox; have _ := szZ hg; have _ := szZ hg; clear HB; rename_i HB BK101 GW101 GE101; clear hb hbox hg) | ((with_reducible refine gate_dst (N := 3) rfl ?_); refine box_event ?hg (N := 3) ?hd (cs := #[.string a1_0, .slice A1_1 l1_1.length c1_1, .int .i64 a1_2, .int .i64 a1_3, .int .i64 a1_4, .int .i64 a1_5, .int .i64 a1_6, .slice A1_7 l1_7.length c1_7, .bool a1_8, .int .i64 a1_9, .bool a1_10]) (t := 97) ?hr ?_; (case hd => rfl); (case hg => rfl); (case hr => first | (go_simp; done) | (go_simp; rfl)); intro gb102 hg w21 hbox hb; have _ := bB gb101 hb; have _ := aM (below_step hbZ hb); have _ := aM hbox; have _ := szZ hg; have _ := szZ hg; have ⟨_, _⟩ := nbB gb101 hg; clear BK101 HB; rename_i BK101 HB BK102 GW102 GE102 NB101_102 NB102_101; clear hb hbox hg; have hnb22 := NB101_102.out; have hnc22 := NB102_101.out; have hcz23_0 : w21.cell? ⟨gb101, 0, none⟩ = some (.string a0_0) := (blk_cell BK101.out 0).trans rfl; have hcz23_1 : w21.cell? ⟨gb101, 1, none⟩ = some (.slice A0_1 l0_1.length c0_1) := (blk_cell BK101.out 1).trans rfl; have hcz23_2 : w21.cell? ⟨gb101, 2, none⟩ = some (.int .i64 a0_2) := (blk_cell BK101.out 2).trans rfl; have hcz23_3 : w21.cell? ⟨gb101, 3, none⟩ = some (.int .i64 a0_3) := (blk_cell BK101.out 3).trans rfl; have hcz23_4 : w21.cell? ⟨gb101, 4, none⟩ = some (.int .i64 a0_4) := (blk_cell BK101.out 4).trans rfl; have hcz23_5 : w21.cell? ⟨gb101, 5, none⟩ = some (.int .i64 a0_5) := (blk_cell BK101.out 5).trans rfl; have hcz23_6 : w21.cell? ⟨gb101, 6, none⟩ = some (.int .i64 a0_6) := (blk_cell BK101.out 6).trans rfl; have hcz23_7 : w21.cell? ⟨gb101, 7, none⟩ = some (.slice A0_7 l0_7.length c0_7) := (blk_cell BK101.out 7).trans rfl; have hcz23_8 : w21.cell? ⟨gb101, 8, none⟩ = some (.bool a0_8) := (blk_cell BK101.out 8).trans rfl; have hcz23_9 : w21.cell? ⟨gb101, 9, none⟩ = some (.int .i64 a0_9) := (blk_cell BK101.out 9).trans rfl; have hcz23_10 : w21.cell? ⟨gb101, 10, none⟩ = some (.bool a0_10) := (blk_cell BK101.out 10).trans rfl; have hfz23_0 := blk_frozen BK101.out 0; have hfz23_1 := blk_frozen BK101.out 1; have hfz23_2 := blk_frozen BK101.out 2; have hfz23_3 := blk_frozen BK101.out 3; have hfz23_4 := blk_frozen BK101.out 4; have hfz23_5 := blk_frozen BK101.out 5; have hfz23_6 := blk_frozen BK101.out 6; have hfz23_7 := blk_frozen BK101.out 7; have hfz23_8 := blk_frozen BK101.out 8; have hfz23_9 := blk_frozen BK101.out 9; have hfz23_10 := blk_frozen BK101.out 10; have hcz24_0 : w21.cell? ⟨gb102, 0, none⟩ = some (.string a1_0) := (blk_cell BK102.out 0).trans rfl; have hcz24_1 : w21.cell? ⟨gb102, 1, none⟩ = some (.slice A1_1 l1_1.length c1_1) := (blk_cell BK102.out 1).trans rfl; have hcz24_2 : w21.cell? ⟨gb102, 2, none⟩ = some (.int .i64 a1_2) := (blk_cell BK102.out 2).trans rfl; have hcz24_3 : w21.cell? ⟨gb102, 3, none⟩ = some (.int .i64 a1_3) := (blk_cell BK102.out 3).trans rfl; have hcz24_4 : w21.cell? ⟨gb102, 4, none⟩ = some (.int .i64 a1_4) := (blk_cell BK102.out 4).trans rfl; have hcz24_5 : w21.cell? ⟨gb102, 5, none⟩ = some (.int .i64 a1_5) := (blk_cell BK102.out 5).trans rfl; have hcz24_6 : w21.cell? ⟨gb102, 6, none⟩ = some (.int .i64 a1_6) := (blk_cell BK102.out 6).trans rfl; have hcz24_7 : w21.cell? ⟨gb102, 7, none⟩ = some (.slice A1_7 l1_7.length c1_7) := (blk_cell BK102.out 7).trans rfl; have hcz24_8 : w21.cell? ⟨gb102, 8, none⟩ = some (.bool a1_8) := (blk_cell BK102.out 8).trans rfl; have hcz24_9 : w21.cell? ⟨gb102, 9, none⟩ = some (.int .i64 a1_9) := (blk_cell BK102.out 9).trans rfl; have hcz24_10 : w21.cell? ⟨gb102, 10, none⟩ = some (.bool a1_10) := (blk_cell BK102.out 10).trans rfl; have hfz24_0 := blk_frozen BK102.out 0; have hfz24_1 := blk_frozen BK102.out 1; have hfz24_2 := blk_frozen BK102.out 2; have hfz24_3 := blk_frozen BK102.out 3; have hfz24_4 := blk_frozen BK102.out 4; have hfz24_5 := blk_frozen BK102.out 5; have hfz24_6 := blk_frozen BK102.out 6; have hfz24_7 := blk_frozen BK102.out 7; have hfz24_8 := blk_frozen BK102.out 8; have hfz24_9 := blk_frozen BK102.out 9; have hfz24_10 := blk_frozen BK102.out 10) | ((with_reducible refine gate_callee (f := 17) rfl ?_); refine goesL_ (some 9) rfl rfl Tryd.func17 (by kernel_rfl) rfl #[.agg #[.string a0_0, .slice A0_1 l0_1.length c0_1, .int .i64 a0_2], .agg #[.string a1_0, .slice A1_1 l1_1.length c1_1, .int .i64 a1_2]] rfl zee81 ?_; (with_reducible refine (laws_eqKey.calls k a0_0 _ _ l0_1 a0_2 a1_0 _ _ l1_1 a1_2 true _ ?side1 ?side2 ?side3 ?side4 A3.out).mono ?_); (case side1 => exact (cZ (Kd.C_below HR0_1.out HB.out))); (case side2 => exact HC0_1.out); (case side3 => exact (cZ (Kd.C_below HR1_1.out HB.out))); (case side4 => exact HC1_1.out); rintro e w25 ⟨rfl, hb⟩; refine ⟨_, rfl, ?_⟩; have _ := bB gb101 hb; have _ := bB gb102 hb; have _ := aM (below_step hbZ hb); clear BK101 BK102 HB; rename_i BK101 BK102 HB; (try clear hb); have hcz26_0 : w25.cell? ⟨gb101, 0, none⟩ = some (.string a0_0) := (blk_cell BK101.out 0).trans rfl; have hcz26_1 : w25.cell? ⟨gb101, 1, none⟩ = some (.slice A0_1 l0_1.length c0_1) := (blk_cell BK101.out 1).trans rfl; have hcz26_2 : w25.cell? ⟨gb101, 2, none⟩ = some (.int .i64 a0_2) := (blk_cell BK101.out 2).trans rfl; have hcz26_3 : w25.cell? ⟨gb101, 3, none⟩ = some (.int .i64 a0_3) := (blk_cell BK101.out 3).trans rfl; have hcz26_4 : w25.cell? ⟨gb101, 4, none⟩ = some (.int .i64 a0_4) := (blk_cell BK101.out 4).trans rfl; have hcz26_5 : w25.cell? ⟨gb101, 5, none⟩ = some (.int .i64 a0_5) := (blk_cell BK101.out 5).trans rfl; have hcz26_6 : w25.cell? ⟨gb101, 6, none⟩ = some (.int .i64 a0_6) := (blk_cell BK101.out 6).trans rfl; have hcz26_7 : w25.cell? ⟨gb101, 7, none⟩ = some (.slice A0_7 l0_7.length c0_7) := (blk_cell BK101.out 7).trans rfl; have hcz26_8 : w25.cell? ⟨gb101, 8, none⟩ = some (.bool a0_8) := (blk_cell BK101.out 8).trans rfl; have hcz26_9 : w25.cell? ⟨gb101, 9, none⟩ = some (.int .i64 a0_9) := (blk_cell BK101.out 9).trans rfl; have hcz26_10 : w25.cell? ⟨gb101, 10, none⟩ = some (.bool a0_10) := (blk_cell BK101.out 10).trans rfl; have hfz26_0 := blk_frozen BK101.out 0; have hfz26_1 := blk_frozen BK101.out 1; have hfz26_2 := blk_frozen BK101.out 2; have hfz26_3 := blk_frozen BK101.out 3; have hfz26_4 := blk_frozen BK101.out 4; have hfz26_5 := blk_frozen BK101.out 5; have hfz26_6 := blk_frozen BK101.out 6; have hfz26_7 := blk_frozen BK101.out 7; have hfz26_8 := blk_frozen BK101.out 8; have hfz26_9 := blk_frozen BK101.out 9; have hfz26_10 := blk_frozen BK101.out 10; have hcz27_0 : w25.cell? ⟨gb102, 0, none⟩ = some (.string a1_0) := (blk_cell BK102.out 0).trans rfl; have hcz27_1 : w25.cell? ⟨gb102, 1, none⟩ = some (.slice A1_1 l1_1.length c1_1) := (blk_cell BK102.out 1).trans rfl; have hcz27_2 : w25.cell? ⟨gb102, 2, none⟩ = some (.int .i64 a1_2) := (blk_cell BK102.out 2).trans rfl; have hcz27_3 : w25.cell? ⟨gb102, 3, none⟩ = some (.int .i64 a1_3) := (blk_cell BK102.out 3).trans rfl; have hcz27_4 : w25.cell? ⟨gb102, 4, none⟩ = some (.int .i64 a1_4) := (blk_cell BK102.out 4).trans rfl; have hcz27_5 : w25.cell? ⟨gb102, 5, none⟩ = some (.int .i64 a1_5) := (blk_cell BK102.out 5).trans rfl; have hcz27_6 : w25.cell? ⟨gb102, 6, none⟩ = some (.int .i64 a1_6) := (blk_cell BK102.out 6).trans rfl; have hcz27_7 : w25.cell? ⟨gb102, 7, none⟩ = some (.slice A1_7 l1_7.length c1_7) := (blk_cell BK102.out 7).trans rfl; have hcz27_8 : w25.cell? ⟨gb102, 8, none⟩ = some (.bool a1_8) := (blk_cell BK102.out 8).trans rfl; have hcz27_9 : w25.cell? ⟨gb102, 9, none⟩ = some (.int .i64 a1_9) := (blk_cell BK102.out 9).trans rfl; have hcz27_10 : w25.cell? ⟨gb102, 10, none⟩ = some (.bool a1_10) := (blk_cell BK102.out 10).trans rfl; have hfz27_0 := blk_frozen BK102.out 0; have hfz27_1 := blk_frozen BK102.out 1; have hfz27_2 := blk_frozen BK102.out 2; have hfz27_3 := blk_frozen BK102.out 3; have hfz27_4 := blk_frozen BK102.out 4; have hfz27_5 := blk_frozen BK102.out 5; have hfz27_6 := blk_frozen BK102.out 6; have hfz27_7 := blk_frozen BK102.out 7; have hfz27_8 := blk_frozen BK102.out 8; have hfz27_9 := blk_frozen BK102.out 9; have hfz27_10 := blk_frozen BK102.out 10) | ((with_reducible refine gate_callee (f := 105) rfl ?_); refine goesL_ (some 15) rfl rfl Tryd.func105 (by kernel_rfl) rfl #[.agg #[.int .i64 a0_3, .int .i64 a0_4, .int .i64 a0_5, .int .i64 a0_6, .slice A0_7 l0_7.length c0_7, .bool a0_8], .agg #[.int .i64 a1_3, .int .i64 a1_4, .int .i64 a1_5, .int .i64 a1_6, .slice A1_7 l1_7.length c1_7, .bool a1_8]] rfl zee81 ?_; (with_reducible refine (laws_eqAgg.calls k a0_3 a0_4 a0_5 a0_6 _ _ l0_7 a0_8 a1_3 a1_4 a1_5 a1_6 _ _ l1_7 a1_8 true _ ?side1 ?side2 ?side3 ?side4 A5.out).mono ?_); (case side1 => exact (cZ (Kd.C_below HR0_7.out HB.out))); (case side2 => exact HC0_7.out); (case side3 => exact (cZ (Kd.C_below HR1_7.out HB.out))); (case side4 => exact HC1_7.out); rintro e w28 ⟨rfl, hb⟩; refine ⟨_, rfl, ?_⟩; have _ := bB gb101 hb; have _ := bB gb102 hb; have _ := aM (below_step hbZ hb); clear BK101 BK102 HB; rename_i BK101 BK102 HB; (try clear hb); have hcz29_0 : w28.cell? ⟨gb101, 0, none⟩ = some (.string a0_0) := (blk_cell BK101.out 0).trans rfl; have hcz29_1 : w28.cell? ⟨gb101, 1, none⟩ = some (.slice A0_1 l0_1.length c0_1) := (blk_cell BK101.out 1).trans rfl; have hcz29_2 : w28.cell? ⟨gb101, 2, none⟩ = some (.int .i64 a0_2) := (blk_cell BK101.out 2).trans rfl; have hcz29_3 : w28.cell? ⟨gb101, 3, none⟩ = some (.int .i64 a0_3) := (blk_cell BK101.out 3).trans rfl; have hcz29_4 : w28.cell? ⟨gb101, 4, none⟩ = some (.int .i64 a0_4) := (blk_cell BK101.out 4).trans rfl; have hcz29_5 : w28.cell? ⟨gb101, 5, none⟩ = some (.int .i64 a0_5) := (blk_cell BK101.out 5).trans rfl; have hcz29_6 : w28.cell? ⟨gb101, 6, none⟩ = some (.int .i64 a0_6) := (blk_cell BK101.out 6).trans rfl; have hcz29_7 : w28.cell? ⟨gb101, 7, none⟩ = some (.slice A0_7 l0_7.length c0_7) := (blk_cell BK101.out 7).trans rfl; have hcz29_8 : w28.cell? ⟨gb101, 8, none⟩ = some (.bool a0_8) := (blk_cell BK101.out 8).trans rfl; have hcz29_9 : w28.cell? ⟨gb101, 9, none⟩ = some (.int .i64 a0_9) := (blk_cell BK101.out 9).trans rfl; have hcz29_10 : w28.cell? ⟨gb101, 10, none⟩ = some (.bool a0_10) := (blk_cell BK101.out 10).trans rfl; have hfz29_0 := blk_frozen BK101.out 0; have hfz29_1 := blk_frozen BK101.out 1; have hfz29_2 := blk_frozen BK101.out 2; have hfz29_3 := blk_frozen BK101.out 3; have hfz29_4 := blk_frozen BK101.out 4; have hfz29_5 := blk_frozen BK101.out 5; have hfz29_6 := blk_frozen BK101.out 6; have hfz29_7 := blk_frozen BK101.out 7; have hfz29_8 := blk_frozen BK101.out 8; have hfz29_9 := blk_frozen BK101.out 9; have hfz29_10 := blk_frozen BK101.out 10; have hcz30_0 : w28.cell? ⟨gb102, 0, none⟩ = some (.string a1_0) := (blk_cell BK102.out 0).trans rfl; have hcz30_1 : w28.cell? ⟨gb102, 1, none⟩ = some (.slice A1_1 l1_1.length c1_1) := (blk_cell BK102.out 1).trans rfl; have hcz30_2 : w28.cell? ⟨gb102, 2, none⟩ = some (.int .i64 a1_2) := (blk_cell BK102.out 2).trans rfl; have hcz30_3 : w28.cell? ⟨gb102, 3, none⟩ = some (.int .i64 a1_3) := (blk_cell BK102.out 3).trans rfl; have hcz30_4 : w28.cell? ⟨gb102, 4, none⟩ = some (.int .i64 a1_4) := (blk_cell BK102.out 4).trans rfl; have hcz30_5 : w28.cell? ⟨gb102, 5, none⟩ = some (.int .i64 a1_5) := (blk_cell BK102.out 5).trans rfl; have hcz30_6 : w28.cell? ⟨gb102, 6, none⟩ = some (.int .i64 a1_6) := (blk_cell BK102.out 6).trans rfl; have hcz30_7 : w28.cell? ⟨gb102, 7, none⟩ = some (.slice A1_7 l1_7.length c1_7) := (blk_cell BK102.out 7).trans rfl; have hcz30_8 : w28.cell? ⟨gb102, 8, none⟩ = some (.bool a1_8) := (blk_cell BK102.out 8).trans rfl; have hcz30_9 : w28.cell? ⟨gb102, 9, none⟩ = some (.int .i64 a1_9) := (blk_cell BK102.out 9).trans rfl; have hcz30_10 : w28.cell? ⟨gb102, 10, none⟩ = some (.bool a1_10) := (blk_cell BK102.out 10).trans rfl; have hfz30_0 := blk_frozen BK102.out 0; have hfz30_1 := blk_frozen BK102.out 1; have hfz30_2 := blk_frozen BK102.out 2; have hfz30_3 := blk_frozen BK102.out 3; have hfz30_4 := blk_frozen BK102.out 4; have hfz30_5 := blk_frozen BK102.out 5; have hfz30_6 := blk_frozen BK102.out 6; have hfz30_7 := blk_frozen BK102.out 7; have hfz30_8 := blk_frozen BK102.out 8; have hfz30_9 := blk_frozen BK102.out 9; have hfz30_10 := blk_frozen BK102.out 10))
         go_ret
         exact ⟨z674d, zcb41⟩
     · rw [if_neg c7] at H
       have c7b0 : (a0_9 == a1_9) = false := beq_eq_false_iff_ne.mpr c7
       have c7b1 : (a0_9 != a1_9) = true := bne_iff_ne.mpr c7
       obtain rfl := Option.some.inj H
       go_enter Tryd.func90, Tryd.ntmps90
       go_wp2_with (first | ((with_reducible refine gate_dst (N := 2) rfl ?_); refine box_event ?hg (N := 2) ?hd (cs := #[.string a0_0, .slice A0_1 l0_1.length c0_1, .int .i64 a0_2, .int .i64 a0_3, .int .i64 a0_4, .int .i64 a0_5, .int .i64 a0_6, .slice A0_7 l0_7.length c0_7, .bool a0_8, .int .i64 a0_9, .bool a0_10]) (t := 97) ?hr ?_; (case hd => rfl); (case hg => rfl); (case hr => first | (go_simp; done) | (go_simp; rfl)); intro gb101 hg w31 hbox hb; have _ := aM (below_step hbZ hb); have _ := aM hbox; have _ := szZ hg; have _ := szZ hg; clear HB; rename_i HB BK101 GW101 GE101; clear hb hbox hg) | ((with_reducible refine gate_dst (N := 3) rfl ?_); refine box_event ?hg (N := 3) ?hd (cs := #[.string a1_0, .slice A1_1 l1_1.length c1_1, .int .i64 a1_2, .int .i64 a1_3, .int .i64 a1_4, .int .i64 a1_5, .int .i64 a1_6, .slice A1_7 l1_7.length c1_7, .bool a1_8, .int .i64 a1_9, .bool a1_10]) (t := 97) ?hr ?_; (case hd => rfl); (case hg => rfl); (case hr => first | (go_simp; done) | (go_simp; rfl)); intro gb102 hg w32 hbox hb; have _ := bB gb101 hb; have _ := aM (below_step hbZ hb); have _ := aM hbox; have _ := szZ hg; have _ := szZ hg; have ⟨_, _⟩ := nbB gb101 hg; clear BK101 HB; rename_i BK101 HB BK102 GW102 GE102 NB101_102 NB102_101; clear hb hbox hg; have hnb33 := NB101_102.out; have hnc33 := NB102_101.out; have hcz34_0 : w32.cell? ⟨gb101, 0, none⟩ = some (.string a0_0) := (blk_cell BK101.out 0).trans rfl; have hcz34_1 : w32.cell? ⟨gb101, 1, none⟩ = some (.slice A0_1 l0_1.length c0_1) := (blk_cell BK101.out 1).trans rfl; have hcz34_2 : w32.cell? ⟨gb101, 2, none⟩ = some (.int .i64 a0_2) := (blk_cell BK101.out 2).trans rfl; have hcz34_3 : w32.cell? ⟨gb101, 3, none⟩ = some (.int .i64 a0_3) := (blk_cell BK101.out 3).trans rfl; have hcz34_4 : w32.cell? ⟨gb101, 4, none⟩ = some (.int .i64 a0_4) := (blk_cell BK101.out 4).trans rfl; have hcz34_5 : w32.cell? ⟨gb101, 5, none⟩ = some (.int .i64 a0_5) := (blk_cell BK101.out 5).trans rfl; have hcz34_6 : w32.cell? ⟨gb101, 6, none⟩ = some (.int .i64 a0_6) := (blk_cell BK101.out 6).trans rfl; have hcz34_7 : w32.cell? ⟨gb101, 7, none⟩ = some (.slice A0_7 l0_7.length c0_7) := (blk_cell BK101.out 7).trans rfl; have hcz34_8 : w32.cell? ⟨gb101, 8, none⟩ = some (.bool a0_8) := (blk_cell BK101.out 8).trans rfl; have hcz34_9 : w32.cell? ⟨gb101, 9, none⟩ = some (.int .i64 a0_9) := (blk_cell BK101.out 9).trans rfl; have hcz34_10 : w32.cell? ⟨gb101, 10, none⟩ = some (.bool a0_10) := (blk_cell BK101.out 10).trans rfl; have hfz34_0 := blk_frozen BK101.out 0; have hfz34_1 := blk_frozen BK101.out 1; have hfz34_2 := blk_frozen BK101.out 2; have hfz34_3 := blk_frozen BK101.out 3; have hfz34_4 := blk_frozen BK101.out 4; have hfz34_5 := blk_frozen BK101.out 5; have hfz34_6 := blk_frozen BK101.out 6; have hfz34_7 := blk_frozen BK101.out 7; have hfz34_8 := blk_frozen BK101.out 8; have hfz34_9 := blk_frozen BK101.out 9; have hfz34_10 := blk_frozen BK101.out 10; have hcz35_0 : w32.cell? ⟨gb102, 0, none⟩ = some (.string a1_0) := (blk_cell BK102.out 0).trans rfl; have hcz35_1 : w32.cell? ⟨gb102, 1, none⟩ = some (.slice A1_1 l1_1.length c1_1) := (blk_cell BK102.out 1).trans rfl; have hcz35_2 : w32.cell? ⟨gb102, 2, none⟩ = some (.int .i64 a1_2) := (blk_cell BK102.out 2).trans rfl; have hcz35_3 : w32.cell? ⟨gb102, 3, none⟩ = some (.int .i64 a1_3) := (blk_cell BK102.out 3).trans rfl; have hcz35_4 : w32.cell? ⟨gb102, 4, none⟩ = some (.int .i64 a1_4) := (blk_cell BK102.out 4).trans rfl; have hcz35_5 : w32.cell? ⟨gb102, 5, none⟩ = some (.int .i64 a1_5) := (blk_cell BK102.out 5).trans rfl; have hcz35_6 : w32.cell? ⟨gb102, 6, none⟩ = some (.int .i64 a1_6) := (blk_cell BK102.out 6).trans rfl; have hcz35_7 : w32.cell? ⟨gb102, 7, none⟩ = some (.slice A1_7 l1_7.length c1_7) := (blk_cell BK102.out 7).trans rfl; have hcz35_8 : w32.cell? ⟨gb102, 8, none⟩ = some (.bool a1_8) := (blk_cell BK102.out 8).trans rfl; have hcz35_9 : w32.cell? ⟨gb102, 9, none⟩ = some (.int .i64 a1_9) := (blk_cell BK102.out 9).trans rfl; have hcz35_10 : w32.cell? ⟨gb102, 10, none⟩ = some (.bool a1_10) := (blk_cell BK102.out 10).trans rfl; have hfz35_0 := blk_frozen BK102.out 0; have hfz35_1 := blk_frozen BK102.out 1; have hfz35_2 := blk_frozen BK102.out 2; have hfz35_3 := blk_frozen BK102.out 3; have hfz35_4 := blk_frozen BK102.out 4; have hfz35_5 := blk_frozen BK102.out 5; have hfz35_6 := blk_frozen BK102.out 6; have hfz35_7 := blk_frozen BK102.out 7; have hfz35_8 := blk_frozen BK102.out 8; have hfz35_9 := blk_frozen BK102.out 9; have hfz35_10 := blk_frozen BK102.out 10) | ((with_reducible refine gate_callee (f := 17) rfl ?_); refine goesL_ (some 9) rfl rfl Tryd.func17 (by kernel_rfl) rfl #[.agg #[.string a0_0, .slice A0_1 l0_1.length c0_1, .int .i64 a0_2], .agg #[.string a1_0, .slice A1_1 l1_1.length c1_1, .int .i64 a1_2]] rfl zee81 ?_; (with_reducible refine (laws_eqKey.calls k a0_0 _ _ l0_1 a0_2 a1_0 _ _ l1_1 a1_2 true _ ?side1 ?side2 ?side3 ?side4 A3.out).mono ?_); (case side1 => exact (cZ (Kd.C_below HR0_1.out HB.out))); (case side2 => exact HC0_1.out); (case side3 => exact (cZ (Kd.C_below HR1_1.out HB.out))); (case side4 => exact HC1_1.out); rintro e w36 ⟨rfl, hb⟩; refine ⟨_, rfl, ?_⟩; have _ := bB gb101 hb; have _ := bB gb102 hb; have _ := aM (below_step hbZ hb); clear BK101 BK102 HB; rename_i BK101 BK102 HB; (try clear hb); have hcz37_0 : w36.cell? ⟨gb101, 0, none⟩ = some (.string a0_0) := (blk_cell BK101.out 0).trans rfl; have hcz37_1 : w36.cell? ⟨gb101, 1, none⟩ = some (.slice A0_1 l0_1.length c0_1) := (blk_cell BK101.out 1).trans rfl; have hcz37_2 : w36.cell? ⟨gb101, 2, none⟩ = some (.int .i64 a0_2) := (blk_cell BK101.out 2).trans rfl; have hcz37_3 : w36.cell? ⟨gb101, 3, none⟩ = some (.int .i64 a0_3) := (blk_cell BK101.out 3).trans rfl; have hcz37_4 : w36.cell? ⟨gb101, 4, none⟩ = some (.int .i64 a0_4) := (blk_cell BK101.out 4).trans rfl; have hcz37_5 : w36.cell? ⟨gb101, 5, none⟩ = some (.int .i64 a0_5) := (blk_cell BK101.out 5).trans rfl; have hcz37_6 : w36.cell? ⟨gb101, 6, none⟩ = some (.int .i64 a0_6) := (blk_cell BK101.out 6).trans rfl; have hcz37_7 : w36.cell? ⟨gb101, 7, none⟩ = some (.slice A0_7 l0_7.length c0_7) := (blk_cell BK101.out 7).trans rfl; have hcz37_8 : w36.cell? ⟨gb101, 8, none⟩ = some (.bool a0_8) := (blk_cell BK101.out 8).trans rfl; have hcz37_9 : w36.cell? ⟨gb101, 9, none⟩ = some (.int .i64 a0_9) := (blk_cell BK101.out 9).trans rfl; have hcz37_10 : w36.cell? ⟨gb101, 10, none⟩ = some (.bool a0_10) := (blk_cell BK101.out 10).trans rfl; have hfz37_0 := blk_frozen BK101.out 0; have hfz37_1 := blk_frozen BK101.out 1; have hfz37_2 := blk_frozen BK101.out 2; have hfz37_3 := blk_frozen BK101.out 3; have hfz37_4 := blk_frozen BK101.out 4; have hfz37_5 := blk_frozen BK101.out 5; have hfz37_6 := blk_frozen BK101.out 6; have hfz37_7 := blk_frozen BK101.out 7; have hfz37_8 := blk_frozen BK101.out 8; have hfz37_9 := blk_frozen BK101.out 9; have hfz37_10 := blk_frozen BK101.out 10; have hcz38_0 : w36.cell? ⟨gb102, 0, none⟩ = some (.string a1_0) := (blk_cell BK102.out 0).trans rfl; have hcz38_1 : w36.cell? ⟨gb102, 1, none⟩ = some (.slice A1_1 l1_1.length c1_1) := (blk_cell BK102.out 1).trans rfl; have hcz38_2 : w36.cell? ⟨gb102, 2, none⟩ = some (.int .i64 a1_2) := (blk_cell BK102.out 2).trans rfl; have hcz38_3 : w36.cell? ⟨gb102, 3, none⟩ = some (.int .i64 a1_3) := (blk_cell BK102.out 3).trans rfl; have hcz38_4 : w36.cell? ⟨gb102, 4, none⟩ = some (.int .i64 a1_4) := (blk_cell BK102.out 4).trans rfl; have hcz38_5 : w36.cell? ⟨gb102, 5, none⟩ = some (.int .i64 a1_5) := (blk_cell BK102.out 5).trans rfl; have hcz38_6 : w36.cell? ⟨gb102, 6, none⟩ = some (.int .i64 a1_6) := (blk_cell BK102.out 6).trans rfl; have hcz38_7 : w36.cell? ⟨gb102, 7, none⟩ = some (.slice A1_7 l1_7.length c1_7) := (blk_cell BK102.out 7).trans rfl; have hcz38_8 : w36.cell? ⟨gb102, 8, none⟩ = some (.bool a1_8) := (blk_cell BK102.out 8).trans rfl; have hcz38_9 : w36.cell? ⟨gb102, 9, none⟩ = some (.int .i64 a1_9) := (blk_cell BK102.out 9).trans rfl; have hcz38_10 : w36.cell? ⟨gb102, 10, none⟩ = some (.bool a1_10) := (blk_cell BK102.out 10).trans rfl; have hfz38_0 := blk_frozen BK102.out 0; have hfz38_1 := blk_frozen BK102.out 1; have hfz38_2 := blk_frozen BK102.out 2; have hfz38_3 := blk_frozen BK102.out 3; have hfz38_4 := blk_frozen BK102.out 4; have hfz38_5 := blk_frozen BK102.out 5; have hfz38_6 := blk_frozen BK102.out 6; have hfz38_7 := blk_frozen BK102.out 7; have hfz38_8 := blk_frozen BK102.out 8; have hfz38_9 := blk_frozen BK102.out 9; have hfz38_10 := blk_frozen BK102.out 10) | ((with_reducible refine gate_callee (f := 105) rfl ?_); refine goesL_ (some 15) rfl rfl Tryd.func105 (by kernel_rfl) rfl #[.agg #[.int .i64 a0_3, .int .i64 a0_4, .int .i64 a0_5, .int .i64 a0_6, .slice A0_7 l0_7.length c0_7, .bool a0_8], .agg #[.int .i64 a1_3, .int .i64 a1_4, .int .i64 a1_5, .int .i64 a1_6, .slice A1_7 l1_7.length c1_7, .bool a1_8]] rfl zee81 ?_; (with_reducible refine (laws_eqAgg.calls k a0_3 a0_4 a0_5 a0_6 _ _ l0_7 a0_8 a1_3 a1_4 a1_5 a1_6 _ _ l1_7 a1_8 true _ ?side1 ?side2 ?side3 ?side4 A5.out).mono ?_); (case side1 => exact (cZ (Kd.C_below HR0_7.out HB.out))); (case side2 => exact HC0_7.out); (case side3 => exact (cZ (Kd.C_below HR1_7.out HB.out))); (case side4 => exact HC1_7.out); rintro e w39 ⟨rfl, hb⟩; refine ⟨_, rfl, ?_⟩; have _ := bB gb101 hb; have _ := bB gb102 hb; have _ := aM (below_step hbZ hb); clear BK101 BK102 HB; rename_i BK101 BK102 HB; (try clear hb); have hcz40_0 : w39.cell? ⟨gb101, 0, none⟩ = some (.string a0_0) := (blk_cell BK101.out 0).trans rfl; have hcz40_1 : w39.cell? ⟨gb101, 1, none⟩ = some (.slice A0_1 l0_1.length c0_1) := (blk_cell BK101.out 1).trans rfl; have hcz40_2 : w39.cell? ⟨gb101, 2, none⟩ = some (.int .i64 a0_2) := (blk_cell BK101.out 2).trans rfl; have hcz40_3 : w39.cell? ⟨gb101, 3, none⟩ = some (.int .i64 a0_3) := (blk_cell BK101.out 3).trans rfl; have hcz40_4 : w39.cell? ⟨gb101, 4, none⟩ = some (.int .i64 a0_4) := (blk_cell BK101.out 4).trans rfl; have hcz40_5 : w39.cell? ⟨gb101, 5, none⟩ = some (.int .i64 a0_5) := (blk_cell BK101.out 5).trans rfl; have hcz40_6 : w39.cell? ⟨gb101, 6, none⟩ = some (.int .i64 a0_6) := (blk_cell BK101.out 6).trans rfl; have hcz40_7 : w39.cell? ⟨gb101, 7, none⟩ = some (.slice A0_7 l0_7.length c0_7) := (blk_cell BK101.out 7).trans rfl; have hcz40_8 : w39.cell? ⟨gb101, 8, none⟩ = some (.bool a0_8) := (blk_cell BK101.out 8).trans rfl; have hcz40_9 : w39.cell? ⟨gb101, 9, none⟩ = some (.int .i64 a0_9) := (blk_cell BK101.out 9).trans rfl; have hcz40_10 : w39.cell? ⟨gb101, 10, none⟩ = some (.bool a0_10) := (blk_cell BK101.out 10).trans rfl; have hfz40_0 := blk_frozen BK101.out 0; have hfz40_1 := blk_frozen BK101.out 1; have hfz40_2 := blk_frozen BK101.out 2; have hfz40_3 := blk_frozen BK101.out 3; have hfz40_4 := blk_frozen BK101.out 4; have hfz40_5 := blk_frozen BK101.out 5; have hfz40_6 := blk_frozen BK101.out 6; have hfz40_7 := blk_frozen BK101.out 7; have hfz40_8 := blk_frozen BK101.out 8; have hfz40_9 := blk_frozen BK101.out 9; have hfz40_10 := blk_frozen BK101.out 10; have hcz41_0 : w39.cell? ⟨gb102, 0, none⟩ = some (.string a1_0) := (blk_cell BK102.out 0).trans rfl; have hcz41_1 : w39.cell? ⟨gb102, 1, none⟩ = some (.slice A1_1 l1_1.length c1_1) := (blk_cell BK102.out 1).trans rfl; have hcz41_2 : w39.cell? ⟨gb102, 2, none⟩ = some (.int .i64 a1_2) := (blk_cell BK102.out 2).trans rfl; have hcz41_3 : w39.cell? ⟨gb102, 3, none⟩ = some (.int .i64 a1_3) := (blk_cell BK102.out 3).trans rfl; have hcz41_4 : w39.cell? ⟨gb102, 4, none⟩ = some (.int .i64 a1_4) := (blk_cell BK102.out 4).trans rfl; have hcz41_5 : w39.cell? ⟨gb102, 5, none⟩ = some (.int .i64 a1_5) := (blk_cell BK102.out 5).trans rfl; have hcz41_6 : w39.cell? ⟨gb102, 6, none⟩ = some (.int .i64 a1_6) := (blk_cell BK102.out 6).trans rfl; have hcz41_7 : w39.cell? ⟨gb102, 7, none⟩ = some (.slice A1_7 l1_7.length c1_7) := (blk_cell BK102.out 7).trans rfl; have hcz41_8 : w39.cell? ⟨gb102, 8, none⟩ = some (.bool a1_8) := (blk_cell BK102.out 8).trans rfl; have hcz41_9 : w39.cell? ⟨gb102, 9, none⟩ = some (.int .i64 a1_9) := (blk_cell BK102.out 9).trans rfl; have hcz41_10 : w39.cell? ⟨gb102, 10, none⟩ = some (.bool a1_10) := (blk_cell BK102.out 10).trans rfl; have hfz41_0 := blk_frozen BK102.out 0; have hfz41_1 := blk_frozen BK102.out 1; have hfz41_2 := blk_frozen BK102.out 2; have hfz41_3 := blk_frozen BK102.out 3; have hfz41_4 := blk_frozen BK102.out 4; have hfz41_5 := blk_frozen BK102.out 5; have hfz41_6 := blk_frozen BK102.out 6; have hfz41_7 := blk_frozen BK102.out 7; have hfz41_8 := blk_frozen BK102.out 8; have hfz41_9 := blk_frozen BK102.out 9; have hfz41_10 := blk_frozen BK102.out 10))
       go_ret
       exact ⟨z674d, zcb41⟩
   · replace c6 := Bool.eq_false_iff.mpr c6
     subst c6
     have H1 : (some false) = some r := by rw [if_neg (show ¬ (false = true) by decide)] at H; exact H
     clear H
     have H := H1
     clear H1
     obtain rfl := Option.some.inj H
     go_enter Tryd.func90, Tryd.ntmps90
     go_wp2_with (first | ((with_reducible refine gate_dst (N := 2) rfl ?_); refine box_event ?hg (N := 2) ?hd (cs := #[.string a0_0, .slice A0_1 l0_1.length c0_1, .int .i64 a0_2, .int .i64 a0_3, .int .i64 a0_4, .int .i64 a0_5, .int .i64 a0_6, .slice A0_7 l0_7.length c0_7, .bool a0_8, .int .i64 a0_9, .bool a0_10]) (t := 97) ?hr ?_; (case hd => rfl); (case hg => rfl); (case hr => first | (go_simp; done) | (go_simp; rfl)); intro gb101 hg w42 hbox hb; have _ := aM (below_step hbZ hb); have _ := aM hbox; have _ := szZ hg; have _ := szZ hg; clear HB; rename_i HB BK101 GW101 GE101; clear hb hbox hg) | ((with_reducible refine gate_dst (N := 3) rfl ?_); refine box_event ?hg (N := 3) ?hd (cs := #[.string a1_0, .slice A1_1 l1_1.length c1_1, .int .i64 a1_2, .int .i64 a1_3, .int .i64 a1_4, .int .i64 a1_5, .int .i64 a1_6, .slice A1_7 l1_7.length c1_7, .bool a1_8, .int .i64 a1_9, .bool a1_10]) (t := 97) ?hr ?_; (case hd => rfl); (case hg => rfl); (case hr => first | (go_simp; done) | (go_simp; rfl)); intro gb102 hg w43 hbox hb; have _ := bB gb101 hb; have _ := aM (below_step hbZ hb); have _ := aM hbox; have _ := szZ hg; have _ := szZ hg; have ⟨_, _⟩ := nbB gb101 hg; clear BK101 HB; rename_i BK101 HB BK102 GW102 GE102 NB101_102 NB102_101; clear hb hbox hg; have hnb44 := NB101_102.out; have hnc44 := NB102_101.out; have hcz45_0 : w43.cell? ⟨gb101, 0, none⟩ = some (.string a0_0) := (blk_cell BK101.out 0).trans rfl; have hcz45_1 : w43.cell? ⟨gb101, 1, none⟩ = some (.slice A0_1 l0_1.length c0_1) := (blk_cell BK101.out 1).trans rfl; have hcz45_2 : w43.cell? ⟨gb101, 2, none⟩ = some (.int .i64 a0_2) := (blk_cell BK101.out 2).trans rfl; have hcz45_3 : w43.cell? ⟨gb101, 3, none⟩ = some (.int .i64 a0_3) := (blk_cell BK101.out 3).trans rfl; have hcz45_4 : w43.cell? ⟨gb101, 4, none⟩ = some (.int .i64 a0_4) := (blk_cell BK101.out 4).trans rfl; have hcz45_5 : w43.cell? ⟨gb101, 5, none⟩ = some (.int .i64 a0_5) := (blk_cell BK101.out 5).trans rfl; have hcz45_6 : w43.cell? ⟨gb101, 6, none⟩ = some (.int .i64 a0_6) := (blk_cell BK101.out 6).trans rfl; have hcz45_7 : w43.cell? ⟨gb101, 7, none⟩ = some (.slice A0_7 l0_7.length c0_7) := (blk_cell BK101.out 7).trans rfl; have hcz45_8 : w43.cell? ⟨gb101, 8, none⟩ = some (.bool a0_8) := (blk_cell BK101.out 8).trans rfl; have hcz45_9 : w43.cell? ⟨gb101, 9, none⟩ = some (.int .i64 a0_9) := (blk_cell BK101.out 9).trans rfl; have hcz45_10 : w43.cell? ⟨gb101, 10, none⟩ = some (.bool a0_10) := (blk_cell BK101.out 10).trans rfl; have hfz45_0 := blk_frozen BK101.out 0; have hfz45_1 := blk_frozen BK101.out 1; have hfz45_2 := blk_frozen BK101.out 2; have hfz45_3 := blk_frozen BK101.out 3; have hfz45_4 := blk_frozen BK101.out 4; have hfz45_5 := blk_frozen BK101.out 5; have hfz45_6 := blk_frozen BK101.out 6; have hfz45_7 := blk_frozen BK101.out 7; have hfz45_8 := blk_frozen BK101.out 8; have hfz45_9 := blk_frozen BK101.out 9; have hfz45_10 := blk_frozen BK101.out 10; have hcz46_0 : w43.cell? ⟨gb102, 0, none⟩ = some (.string a1_0) := (blk_cell BK102.out 0).trans rfl; have hcz46_1 : w43.cell? ⟨gb102, 1, none⟩ = some (.slice A1_1 l1_1.length c1_1) := (blk_cell BK102.out 1).trans rfl; have hcz46_2 : w43.cell? ⟨gb102, 2, none⟩ = some (.int .i64 a1_2) := (blk_cell BK102.out 2).trans rfl; have hcz46_3 : w43.cell? ⟨gb102, 3, none⟩ = some (.int .i64 a1_3) := (blk_cell BK102.out 3).trans rfl; have hcz46_4 : w43.cell? ⟨gb102, 4, none⟩ = some (.int .i64 a1_4) := (blk_cell BK102.out 4).trans rfl; have hcz46_5 : w43.cell? ⟨gb102, 5, none⟩ = some (.int .i64 a1_5) := (blk_cell BK102.out 5).trans rfl; have hcz46_6 : w43.cell? ⟨gb102, 6, none⟩ = some (.int .i64 a1_6) := (blk_cell BK102.out 6).trans rfl; have hcz46_7 : w43.cell? ⟨gb102, 7, none⟩ = some (.slice A1_7 l1_7.length c1_7) := (blk_cell BK102.out 7).trans rfl; have hcz46_8 : w43.cell? ⟨gb102, 8, none⟩ = some (.bool a1_8) := (blk_cell BK102.out 8).trans rfl; have hcz46_9 : w43.cell? ⟨gb102, 9, none⟩ = some (.int .i64 a1_9) := (blk_cell BK102.out 9).trans rfl; have hcz46_10 : w43.cell? ⟨gb102, 10, none⟩ = some (.bool a1_10) := (blk_cell BK102.out 10).trans rfl; have hfz46_0 := blk_frozen BK102.out 0; have hfz46_1 := blk_frozen BK102.out 1; have hfz46_2 := blk_frozen BK102.out 2; have hfz46_3 := blk_frozen BK102.out 3; have hfz46_4 := blk_frozen BK102.out 4; have hfz46_5 := blk_frozen BK102.out 5; have hfz46_6 := blk_frozen BK102.out 6; have hfz46_7 := blk_frozen BK102.out 7; have hfz46_8 := blk_frozen BK102.out 8; have hfz46_9 := blk_frozen BK102.out 9; have hfz46_10 := blk_frozen BK102.out 10) | ((with_reducible refine gate_callee (f := 17) rfl ?_); refine goesL_ (some 9) rfl rfl Tryd.func17 (by kernel_rfl) rfl #[.agg #[.string a0_0, .slice A0_1 l0_1.length c0_1, .int .i64 a0_2], .agg #[.string a1_0, .slice A1_1 l1_1.length c1_1, .int .i64 a1_2]] rfl zee81 ?_; (with_reducible refine (laws_eqKey.calls k a0_0 _ _ l0_1 a0_2 a1_0 _ _ l1_1 a1_2 true _ ?side1 ?side2 ?side3 ?side4 A3.out).mono ?_); (case side1 => exact (cZ (Kd.C_below HR0_1.out HB.out))); (case side2 => exact HC0_1.out); (case side3 => exact (cZ (Kd.C_below HR1_1.out HB.out))); (case side4 => exact HC1_1.out); rintro e w47 ⟨rfl, hb⟩; refine ⟨_, rfl, ?_⟩; have _ := bB gb101 hb; have _ := bB gb102 hb; have _ := aM (below_step hbZ hb); clear BK101 BK102 HB; rename_i BK101 BK102 HB; (try clear hb); have hcz48_0 : w47.cell? ⟨gb101, 0, none⟩ = some (.string a0_0) := (blk_cell BK101.out 0).trans rfl; have hcz48_1 : w47.cell? ⟨gb101, 1, none⟩ = some (.slice A0_1 l0_1.length c0_1) := (blk_cell BK101.out 1).trans rfl; have hcz48_2 : w47.cell? ⟨gb101, 2, none⟩ = some (.int .i64 a0_2) := (blk_cell BK101.out 2).trans rfl; have hcz48_3 : w47.cell? ⟨gb101, 3, none⟩ = some (.int .i64 a0_3) := (blk_cell BK101.out 3).trans rfl; have hcz48_4 : w47.cell? ⟨gb101, 4, none⟩ = some (.int .i64 a0_4) := (blk_cell BK101.out 4).trans rfl; have hcz48_5 : w47.cell? ⟨gb101, 5, none⟩ = some (.int .i64 a0_5) := (blk_cell BK101.out 5).trans rfl; have hcz48_6 : w47.cell? ⟨gb101, 6, none⟩ = some (.int .i64 a0_6) := (blk_cell BK101.out 6).trans rfl; have hcz48_7 : w47.cell? ⟨gb101, 7, none⟩ = some (.slice A0_7 l0_7.length c0_7) := (blk_cell BK101.out 7).trans rfl; have hcz48_8 : w47.cell? ⟨gb101, 8, none⟩ = some (.bool a0_8) := (blk_cell BK101.out 8).trans rfl; have hcz48_9 : w47.cell? ⟨gb101, 9, none⟩ = some (.int .i64 a0_9) := (blk_cell BK101.out 9).trans rfl; have hcz48_10 : w47.cell? ⟨gb101, 10, none⟩ = some (.bool a0_10) := (blk_cell BK101.out 10).trans rfl; have hfz48_0 := blk_frozen BK101.out 0; have hfz48_1 := blk_frozen BK101.out 1; have hfz48_2 := blk_frozen BK101.out 2; have hfz48_3 := blk_frozen BK101.out 3; have hfz48_4 := blk_frozen BK101.out 4; have hfz48_5 := blk_frozen BK101.out 5; have hfz48_6 := blk_frozen BK101.out 6; have hfz48_7 := blk_frozen BK101.out 7; have hfz48_8 := blk_frozen BK101.out 8; have hfz48_9 := blk_frozen BK101.out 9; have hfz48_10 := blk_frozen BK101.out 10; have hcz49_0 : w47.cell? ⟨gb102, 0, none⟩ = some (.string a1_0) := (blk_cell BK102.out 0).trans rfl; have hcz49_1 : w47.cell? ⟨gb102, 1, none⟩ = some (.slice A1_1 l1_1.length c1_1) := (blk_cell BK102.out 1).trans rfl; have hcz49_2 : w47.cell? ⟨gb102, 2, none⟩ = some (.int .i64 a1_2) := (blk_cell BK102.out 2).trans rfl; have hcz49_3 : w47.cell? ⟨gb102, 3, none⟩ = some (.int .i64 a1_3) := (blk_cell BK102.out 3).trans rfl; have hcz49_4 : w47.cell? ⟨gb102, 4, none⟩ = some (.int .i64 a1_4) := (blk_cell BK102.out 4).trans rfl; have hcz49_5 : w47.cell? ⟨gb102, 5, none⟩ = some (.int .i64 a1_5) := (blk_cell BK102.out 5).trans rfl; have hcz49_6 : w47.cell? ⟨gb102, 6, none⟩ = some (.int .i64 a1_6) := (blk_cell BK102.out 6).trans rfl; have hcz49_7 : w47.cell? ⟨gb102, 7, none⟩ = some (.slice A1_7 l1_7.length c1_7) := (blk_cell BK102.out 7).trans rfl; have hcz49_8 : w47.cell? ⟨gb102, 8, none⟩ = some (.bool a1_8) := (blk_cell BK102.out 8).trans rfl; have hcz49_9 : w47.cell? ⟨gb102, 9, none⟩ = some (.int .i64 a1_9) := (blk_cell BK102.out 9).trans rfl; have hcz49_10 : w47.cell? ⟨gb102, 10, none⟩ = some (.bool a1_10) := (blk_cell BK102.out 10).trans rfl; have hfz49_0 := blk_frozen BK102.out 0; have hfz49_1 := blk_frozen BK102.out 1; have hfz49_2 := blk_frozen BK102.out 2; have hfz49_3 := blk_frozen BK102.out 3; have hfz49_4 := blk_frozen BK102.out 4; have hfz49_5 := blk_frozen BK102.out 5; have hfz49_6 := blk_frozen BK102.out 6; have hfz49_7 := blk_frozen BK102.out 7; have hfz49_8 := blk_frozen BK102.out 8; have hfz49_9 := blk_frozen BK102.out 9; have hfz49_10 := blk_frozen BK102.out 10) | ((with_reducible refine gate_callee (f := 105) rfl ?_); refine goesL_ (some 15) rfl rfl Tryd.func105 (by kernel_rfl) rfl #[.agg #[.int .i64 a0_3, .int .i64 a0_4, .int .i64 a0_5, .int .i64 a0_6, .slice A0_7 l0_7.length c0_7, .bool a0_8], .agg #[.int .i64 a1_3, .int .i64 a1_4, .int .i64 a1_5, .int .i64 a1_6, .slice A1_7 l1_7.length c1_7, .bool a1_8]] rfl zee81 ?_; (with_reducible refine (laws_eqAgg.calls k a0_3 a0_4 a0_5 a0_6 _ _ l0_7 a0_8 a1_3 a1_4 a1_5 a1_6 _ _ l1_7 a1_8 false _ ?side1 ?side2 ?side3 ?side4 A5.out).mono ?_); (case side1 => exact (cZ (Kd.C_below HR0_7.out HB.out))); (case side2 => exact HC0_7.out); (case side3 => exact (cZ (Kd.C_below HR1_7.out HB.out))); (case side4 => exact HC1_7.out); rintro e w50 ⟨rfl, hb⟩; refine ⟨_, rfl, ?_⟩; have _ := bB gb101 hb; have _ := bB gb102 hb; have _ := aM (below_step hbZ hb); clear BK101 BK102 HB; rename_i BK101 BK102 HB; (try clear hb)))
     go_ret
     exact ⟨z674d, zcb41⟩
 · replace c4 := Bool.eq_false_iff.mpr c4
   subst c4
   have H1 : (some false) = some r := by rw [if_neg (show ¬ (false = true) by decide)] at H; exact H
   clear H
   have H := H1
   clear H1
   obtain rfl := Option.some.inj H
   go_enter Tryd.func90, Tryd.ntmps90
   go_wp2_with (first | ((with_reducible refine gate_dst (N := 2) rfl ?_); refine box_event ?hg (N := 2) ?hd (cs := #[.string a0_0, .slice A0_1 l0_1.length c0_1, .int .i64 a0_2, .int .i64 a0_3, .int .i64 a0_4, .int .i64 a0_5, .int .i64 a0_6, .slice A0_7 l0_7.length c0_7, .bool a0_8, .int .i64 a0_9, .bool a0_10]) (t := 97) ?hr ?_; (case hd => rfl); (case hg => rfl); (case hr => first | (go_simp; done) | (go_simp; rfl)); intro gb101 hg w51 hbox hb; have _ := aM (below_step hbZ hb); have _ := aM hbox; have _ := szZ hg; have _ := szZ hg; clear HB; rename_i HB BK101 GW101 GE101; clear hb hbox hg) | ((with_reducible refine gate_dst (N := 3) rfl ?_); refine box_event ?hg (N := 3) ?hd (cs := #[.string a1_0, .slice A1_1 l1_1.length c1_1, .int .i64 a1_2, .int .i64 a1_3, .int .i64 a1_4, .int .i64 a1_5, .int .i64 a1_6, .slice A1_7 l1_7.length c1_7, .bool a1_8, .int .i64 a1_9, .bool a1_10]) (t := 97) ?hr ?_; (case hd => rfl); (case hg => rfl); (case hr => first | (go_simp; done) | (go_simp; rfl)); intro gb102 hg w52 hbox hb; have _ := bB gb101 hb; have _ := aM (below_step hbZ hb); have _ := aM hbox; have _ := szZ hg; have _ := szZ hg; have ⟨_, _⟩ := nbB gb101 hg; clear BK101 HB; rename_i BK101 HB BK102 GW102 GE102 NB101_102 NB102_101; clear hb hbox hg; have hnb53 := NB101_102.out; have hnc53 := NB102_101.out; have hcz54_0 : w52.cell? ⟨gb101, 0, none⟩ = some (.string a0_0) := (blk_cell BK101.out 0).trans rfl; have hcz54_1 : w52.cell? ⟨gb101, 1, none⟩ = some (.slice A0_1 l0_1.length c0_1) := (blk_cell BK101.out 1).trans rfl; have hcz54_2 : w52.cell? ⟨gb101, 2, none⟩ = some (.int .i64 a0_2) := (blk_cell BK101.out 2).trans rfl; have hcz54_3 : w52.cell? ⟨gb101, 3, none⟩ = some (.int .i64 a0_3) := (blk_cell BK101.out 3).trans rfl; have hcz54_4 : w52.cell? ⟨gb101, 4, none⟩ = some (.int .i64 a0_4) := (blk_cell BK101.out 4).trans rfl; have hcz54_5 : w52.cell? ⟨gb101, 5, none⟩ = some (.int .i64 a0_5) := (blk_cell BK101.out 5).trans rfl; have hcz54_6 : w52.cell? ⟨gb101, 6, none⟩ = some (.int .i64 a0_6) := (blk_cell BK101.out 6).trans rfl; have hcz54_7 : w52.cell? ⟨gb101, 7, none⟩ = some (.slice A0_7 l0_7.length c0_7) := (blk_cell BK101.out 7).trans rfl; have hcz54_8 : w52.cell? ⟨gb101, 8, none⟩ = some (.bool a0_8) := (blk_cell BK101.out 8).trans rfl; have hcz54_9 : w52.cell? ⟨gb101, 9, none⟩ = some (.int .i64 a0_9) := (blk_cell BK101.out 9).trans rfl; have hcz54_10 : w52.cell? ⟨gb101, 10, none⟩ = some (.bool a0_10) := (blk_cell BK101.out 10).trans rfl; have hfz54_0 := blk_frozen BK101.out 0; have hfz54_1 := blk_frozen BK101.out 1; have hfz54_2 := blk_frozen BK101.out 2; have hfz54_3 := blk_frozen BK101.out 3; have hfz54_4 := blk_frozen BK101.out 4; have hfz54_5 := blk_frozen BK101.out 5; have hfz54_6 := blk_frozen BK101.out 6; have hfz54_7 := blk_frozen BK101.out 7; have hfz54_8 := blk_frozen BK101.out 8; have hfz54_9 := blk_frozen BK101.out 9; have hfz54_10 := blk_frozen BK101.out 10; have hcz55_0 : w52.cell? ⟨gb102, 0, none⟩ = some (.string a1_0) := (blk_cell BK102.out 0).trans rfl; have hcz55_1 : w52.cell? ⟨gb102, 1, none⟩ = some (.slice A1_1 l1_1.length c1_1) := (blk_cell BK102.out 1).trans rfl; have hcz55_2 : w52.cell? ⟨gb102, 2, none⟩ = some (.int .i64 a1_2) := (blk_cell BK102.out 2).trans rfl; have hcz55_3 : w52.cell? ⟨gb102, 3, none⟩ = some (.int .i64 a1_3) := (blk_cell BK102.out 3).trans rfl; have hcz55_4 : w52.cell? ⟨gb102, 4, none⟩ = some (.int .i64 a1_4) := (blk_cell BK102.out 4).trans rfl; have hcz55_5 : w52.cell? ⟨gb102, 5, none⟩ = some (.int .i64 a1_5) := (blk_cell BK102.out 5).trans rfl; have hcz55_6 : w52.cell? ⟨gb102, 6, none⟩ = some (.int .i64 a1_6) := (blk_cell BK102.out 6).trans rfl; have hcz55_7 : w52.cell? ⟨gb102, 7, none⟩ = some (.slice A1_7 l1_7.length c1_7) := (blk_cell BK102.out 7).trans rfl; have hcz55_8 : w52.cell? ⟨gb102, 8, none⟩ = some (.bool a1_8) := (blk_cell BK102.out 8).trans rfl; have hcz55_9 : w52.cell? ⟨gb102, 9, none⟩ = some (.int .i64 a1_9) := (blk_cell BK102.out 9).trans rfl; have hcz55_10 : w52.cell? ⟨gb102, 10, none⟩ = some (.bool a1_10) := (blk_cell BK102.out 10).trans rfl; have hfz55_0 := blk_frozen BK102.out 0; have hfz55_1 := blk_frozen BK102.out 1; have hfz55_2 := blk_frozen BK102.out 2; have hfz55_3 := blk_frozen BK102.out 3; have hfz55_4 := blk_frozen BK102.out 4; have hfz55_5 := blk_frozen BK102.out 5; have hfz55_6 := blk_frozen BK102.out 6; have hfz55_7 := blk_frozen BK102.out 7; have hfz55_8 := blk_frozen BK102.out 8; have hfz55_9 := blk_frozen BK102.out 9; have hfz55_10 := blk_frozen BK102.out 10) | ((with_reducible refine gate_callee (f := 17) rfl ?_); refine goesL_ (some 9) rfl rfl Tryd.func17 (by kernel_rfl) rfl #[.agg #[.string a0_0, .slice A0_1 l0_1.length c0_1, .int .i64 a0_2], .agg #[.string a1_0, .slice A1_1 l1_1.length c1_1, .int .i64 a1_2]] rfl zee81 ?_; (with_reducible refine (laws_eqKey.calls k a0_0 _ _ l0_1 a0_2 a1_0 _ _ l1_1 a1_2 false _ ?side1 ?side2 ?side3 ?side4 A3.out).mono ?_); (case side1 => exact (cZ (Kd.C_below HR0_1.out HB.out))); (case side2 => exact HC0_1.out); (case side3 => exact (cZ (Kd.C_below HR1_1.out HB.out))); (case side4 => exact HC1_1.out); rintro e w56 ⟨rfl, hb⟩; refine ⟨_, rfl, ?_⟩; have _ := bB gb101 hb; have _ := bB gb102 hb; have _ := aM (below_step hbZ hb); clear BK101 BK102 HB; rename_i BK101 BK102 HB; (try clear hb)))
   go_ret
   exact ⟨z674d, zcb41⟩

end Go.Proofs.YteogadaloebdaaaDoor.P
