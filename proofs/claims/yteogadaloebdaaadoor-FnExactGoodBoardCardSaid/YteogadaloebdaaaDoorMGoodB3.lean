/- Part 3 of the walks and words that GoodB uses. No conditions of its own. -/
import Derived.Shelf.Strings.SlTrimAscii
import Derived.Shelf.Strings.Trim
import Derived.Shelf.Small.Utf8
import Derived.Shelf.Small.Strs
import Derived.Shelf.Strings.Search1
import Derived.Shelf.Strings.Runes
import Derived.Shelf.Strings.AsciiSet
import Derived.Shelf.Unicode.DecodeSlow
import Derived.Test.YteogadaloebdaaaDoorProg
import Derived.Lib.SlTrimSet
import Derived.Test.YteogadaloebdaaaDoorMGoodB2

-- written by a program of this session's (wip/pp)
namespace Go.Proofs.YteogadaloebdaaaDoor.P
open Go.RowKit Go.Proofs.YteogadaloebdaaaDoorW.PrintWords Go.Proofs.YteogadaloebdaaaDoorW.PrintLast Go.Proofs.YteogadaloebdaaaDoorW.PrintMore
attribute [local go_sem] max2_int min2_int max_two min_two max_three min_three max_four min_four str_geq str_gtr str_leq   -- for this text's walks alone
set_option linter.unusedVariables false
set_option linter.unusedSimpArgs false

/-! ### spec_GoodBoard: function 24 -/
mutual
def spec_GoodBoard.j0 : Nat → Bool → Int → Int → Int → List (S97) → Option (Bool)
 | 0, _, _, _, _, _ => none
 | k + 1, x26, x102000, x102001, x102002, x102003 => if x26 = true then (some false) else (spec_GoodBoard.l0 k x102003 (x102003.length : Int) 0 x102000 x102001 x102002 x102003)
def spec_GoodBoard.l0 : Nat → List (S97) → Int → Int → Int → Int → Int → List (S97) → Option (Bool)
 | 0, _, _, _, _, _, _, _ => none
 | k + 1, x28, x29, x30, x102000, x102001, x102002, x102003 => if x30 < x29 then (if 0 ≤ x30 then (if x30 < (x28.length : Int) then ((spec_GoodKey.f k ((rd_T97 x28 x30).f0.f0) ((rd_T97 x28 x30).f0.f1) ((rd_T97 x28 x30).f0.f2)).bind fun t107 => (if t107 = true then (if x102000 = 0 then (none) else (if (Int.tmod ((rd_T97 x28 x30).f0.f2) x102000) = 0 then ((spec_GoodAgg.f k ((rd_T97 x28 x30).f1.f0) ((rd_T97 x28 x30).f1.f1) ((rd_T97 x28 x30).f1.f2) ((rd_T97 x28 x30).f1.f3) ((rd_T97 x28 x30).f1.f4) ((rd_T97 x28 x30).f1.f5)).bind fun t108 => (if t108 = true then (if ((rd_T97 x28 x30).f1.f0) = 0 then (spec_GoodBoard.j2 k x30 x28 x29 x30 true x102000 x102001 x102002 x102003 ((rd_T97 x28 x30).f0.f0) ((rd_T97 x28 x30).f0.f1) ((rd_T97 x28 x30).f0.f2) ((rd_T97 x28 x30).f1.f0) ((rd_T97 x28 x30).f1.f1) ((rd_T97 x28 x30).f1.f2) ((rd_T97 x28 x30).f1.f3) ((rd_T97 x28 x30).f1.f4) ((rd_T97 x28 x30).f1.f5) ((rd_T97 x28 x30).f2) ((rd_T97 x28 x30).f3)) else ((spec_l1In.f ((rd_T97 x28 x30).f2) 0 1000000).bind fun t109 => (if t109 = true then (if ((rd_T97 x28 x30).f2) = 0 then (spec_GoodBoard.j2 k x30 x28 x29 x30 (!((rd_T97 x28 x30).f3)) x102000 x102001 x102002 x102003 ((rd_T97 x28 x30).f0.f0) ((rd_T97 x28 x30).f0.f1) ((rd_T97 x28 x30).f0.f2) ((rd_T97 x28 x30).f1.f0) ((rd_T97 x28 x30).f1.f1) ((rd_T97 x28 x30).f1.f2) ((rd_T97 x28 x30).f1.f3) ((rd_T97 x28 x30).f1.f4) ((rd_T97 x28 x30).f1.f5) ((rd_T97 x28 x30).f2) ((rd_T97 x28 x30).f3)) else (spec_GoodBoard.j2 k x30 x28 x29 x30 false x102000 x102001 x102002 x102003 ((rd_T97 x28 x30).f0.f0) ((rd_T97 x28 x30).f0.f1) ((rd_T97 x28 x30).f0.f2) ((rd_T97 x28 x30).f1.f0) ((rd_T97 x28 x30).f1.f1) ((rd_T97 x28 x30).f1.f2) ((rd_T97 x28 x30).f1.f3) ((rd_T97 x28 x30).f1.f4) ((rd_T97 x28 x30).f1.f5) ((rd_T97 x28 x30).f2) ((rd_T97 x28 x30).f3))) else (spec_GoodBoard.j2 k x30 x28 x29 x30 true x102000 x102001 x102002 x102003 ((rd_T97 x28 x30).f0.f0) ((rd_T97 x28 x30).f0.f1) ((rd_T97 x28 x30).f0.f2) ((rd_T97 x28 x30).f1.f0) ((rd_T97 x28 x30).f1.f1) ((rd_T97 x28 x30).f1.f2) ((rd_T97 x28 x30).f1.f3) ((rd_T97 x28 x30).f1.f4) ((rd_T97 x28 x30).f1.f5) ((rd_T97 x28 x30).f2) ((rd_T97 x28 x30).f3))))) else (spec_GoodBoard.j2 k x30 x28 x29 x30 true x102000 x102001 x102002 x102003 ((rd_T97 x28 x30).f0.f0) ((rd_T97 x28 x30).f0.f1) ((rd_T97 x28 x30).f0.f2) ((rd_T97 x28 x30).f1.f0) ((rd_T97 x28 x30).f1.f1) ((rd_T97 x28 x30).f1.f2) ((rd_T97 x28 x30).f1.f3) ((rd_T97 x28 x30).f1.f4) ((rd_T97 x28 x30).f1.f5) ((rd_T97 x28 x30).f2) ((rd_T97 x28 x30).f3)))) else (spec_GoodBoard.j2 k x30 x28 x29 x30 true x102000 x102001 x102002 x102003 ((rd_T97 x28 x30).f0.f0) ((rd_T97 x28 x30).f0.f1) ((rd_T97 x28 x30).f0.f2) ((rd_T97 x28 x30).f1.f0) ((rd_T97 x28 x30).f1.f1) ((rd_T97 x28 x30).f1.f2) ((rd_T97 x28 x30).f1.f3) ((rd_T97 x28 x30).f1.f4) ((rd_T97 x28 x30).f1.f5) ((rd_T97 x28 x30).f2) ((rd_T97 x28 x30).f3)))) else (spec_GoodBoard.j2 k x30 x28 x29 x30 true x102000 x102001 x102002 x102003 ((rd_T97 x28 x30).f0.f0) ((rd_T97 x28 x30).f0.f1) ((rd_T97 x28 x30).f0.f2) ((rd_T97 x28 x30).f1.f0) ((rd_T97 x28 x30).f1.f1) ((rd_T97 x28 x30).f1.f2) ((rd_T97 x28 x30).f1.f3) ((rd_T97 x28 x30).f1.f4) ((rd_T97 x28 x30).f1.f5) ((rd_T97 x28 x30).f2) ((rd_T97 x28 x30).f3)))) else (none)) else (none)) else (some true)
def spec_GoodBoard.j2 : Nat → Int → List (S97) → Int → Int → Bool → Int → Int → Int → List (S97) → ByteArray → List (S69) → Int → Int → Int → Int → Int → List Int → Bool → Int → Bool → Option (Bool)
 | 0, _, _, _, _, _, _, _, _, _, _, _, _, _, _, _, _, _, _, _, _ => none
 | k + 1, x3, x28, x29, x30, x75, x102000, x102001, x102002, x102003, x107000, x107001, x107002, x107003, x107004, x107005, x107006, x107007, x107008, x107009, x107010 => if x75 = true then (some false) else (if x3 > 0 then (if 0 ≤ (wrap64 (x3 - 1)) then (if (wrap64 (x3 - 1)) < (x102003.length : Int) then ((spec_l1Compare.f k ((rd_T97 x102003 (wrap64 (x3 - 1))).f0.f0) ((rd_T97 x102003 (wrap64 (x3 - 1))).f0.f1) ((rd_T97 x102003 (wrap64 (x3 - 1))).f0.f2) x107000 x107001 x107002).bind fun t111 => (if t111 ≥ 0 then (some false) else (spec_GoodBoard.l0 k x28 x29 (wrap64 (x30 + 1)) x102000 x102001 x102002 x102003))) else (none)) else (none)) else (spec_GoodBoard.l0 k x28 x29 (wrap64 (x30 + 1)) x102000 x102001 x102002 x102003))
end
def spec_GoodBoard.f (k : Nat) (a0_0 : Int) (a0_1 : Int) (a0_2 : Int) (l0_3 : List (S97)) : Option (Bool) := (spec_l1In.f a0_0 1 100000).bind fun t102 => (if t102 = true then ((spec_l1In.f a0_1 0 1000000).bind fun t103 => (if t103 = true then ((spec_l11Time.f a0_2).bind fun t104 => (if t104 = true then (spec_GoodBoard.j0 k (decide ((l0_3.length : Int) > 40)) a0_0 a0_1 a0_2 l0_3) else (spec_GoodBoard.j0 k true a0_0 a0_1 a0_2 l0_3))) else (spec_GoodBoard.j0 k true a0_0 a0_1 a0_2 l0_3))) else (spec_GoodBoard.j0 k true a0_0 a0_1 a0_2 l0_3))
theorem spec_GoodBoard.mono_l : ∀ k, (∀ y0 y1 y2 y3 y4, LeO (spec_GoodBoard.j0 k y0 y1 y2 y3 y4) (spec_GoodBoard.j0 (k + 1) y0 y1 y2 y3 y4)) ∧ (∀ y0 y1 y2 y3 y4 y5 y6, LeO (spec_GoodBoard.l0 k y0 y1 y2 y3 y4 y5 y6) (spec_GoodBoard.l0 (k + 1) y0 y1 y2 y3 y4 y5 y6)) ∧ (∀ y0 y1 y2 y3 y4 y5 y6 y7 y8 y9 y10 y11 y12 y13 y14 y15 y16 y17 y18 y19, LeO (spec_GoodBoard.j2 k y0 y1 y2 y3 y4 y5 y6 y7 y8 y9 y10 y11 y12 y13 y14 y15 y16 y17 y18 y19) (spec_GoodBoard.j2 (k + 1) y0 y1 y2 y3 y4 y5 y6 y7 y8 y9 y10 y11 y12 y13 y14 y15 y16 y17 y18 y19))
 | 0 => ⟨fun _ _ _ _ _ r h => by simp [spec_GoodBoard.j0] at h, fun _ _ _ _ _ _ _ r h => by simp [spec_GoodBoard.l0] at h, fun _ _ _ _ _ _ _ _ _ _ _ _ _ _ _ _ _ _ _ _ r h => by simp [spec_GoodBoard.j2] at h⟩
 | k + 1 => by
  obtain ⟨ih0, ih1, ih2⟩ := spec_GoodBoard.mono_l k
  refine ⟨?_, ?_, ?_⟩
  · intro y0 y1 y2 y3 y4
    unfold spec_GoodBoard.j0
    repeat' first
     | (with_reducible first | exact ih0 .. | exact ih1 .. | exact ih2 .. | exact spec_GoodAgg.mono .. | exact spec_GoodKey.mono .. | exact spec_l1Compare.mono .. | exact LeO.refl _ | exact LeO.none _ | refine LeO.ite ?_ ?_ | refine LeO.bind ?_ (fun _ => ?_))
     | exact LeO.none _
     | refine LeO.ite ?_ ?_
     | refine LeO.bind ?_ (fun _ => ?_)
  · intro y0 y1 y2 y3 y4 y5 y6
    unfold spec_GoodBoard.l0
    repeat' first
     | (with_reducible first | exact ih0 .. | exact ih1 .. | exact ih2 .. | exact spec_GoodAgg.mono .. | exact spec_GoodKey.mono .. | exact spec_l1Compare.mono .. | exact LeO.refl _ | exact LeO.none _ | refine LeO.ite ?_ ?_ | refine LeO.bind ?_ (fun _ => ?_))
     | exact LeO.none _
     | refine LeO.ite ?_ ?_
     | refine LeO.bind ?_ (fun _ => ?_)
  · intro y0 y1 y2 y3 y4 y5 y6 y7 y8 y9 y10 y11 y12 y13 y14 y15 y16 y17 y18 y19
    unfold spec_GoodBoard.j2
    repeat' first
     | (with_reducible first | exact ih0 .. | exact ih1 .. | exact ih2 .. | exact spec_GoodAgg.mono .. | exact spec_GoodKey.mono .. | exact spec_l1Compare.mono .. | exact LeO.refl _ | exact LeO.none _ | refine LeO.ite ?_ ?_ | refine LeO.bind ?_ (fun _ => ?_))
     | exact LeO.none _
     | refine LeO.ite ?_ ?_
     | refine LeO.bind ?_ (fun _ => ?_)
theorem spec_GoodBoard.mono : ∀ a0 a1 a2 a3 k, LeO (spec_GoodBoard.f k a0 a1 a2 a3) (spec_GoodBoard.f (k + 1) a0 a1 a2 a3) := by
 intro a0 a1 a2 a3 k
 obtain ⟨ih0, ih1, ih2⟩ := spec_GoodBoard.mono_l k
 unfold spec_GoodBoard.f
 repeat' first
  | (with_reducible first | exact ih0 .. | exact ih1 .. | exact ih2 .. | exact spec_GoodAgg.mono .. | exact spec_GoodKey.mono .. | exact spec_l1Compare.mono .. | exact LeO.refl _ | exact LeO.none _ | refine LeO.ite ?_ ?_ | refine LeO.bind ?_ (fun _ => ?_))
  | exact LeO.none _
  | refine LeO.ite ?_ ?_
  | refine LeO.bind ?_ (fun _ => ?_)
def spec_GoodBoard.T8 : Bool × List (List Nat × List Nat) := (true, [([], []), ([0], [0]), ([1], [1]), ([2], [2]), ([3, 2], [2, 3]), ([2], [2]), ([5, 2], [2, 5]), ([4, 6, 2], [2, 4, 6]), ([7, 2], [2, 7]), ([8, 2], [2, 8]), ([2], [2]), ([10, 2], [2, 10]), ([9, 11, 2, 2], [2, 9, 11]), ([12, 2], [2, 12]), ([2, 13], [2, 13])])
def spec_GoodBoard.B8 : List Nat := [0, 1, 3, 7, 15, 7, 39, 127, 255, 511, 7, 1031, 4095, 8191, 16383]
theorem spec_GoodBoard.tab8 : rtab .any (opsOf Tryd.f24 8) = spec_GoodBoard.T8 := by kernel_rfl
theorem spec_GoodBoard.bits8 : waitsOk spec_GoodBoard.T8.2 spec_GoodBoard.B8 = true := by kernel_rfl
set_option maxHeartbeats 8000000 in
set_option maxRecDepth 100000 in
theorem spec_GoodBoard.calls (k : Nat) (a0_0 : Int) (a0_1 : Int) (a0_2 : Int) (A0_3 : Option Addr) (c0_3 : Nat) (l0_3 : List (S97)) (r : Bool) (w : World) (hr0_3 : Kd.C k97 w A0_3 l0_3.length l0_3) (hc0_3 : l0_3.length ≤ c0_3) (h : spec_GoodBoard.f k a0_0 a0_1 a0_2 l0_3 = some r) :
 Calls Tryd.prog 24 #[.agg #[.int .i64 a0_0, .int .i64 a0_1, .int .i64 a0_2, .slice A0_3 l0_3.length c0_3]] w fun e w' => e = .returned (.bool r) ∧ Below w.heap.size w w' := by
 have hu55 := Tryd.underlying55
 have hu97 := Tryd.underlying97
 have hu25 := Tryd.underlying25
 have hu95 := Tryd.underlying95
 have HR0_3 := aM hr0_3
 have HC0_3 := aM hc0_3
 clear hr0_3 hc0_3
 have HB := aM (Below.refl w.heap.size w)
 have H : ((spec_l1In.f a0_0 1 100000).bind fun t102 => (if t102 = true then ((spec_l1In.f a0_1 0 1000000).bind fun t103 => (if t103 = true then ((spec_l11Time.f a0_2).bind fun t104 => (if t104 = true then (spec_GoodBoard.j0 k (decide ((l0_3.length : Int) > 40)) a0_0 a0_1 a0_2 l0_3) else (spec_GoodBoard.j0 k true a0_0 a0_1 a0_2 l0_3))) else (spec_GoodBoard.j0 k true a0_0 a0_1 a0_2 l0_3))) else (spec_GoodBoard.j0 k true a0_0 a0_1 a0_2 l0_3))) = some r := h
 clear h
 have HC2 := aM H
 clear H
 go_enter Tryd.func24, Tryd.ntmps24
 go_upto_region 1 with (first | ((with_reducible refine gate_dst (N := 1) rfl ?_); (try (refine gate_guard (by rfl) ?_; dsimp only)); refine box_event ?hg (N := 1) ?hd (cs := #[.int .i64 a0_0, .int .i64 a0_1, .int .i64 a0_2, .slice A0_3 l0_3.length c0_3]) (t := 55) ?hr ?_; (case hd => rfl); (case hg => rfl); (case hr => first | (go_simp; done) | (go_simp; rfl)); intro gb101 hg w3 hbox hb; have _ := aM (below_step hbZ hb); have _ := aM hbox; have _ := szZ hg; have _ := szZ hg; clear HB; rename_i HB BK101 GW101 GE101; clear hb hbox hg))
 (try simp only [Act.put, List.setIfInBounds_toArray, List.set_cons_zero, List.set_cons_succ])
 go_cut [26] (fun v26 wc => ∃ (kq : Nat) (x26_1 : Bool), v26 = .bool x26_1 ∧ Aside0 (spec_GoodBoard.j0 kq x26_1 a0_0 a0_1 a0_2 l0_3 = some r) ∧ Aside0 (kq ≤ k) ∧ Aside0 (wc.heap[gb101]? = some (.cells #[.int .i64 a0_0, .int .i64 a0_1, .int .i64 a0_2, (.slice A0_3 l0_3.length c0_3)] 55 (0, 0))) ∧ Aside0 (Below w.heap.size w wc))
 case first =>
  have H := HC2.out
  clear HC2
  replace H := Option.bind_eq_some_iff.mp H
  obtain ⟨t102, A40, H⟩ := H
  try dsimp only at H
  have A4 := aM A40
  clear A40
  by_cases c5 : t102 = true
  · subst c5
    have H1 : ((spec_l1In.f a0_1 0 1000000).bind fun t103 => (if t103 = true then ((spec_l11Time.f a0_2).bind fun t104 => (if t104 = true then (spec_GoodBoard.j0 k (decide ((l0_3.length : Int) > 40)) a0_0 a0_1 a0_2 l0_3) else (spec_GoodBoard.j0 k true a0_0 a0_1 a0_2 l0_3))) else (spec_GoodBoard.j0 k true a0_0 a0_1 a0_2 l0_3))) = some r := by rw [if_pos rfl] at H; exact H
    clear H
    have H := H1
    clear H1
    replace H := Option.bind_eq_some_iff.mp H
    obtain ⟨t103, A60, H⟩ := H
    try dsimp only at H
    have A6 := aM A60
    clear A60
    by_cases c7 : t103 = true
    · subst c7
      have H1 : ((spec_l11Time.f a0_2).bind fun t104 => (if t104 = true then (spec_GoodBoard.j0 k (decide ((l0_3.length : Int) > 40)) a0_0 a0_1 a0_2 l0_3) else (spec_GoodBoard.j0 k true a0_0 a0_1 a0_2 l0_3))) = some r := by rw [if_pos rfl] at H; exact H
      clear H
      have H := H1
      clear H1
      replace H := Option.bind_eq_some_iff.mp H
      obtain ⟨t104, A80, H⟩ := H
      try dsimp only at H
      have A8 := aM A80
      clear A80
      by_cases c9 : t104 = true
      · subst c9
        have H1 : (spec_GoodBoard.j0 k (decide ((l0_3.length : Int) > 40)) a0_0 a0_1 a0_2 l0_3) = some r := by rw [if_pos rfl] at H; exact H
        clear H
        have H := H1
        clear H1
        have H' := aM H
        clear H
        obtain ⟨hcz10_0, hcz10_1, hcz10_2, hcz10_3, hfz10_0, hfz10_1, hfz10_2, hfz10_3⟩ := cellsZ4 BK101.out
        go_wp2_with (first | ((with_reducible refine gate_callee (f := 34) rfl ?_); refine goesL_ (some 7) rfl rfl Tryd.func34 (by kernel_rfl) rfl #[.int .i64 a0_0, .int .i64 1, .int .i64 100000] rfl zee81 ?_; (with_reducible refine (spec_l1In.calls a0_0 1 100000 true _ A4.out).mono ?_); rintro e w' ⟨rfl, ⟨nd, rfl⟩⟩; refine ⟨_, rfl, ?_⟩) | (go_at_call 34; (with_reducible refine (spec_l1In.calls a0_1 0 1000000 true _ A6.out).mono ?_); rintro e w' ⟨rfl, ⟨nd, rfl⟩⟩) | (go_at_call 56; (with_reducible refine (spec_l11Time.calls a0_2 true _ A8.out).mono ?_); rintro e w' ⟨rfl, ⟨nd, rfl⟩⟩))
        go_meet
        case rel => exact ⟨_, (decide ((l0_3.length : Int) > 40)), z4458, H', ⟨zb79b⟩, ⟨bkZ⟩, ⟨zcb41⟩⟩
      · replace c9 := Bool.eq_false_iff.mpr c9
        subst c9
        have H1 : (spec_GoodBoard.j0 k true a0_0 a0_1 a0_2 l0_3) = some r := by rw [if_neg (show ¬ (false = true) by decide)] at H; exact H
        clear H
        have H := H1
        clear H1
        have H' := aM H
        clear H
        obtain ⟨hcz11_0, hcz11_1, hcz11_2, hcz11_3, hfz11_0, hfz11_1, hfz11_2, hfz11_3⟩ := cellsZ4 BK101.out
        go_wp2_with (first | ((with_reducible refine gate_callee (f := 34) rfl ?_); refine goesL_ (some 7) rfl rfl Tryd.func34 (by kernel_rfl) rfl #[.int .i64 a0_0, .int .i64 1, .int .i64 100000] rfl zee81 ?_; (with_reducible refine (spec_l1In.calls a0_0 1 100000 true _ A4.out).mono ?_); rintro e w' ⟨rfl, ⟨nd, rfl⟩⟩; refine ⟨_, rfl, ?_⟩) | (go_at_call 34; (with_reducible refine (spec_l1In.calls a0_1 0 1000000 true _ A6.out).mono ?_); rintro e w' ⟨rfl, ⟨nd, rfl⟩⟩) | (go_at_call 56; (with_reducible refine (spec_l11Time.calls a0_2 false _ A8.out).mono ?_); rintro e w' ⟨rfl, ⟨nd, rfl⟩⟩))
        go_meet
        case rel => exact ⟨_, (true), z4458, H', ⟨zb79b⟩, ⟨bkZ⟩, ⟨zcb41⟩⟩
    · replace c7 := Bool.eq_false_iff.mpr c7
      subst c7
      have H1 : (spec_GoodBoard.j0 k true a0_0 a0_1 a0_2 l0_3) = some r := by rw [if_neg (show ¬ (false = true) by decide)] at H; exact H
      clear H
      have H := H1
      clear H1
      have H' := aM H
      clear H
      obtain ⟨hcz12_0, hcz12_1, hcz12_2, hcz12_3, hfz12_0, hfz12_1, hfz12_2, hfz12_3⟩ := cellsZ4 BK101.out
      go_wp2_with (first | ((with_reducible refine gate_callee (f := 34) rfl ?_); refine goesL_ (some 7) rfl rfl Tryd.func34 (by kernel_rfl) rfl #[.int .i64 a0_0, .int .i64 1, .int .i64 100000] rfl zee81 ?_; (with_reducible refine (spec_l1In.calls a0_0 1 100000 true _ A4.out).mono ?_); rintro e w' ⟨rfl, ⟨nd, rfl⟩⟩; refine ⟨_, rfl, ?_⟩) | (go_at_call 34; (with_reducible refine (spec_l1In.calls a0_1 0 1000000 false _ A6.out).mono ?_); rintro e w' ⟨rfl, ⟨nd, rfl⟩⟩))
      go_meet
      case rel => exact ⟨_, (true), z4458, H', ⟨zb79b⟩, ⟨bkZ⟩, ⟨zcb41⟩⟩
  · replace c5 := Bool.eq_false_iff.mpr c5
    subst c5
    have H1 : (spec_GoodBoard.j0 k true a0_0 a0_1 a0_2 l0_3) = some r := by rw [if_neg (show ¬ (false = true) by decide)] at H; exact H
    clear H
    have H := H1
    clear H1
    have H' := aM H
    clear H
    obtain ⟨hcz13_0, hcz13_1, hcz13_2, hcz13_3, hfz13_0, hfz13_1, hfz13_2, hfz13_3⟩ := cellsZ4 BK101.out
    go_wp2_with (first | ((with_reducible refine gate_callee (f := 34) rfl ?_); refine goesL_ (some 7) rfl rfl Tryd.func34 (by kernel_rfl) rfl #[.int .i64 a0_0, .int .i64 1, .int .i64 100000] rfl zee81 ?_; (with_reducible refine (spec_l1In.calls a0_0 1 100000 false _ A4.out).mono ?_); rintro e w' ⟨rfl, ⟨nd, rfl⟩⟩; refine ⟨_, rfl, ?_⟩))
    go_meet
    case rel => exact ⟨_, (true), z4458, H', ⟨zb79b⟩, ⟨bkZ⟩, ⟨zcb41⟩⟩
 case rest =>
  clear HC2
  try clear c2
  try clear p2
  try clear c3
  try clear c5
  try clear c7
  try clear c9
  try clear hcz10_0 hcz10_1 hcz10_2 hcz10_3
  try clear hcz11_0 hcz11_1 hcz11_2 hcz11_3
  try clear hcz12_0 hcz12_1 hcz12_2 hcz12_3
  try clear hcz13_0 hcz13_1 hcz13_2 hcz13_3
  try clear hfz10_0 hfz10_1 hfz10_2 hfz10_3
  try clear hfz11_0 hfz11_1 hfz11_2 hfz11_3
  try clear hfz12_0 hfz12_1 hfz12_2 hfz12_3
  try clear hfz13_0 hfz13_1 hfz13_2 hfz13_3
  obtain ⟨kq, x26_1, rfl, HA, HJ1, BK101, HB⟩ := hcut
  cases kq with
  | zero => exact absurd HA.out (by simp [spec_GoodBoard.j0])
  | succ kj1 =>
   have H := HA.out
   clear HA
   simp only [spec_GoodBoard.j0] at H
   by_cases c14 : x26_1 = true
   · subst c14
     have H1 : (some false) = some r := by rw [if_pos rfl] at H; exact H
     clear H
     have H := H1
     clear H1
     obtain rfl := Option.some.inj H
     go_wp2
     go_ret
     exact ⟨z674d, zcb41⟩
   · replace c14 := Bool.eq_false_iff.mpr c14
     subst c14
     have H1 : (spec_GoodBoard.l0 kj1 l0_3 (l0_3.length : Int) 0 a0_0 a0_1 a0_2 l0_3) = some r := by rw [if_neg (show ¬ (false = true) by decide)] at H; exact H
     clear H
     have H := H1
     clear H1
     have H' := aM H
     clear H
     obtain ⟨hcz15_0, hcz15_1, hcz15_2, hcz15_3, hfz15_0, hfz15_1, hfz15_2, hfz15_3⟩ := cellsZ4 BK101.out
     go_wp2
     go_loopg [30] kj1 (fun kq v30 w' => ∃ (x30_2 : Int), v30 = .int .i64 x30_2 ∧ Aside0 (spec_GoodBoard.l0 kq l0_3 (l0_3.length : Int) x30_2 a0_0 a0_1 a0_2 l0_3 = some r) ∧ Aside0 (kq ≤ kj1) ∧ Aside0 (w'.heap[gb101]? = some (.cells #[.int .i64 a0_0, .int .i64 a0_1, .int .i64 a0_2, (.slice A0_3 l0_3.length c0_3)] 55 (0, 0))) ∧ Aside0 (Below w.heap.size w w'))
     case atStart => exact ⟨(0), z4458, H', ⟨Nat.le_refl _⟩, ⟨bkZ⟩, ⟨zcb41⟩⟩
     case round =>
      clear H'
      try clear c1
      try clear c2
      try clear p2
      try clear c3
      try clear c5
      try clear c7
      try clear c9
      try clear c14
      try clear hcz10_0 hcz10_1 hcz10_2 hcz10_3
      try clear hcz11_0 hcz11_1 hcz11_2 hcz11_3
      try clear hcz12_0 hcz12_1 hcz12_2 hcz12_3
      try clear hcz13_0 hcz13_1 hcz13_2 hcz13_3
      try clear hcz15_0 hcz15_1 hcz15_2 hcz15_3
      try clear hfz10_0 hfz10_1 hfz10_2 hfz10_3
      try clear hfz11_0 hfz11_1 hfz11_2 hfz11_3
      try clear hfz12_0 hfz12_1 hfz12_2 hfz12_3
      try clear hfz13_0 hfz13_1 hfz13_2 hfz13_3
      try clear hfz15_0 hfz15_1 hfz15_2 hfz15_3
      try clear p2
      obtain ⟨x30_2, rfl, HA, HK2, BK101, HB⟩ := hrel
      cases gk with
      | zero => exact absurd HA.out (by simp [spec_GoodBoard.l0])
      | succ k2 =>
       have H := HA.out
       clear HA
       simp only [spec_GoodBoard.l0] at H
       by_cases c16 : x30_2 < (l0_3.length : Int)
       · rw [if_pos c16] at H
         have c16b0 : decide (x30_2 < (l0_3.length : Int)) = true := decide_eq_true c16
         clear c16
         by_cases c17 : 0 ≤ x30_2
         · rw [if_pos c17] at H
           have c17b0 : decide (0 ≤ x30_2) = true := decide_eq_true c17
           clear c17
           by_cases c18 : x30_2 < (l0_3.length : Int)
           · rw [if_pos c18] at H
             have c18b0 : decide (x30_2 < (l0_3.length : Int)) = true := decide_eq_true c18
             clear c18
             have HC19 := aM H
             clear H
             have p105 : 0 ≤ (x30_2 : Int) := of_decide_eq_true z1200
             have q105 : x30_2 < (l0_3.length : Int) := of_decide_eq_true z1200
             obtain ⟨ad105, A105_1, c105_1, A105_7, c105_7, e105, hx105_0, hx105_1, hx105_2, hx105_3, hx105_4, hx105_5, hx105_6, hx105_7, hx105_8, hx105_9, hx105_10, hl105_1, hi105_1, hl105_7, hi105_7⟩ := at_T97 HR0_3.out x30_2 p105 q105
             cases e105
             replace hx105_0 := (HB.out.cell (World.block_lt_of_cell? w _ hx105_0)).trans hx105_0
             replace hx105_1 := (HB.out.cell (World.block_lt_of_cell? w _ hx105_1)).trans hx105_1
             replace hx105_2 := (HB.out.cell (World.block_lt_of_cell? w _ hx105_2)).trans hx105_2
             replace hx105_3 := (HB.out.cell (World.block_lt_of_cell? w _ hx105_3)).trans hx105_3
             replace hx105_4 := (HB.out.cell (World.block_lt_of_cell? w _ hx105_4)).trans hx105_4
             replace hx105_5 := (HB.out.cell (World.block_lt_of_cell? w _ hx105_5)).trans hx105_5
             replace hx105_6 := (HB.out.cell (World.block_lt_of_cell? w _ hx105_6)).trans hx105_6
             replace hx105_7 := (HB.out.cell (World.block_lt_of_cell? w _ hx105_7)).trans hx105_7
             replace hx105_8 := (HB.out.cell (World.block_lt_of_cell? w _ hx105_8)).trans hx105_8
             replace hx105_9 := (HB.out.cell (World.block_lt_of_cell? w _ hx105_9)).trans hx105_9
             replace hx105_10 := (HB.out.cell (World.block_lt_of_cell? w _ hx105_10)).trans hx105_10
             have HR105_1 := aM hi105_1
             have HC105_1 := aM hl105_1
             clear hi105_1 hl105_1
             have HR105_7 := aM hi105_7
             have HC105_7 := aM hl105_7
             clear hi105_7 hl105_7
             replace p105 := eq_true p105
             replace q105 := eq_true q105
             go_upto_region 6 with (first | ((with_reducible refine gate_dst (N := 4) rfl ?_); (try (refine gate_guard (by rfl) ?_; dsimp only)); refine box_event ?hg (N := 4) ?hd (cs := #[.string (⟨#[]⟩ : ByteArray), .slice none 0 0, .int .i64 0, .int .i64 0, .int .i64 0, .int .i64 0, .int .i64 0, .slice none 0 0, .bool false, .int .i64 0, .bool false]) (t := 97) ?hr ?_; (case hd => rfl); (case hg => rfl); (case hr => first | (go_simp; done) | (go_simp; rfl)); intro gb106 hg w20 hbox hb; have _ := bB gb101 hb; have _ := aM (below_step hbZ hb); have _ := aM hbox; have _ := szZ hg; have _ := szZ hg; have ⟨_, _⟩ := nbB gb101 hg; clear BK101 HB; rename_i BK101 HB BK106 GW106 GE106 NB101_106 NB106_101; clear hb hbox hg; have hnb21 := NB106_101.out; have hnc21 := NB101_106.out; have hcz22_0 : w20.cell? ⟨gb106, 0, none⟩ = some (.string (⟨#[]⟩ : ByteArray)) := (blk_cell BK106.out 0).trans rfl; have hcz22_1 : w20.cell? ⟨gb106, 1, none⟩ = some (.slice none 0 0) := (blk_cell BK106.out 1).trans rfl; have hcz22_2 : w20.cell? ⟨gb106, 2, none⟩ = some (.int .i64 0) := (blk_cell BK106.out 2).trans rfl; have hcz22_3 : w20.cell? ⟨gb106, 3, none⟩ = some (.int .i64 0) := (blk_cell BK106.out 3).trans rfl; have hcz22_4 : w20.cell? ⟨gb106, 4, none⟩ = some (.int .i64 0) := (blk_cell BK106.out 4).trans rfl; have hcz22_5 : w20.cell? ⟨gb106, 5, none⟩ = some (.int .i64 0) := (blk_cell BK106.out 5).trans rfl; have hcz22_6 : w20.cell? ⟨gb106, 6, none⟩ = some (.int .i64 0) := (blk_cell BK106.out 6).trans rfl; have hcz22_7 : w20.cell? ⟨gb106, 7, none⟩ = some (.slice none 0 0) := (blk_cell BK106.out 7).trans rfl; have hcz22_8 : w20.cell? ⟨gb106, 8, none⟩ = some (.bool false) := (blk_cell BK106.out 8).trans rfl; have hcz22_9 : w20.cell? ⟨gb106, 9, none⟩ = some (.int .i64 0) := (blk_cell BK106.out 9).trans rfl; have hcz22_10 : w20.cell? ⟨gb106, 10, none⟩ = some (.bool false) := (blk_cell BK106.out 10).trans rfl; have hfz22_0 := blk_frozen BK106.out 0; have hfz22_1 := blk_frozen BK106.out 1; have hfz22_2 := blk_frozen BK106.out 2; have hfz22_3 := blk_frozen BK106.out 3; have hfz22_4 := blk_frozen BK106.out 4; have hfz22_5 := blk_frozen BK106.out 5; have hfz22_6 := blk_frozen BK106.out 6; have hfz22_7 := blk_frozen BK106.out 7; have hfz22_8 := blk_frozen BK106.out 8; have hfz22_9 := blk_frozen BK106.out 9; have hfz22_10 := blk_frozen BK106.out 10))
             (try simp only [Act.put, List.setIfInBounds_toArray, List.set_cons_zero, List.set_cons_succ])
             go_cut [75] (fun v75 wc => ∃ (kq : Nat) (x75_18 : Bool), v75 = .bool x75_18 ∧ Aside0 (spec_GoodBoard.j2 kq x30_2 l0_3 (l0_3.length : Int) x30_2 x75_18 a0_0 a0_1 a0_2 l0_3 ((rd_T97 l0_3 x30_2).f0.f0) ((rd_T97 l0_3 x30_2).f0.f1) ((rd_T97 l0_3 x30_2).f0.f2) ((rd_T97 l0_3 x30_2).f1.f0) ((rd_T97 l0_3 x30_2).f1.f1) ((rd_T97 l0_3 x30_2).f1.f2) ((rd_T97 l0_3 x30_2).f1.f3) ((rd_T97 l0_3 x30_2).f1.f4) ((rd_T97 l0_3 x30_2).f1.f5) ((rd_T97 l0_3 x30_2).f2) ((rd_T97 l0_3 x30_2).f3) = some r) ∧ Aside0 (kq ≤ k2) ∧ Aside0 (wc.heap[gb101]? = some (.cells #[.int .i64 a0_0, .int .i64 a0_1, .int .i64 a0_2, (.slice (some ad105) l0_3.length c0_3)] 55 (0, 0))) ∧ Aside0 (wc.heap[gb106]? = some (.cells #[.string ((rd_T97 l0_3 x30_2).f0.f0), (.slice A105_1 ((rd_T97 l0_3 x30_2).f0.f1).length c105_1), .int .i64 ((rd_T97 l0_3 x30_2).f0.f2), .int .i64 ((rd_T97 l0_3 x30_2).f1.f0), .int .i64 ((rd_T97 l0_3 x30_2).f1.f1), .int .i64 ((rd_T97 l0_3 x30_2).f1.f2), .int .i64 ((rd_T97 l0_3 x30_2).f1.f3), (.slice A105_7 ((rd_T97 l0_3 x30_2).f1.f4).length c105_7), .bool ((rd_T97 l0_3 x30_2).f1.f5), .int .i64 ((rd_T97 l0_3 x30_2).f2), .bool ((rd_T97 l0_3 x30_2).f3)] 97 (0, 0))) ∧ Aside0 (Below w.heap.size w wc))
             case first =>
              have H := HC19.out
              clear HC19
              replace H := Option.bind_eq_some_iff.mp H
              obtain ⟨t107, A230, H⟩ := H
              try dsimp only at H
              have A23 := aM A230
              clear A230
              by_cases c24 : t107 = true
              · subst c24
                have H1 : (if a0_0 = 0 then (none) else (if (Int.tmod ((rd_T97 l0_3 x30_2).f0.f2) a0_0) = 0 then ((spec_GoodAgg.f k2 ((rd_T97 l0_3 x30_2).f1.f0) ((rd_T97 l0_3 x30_2).f1.f1) ((rd_T97 l0_3 x30_2).f1.f2) ((rd_T97 l0_3 x30_2).f1.f3) ((rd_T97 l0_3 x30_2).f1.f4) ((rd_T97 l0_3 x30_2).f1.f5)).bind fun t108 => (if t108 = true then (if ((rd_T97 l0_3 x30_2).f1.f0) = 0 then (spec_GoodBoard.j2 k2 x30_2 l0_3 (l0_3.length : Int) x30_2 true a0_0 a0_1 a0_2 l0_3 ((rd_T97 l0_3 x30_2).f0.f0) ((rd_T97 l0_3 x30_2).f0.f1) ((rd_T97 l0_3 x30_2).f0.f2) ((rd_T97 l0_3 x30_2).f1.f0) ((rd_T97 l0_3 x30_2).f1.f1) ((rd_T97 l0_3 x30_2).f1.f2) ((rd_T97 l0_3 x30_2).f1.f3) ((rd_T97 l0_3 x30_2).f1.f4) ((rd_T97 l0_3 x30_2).f1.f5) ((rd_T97 l0_3 x30_2).f2) ((rd_T97 l0_3 x30_2).f3)) else ((spec_l1In.f ((rd_T97 l0_3 x30_2).f2) 0 1000000).bind fun t109 => (if t109 = true then (if ((rd_T97 l0_3 x30_2).f2) = 0 then (spec_GoodBoard.j2 k2 x30_2 l0_3 (l0_3.length : Int) x30_2 (!((rd_T97 l0_3 x30_2).f3)) a0_0 a0_1 a0_2 l0_3 ((rd_T97 l0_3 x30_2).f0.f0) ((rd_T97 l0_3 x30_2).f0.f1) ((rd_T97 l0_3 x30_2).f0.f2) ((rd_T97 l0_3 x30_2).f1.f0) ((rd_T97 l0_3 x30_2).f1.f1) ((rd_T97 l0_3 x30_2).f1.f2) ((rd_T97 l0_3 x30_2).f1.f3) ((rd_T97 l0_3 x30_2).f1.f4) ((rd_T97 l0_3 x30_2).f1.f5) ((rd_T97 l0_3 x30_2).f2) ((rd_T97 l0_3 x30_2).f3)) else (spec_GoodBoard.j2 k2 x30_2 l0_3 (l0_3.length : Int) x30_2 false a0_0 a0_1 a0_2 l0_3 ((rd_T97 l0_3 x30_2).f0.f0) ((rd_T97 l0_3 x30_2).f0.f1) ((rd_T97 l0_3 x30_2).f0.f2) ((rd_T97 l0_3 x30_2).f1.f0) ((rd_T97 l0_3 x30_2).f1.f1) ((rd_T97 l0_3 x30_2).f1.f2) ((rd_T97 l0_3 x30_2).f1.f3) ((rd_T97 l0_3 x30_2).f1.f4) ((rd_T97 l0_3 x30_2).f1.f5) ((rd_T97 l0_3 x30_2).f2) ((rd_T97 l0_3 x30_2).f3))) else (spec_GoodBoard.j2 k2 x30_2 l0_3 (l0_3.length : Int) x30_2 true a0_0 a0_1 a0_2 l0_3 ((rd_T97 l0_3 x30_2).f0.f0) ((rd_T97 l0_3 x30_2).f0.f1) ((rd_T97 l0_3 x30_2).f0.f2) ((rd_T97 l0_3 x30_2).f1.f0) ((rd_T97 l0_3 x30_2).f1.f1) ((rd_T97 l0_3 x30_2).f1.f2) ((rd_T97 l0_3 x30_2).f1.f3) ((rd_T97 l0_3 x30_2).f1.f4) ((rd_T97 l0_3 x30_2).f1.f5) ((rd_T97 l0_3 x30_2).f2) ((rd_T97 l0_3 x30_2).f3))))) else (spec_GoodBoard.j2 k2 x30_2 l0_3 (l0_3.length : Int) x30_2 true a0_0 a0_1 a0_2 l0_3 ((rd_T97 l0_3 x30_2).f0.f0) ((rd_T97 l0_3 x30_2).f0.f1) ((rd_T97 l0_3 x30_2).f0.f2) ((rd_T97 l0_3 x30_2).f1.f0) ((rd_T97 l0_3 x30_2).f1.f1) ((rd_T97 l0_3 x30_2).f1.f2) ((rd_T97 l0_3 x30_2).f1.f3) ((rd_T97 l0_3 x30_2).f1.f4) ((rd_T97 l0_3 x30_2).f1.f5) ((rd_T97 l0_3 x30_2).f2) ((rd_T97 l0_3 x30_2).f3)))) else (spec_GoodBoard.j2 k2 x30_2 l0_3 (l0_3.length : Int) x30_2 true a0_0 a0_1 a0_2 l0_3 ((rd_T97 l0_3 x30_2).f0.f0) ((rd_T97 l0_3 x30_2).f0.f1) ((rd_T97 l0_3 x30_2).f0.f2) ((rd_T97 l0_3 x30_2).f1.f0) ((rd_T97 l0_3 x30_2).f1.f1) ((rd_T97 l0_3 x30_2).f1.f2) ((rd_T97 l0_3 x30_2).f1.f3) ((rd_T97 l0_3 x30_2).f1.f4) ((rd_T97 l0_3 x30_2).f1.f5) ((rd_T97 l0_3 x30_2).f2) ((rd_T97 l0_3 x30_2).f3)))) = some r := by rw [if_pos rfl] at H; exact H
                clear H
                have H := H1
                clear H1
                by_cases c25 : a0_0 = 0
                · rw [if_pos c25] at H
                  exact absurd H (by simp)
                · rw [if_neg c25] at H
                  have c25b0 : (a0_0 == 0) = false := beq_eq_false_iff_ne.mpr c25
                  have c25b1 : (a0_0 != 0) = true := bne_iff_ne.mpr c25
                  (first | rw [c25b0] | (simp only [i64_w, i32_w]; rw [c25b0]) | skip)
                  by_cases c26 : (Int.tmod ((rd_T97 l0_3 x30_2).f0.f2) a0_0) = 0
                  · rw [if_pos c26] at H
                    have c26b0 : ((Int.tmod ((rd_T97 l0_3 x30_2).f0.f2) a0_0) == 0) = true := beq_iff_eq.mpr c26
                    have c26b1 : ((Int.tmod ((rd_T97 l0_3 x30_2).f0.f2) a0_0) != 0) = false := bne_eq_false_iff_eq.mpr c26
                    clear c26
                    replace H := Option.bind_eq_some_iff.mp H
                    obtain ⟨t108, A270, H⟩ := H
                    try dsimp only at H
                    have A27 := aM A270
                    clear A270
                    by_cases c28 : t108 = true
                    · subst c28
                      have H1 : (if ((rd_T97 l0_3 x30_2).f1.f0) = 0 then (spec_GoodBoard.j2 k2 x30_2 l0_3 (l0_3.length : Int) x30_2 true a0_0 a0_1 a0_2 l0_3 ((rd_T97 l0_3 x30_2).f0.f0) ((rd_T97 l0_3 x30_2).f0.f1) ((rd_T97 l0_3 x30_2).f0.f2) ((rd_T97 l0_3 x30_2).f1.f0) ((rd_T97 l0_3 x30_2).f1.f1) ((rd_T97 l0_3 x30_2).f1.f2) ((rd_T97 l0_3 x30_2).f1.f3) ((rd_T97 l0_3 x30_2).f1.f4) ((rd_T97 l0_3 x30_2).f1.f5) ((rd_T97 l0_3 x30_2).f2) ((rd_T97 l0_3 x30_2).f3)) else ((spec_l1In.f ((rd_T97 l0_3 x30_2).f2) 0 1000000).bind fun t109 => (if t109 = true then (if ((rd_T97 l0_3 x30_2).f2) = 0 then (spec_GoodBoard.j2 k2 x30_2 l0_3 (l0_3.length : Int) x30_2 (!((rd_T97 l0_3 x30_2).f3)) a0_0 a0_1 a0_2 l0_3 ((rd_T97 l0_3 x30_2).f0.f0) ((rd_T97 l0_3 x30_2).f0.f1) ((rd_T97 l0_3 x30_2).f0.f2) ((rd_T97 l0_3 x30_2).f1.f0) ((rd_T97 l0_3 x30_2).f1.f1) ((rd_T97 l0_3 x30_2).f1.f2) ((rd_T97 l0_3 x30_2).f1.f3) ((rd_T97 l0_3 x30_2).f1.f4) ((rd_T97 l0_3 x30_2).f1.f5) ((rd_T97 l0_3 x30_2).f2) ((rd_T97 l0_3 x30_2).f3)) else (spec_GoodBoard.j2 k2 x30_2 l0_3 (l0_3.length : Int) x30_2 false a0_0 a0_1 a0_2 l0_3 ((rd_T97 l0_3 x30_2).f0.f0) ((rd_T97 l0_3 x30_2).f0.f1) ((rd_T97 l0_3 x30_2).f0.f2) ((rd_T97 l0_3 x30_2).f1.f0) ((rd_T97 l0_3 x30_2).f1.f1) ((rd_T97 l0_3 x30_2).f1.f2) ((rd_T97 l0_3 x30_2).f1.f3) ((rd_T97 l0_3 x30_2).f1.f4) ((rd_T97 l0_3 x30_2).f1.f5) ((rd_T97 l0_3 x30_2).f2) ((rd_T97 l0_3 x30_2).f3))) else (spec_GoodBoard.j2 k2 x30_2 l0_3 (l0_3.length : Int) x30_2 true a0_0 a0_1 a0_2 l0_3 ((rd_T97 l0_3 x30_2).f0.f0) ((rd_T97 l0_3 x30_2).f0.f1) ((rd_T97 l0_3 x30_2).f0.f2) ((rd_T97 l0_3 x30_2).f1.f0) ((rd_T97 l0_3 x30_2).f1.f1) ((rd_T97 l0_3 x30_2).f1.f2) ((rd_T97 l0_3 x30_2).f1.f3) ((rd_T97 l0_3 x30_2).f1.f4) ((rd_T97 l0_3 x30_2).f1.f5) ((rd_T97 l0_3 x30_2).f2) ((rd_T97 l0_3 x30_2).f3))))) = some r := by rw [if_pos rfl] at H; exact H
                      clear H
                      have H := H1
                      clear H1
                      by_cases c29 : ((rd_T97 l0_3 x30_2).f1.f0) = 0
                      · rw [if_pos c29] at H
                        have c29b0 : (((rd_T97 l0_3 x30_2).f1.f0) == 0) = true := beq_iff_eq.mpr c29
                        have c29b1 : (((rd_T97 l0_3 x30_2).f1.f0) != 0) = false := bne_eq_false_iff_eq.mpr c29
                        clear c29
                        have H' := aM H
                        clear H
                        have hnb30 := NB106_101.out
                        have hnc30 := NB101_106.out
                        have hcz31_0 : w20.cell? ⟨gb106, 0, none⟩ = some (.string (⟨#[]⟩ : ByteArray)) := (blk_cell BK106.out 0).trans rfl
                        have hcz31_1 : w20.cell? ⟨gb106, 1, none⟩ = some (.slice none 0 0) := (blk_cell BK106.out 1).trans rfl
                        have hcz31_2 : w20.cell? ⟨gb106, 2, none⟩ = some (.int .i64 0) := (blk_cell BK106.out 2).trans rfl
                        have hcz31_3 : w20.cell? ⟨gb106, 3, none⟩ = some (.int .i64 0) := (blk_cell BK106.out 3).trans rfl
                        have hcz31_4 : w20.cell? ⟨gb106, 4, none⟩ = some (.int .i64 0) := (blk_cell BK106.out 4).trans rfl
                        have hcz31_5 : w20.cell? ⟨gb106, 5, none⟩ = some (.int .i64 0) := (blk_cell BK106.out 5).trans rfl
                        have hcz31_6 : w20.cell? ⟨gb106, 6, none⟩ = some (.int .i64 0) := (blk_cell BK106.out 6).trans rfl
                        have hcz31_7 : w20.cell? ⟨gb106, 7, none⟩ = some (.slice none 0 0) := (blk_cell BK106.out 7).trans rfl
                        have hcz31_8 : w20.cell? ⟨gb106, 8, none⟩ = some (.bool false) := (blk_cell BK106.out 8).trans rfl
                        have hcz31_9 : w20.cell? ⟨gb106, 9, none⟩ = some (.int .i64 0) := (blk_cell BK106.out 9).trans rfl
                        have hcz31_10 : w20.cell? ⟨gb106, 10, none⟩ = some (.bool false) := (blk_cell BK106.out 10).trans rfl
                        have hfz31_0 := blk_frozen BK106.out 0
                        have hfz31_1 := blk_frozen BK106.out 1
                        have hfz31_2 := blk_frozen BK106.out 2
                        have hfz31_3 := blk_frozen BK106.out 3
                        have hfz31_4 := blk_frozen BK106.out 4
                        have hfz31_5 := blk_frozen BK106.out 5
                        have hfz31_6 := blk_frozen BK106.out 6
                        have hfz31_7 := blk_frozen BK106.out 7
                        have hfz31_8 := blk_frozen BK106.out 8
                        have hfz31_9 := blk_frozen BK106.out 9
                        have hfz31_10 := blk_frozen BK106.out 10
                        go_wp2_with (first | ((with_reducible refine gate_callee (f := 10) rfl ?_); refine goesL_ (some 37) rfl rfl Tryd.func10 (by kernel_rfl) rfl #[.agg #[.string ((rd_T97 l0_3 x30_2).f0.f0), .slice A105_1 ((rd_T97 l0_3 x30_2).f0.f1).length c105_1, .int .i64 ((rd_T97 l0_3 x30_2).f0.f2)]] rfl zee81 ?_; (with_reducible refine (spec_GoodKey.calls k2 ((rd_T97 l0_3 x30_2).f0.f0) _ _ ((rd_T97 l0_3 x30_2).f0.f1) ((rd_T97 l0_3 x30_2).f0.f2) true _ ?side1 ?side2 A23.out).mono ?_); (case side1 => exact Kd.C_below HR105_1.out hbZ); (case side2 => exact HC105_1.out); rintro e w32 ⟨rfl, hb⟩; refine ⟨_, rfl, ?_⟩; have _ := bB gb101 hb; have _ := aM (blk_below (g := gb106) (o := .cells #[.string ((rd_T97 l0_3 x30_2).f0.f0), .slice A105_1 ((rd_T97 l0_3 x30_2).f0.f1).length c105_1, .int .i64 ((rd_T97 l0_3 x30_2).f0.f2), .int .i64 ((rd_T97 l0_3 x30_2).f1.f0), .int .i64 ((rd_T97 l0_3 x30_2).f1.f1), .int .i64 ((rd_T97 l0_3 x30_2).f1.f2), .int .i64 ((rd_T97 l0_3 x30_2).f1.f3), .slice A105_7 ((rd_T97 l0_3 x30_2).f1.f4).length c105_7, .bool ((rd_T97 l0_3 x30_2).f1.f5), .int .i64 ((rd_T97 l0_3 x30_2).f2), .bool ((rd_T97 l0_3 x30_2).f3)] 97 (0, 0)) bkZ hb); have _ := aM (below_step hbZ hb); clear BK101 BK106 HB; rename_i BK101 BK106 HB; (try clear hb); have hcz33_0 : w32.cell? ⟨gb106, 0, none⟩ = some (.string ((rd_T97 l0_3 x30_2).f0.f0)) := (blk_cell BK106.out 0).trans rfl; have hcz33_1 : w32.cell? ⟨gb106, 1, none⟩ = some (.slice A105_1 ((rd_T97 l0_3 x30_2).f0.f1).length c105_1) := (blk_cell BK106.out 1).trans rfl; have hcz33_2 : w32.cell? ⟨gb106, 2, none⟩ = some (.int .i64 ((rd_T97 l0_3 x30_2).f0.f2)) := (blk_cell BK106.out 2).trans rfl; have hcz33_3 : w32.cell? ⟨gb106, 3, none⟩ = some (.int .i64 ((rd_T97 l0_3 x30_2).f1.f0)) := (blk_cell BK106.out 3).trans rfl; have hcz33_4 : w32.cell? ⟨gb106, 4, none⟩ = some (.int .i64 ((rd_T97 l0_3 x30_2).f1.f1)) := (blk_cell BK106.out 4).trans rfl; have hcz33_5 : w32.cell? ⟨gb106, 5, none⟩ = some (.int .i64 ((rd_T97 l0_3 x30_2).f1.f2)) := (blk_cell BK106.out 5).trans rfl; have hcz33_6 : w32.cell? ⟨gb106, 6, none⟩ = some (.int .i64 ((rd_T97 l0_3 x30_2).f1.f3)) := (blk_cell BK106.out 6).trans rfl; have hcz33_7 : w32.cell? ⟨gb106, 7, none⟩ = some (.slice A105_7 ((rd_T97 l0_3 x30_2).f1.f4).length c105_7) := (blk_cell BK106.out 7).trans rfl; have hcz33_8 : w32.cell? ⟨gb106, 8, none⟩ = some (.bool ((rd_T97 l0_3 x30_2).f1.f5)) := (blk_cell BK106.out 8).trans rfl; have hcz33_9 : w32.cell? ⟨gb106, 9, none⟩ = some (.int .i64 ((rd_T97 l0_3 x30_2).f2)) := (blk_cell BK106.out 9).trans rfl; have hcz33_10 : w32.cell? ⟨gb106, 10, none⟩ = some (.bool ((rd_T97 l0_3 x30_2).f3)) := (blk_cell BK106.out 10).trans rfl; have hfz33_0 := blk_frozen BK106.out 0; have hfz33_1 := blk_frozen BK106.out 1; have hfz33_2 := blk_frozen BK106.out 2; have hfz33_3 := blk_frozen BK106.out 3; have hfz33_4 := blk_frozen BK106.out 4; have hfz33_5 := blk_frozen BK106.out 5; have hfz33_6 := blk_frozen BK106.out 6; have hfz33_7 := blk_frozen BK106.out 7; have hfz33_8 := blk_frozen BK106.out 8; have hfz33_9 := blk_frozen BK106.out 9; have hfz33_10 := blk_frozen BK106.out 10; obtain ⟨hcz34_0, hcz34_1, hcz34_2, hcz34_3, hfz34_0, hfz34_1, hfz34_2, hfz34_3⟩ := cellsZ4 BK101.out) | (go_at_call 57; (with_reducible refine (spec_GoodAgg.calls k2 ((rd_T97 l0_3 x30_2).f1.f0) ((rd_T97 l0_3 x30_2).f1.f1) ((rd_T97 l0_3 x30_2).f1.f2) ((rd_T97 l0_3 x30_2).f1.f3) _ _ ((rd_T97 l0_3 x30_2).f1.f4) ((rd_T97 l0_3 x30_2).f1.f5) true _ ?side1 ?side2 A27.out).mono ?_); (case side1 => exact (cZ (Kd.C_below HR105_7.out HB.out))); (case side2 => exact HC105_7.out); rintro e w35 ⟨rfl, hb⟩; have _ := bB gb101 hb; have _ := bB gb106 hb; have _ := aM (below_step hbZ hb); clear BK101 BK106 HB; rename_i BK101 BK106 HB; (try clear hb); have hcz36_0 : w35.cell? ⟨gb106, 0, none⟩ = some (.string ((rd_T97 l0_3 x30_2).f0.f0)) := (blk_cell BK106.out 0).trans rfl; have hcz36_1 : w35.cell? ⟨gb106, 1, none⟩ = some (.slice A105_1 ((rd_T97 l0_3 x30_2).f0.f1).length c105_1) := (blk_cell BK106.out 1).trans rfl; have hcz36_2 : w35.cell? ⟨gb106, 2, none⟩ = some (.int .i64 ((rd_T97 l0_3 x30_2).f0.f2)) := (blk_cell BK106.out 2).trans rfl; have hcz36_3 : w35.cell? ⟨gb106, 3, none⟩ = some (.int .i64 ((rd_T97 l0_3 x30_2).f1.f0)) := (blk_cell BK106.out 3).trans rfl; have hcz36_4 : w35.cell? ⟨gb106, 4, none⟩ = some (.int .i64 ((rd_T97 l0_3 x30_2).f1.f1)) := (blk_cell BK106.out 4).trans rfl; have hcz36_5 : w35.cell? ⟨gb106, 5, none⟩ = some (.int .i64 ((rd_T97 l0_3 x30_2).f1.f2)) := (blk_cell BK106.out 5).trans rfl; have hcz36_6 : w35.cell? ⟨gb106, 6, none⟩ = some (.int .i64 ((rd_T97 l0_3 x30_2).f1.f3)) := (blk_cell BK106.out 6).trans rfl; have hcz36_7 : w35.cell? ⟨gb106, 7, none⟩ = some (.slice A105_7 ((rd_T97 l0_3 x30_2).f1.f4).length c105_7) := (blk_cell BK106.out 7).trans rfl; have hcz36_8 : w35.cell? ⟨gb106, 8, none⟩ = some (.bool ((rd_T97 l0_3 x30_2).f1.f5)) := (blk_cell BK106.out 8).trans rfl; have hcz36_9 : w35.cell? ⟨gb106, 9, none⟩ = some (.int .i64 ((rd_T97 l0_3 x30_2).f2)) := (blk_cell BK106.out 9).trans rfl; have hcz36_10 : w35.cell? ⟨gb106, 10, none⟩ = some (.bool ((rd_T97 l0_3 x30_2).f3)) := (blk_cell BK106.out 10).trans rfl; have hfz36_0 := blk_frozen BK106.out 0; have hfz36_1 := blk_frozen BK106.out 1; have hfz36_2 := blk_frozen BK106.out 2; have hfz36_3 := blk_frozen BK106.out 3; have hfz36_4 := blk_frozen BK106.out 4; have hfz36_5 := blk_frozen BK106.out 5; have hfz36_6 := blk_frozen BK106.out 6; have hfz36_7 := blk_frozen BK106.out 7; have hfz36_8 := blk_frozen BK106.out 8; have hfz36_9 := blk_frozen BK106.out 9; have hfz36_10 := blk_frozen BK106.out 10))
                        go_meet
                        case rel => exact ⟨_, (true), z4458, H', ⟨zdc19⟩, ⟨bkZ⟩, ⟨bkZ⟩, ⟨zcb41⟩⟩
                      · rw [if_neg c29] at H
                        have c29b0 : (((rd_T97 l0_3 x30_2).f1.f0) == 0) = false := beq_eq_false_iff_ne.mpr c29
                        have c29b1 : (((rd_T97 l0_3 x30_2).f1.f0) != 0) = true := bne_iff_ne.mpr c29
                        replace H := Option.bind_eq_some_iff.mp H
                        obtain ⟨t109, A370, H⟩ := H
                        try dsimp only at H
                        have A37 := aM A370
                        clear A370
                        by_cases c38 : t109 = true
                        · subst c38
                          have H1 : (if ((rd_T97 l0_3 x30_2).f2) = 0 then (spec_GoodBoard.j2 k2 x30_2 l0_3 (l0_3.length : Int) x30_2 (!((rd_T97 l0_3 x30_2).f3)) a0_0 a0_1 a0_2 l0_3 ((rd_T97 l0_3 x30_2).f0.f0) ((rd_T97 l0_3 x30_2).f0.f1) ((rd_T97 l0_3 x30_2).f0.f2) ((rd_T97 l0_3 x30_2).f1.f0) ((rd_T97 l0_3 x30_2).f1.f1) ((rd_T97 l0_3 x30_2).f1.f2) ((rd_T97 l0_3 x30_2).f1.f3) ((rd_T97 l0_3 x30_2).f1.f4) ((rd_T97 l0_3 x30_2).f1.f5) ((rd_T97 l0_3 x30_2).f2) ((rd_T97 l0_3 x30_2).f3)) else (spec_GoodBoard.j2 k2 x30_2 l0_3 (l0_3.length : Int) x30_2 false a0_0 a0_1 a0_2 l0_3 ((rd_T97 l0_3 x30_2).f0.f0) ((rd_T97 l0_3 x30_2).f0.f1) ((rd_T97 l0_3 x30_2).f0.f2) ((rd_T97 l0_3 x30_2).f1.f0) ((rd_T97 l0_3 x30_2).f1.f1) ((rd_T97 l0_3 x30_2).f1.f2) ((rd_T97 l0_3 x30_2).f1.f3) ((rd_T97 l0_3 x30_2).f1.f4) ((rd_T97 l0_3 x30_2).f1.f5) ((rd_T97 l0_3 x30_2).f2) ((rd_T97 l0_3 x30_2).f3))) = some r := by rw [if_pos rfl] at H; exact H
                          clear H
                          have H := H1
                          clear H1
                          by_cases c39 : ((rd_T97 l0_3 x30_2).f2) = 0
                          · rw [if_pos c39] at H
                            have c39b0 : (((rd_T97 l0_3 x30_2).f2) == 0) = true := beq_iff_eq.mpr c39
                            have c39b1 : (((rd_T97 l0_3 x30_2).f2) != 0) = false := bne_eq_false_iff_eq.mpr c39
                            clear c39
                            have H' := aM H
                            clear H
                            have hnb40 := NB106_101.out
                            have hnc40 := NB101_106.out
                            have hcz41_0 : w20.cell? ⟨gb106, 0, none⟩ = some (.string (⟨#[]⟩ : ByteArray)) := (blk_cell BK106.out 0).trans rfl
                            have hcz41_1 : w20.cell? ⟨gb106, 1, none⟩ = some (.slice none 0 0) := (blk_cell BK106.out 1).trans rfl
                            have hcz41_2 : w20.cell? ⟨gb106, 2, none⟩ = some (.int .i64 0) := (blk_cell BK106.out 2).trans rfl
                            have hcz41_3 : w20.cell? ⟨gb106, 3, none⟩ = some (.int .i64 0) := (blk_cell BK106.out 3).trans rfl
                            have hcz41_4 : w20.cell? ⟨gb106, 4, none⟩ = some (.int .i64 0) := (blk_cell BK106.out 4).trans rfl
                            have hcz41_5 : w20.cell? ⟨gb106, 5, none⟩ = some (.int .i64 0) := (blk_cell BK106.out 5).trans rfl
                            have hcz41_6 : w20.cell? ⟨gb106, 6, none⟩ = some (.int .i64 0) := (blk_cell BK106.out 6).trans rfl
                            have hcz41_7 : w20.cell? ⟨gb106, 7, none⟩ = some (.slice none 0 0) := (blk_cell BK106.out 7).trans rfl
                            have hcz41_8 : w20.cell? ⟨gb106, 8, none⟩ = some (.bool false) := (blk_cell BK106.out 8).trans rfl
                            have hcz41_9 : w20.cell? ⟨gb106, 9, none⟩ = some (.int .i64 0) := (blk_cell BK106.out 9).trans rfl
                            have hcz41_10 : w20.cell? ⟨gb106, 10, none⟩ = some (.bool false) := (blk_cell BK106.out 10).trans rfl
                            have hfz41_0 := blk_frozen BK106.out 0
                            have hfz41_1 := blk_frozen BK106.out 1
                            have hfz41_2 := blk_frozen BK106.out 2
                            have hfz41_3 := blk_frozen BK106.out 3
                            have hfz41_4 := blk_frozen BK106.out 4
                            have hfz41_5 := blk_frozen BK106.out 5
                            have hfz41_6 := blk_frozen BK106.out 6
                            have hfz41_7 := blk_frozen BK106.out 7
                            have hfz41_8 := blk_frozen BK106.out 8
                            have hfz41_9 := blk_frozen BK106.out 9
                            have hfz41_10 := blk_frozen BK106.out 10
                            go_wp2_with (first | ((with_reducible refine gate_callee (f := 10) rfl ?_); refine goesL_ (some 37) rfl rfl Tryd.func10 (by kernel_rfl) rfl #[.agg #[.string ((rd_T97 l0_3 x30_2).f0.f0), .slice A105_1 ((rd_T97 l0_3 x30_2).f0.f1).length c105_1, .int .i64 ((rd_T97 l0_3 x30_2).f0.f2)]] rfl zee81 ?_; (with_reducible refine (spec_GoodKey.calls k2 ((rd_T97 l0_3 x30_2).f0.f0) _ _ ((rd_T97 l0_3 x30_2).f0.f1) ((rd_T97 l0_3 x30_2).f0.f2) true _ ?side1 ?side2 A23.out).mono ?_); (case side1 => exact Kd.C_below HR105_1.out hbZ); (case side2 => exact HC105_1.out); rintro e w42 ⟨rfl, hb⟩; refine ⟨_, rfl, ?_⟩; have _ := bB gb101 hb; have _ := aM (blk_below (g := gb106) (o := .cells #[.string ((rd_T97 l0_3 x30_2).f0.f0), .slice A105_1 ((rd_T97 l0_3 x30_2).f0.f1).length c105_1, .int .i64 ((rd_T97 l0_3 x30_2).f0.f2), .int .i64 ((rd_T97 l0_3 x30_2).f1.f0), .int .i64 ((rd_T97 l0_3 x30_2).f1.f1), .int .i64 ((rd_T97 l0_3 x30_2).f1.f2), .int .i64 ((rd_T97 l0_3 x30_2).f1.f3), .slice A105_7 ((rd_T97 l0_3 x30_2).f1.f4).length c105_7, .bool ((rd_T97 l0_3 x30_2).f1.f5), .int .i64 ((rd_T97 l0_3 x30_2).f2), .bool ((rd_T97 l0_3 x30_2).f3)] 97 (0, 0)) bkZ hb); have _ := aM (below_step hbZ hb); clear BK101 BK106 HB; rename_i BK101 BK106 HB; (try clear hb); have hcz43_0 : w42.cell? ⟨gb106, 0, none⟩ = some (.string ((rd_T97 l0_3 x30_2).f0.f0)) := (blk_cell BK106.out 0).trans rfl; have hcz43_1 : w42.cell? ⟨gb106, 1, none⟩ = some (.slice A105_1 ((rd_T97 l0_3 x30_2).f0.f1).length c105_1) := (blk_cell BK106.out 1).trans rfl; have hcz43_2 : w42.cell? ⟨gb106, 2, none⟩ = some (.int .i64 ((rd_T97 l0_3 x30_2).f0.f2)) := (blk_cell BK106.out 2).trans rfl; have hcz43_3 : w42.cell? ⟨gb106, 3, none⟩ = some (.int .i64 ((rd_T97 l0_3 x30_2).f1.f0)) := (blk_cell BK106.out 3).trans rfl; have hcz43_4 : w42.cell? ⟨gb106, 4, none⟩ = some (.int .i64 ((rd_T97 l0_3 x30_2).f1.f1)) := (blk_cell BK106.out 4).trans rfl; have hcz43_5 : w42.cell? ⟨gb106, 5, none⟩ = some (.int .i64 ((rd_T97 l0_3 x30_2).f1.f2)) := (blk_cell BK106.out 5).trans rfl; have hcz43_6 : w42.cell? ⟨gb106, 6, none⟩ = some (.int .i64 ((rd_T97 l0_3 x30_2).f1.f3)) := (blk_cell BK106.out 6).trans rfl; have hcz43_7 : w42.cell? ⟨gb106, 7, none⟩ = some (.slice A105_7 ((rd_T97 l0_3 x30_2).f1.f4).length c105_7) := (blk_cell BK106.out 7).trans rfl; have hcz43_8 : w42.cell? ⟨gb106, 8, none⟩ = some (.bool ((rd_T97 l0_3 x30_2).f1.f5)) := (blk_cell BK106.out 8).trans rfl; have hcz43_9 : w42.cell? ⟨gb106, 9, none⟩ = some (.int .i64 ((rd_T97 l0_3 x30_2).f2)) := (blk_cell BK106.out 9).trans rfl; have hcz43_10 : w42.cell? ⟨gb106, 10, none⟩ = some (.bool ((rd_T97 l0_3 x30_2).f3)) := (blk_cell BK106.out 10).trans rfl; have hfz43_0 := blk_frozen BK106.out 0; have hfz43_1 := blk_frozen BK106.out 1; have hfz43_2 := blk_frozen BK106.out 2; have hfz43_3 := blk_frozen BK106.out 3; have hfz43_4 := blk_frozen BK106.out 4; have hfz43_5 := blk_frozen BK106.out 5; have hfz43_6 := blk_frozen BK106.out 6; have hfz43_7 := blk_frozen BK106.out 7; have hfz43_8 := blk_frozen BK106.out 8; have hfz43_9 := blk_frozen BK106.out 9; have hfz43_10 := blk_frozen BK106.out 10; obtain ⟨hcz44_0, hcz44_1, hcz44_2, hcz44_3, hfz44_0, hfz44_1, hfz44_2, hfz44_3⟩ := cellsZ4 BK101.out) | (go_at_call 57; (with_reducible refine (spec_GoodAgg.calls k2 ((rd_T97 l0_3 x30_2).f1.f0) ((rd_T97 l0_3 x30_2).f1.f1) ((rd_T97 l0_3 x30_2).f1.f2) ((rd_T97 l0_3 x30_2).f1.f3) _ _ ((rd_T97 l0_3 x30_2).f1.f4) ((rd_T97 l0_3 x30_2).f1.f5) true _ ?side1 ?side2 A27.out).mono ?_); (case side1 => exact (cZ (Kd.C_below HR105_7.out HB.out))); (case side2 => exact HC105_7.out); rintro e w45 ⟨rfl, hb⟩; have _ := bB gb101 hb; have _ := bB gb106 hb; have _ := aM (below_step hbZ hb); clear BK101 BK106 HB; rename_i BK101 BK106 HB; (try clear hb); have hcz46_0 : w45.cell? ⟨gb106, 0, none⟩ = some (.string ((rd_T97 l0_3 x30_2).f0.f0)) := (blk_cell BK106.out 0).trans rfl; have hcz46_1 : w45.cell? ⟨gb106, 1, none⟩ = some (.slice A105_1 ((rd_T97 l0_3 x30_2).f0.f1).length c105_1) := (blk_cell BK106.out 1).trans rfl; have hcz46_2 : w45.cell? ⟨gb106, 2, none⟩ = some (.int .i64 ((rd_T97 l0_3 x30_2).f0.f2)) := (blk_cell BK106.out 2).trans rfl; have hcz46_3 : w45.cell? ⟨gb106, 3, none⟩ = some (.int .i64 ((rd_T97 l0_3 x30_2).f1.f0)) := (blk_cell BK106.out 3).trans rfl; have hcz46_4 : w45.cell? ⟨gb106, 4, none⟩ = some (.int .i64 ((rd_T97 l0_3 x30_2).f1.f1)) := (blk_cell BK106.out 4).trans rfl; have hcz46_5 : w45.cell? ⟨gb106, 5, none⟩ = some (.int .i64 ((rd_T97 l0_3 x30_2).f1.f2)) := (blk_cell BK106.out 5).trans rfl; have hcz46_6 : w45.cell? ⟨gb106, 6, none⟩ = some (.int .i64 ((rd_T97 l0_3 x30_2).f1.f3)) := (blk_cell BK106.out 6).trans rfl; have hcz46_7 : w45.cell? ⟨gb106, 7, none⟩ = some (.slice A105_7 ((rd_T97 l0_3 x30_2).f1.f4).length c105_7) := (blk_cell BK106.out 7).trans rfl; have hcz46_8 : w45.cell? ⟨gb106, 8, none⟩ = some (.bool ((rd_T97 l0_3 x30_2).f1.f5)) := (blk_cell BK106.out 8).trans rfl; have hcz46_9 : w45.cell? ⟨gb106, 9, none⟩ = some (.int .i64 ((rd_T97 l0_3 x30_2).f2)) := (blk_cell BK106.out 9).trans rfl; have hcz46_10 : w45.cell? ⟨gb106, 10, none⟩ = some (.bool ((rd_T97 l0_3 x30_2).f3)) := (blk_cell BK106.out 10).trans rfl; have hfz46_0 := blk_frozen BK106.out 0; have hfz46_1 := blk_frozen BK106.out 1; have hfz46_2 := blk_frozen BK106.out 2; have hfz46_3 := blk_frozen BK106.out 3; have hfz46_4 := blk_frozen BK106.out 4; have hfz46_5 := blk_frozen BK106.out 5; have hfz46_6 := blk_frozen BK106.out 6; have hfz46_7 := blk_frozen BK106.out 7; have hfz46_8 := blk_frozen BK106.out 8; have hfz46_9 := blk_frozen BK106.out 9; have hfz46_10 := blk_frozen BK106.out 10) | (go_at_call 34; (with_reducible refine (spec_l1In.calls ((rd_T97 l0_3 x30_2).f2) 0 1000000 true _ A37.out).mono ?_); rintro e w' ⟨rfl, ⟨nd, rfl⟩⟩))
                            go_meet
                            case rel => exact ⟨_, (!((rd_T97 l0_3 x30_2).f3)), z4458, H', ⟨zdc19⟩, ⟨bkZ⟩, ⟨bkZ⟩, ⟨zcb41⟩⟩
                          · rw [if_neg c39] at H
                            have c39b0 : (((rd_T97 l0_3 x30_2).f2) == 0) = false := beq_eq_false_iff_ne.mpr c39
                            have c39b1 : (((rd_T97 l0_3 x30_2).f2) != 0) = true := bne_iff_ne.mpr c39
                            have H' := aM H
                            clear H
                            have hnb47 := NB106_101.out
                            have hnc47 := NB101_106.out
                            have hcz48_0 : w20.cell? ⟨gb106, 0, none⟩ = some (.string (⟨#[]⟩ : ByteArray)) := (blk_cell BK106.out 0).trans rfl
                            have hcz48_1 : w20.cell? ⟨gb106, 1, none⟩ = some (.slice none 0 0) := (blk_cell BK106.out 1).trans rfl
                            have hcz48_2 : w20.cell? ⟨gb106, 2, none⟩ = some (.int .i64 0) := (blk_cell BK106.out 2).trans rfl
                            have hcz48_3 : w20.cell? ⟨gb106, 3, none⟩ = some (.int .i64 0) := (blk_cell BK106.out 3).trans rfl
                            have hcz48_4 : w20.cell? ⟨gb106, 4, none⟩ = some (.int .i64 0) := (blk_cell BK106.out 4).trans rfl
                            have hcz48_5 : w20.cell? ⟨gb106, 5, none⟩ = some (.int .i64 0) := (blk_cell BK106.out 5).trans rfl
                            have hcz48_6 : w20.cell? ⟨gb106, 6, none⟩ = some (.int .i64 0) := (blk_cell BK106.out 6).trans rfl
                            have hcz48_7 : w20.cell? ⟨gb106, 7, none⟩ = some (.slice none 0 0) := (blk_cell BK106.out 7).trans rfl
                            have hcz48_8 : w20.cell? ⟨gb106, 8, none⟩ = some (.bool false) := (blk_cell BK106.out 8).trans rfl
                            have hcz48_9 : w20.cell? ⟨gb106, 9, none⟩ = some (.int .i64 0) := (blk_cell BK106.out 9).trans rfl
                            have hcz48_10 : w20.cell? ⟨gb106, 10, none⟩ = some (.bool false) := (blk_cell BK106.out 10).trans rfl
                            have hfz48_0 := blk_frozen BK106.out 0
                            have hfz48_1 := blk_frozen BK106.out 1
                            have hfz48_2 := blk_frozen BK106.out 2
                            have hfz48_3 := blk_frozen BK106.out 3
                            have hfz48_4 := blk_frozen BK106.out 4
                            have hfz48_5 := blk_frozen BK106.out 5
                            have hfz48_6 := blk_frozen BK106.out 6
                            have hfz48_7 := blk_frozen BK106.out 7
                            have hfz48_8 := blk_frozen BK106.out 8
                            have hfz48_9 := blk_frozen BK106.out 9
                            have hfz48_10 := blk_frozen BK106.out 10
                            go_wp2_with (first | ((with_reducible refine gate_callee (f := 10) rfl ?_); refine goesL_ (some 37) rfl rfl Tryd.func10 (by kernel_rfl) rfl #[.agg #[.string ((rd_T97 l0_3 x30_2).f0.f0), .slice A105_1 ((rd_T97 l0_3 x30_2).f0.f1).length c105_1, .int .i64 ((rd_T97 l0_3 x30_2).f0.f2)]] rfl zee81 ?_; (with_reducible refine (spec_GoodKey.calls k2 ((rd_T97 l0_3 x30_2).f0.f0) _ _ ((rd_T97 l0_3 x30_2).f0.f1) ((rd_T97 l0_3 x30_2).f0.f2) true _ ?side1 ?side2 A23.out).mono ?_); (case side1 => exact Kd.C_below HR105_1.out hbZ); (case side2 => exact HC105_1.out); rintro e w49 ⟨rfl, hb⟩; refine ⟨_, rfl, ?_⟩; have _ := bB gb101 hb; have _ := aM (blk_below (g := gb106) (o := .cells #[.string ((rd_T97 l0_3 x30_2).f0.f0), .slice A105_1 ((rd_T97 l0_3 x30_2).f0.f1).length c105_1, .int .i64 ((rd_T97 l0_3 x30_2).f0.f2), .int .i64 ((rd_T97 l0_3 x30_2).f1.f0), .int .i64 ((rd_T97 l0_3 x30_2).f1.f1), .int .i64 ((rd_T97 l0_3 x30_2).f1.f2), .int .i64 ((rd_T97 l0_3 x30_2).f1.f3), .slice A105_7 ((rd_T97 l0_3 x30_2).f1.f4).length c105_7, .bool ((rd_T97 l0_3 x30_2).f1.f5), .int .i64 ((rd_T97 l0_3 x30_2).f2), .bool ((rd_T97 l0_3 x30_2).f3)] 97 (0, 0)) bkZ hb); have _ := aM (below_step hbZ hb); clear BK101 BK106 HB; rename_i BK101 BK106 HB; (try clear hb); have hcz50_0 : w49.cell? ⟨gb106, 0, none⟩ = some (.string ((rd_T97 l0_3 x30_2).f0.f0)) := (blk_cell BK106.out 0).trans rfl; have hcz50_1 : w49.cell? ⟨gb106, 1, none⟩ = some (.slice A105_1 ((rd_T97 l0_3 x30_2).f0.f1).length c105_1) := (blk_cell BK106.out 1).trans rfl; have hcz50_2 : w49.cell? ⟨gb106, 2, none⟩ = some (.int .i64 ((rd_T97 l0_3 x30_2).f0.f2)) := (blk_cell BK106.out 2).trans rfl; have hcz50_3 : w49.cell? ⟨gb106, 3, none⟩ = some (.int .i64 ((rd_T97 l0_3 x30_2).f1.f0)) := (blk_cell BK106.out 3).trans rfl; have hcz50_4 : w49.cell? ⟨gb106, 4, none⟩ = some (.int .i64 ((rd_T97 l0_3 x30_2).f1.f1)) := (blk_cell BK106.out 4).trans rfl; have hcz50_5 : w49.cell? ⟨gb106, 5, none⟩ = some (.int .i64 ((rd_T97 l0_3 x30_2).f1.f2)) := (blk_cell BK106.out 5).trans rfl; have hcz50_6 : w49.cell? ⟨gb106, 6, none⟩ = some (.int .i64 ((rd_T97 l0_3 x30_2).f1.f3)) := (blk_cell BK106.out 6).trans rfl; have hcz50_7 : w49.cell? ⟨gb106, 7, none⟩ = some (.slice A105_7 ((rd_T97 l0_3 x30_2).f1.f4).length c105_7) := (blk_cell BK106.out 7).trans rfl; have hcz50_8 : w49.cell? ⟨gb106, 8, none⟩ = some (.bool ((rd_T97 l0_3 x30_2).f1.f5)) := (blk_cell BK106.out 8).trans rfl; have hcz50_9 : w49.cell? ⟨gb106, 9, none⟩ = some (.int .i64 ((rd_T97 l0_3 x30_2).f2)) := (blk_cell BK106.out 9).trans rfl; have hcz50_10 : w49.cell? ⟨gb106, 10, none⟩ = some (.bool ((rd_T97 l0_3 x30_2).f3)) := (blk_cell BK106.out 10).trans rfl; have hfz50_0 := blk_frozen BK106.out 0; have hfz50_1 := blk_frozen BK106.out 1; have hfz50_2 := blk_frozen BK106.out 2; have hfz50_3 := blk_frozen BK106.out 3; have hfz50_4 := blk_frozen BK106.out 4; have hfz50_5 := blk_frozen BK106.out 5; have hfz50_6 := blk_frozen BK106.out 6; have hfz50_7 := blk_frozen BK106.out 7; have hfz50_8 := blk_frozen BK106.out 8; have hfz50_9 := blk_frozen BK106.out 9; have hfz50_10 := blk_frozen BK106.out 10; obtain ⟨hcz51_0, hcz51_1, hcz51_2, hcz51_3, hfz51_0, hfz51_1, hfz51_2, hfz51_3⟩ := cellsZ4 BK101.out) | (go_at_call 57; (with_reducible refine (spec_GoodAgg.calls k2 ((rd_T97 l0_3 x30_2).f1.f0) ((rd_T97 l0_3 x30_2).f1.f1) ((rd_T97 l0_3 x30_2).f1.f2) ((rd_T97 l0_3 x30_2).f1.f3) _ _ ((rd_T97 l0_3 x30_2).f1.f4) ((rd_T97 l0_3 x30_2).f1.f5) true _ ?side1 ?side2 A27.out).mono ?_); (case side1 => exact (cZ (Kd.C_below HR105_7.out HB.out))); (case side2 => exact HC105_7.out); rintro e w52 ⟨rfl, hb⟩; have _ := bB gb101 hb; have _ := bB gb106 hb; have _ := aM (below_step hbZ hb); clear BK101 BK106 HB; rename_i BK101 BK106 HB; (try clear hb); have hcz53_0 : w52.cell? ⟨gb106, 0, none⟩ = some (.string ((rd_T97 l0_3 x30_2).f0.f0)) := (blk_cell BK106.out 0).trans rfl; have hcz53_1 : w52.cell? ⟨gb106, 1, none⟩ = some (.slice A105_1 ((rd_T97 l0_3 x30_2).f0.f1).length c105_1) := (blk_cell BK106.out 1).trans rfl; have hcz53_2 : w52.cell? ⟨gb106, 2, none⟩ = some (.int .i64 ((rd_T97 l0_3 x30_2).f0.f2)) := (blk_cell BK106.out 2).trans rfl; have hcz53_3 : w52.cell? ⟨gb106, 3, none⟩ = some (.int .i64 ((rd_T97 l0_3 x30_2).f1.f0)) := (blk_cell BK106.out 3).trans rfl; have hcz53_4 : w52.cell? ⟨gb106, 4, none⟩ = some (.int .i64 ((rd_T97 l0_3 x30_2).f1.f1)) := (blk_cell BK106.out 4).trans rfl; have hcz53_5 : w52.cell? ⟨gb106, 5, none⟩ = some (.int .i64 ((rd_T97 l0_3 x30_2).f1.f2)) := (blk_cell BK106.out 5).trans rfl; have hcz53_6 : w52.cell? ⟨gb106, 6, none⟩ = some (.int .i64 ((rd_T97 l0_3 x30_2).f1.f3)) := (blk_cell BK106.out 6).trans rfl; have hcz53_7 : w52.cell? ⟨gb106, 7, none⟩ = some (.slice A105_7 ((rd_T97 l0_3 x30_2).f1.f4).length c105_7) := (blk_cell BK106.out 7).trans rfl; have hcz53_8 : w52.cell? ⟨gb106, 8, none⟩ = some (.bool ((rd_T97 l0_3 x30_2).f1.f5)) := (blk_cell BK106.out 8).trans rfl; have hcz53_9 : w52.cell? ⟨gb106, 9, none⟩ = some (.int .i64 ((rd_T97 l0_3 x30_2).f2)) := (blk_cell BK106.out 9).trans rfl; have hcz53_10 : w52.cell? ⟨gb106, 10, none⟩ = some (.bool ((rd_T97 l0_3 x30_2).f3)) := (blk_cell BK106.out 10).trans rfl; have hfz53_0 := blk_frozen BK106.out 0; have hfz53_1 := blk_frozen BK106.out 1; have hfz53_2 := blk_frozen BK106.out 2; have hfz53_3 := blk_frozen BK106.out 3; have hfz53_4 := blk_frozen BK106.out 4; have hfz53_5 := blk_frozen BK106.out 5; have hfz53_6 := blk_frozen BK106.out 6; have hfz53_7 := blk_frozen BK106.out 7; have hfz53_8 := blk_frozen BK106.out 8; have hfz53_9 := blk_frozen BK106.out 9; have hfz53_10 := blk_frozen BK106.out 10) | (go_at_call 34; (with_reducible refine (spec_l1In.calls ((rd_T97 l0_3 x30_2).f2) 0 1000000 true _ A37.out).mono ?_); rintro e w' ⟨rfl, ⟨nd, rfl⟩⟩))
                            go_meet
                            case rel => exact ⟨_, (false), z4458, H', ⟨zdc19⟩, ⟨bkZ⟩, ⟨bkZ⟩, ⟨zcb41⟩⟩
                        · replace c38 := Bool.eq_false_iff.mpr c38
                          subst c38
                          have H1 : (spec_GoodBoard.j2 k2 x30_2 l0_3 (l0_3.length : Int) x30_2 true a0_0 a0_1 a0_2 l0_3 ((rd_T97 l0_3 x30_2).f0.f0) ((rd_T97 l0_3 x30_2).f0.f1) ((rd_T97 l0_3 x30_2).f0.f2) ((rd_T97 l0_3 x30_2).f1.f0) ((rd_T97 l0_3 x30_2).f1.f1) ((rd_T97 l0_3 x30_2).f1.f2) ((rd_T97 l0_3 x30_2).f1.f3) ((rd_T97 l0_3 x30_2).f1.f4) ((rd_T97 l0_3 x30_2).f1.f5) ((rd_T97 l0_3 x30_2).f2) ((rd_T97 l0_3 x30_2).f3)) = some r := by rw [if_neg (show ¬ (false = true) by decide)] at H; exact H
                          clear H
                          have H := H1
                          clear H1
                          have H' := aM H
                          clear H
                          have hnb54 := NB106_101.out
                          have hnc54 := NB101_106.out
                          have hcz55_0 : w20.cell? ⟨gb106, 0, none⟩ = some (.string (⟨#[]⟩ : ByteArray)) := (blk_cell BK106.out 0).trans rfl
                          have hcz55_1 : w20.cell? ⟨gb106, 1, none⟩ = some (.slice none 0 0) := (blk_cell BK106.out 1).trans rfl
                          have hcz55_2 : w20.cell? ⟨gb106, 2, none⟩ = some (.int .i64 0) := (blk_cell BK106.out 2).trans rfl
                          have hcz55_3 : w20.cell? ⟨gb106, 3, none⟩ = some (.int .i64 0) := (blk_cell BK106.out 3).trans rfl
                          have hcz55_4 : w20.cell? ⟨gb106, 4, none⟩ = some (.int .i64 0) := (blk_cell BK106.out 4).trans rfl
                          have hcz55_5 : w20.cell? ⟨gb106, 5, none⟩ = some (.int .i64 0) := (blk_cell BK106.out 5).trans rfl
                          have hcz55_6 : w20.cell? ⟨gb106, 6, none⟩ = some (.int .i64 0) := (blk_cell BK106.out 6).trans rfl
                          have hcz55_7 : w20.cell? ⟨gb106, 7, none⟩ = some (.slice none 0 0) := (blk_cell BK106.out 7).trans rfl
                          have hcz55_8 : w20.cell? ⟨gb106, 8, none⟩ = some (.bool false) := (blk_cell BK106.out 8).trans rfl
                          have hcz55_9 : w20.cell? ⟨gb106, 9, none⟩ = some (.int .i64 0) := (blk_cell BK106.out 9).trans rfl
                          have hcz55_10 : w20.cell? ⟨gb106, 10, none⟩ = some (.bool false) := (blk_cell BK106.out 10).trans rfl
                          have hfz55_0 := blk_frozen BK106.out 0
                          have hfz55_1 := blk_frozen BK106.out 1
                          have hfz55_2 := blk_frozen BK106.out 2
                          have hfz55_3 := blk_frozen BK106.out 3
                          have hfz55_4 := blk_frozen BK106.out 4
                          have hfz55_5 := blk_frozen BK106.out 5
                          have hfz55_6 := blk_frozen BK106.out 6
                          have hfz55_7 := blk_frozen BK106.out 7
                          have hfz55_8 := blk_frozen BK106.out 8
                          have hfz55_9 := blk_frozen BK106.out 9
                          have hfz55_10 := blk_frozen BK106.out 10
                          go_wp2_with (first | ((with_reducible refine gate_callee (f := 10) rfl ?_); refine goesL_ (some 37) rfl rfl Tryd.func10 (by kernel_rfl) rfl #[.agg #[.string ((rd_T97 l0_3 x30_2).f0.f0), .slice A105_1 ((rd_T97 l0_3 x30_2).f0.f1).length c105_1, .int .i64 ((rd_T97 l0_3 x30_2).f0.f2)]] rfl zee81 ?_; (with_reducible refine (spec_GoodKey.calls k2 ((rd_T97 l0_3 x30_2).f0.f0) _ _ ((rd_T97 l0_3 x30_2).f0.f1) ((rd_T97 l0_3 x30_2).f0.f2) true _ ?side1 ?side2 A23.out).mono ?_); (case side1 => exact Kd.C_below HR105_1.out hbZ); (case side2 => exact HC105_1.out); rintro e w56 ⟨rfl, hb⟩; refine ⟨_, rfl, ?_⟩; have _ := bB gb101 hb; have _ := aM (blk_below (g := gb106) (o := .cells #[.string ((rd_T97 l0_3 x30_2).f0.f0), .slice A105_1 ((rd_T97 l0_3 x30_2).f0.f1).length c105_1, .int .i64 ((rd_T97 l0_3 x30_2).f0.f2), .int .i64 ((rd_T97 l0_3 x30_2).f1.f0), .int .i64 ((rd_T97 l0_3 x30_2).f1.f1), .int .i64 ((rd_T97 l0_3 x30_2).f1.f2), .int .i64 ((rd_T97 l0_3 x30_2).f1.f3), .slice A105_7 ((rd_T97 l0_3 x30_2).f1.f4).length c105_7, .bool ((rd_T97 l0_3 x30_2).f1.f5), .int .i64 ((rd_T97 l0_3 x30_2).f2), .bool ((rd_T97 l0_3 x30_2).f3)] 97 (0, 0)) bkZ hb); have _ := aM (below_step hbZ hb); clear BK101 BK106 HB; rename_i BK101 BK106 HB; (try clear hb); have hcz57_0 : w56.cell? ⟨gb106, 0, none⟩ = some (.string ((rd_T97 l0_3 x30_2).f0.f0)) := (blk_cell BK106.out 0).trans rfl; have hcz57_1 : w56.cell? ⟨gb106, 1, none⟩ = some (.slice A105_1 ((rd_T97 l0_3 x30_2).f0.f1).length c105_1) := (blk_cell BK106.out 1).trans rfl; have hcz57_2 : w56.cell? ⟨gb106, 2, none⟩ = some (.int .i64 ((rd_T97 l0_3 x30_2).f0.f2)) := (blk_cell BK106.out 2).trans rfl; have hcz57_3 : w56.cell? ⟨gb106, 3, none⟩ = some (.int .i64 ((rd_T97 l0_3 x30_2).f1.f0)) := (blk_cell BK106.out 3).trans rfl; have hcz57_4 : w56.cell? ⟨gb106, 4, none⟩ = some (.int .i64 ((rd_T97 l0_3 x30_2).f1.f1)) := (blk_cell BK106.out 4).trans rfl; have hcz57_5 : w56.cell? ⟨gb106, 5, none⟩ = some (.int .i64 ((rd_T97 l0_3 x30_2).f1.f2)) := (blk_cell BK106.out 5).trans rfl; have hcz57_6 : w56.cell? ⟨gb106, 6, none⟩ = some (.int .i64 ((rd_T97 l0_3 x30_2).f1.f3)) := (blk_cell BK106.out 6).trans rfl; have hcz57_7 : w56.cell? ⟨gb106, 7, none⟩ = some (.slice A105_7 ((rd_T97 l0_3 x30_2).f1.f4).length c105_7) := (blk_cell BK106.out 7).trans rfl; have hcz57_8 : w56.cell? ⟨gb106, 8, none⟩ = some (.bool ((rd_T97 l0_3 x30_2).f1.f5)) := (blk_cell BK106.out 8).trans rfl; have hcz57_9 : w56.cell? ⟨gb106, 9, none⟩ = some (.int .i64 ((rd_T97 l0_3 x30_2).f2)) := (blk_cell BK106.out 9).trans rfl; have hcz57_10 : w56.cell? ⟨gb106, 10, none⟩ = some (.bool ((rd_T97 l0_3 x30_2).f3)) := (blk_cell BK106.out 10).trans rfl; have hfz57_0 := blk_frozen BK106.out 0; have hfz57_1 := blk_frozen BK106.out 1; have hfz57_2 := blk_frozen BK106.out 2; have hfz57_3 := blk_frozen BK106.out 3; have hfz57_4 := blk_frozen BK106.out 4; have hfz57_5 := blk_frozen BK106.out 5; have hfz57_6 := blk_frozen BK106.out 6; have hfz57_7 := blk_frozen BK106.out 7; have hfz57_8 := blk_frozen BK106.out 8; have hfz57_9 := blk_frozen BK106.out 9; have hfz57_10 := blk_frozen BK106.out 10; obtain ⟨hcz58_0, hcz58_1, hcz58_2, hcz58_3, hfz58_0, hfz58_1, hfz58_2, hfz58_3⟩ := cellsZ4 BK101.out) | (go_at_call 57; (with_reducible refine (spec_GoodAgg.calls k2 ((rd_T97 l0_3 x30_2).f1.f0) ((rd_T97 l0_3 x30_2).f1.f1) ((rd_T97 l0_3 x30_2).f1.f2) ((rd_T97 l0_3 x30_2).f1.f3) _ _ ((rd_T97 l0_3 x30_2).f1.f4) ((rd_T97 l0_3 x30_2).f1.f5) true _ ?side1 ?side2 A27.out).mono ?_); (case side1 => exact (cZ (Kd.C_below HR105_7.out HB.out))); (case side2 => exact HC105_7.out); rintro e w59 ⟨rfl, hb⟩; have _ := bB gb101 hb; have _ := bB gb106 hb; have _ := aM (below_step hbZ hb); clear BK101 BK106 HB; rename_i BK101 BK106 HB; (try clear hb); have hcz60_0 : w59.cell? ⟨gb106, 0, none⟩ = some (.string ((rd_T97 l0_3 x30_2).f0.f0)) := (blk_cell BK106.out 0).trans rfl; have hcz60_1 : w59.cell? ⟨gb106, 1, none⟩ = some (.slice A105_1 ((rd_T97 l0_3 x30_2).f0.f1).length c105_1) := (blk_cell BK106.out 1).trans rfl; have hcz60_2 : w59.cell? ⟨gb106, 2, none⟩ = some (.int .i64 ((rd_T97 l0_3 x30_2).f0.f2)) := (blk_cell BK106.out 2).trans rfl; have hcz60_3 : w59.cell? ⟨gb106, 3, none⟩ = some (.int .i64 ((rd_T97 l0_3 x30_2).f1.f0)) := (blk_cell BK106.out 3).trans rfl; have hcz60_4 : w59.cell? ⟨gb106, 4, none⟩ = some (.int .i64 ((rd_T97 l0_3 x30_2).f1.f1)) := (blk_cell BK106.out 4).trans rfl; have hcz60_5 : w59.cell? ⟨gb106, 5, none⟩ = some (.int .i64 ((rd_T97 l0_3 x30_2).f1.f2)) := (blk_cell BK106.out 5).trans rfl; have hcz60_6 : w59.cell? ⟨gb106, 6, none⟩ = some (.int .i64 ((rd_T97 l0_3 x30_2).f1.f3)) := (blk_cell BK106.out 6).trans rfl; have hcz60_7 : w59.cell? ⟨gb106, 7, none⟩ = some (.slice A105_7 ((rd_T97 l0_3 x30_2).f1.f4).length c105_7) := (blk_cell BK106.out 7).trans rfl; have hcz60_8 : w59.cell? ⟨gb106, 8, none⟩ = some (.bool ((rd_T97 l0_3 x30_2).f1.f5)) := (blk_cell BK106.out 8).trans rfl; have hcz60_9 : w59.cell? ⟨gb106, 9, none⟩ = some (.int .i64 ((rd_T97 l0_3 x30_2).f2)) := (blk_cell BK106.out 9).trans rfl; have hcz60_10 : w59.cell? ⟨gb106, 10, none⟩ = some (.bool ((rd_T97 l0_3 x30_2).f3)) := (blk_cell BK106.out 10).trans rfl; have hfz60_0 := blk_frozen BK106.out 0; have hfz60_1 := blk_frozen BK106.out 1; have hfz60_2 := blk_frozen BK106.out 2; have hfz60_3 := blk_frozen BK106.out 3; have hfz60_4 := blk_frozen BK106.out 4; have hfz60_5 := blk_frozen BK106.out 5; have hfz60_6 := blk_frozen BK106.out 6; have hfz60_7 := blk_frozen BK106.out 7; have hfz60_8 := blk_frozen BK106.out 8; have hfz60_9 := blk_frozen BK106.out 9; have hfz60_10 := blk_frozen BK106.out 10) | (go_at_call 34; (with_reducible refine (spec_l1In.calls ((rd_T97 l0_3 x30_2).f2) 0 1000000 false _ A37.out).mono ?_); rintro e w' ⟨rfl, ⟨nd, rfl⟩⟩))
                          go_meet
                          case rel => exact ⟨_, (true), z4458, H', ⟨zdc19⟩, ⟨bkZ⟩, ⟨bkZ⟩, ⟨zcb41⟩⟩
                    · replace c28 := Bool.eq_false_iff.mpr c28
                      subst c28
                      have H1 : (spec_GoodBoard.j2 k2 x30_2 l0_3 (l0_3.length : Int) x30_2 true a0_0 a0_1 a0_2 l0_3 ((rd_T97 l0_3 x30_2).f0.f0) ((rd_T97 l0_3 x30_2).f0.f1) ((rd_T97 l0_3 x30_2).f0.f2) ((rd_T97 l0_3 x30_2).f1.f0) ((rd_T97 l0_3 x30_2).f1.f1) ((rd_T97 l0_3 x30_2).f1.f2) ((rd_T97 l0_3 x30_2).f1.f3) ((rd_T97 l0_3 x30_2).f1.f4) ((rd_T97 l0_3 x30_2).f1.f5) ((rd_T97 l0_3 x30_2).f2) ((rd_T97 l0_3 x30_2).f3)) = some r := by rw [if_neg (show ¬ (false = true) by decide)] at H; exact H
                      clear H
                      have H := H1
                      clear H1
                      have H' := aM H
                      clear H
                      have hnb61 := NB106_101.out
                      have hnc61 := NB101_106.out
                      have hcz62_0 : w20.cell? ⟨gb106, 0, none⟩ = some (.string (⟨#[]⟩ : ByteArray)) := (blk_cell BK106.out 0).trans rfl
                      have hcz62_1 : w20.cell? ⟨gb106, 1, none⟩ = some (.slice none 0 0) := (blk_cell BK106.out 1).trans rfl
                      have hcz62_2 : w20.cell? ⟨gb106, 2, none⟩ = some (.int .i64 0) := (blk_cell BK106.out 2).trans rfl
                      have hcz62_3 : w20.cell? ⟨gb106, 3, none⟩ = some (.int .i64 0) := (blk_cell BK106.out 3).trans rfl
                      have hcz62_4 : w20.cell? ⟨gb106, 4, none⟩ = some (.int .i64 0) := (blk_cell BK106.out 4).trans rfl
                      have hcz62_5 : w20.cell? ⟨gb106, 5, none⟩ = some (.int .i64 0) := (blk_cell BK106.out 5).trans rfl
                      have hcz62_6 : w20.cell? ⟨gb106, 6, none⟩ = some (.int .i64 0) := (blk_cell BK106.out 6).trans rfl
                      have hcz62_7 : w20.cell? ⟨gb106, 7, none⟩ = some (.slice none 0 0) := (blk_cell BK106.out 7).trans rfl
                      have hcz62_8 : w20.cell? ⟨gb106, 8, none⟩ = some (.bool false) := (blk_cell BK106.out 8).trans rfl
                      have hcz62_9 : w20.cell? ⟨gb106, 9, none⟩ = some (.int .i64 0) := (blk_cell BK106.out 9).trans rfl
                      have hcz62_10 : w20.cell? ⟨gb106, 10, none⟩ = some (.bool false) := (blk_cell BK106.out 10).trans rfl
                      have hfz62_0 := blk_frozen BK106.out 0
                      have hfz62_1 := blk_frozen BK106.out 1
                      have hfz62_2 := blk_frozen BK106.out 2
                      have hfz62_3 := blk_frozen BK106.out 3
                      have hfz62_4 := blk_frozen BK106.out 4
                      have hfz62_5 := blk_frozen BK106.out 5
                      have hfz62_6 := blk_frozen BK106.out 6
                      have hfz62_7 := blk_frozen BK106.out 7
                      have hfz62_8 := blk_frozen BK106.out 8
                      have hfz62_9 := blk_frozen BK106.out 9
                      have hfz62_10 := blk_frozen BK106.out 10
                      go_wp2_with (first | ((with_reducible refine gate_callee (f := 10) rfl ?_); refine goesL_ (some 37) rfl rfl Tryd.func10 (by kernel_rfl) rfl #[.agg #[.string ((rd_T97 l0_3 x30_2).f0.f0), .slice A105_1 ((rd_T97 l0_3 x30_2).f0.f1).length c105_1, .int .i64 ((rd_T97 l0_3 x30_2).f0.f2)]] rfl zee81 ?_; (with_reducible refine (spec_GoodKey.calls k2 ((rd_T97 l0_3 x30_2).f0.f0) _ _ ((rd_T97 l0_3 x30_2).f0.f1) ((rd_T97 l0_3 x30_2).f0.f2) true _ ?side1 ?side2 A23.out).mono ?_); (case side1 => exact Kd.C_below HR105_1.out hbZ); (case side2 => exact HC105_1.out); rintro e w63 ⟨rfl, hb⟩; refine ⟨_, rfl, ?_⟩; have _ := bB gb101 hb; have _ := aM (blk_below (g := gb106) (o := .cells #[.string ((rd_T97 l0_3 x30_2).f0.f0), .slice A105_1 ((rd_T97 l0_3 x30_2).f0.f1).length c105_1, .int .i64 ((rd_T97 l0_3 x30_2).f0.f2), .int .i64 ((rd_T97 l0_3 x30_2).f1.f0), .int .i64 ((rd_T97 l0_3 x30_2).f1.f1), .int .i64 ((rd_T97 l0_3 x30_2).f1.f2), .int .i64 ((rd_T97 l0_3 x30_2).f1.f3), .slice A105_7 ((rd_T97 l0_3 x30_2).f1.f4).length c105_7, .bool ((rd_T97 l0_3 x30_2).f1.f5), .int .i64 ((rd_T97 l0_3 x30_2).f2), .bool ((rd_T97 l0_3 x30_2).f3)] 97 (0, 0)) bkZ hb); have _ := aM (below_step hbZ hb); clear BK101 BK106 HB; rename_i BK101 BK106 HB; (try clear hb); have hcz64_0 : w63.cell? ⟨gb106, 0, none⟩ = some (.string ((rd_T97 l0_3 x30_2).f0.f0)) := (blk_cell BK106.out 0).trans rfl; have hcz64_1 : w63.cell? ⟨gb106, 1, none⟩ = some (.slice A105_1 ((rd_T97 l0_3 x30_2).f0.f1).length c105_1) := (blk_cell BK106.out 1).trans rfl; have hcz64_2 : w63.cell? ⟨gb106, 2, none⟩ = some (.int .i64 ((rd_T97 l0_3 x30_2).f0.f2)) := (blk_cell BK106.out 2).trans rfl; have hcz64_3 : w63.cell? ⟨gb106, 3, none⟩ = some (.int .i64 ((rd_T97 l0_3 x30_2).f1.f0)) := (blk_cell BK106.out 3).trans rfl; have hcz64_4 : w63.cell? ⟨gb106, 4, none⟩ = some (.int .i64 ((rd_T97 l0_3 x30_2).f1.f1)) := (blk_cell BK106.out 4).trans rfl; have hcz64_5 : w63.cell? ⟨gb106, 5, none⟩ = some (.int .i64 ((rd_T97 l0_3 x30_2).f1.f2)) := (blk_cell BK106.out 5).trans rfl; have hcz64_6 : w63.cell? ⟨gb106, 6, none⟩ = some (.int .i64 ((rd_T97 l0_3 x30_2).f1.f3)) := (blk_cell BK106.out 6).trans rfl; have hcz64_7 : w63.cell? ⟨gb106, 7, none⟩ = some (.slice A105_7 ((rd_T97 l0_3 x30_2).f1.f4).length c105_7) := (blk_cell BK106.out 7).trans rfl; have hcz64_8 : w63.cell? ⟨gb106, 8, none⟩ = some (.bool ((rd_T97 l0_3 x30_2).f1.f5)) := (blk_cell BK106.out 8).trans rfl; have hcz64_9 : w63.cell? ⟨gb106, 9, none⟩ = some (.int .i64 ((rd_T97 l0_3 x30_2).f2)) := (blk_cell BK106.out 9).trans rfl; have hcz64_10 : w63.cell? ⟨gb106, 10, none⟩ = some (.bool ((rd_T97 l0_3 x30_2).f3)) := (blk_cell BK106.out 10).trans rfl; have hfz64_0 := blk_frozen BK106.out 0; have hfz64_1 := blk_frozen BK106.out 1; have hfz64_2 := blk_frozen BK106.out 2; have hfz64_3 := blk_frozen BK106.out 3; have hfz64_4 := blk_frozen BK106.out 4; have hfz64_5 := blk_frozen BK106.out 5; have hfz64_6 := blk_frozen BK106.out 6; have hfz64_7 := blk_frozen BK106.out 7; have hfz64_8 := blk_frozen BK106.out 8; have hfz64_9 := blk_frozen BK106.out 9; have hfz64_10 := blk_frozen BK106.out 10; obtain ⟨hcz65_0, hcz65_1, hcz65_2, hcz65_3, hfz65_0, hfz65_1, hfz65_2, hfz65_3⟩ := cellsZ4 BK101.out) | (go_at_call 57; (with_reducible refine (spec_GoodAgg.calls k2 ((rd_T97 l0_3 x30_2).f1.f0) ((rd_T97 l0_3 x30_2).f1.f1) ((rd_T97 l0_3 x30_2).f1.f2) ((rd_T97 l0_3 x30_2).f1.f3) _ _ ((rd_T97 l0_3 x30_2).f1.f4) ((rd_T97 l0_3 x30_2).f1.f5) false _ ?side1 ?side2 A27.out).mono ?_); (case side1 => exact (cZ (Kd.C_below HR105_7.out HB.out))); (case side2 => exact HC105_7.out); rintro e w66 ⟨rfl, hb⟩; have _ := bB gb101 hb; have _ := bB gb106 hb; have _ := aM (below_step hbZ hb); clear BK101 BK106 HB; rename_i BK101 BK106 HB; (try clear hb)))
                      go_meet
                      case rel => exact ⟨_, (true), z4458, H', ⟨zdc19⟩, ⟨bkZ⟩, ⟨bkZ⟩, ⟨zcb41⟩⟩
                  · rw [if_neg c26] at H
                    have c26b0 : ((Int.tmod ((rd_T97 l0_3 x30_2).f0.f2) a0_0) == 0) = false := beq_eq_false_iff_ne.mpr c26
                    have c26b1 : ((Int.tmod ((rd_T97 l0_3 x30_2).f0.f2) a0_0) != 0) = true := bne_iff_ne.mpr c26
                    have H' := aM H
                    clear H
                    have hnb67 := NB106_101.out
                    have hnc67 := NB101_106.out
                    have hcz68_0 : w20.cell? ⟨gb106, 0, none⟩ = some (.string (⟨#[]⟩ : ByteArray)) := (blk_cell BK106.out 0).trans rfl
                    have hcz68_1 : w20.cell? ⟨gb106, 1, none⟩ = some (.slice none 0 0) := (blk_cell BK106.out 1).trans rfl
                    have hcz68_2 : w20.cell? ⟨gb106, 2, none⟩ = some (.int .i64 0) := (blk_cell BK106.out 2).trans rfl
                    have hcz68_3 : w20.cell? ⟨gb106, 3, none⟩ = some (.int .i64 0) := (blk_cell BK106.out 3).trans rfl
                    have hcz68_4 : w20.cell? ⟨gb106, 4, none⟩ = some (.int .i64 0) := (blk_cell BK106.out 4).trans rfl
                    have hcz68_5 : w20.cell? ⟨gb106, 5, none⟩ = some (.int .i64 0) := (blk_cell BK106.out 5).trans rfl
                    have hcz68_6 : w20.cell? ⟨gb106, 6, none⟩ = some (.int .i64 0) := (blk_cell BK106.out 6).trans rfl
                    have hcz68_7 : w20.cell? ⟨gb106, 7, none⟩ = some (.slice none 0 0) := (blk_cell BK106.out 7).trans rfl
                    have hcz68_8 : w20.cell? ⟨gb106, 8, none⟩ = some (.bool false) := (blk_cell BK106.out 8).trans rfl
                    have hcz68_9 : w20.cell? ⟨gb106, 9, none⟩ = some (.int .i64 0) := (blk_cell BK106.out 9).trans rfl
                    have hcz68_10 : w20.cell? ⟨gb106, 10, none⟩ = some (.bool false) := (blk_cell BK106.out 10).trans rfl
                    have hfz68_0 := blk_frozen BK106.out 0
                    have hfz68_1 := blk_frozen BK106.out 1
                    have hfz68_2 := blk_frozen BK106.out 2
                    have hfz68_3 := blk_frozen BK106.out 3
                    have hfz68_4 := blk_frozen BK106.out 4
                    have hfz68_5 := blk_frozen BK106.out 5
                    have hfz68_6 := blk_frozen BK106.out 6
                    have hfz68_7 := blk_frozen BK106.out 7
                    have hfz68_8 := blk_frozen BK106.out 8
                    have hfz68_9 := blk_frozen BK106.out 9
                    have hfz68_10 := blk_frozen BK106.out 10
                    go_wp2_with (first | ((with_reducible refine gate_callee (f := 10) rfl ?_); refine goesL_ (some 37) rfl rfl Tryd.func10 (by kernel_rfl) rfl #[.agg #[.string ((rd_T97 l0_3 x30_2).f0.f0), .slice A105_1 ((rd_T97 l0_3 x30_2).f0.f1).length c105_1, .int .i64 ((rd_T97 l0_3 x30_2).f0.f2)]] rfl zee81 ?_; (with_reducible refine (spec_GoodKey.calls k2 ((rd_T97 l0_3 x30_2).f0.f0) _ _ ((rd_T97 l0_3 x30_2).f0.f1) ((rd_T97 l0_3 x30_2).f0.f2) true _ ?side1 ?side2 A23.out).mono ?_); (case side1 => exact Kd.C_below HR105_1.out hbZ); (case side2 => exact HC105_1.out); rintro e w69 ⟨rfl, hb⟩; refine ⟨_, rfl, ?_⟩; have _ := bB gb101 hb; have _ := aM (blk_below (g := gb106) (o := .cells #[.string ((rd_T97 l0_3 x30_2).f0.f0), .slice A105_1 ((rd_T97 l0_3 x30_2).f0.f1).length c105_1, .int .i64 ((rd_T97 l0_3 x30_2).f0.f2), .int .i64 ((rd_T97 l0_3 x30_2).f1.f0), .int .i64 ((rd_T97 l0_3 x30_2).f1.f1), .int .i64 ((rd_T97 l0_3 x30_2).f1.f2), .int .i64 ((rd_T97 l0_3 x30_2).f1.f3), .slice A105_7 ((rd_T97 l0_3 x30_2).f1.f4).length c105_7, .bool ((rd_T97 l0_3 x30_2).f1.f5), .int .i64 ((rd_T97 l0_3 x30_2).f2), .bool ((rd_T97 l0_3 x30_2).f3)] 97 (0, 0)) bkZ hb); have _ := aM (below_step hbZ hb); clear BK101 BK106 HB; rename_i BK101 BK106 HB; (try clear hb); have hcz70_0 : w69.cell? ⟨gb106, 0, none⟩ = some (.string ((rd_T97 l0_3 x30_2).f0.f0)) := (blk_cell BK106.out 0).trans rfl; have hcz70_1 : w69.cell? ⟨gb106, 1, none⟩ = some (.slice A105_1 ((rd_T97 l0_3 x30_2).f0.f1).length c105_1) := (blk_cell BK106.out 1).trans rfl; have hcz70_2 : w69.cell? ⟨gb106, 2, none⟩ = some (.int .i64 ((rd_T97 l0_3 x30_2).f0.f2)) := (blk_cell BK106.out 2).trans rfl; have hcz70_3 : w69.cell? ⟨gb106, 3, none⟩ = some (.int .i64 ((rd_T97 l0_3 x30_2).f1.f0)) := (blk_cell BK106.out 3).trans rfl; have hcz70_4 : w69.cell? ⟨gb106, 4, none⟩ = some (.int .i64 ((rd_T97 l0_3 x30_2).f1.f1)) := (blk_cell BK106.out 4).trans rfl; have hcz70_5 : w69.cell? ⟨gb106, 5, none⟩ = some (.int .i64 ((rd_T97 l0_3 x30_2).f1.f2)) := (blk_cell BK106.out 5).trans rfl; have hcz70_6 : w69.cell? ⟨gb106, 6, none⟩ = some (.int .i64 ((rd_T97 l0_3 x30_2).f1.f3)) := (blk_cell BK106.out 6).trans rfl; have hcz70_7 : w69.cell? ⟨gb106, 7, none⟩ = some (.slice A105_7 ((rd_T97 l0_3 x30_2).f1.f4).length c105_7) := (blk_cell BK106.out 7).trans rfl; have hcz70_8 : w69.cell? ⟨gb106, 8, none⟩ = some (.bool ((rd_T97 l0_3 x30_2).f1.f5)) := (blk_cell BK106.out 8).trans rfl; have hcz70_9 : w69.cell? ⟨gb106, 9, none⟩ = some (.int .i64 ((rd_T97 l0_3 x30_2).f2)) := (blk_cell BK106.out 9).trans rfl; have hcz70_10 : w69.cell? ⟨gb106, 10, none⟩ = some (.bool ((rd_T97 l0_3 x30_2).f3)) := (blk_cell BK106.out 10).trans rfl; have hfz70_0 := blk_frozen BK106.out 0; have hfz70_1 := blk_frozen BK106.out 1; have hfz70_2 := blk_frozen BK106.out 2; have hfz70_3 := blk_frozen BK106.out 3; have hfz70_4 := blk_frozen BK106.out 4; have hfz70_5 := blk_frozen BK106.out 5; have hfz70_6 := blk_frozen BK106.out 6; have hfz70_7 := blk_frozen BK106.out 7; have hfz70_8 := blk_frozen BK106.out 8; have hfz70_9 := blk_frozen BK106.out 9; have hfz70_10 := blk_frozen BK106.out 10; obtain ⟨hcz71_0, hcz71_1, hcz71_2, hcz71_3, hfz71_0, hfz71_1, hfz71_2, hfz71_3⟩ := cellsZ4 BK101.out))
                    go_meet
                    case rel => exact ⟨_, (true), z4458, H', ⟨zdc19⟩, ⟨bkZ⟩, ⟨bkZ⟩, ⟨zcb41⟩⟩
              · replace c24 := Bool.eq_false_iff.mpr c24
                subst c24
                have H1 : (spec_GoodBoard.j2 k2 x30_2 l0_3 (l0_3.length : Int) x30_2 true a0_0 a0_1 a0_2 l0_3 ((rd_T97 l0_3 x30_2).f0.f0) ((rd_T97 l0_3 x30_2).f0.f1) ((rd_T97 l0_3 x30_2).f0.f2) ((rd_T97 l0_3 x30_2).f1.f0) ((rd_T97 l0_3 x30_2).f1.f1) ((rd_T97 l0_3 x30_2).f1.f2) ((rd_T97 l0_3 x30_2).f1.f3) ((rd_T97 l0_3 x30_2).f1.f4) ((rd_T97 l0_3 x30_2).f1.f5) ((rd_T97 l0_3 x30_2).f2) ((rd_T97 l0_3 x30_2).f3)) = some r := by rw [if_neg (show ¬ (false = true) by decide)] at H; exact H
                clear H
                have H := H1
                clear H1
                have H' := aM H
                clear H
                have hnb72 := NB106_101.out
                have hnc72 := NB101_106.out
                have hcz73_0 : w20.cell? ⟨gb106, 0, none⟩ = some (.string (⟨#[]⟩ : ByteArray)) := (blk_cell BK106.out 0).trans rfl
                have hcz73_1 : w20.cell? ⟨gb106, 1, none⟩ = some (.slice none 0 0) := (blk_cell BK106.out 1).trans rfl
                have hcz73_2 : w20.cell? ⟨gb106, 2, none⟩ = some (.int .i64 0) := (blk_cell BK106.out 2).trans rfl
                have hcz73_3 : w20.cell? ⟨gb106, 3, none⟩ = some (.int .i64 0) := (blk_cell BK106.out 3).trans rfl
                have hcz73_4 : w20.cell? ⟨gb106, 4, none⟩ = some (.int .i64 0) := (blk_cell BK106.out 4).trans rfl
                have hcz73_5 : w20.cell? ⟨gb106, 5, none⟩ = some (.int .i64 0) := (blk_cell BK106.out 5).trans rfl
                have hcz73_6 : w20.cell? ⟨gb106, 6, none⟩ = some (.int .i64 0) := (blk_cell BK106.out 6).trans rfl
                have hcz73_7 : w20.cell? ⟨gb106, 7, none⟩ = some (.slice none 0 0) := (blk_cell BK106.out 7).trans rfl
                have hcz73_8 : w20.cell? ⟨gb106, 8, none⟩ = some (.bool false) := (blk_cell BK106.out 8).trans rfl
                have hcz73_9 : w20.cell? ⟨gb106, 9, none⟩ = some (.int .i64 0) := (blk_cell BK106.out 9).trans rfl
                have hcz73_10 : w20.cell? ⟨gb106, 10, none⟩ = some (.bool false) := (blk_cell BK106.out 10).trans rfl
                have hfz73_0 := blk_frozen BK106.out 0
                have hfz73_1 := blk_frozen BK106.out 1
                have hfz73_2 := blk_frozen BK106.out 2
                have hfz73_3 := blk_frozen BK106.out 3
                have hfz73_4 := blk_frozen BK106.out 4
                have hfz73_5 := blk_frozen BK106.out 5
                have hfz73_6 := blk_frozen BK106.out 6
                have hfz73_7 := blk_frozen BK106.out 7
                have hfz73_8 := blk_frozen BK106.out 8
                have hfz73_9 := blk_frozen BK106.out 9
                have hfz73_10 := blk_frozen BK106.out 10
                go_wp2_with (first | ((with_reducible refine gate_callee (f := 10) rfl ?_); refine goesL_ (some 37) rfl rfl Tryd.func10 (by kernel_rfl) rfl #[.agg #[.string ((rd_T97 l0_3 x30_2).f0.f0), .slice A105_1 ((rd_T97 l0_3 x30_2).f0.f1).length c105_1, .int .i64 ((rd_T97 l0_3 x30_2).f0.f2)]] rfl zee81 ?_; (with_reducible refine (spec_GoodKey.calls k2 ((rd_T97 l0_3 x30_2).f0.f0) _ _ ((rd_T97 l0_3 x30_2).f0.f1) ((rd_T97 l0_3 x30_2).f0.f2) false _ ?side1 ?side2 A23.out).mono ?_); (case side1 => exact Kd.C_below HR105_1.out hbZ); (case side2 => exact HC105_1.out); rintro e w74 ⟨rfl, hb⟩; refine ⟨_, rfl, ?_⟩; have _ := bB gb101 hb; have _ := aM (blk_below (g := gb106) (o := .cells #[.string ((rd_T97 l0_3 x30_2).f0.f0), .slice A105_1 ((rd_T97 l0_3 x30_2).f0.f1).length c105_1, .int .i64 ((rd_T97 l0_3 x30_2).f0.f2), .int .i64 ((rd_T97 l0_3 x30_2).f1.f0), .int .i64 ((rd_T97 l0_3 x30_2).f1.f1), .int .i64 ((rd_T97 l0_3 x30_2).f1.f2), .int .i64 ((rd_T97 l0_3 x30_2).f1.f3), .slice A105_7 ((rd_T97 l0_3 x30_2).f1.f4).length c105_7, .bool ((rd_T97 l0_3 x30_2).f1.f5), .int .i64 ((rd_T97 l0_3 x30_2).f2), .bool ((rd_T97 l0_3 x30_2).f3)] 97 (0, 0)) bkZ hb); have _ := aM (below_step hbZ hb); clear BK101 BK106 HB; rename_i BK101 BK106 HB; (try clear hb)))
                go_meet
                case rel => exact ⟨_, (true), z4458, H', ⟨zdc19⟩, ⟨bkZ⟩, ⟨bkZ⟩, ⟨zcb41⟩⟩
             case rest =>
              clear HC19
              try clear c1
              try clear p1
              try clear q1
              try clear hx1
              try clear c2
              try clear p2
              try clear c3
              try clear c4
              try clear c5
              try clear c6
              try clear c7
              try clear c9
              try clear c10
              try clear p10
              try clear q10
              try clear hx10
              try clear c14
              try clear c16
              try clear c16b0
              try clear c17
              try clear c17b0
              try clear c18
              try clear c18b0
              try clear c21
              try clear c24
              try clear c25
              try clear c25b0
              try clear c25b1
              try clear c26
              try clear c26b0
              try clear c26b1
              try clear c28
              try clear c29
              try clear c29b0
              try clear c29b1
              try clear c30
              try clear c34
              try clear c38
              try clear c39
              try clear c39b0
              try clear c39b1
              try clear c40
              try clear c47
              try clear c54
              try clear c61
              try clear c67
              try clear c72
              try clear hcz10_0 hcz10_1 hcz10_2 hcz10_3
              try clear hcz11_0 hcz11_1 hcz11_2 hcz11_3
              try clear hcz12_0 hcz12_1 hcz12_2 hcz12_3
              try clear hcz13_0 hcz13_1 hcz13_2 hcz13_3
              try clear hcz15_0 hcz15_1 hcz15_2 hcz15_3
              try clear hcz22_0 hcz22_1 hcz22_10 hcz22_2 hcz22_3 hcz22_4 hcz22_5 hcz22_6 hcz22_7 hcz22_8 hcz22_9
              try clear hcz31_0 hcz31_1 hcz31_10 hcz31_2 hcz31_3 hcz31_4 hcz31_5 hcz31_6 hcz31_7 hcz31_8 hcz31_9
              try clear hcz33_0 hcz33_1 hcz33_10 hcz33_2 hcz33_3 hcz33_4 hcz33_5 hcz33_6 hcz33_7 hcz33_8 hcz33_9
              try clear hcz34_0 hcz34_1 hcz34_2 hcz34_3
              try clear hcz36_0 hcz36_1 hcz36_10 hcz36_2 hcz36_3 hcz36_4 hcz36_5 hcz36_6 hcz36_7 hcz36_8 hcz36_9
              try clear hcz41_0 hcz41_1 hcz41_10 hcz41_2 hcz41_3 hcz41_4 hcz41_5 hcz41_6 hcz41_7 hcz41_8 hcz41_9
              try clear hcz43_0 hcz43_1 hcz43_10 hcz43_2 hcz43_3 hcz43_4 hcz43_5 hcz43_6 hcz43_7 hcz43_8 hcz43_9
              try clear hcz44_0 hcz44_1 hcz44_2 hcz44_3
              try clear hcz46_0 hcz46_1 hcz46_10 hcz46_2 hcz46_3 hcz46_4 hcz46_5 hcz46_6 hcz46_7 hcz46_8 hcz46_9
              try clear hcz48_0 hcz48_1 hcz48_10 hcz48_2 hcz48_3 hcz48_4 hcz48_5 hcz48_6 hcz48_7 hcz48_8 hcz48_9
              try clear hcz50_0 hcz50_1 hcz50_10 hcz50_2 hcz50_3 hcz50_4 hcz50_5 hcz50_6 hcz50_7 hcz50_8 hcz50_9
              try clear hcz51_0 hcz51_1 hcz51_2 hcz51_3
              try clear hcz53_0 hcz53_1 hcz53_10 hcz53_2 hcz53_3 hcz53_4 hcz53_5 hcz53_6 hcz53_7 hcz53_8 hcz53_9
              try clear hcz55_0 hcz55_1 hcz55_10 hcz55_2 hcz55_3 hcz55_4 hcz55_5 hcz55_6 hcz55_7 hcz55_8 hcz55_9
              try clear hcz57_0 hcz57_1 hcz57_10 hcz57_2 hcz57_3 hcz57_4 hcz57_5 hcz57_6 hcz57_7 hcz57_8 hcz57_9
              try clear hcz58_0 hcz58_1 hcz58_2 hcz58_3
              try clear hcz60_0 hcz60_1 hcz60_10 hcz60_2 hcz60_3 hcz60_4 hcz60_5 hcz60_6 hcz60_7 hcz60_8 hcz60_9
              try clear hcz62_0 hcz62_1 hcz62_10 hcz62_2 hcz62_3 hcz62_4 hcz62_5 hcz62_6 hcz62_7 hcz62_8 hcz62_9
              try clear hcz64_0 hcz64_1 hcz64_10 hcz64_2 hcz64_3 hcz64_4 hcz64_5 hcz64_6 hcz64_7 hcz64_8 hcz64_9
              try clear hcz65_0 hcz65_1 hcz65_2 hcz65_3
              try clear hcz68_0 hcz68_1 hcz68_10 hcz68_2 hcz68_3 hcz68_4 hcz68_5 hcz68_6 hcz68_7 hcz68_8 hcz68_9
              try clear hcz70_0 hcz70_1 hcz70_10 hcz70_2 hcz70_3 hcz70_4 hcz70_5 hcz70_6 hcz70_7 hcz70_8 hcz70_9
              try clear hcz71_0 hcz71_1 hcz71_2 hcz71_3
              try clear hcz73_0 hcz73_1 hcz73_10 hcz73_2 hcz73_3 hcz73_4 hcz73_5 hcz73_6 hcz73_7 hcz73_8 hcz73_9
              try clear hfz10_0 hfz10_1 hfz10_2 hfz10_3
              try clear hfz11_0 hfz11_1 hfz11_2 hfz11_3
              try clear hfz12_0 hfz12_1 hfz12_2 hfz12_3
              try clear hfz13_0 hfz13_1 hfz13_2 hfz13_3
              try clear hfz15_0 hfz15_1 hfz15_2 hfz15_3
              try clear hfz22_0 hfz22_1 hfz22_10 hfz22_2 hfz22_3 hfz22_4 hfz22_5 hfz22_6 hfz22_7 hfz22_8 hfz22_9
              try clear hfz31_0 hfz31_1 hfz31_10 hfz31_2 hfz31_3 hfz31_4 hfz31_5 hfz31_6 hfz31_7 hfz31_8 hfz31_9
              try clear hfz33_0 hfz33_1 hfz33_10 hfz33_2 hfz33_3 hfz33_4 hfz33_5 hfz33_6 hfz33_7 hfz33_8 hfz33_9
              try clear hfz34_0 hfz34_1 hfz34_2 hfz34_3
              try clear hfz36_0 hfz36_1 hfz36_10 hfz36_2 hfz36_3 hfz36_4 hfz36_5 hfz36_6 hfz36_7 hfz36_8 hfz36_9
              try clear hfz41_0 hfz41_1 hfz41_10 hfz41_2 hfz41_3 hfz41_4 hfz41_5 hfz41_6 hfz41_7 hfz41_8 hfz41_9
              try clear hfz43_0 hfz43_1 hfz43_10 hfz43_2 hfz43_3 hfz43_4 hfz43_5 hfz43_6 hfz43_7 hfz43_8 hfz43_9
              try clear hfz44_0 hfz44_1 hfz44_2 hfz44_3
              try clear hfz46_0 hfz46_1 hfz46_10 hfz46_2 hfz46_3 hfz46_4 hfz46_5 hfz46_6 hfz46_7 hfz46_8 hfz46_9
              try clear hfz48_0 hfz48_1 hfz48_10 hfz48_2 hfz48_3 hfz48_4 hfz48_5 hfz48_6 hfz48_7 hfz48_8 hfz48_9
              try clear hfz50_0 hfz50_1 hfz50_10 hfz50_2 hfz50_3 hfz50_4 hfz50_5 hfz50_6 hfz50_7 hfz50_8 hfz50_9
              try clear hfz51_0 hfz51_1 hfz51_2 hfz51_3
              try clear hfz53_0 hfz53_1 hfz53_10 hfz53_2 hfz53_3 hfz53_4 hfz53_5 hfz53_6 hfz53_7 hfz53_8 hfz53_9
              try clear hfz55_0 hfz55_1 hfz55_10 hfz55_2 hfz55_3 hfz55_4 hfz55_5 hfz55_6 hfz55_7 hfz55_8 hfz55_9
              try clear hfz57_0 hfz57_1 hfz57_10 hfz57_2 hfz57_3 hfz57_4 hfz57_5 hfz57_6 hfz57_7 hfz57_8 hfz57_9
              try clear hfz58_0 hfz58_1 hfz58_2 hfz58_3
              try clear hfz60_0 hfz60_1 hfz60_10 hfz60_2 hfz60_3 hfz60_4 hfz60_5 hfz60_6 hfz60_7 hfz60_8 hfz60_9
              try clear hfz62_0 hfz62_1 hfz62_10 hfz62_2 hfz62_3 hfz62_4 hfz62_5 hfz62_6 hfz62_7 hfz62_8 hfz62_9
              try clear hfz64_0 hfz64_1 hfz64_10 hfz64_2 hfz64_3 hfz64_4 hfz64_5 hfz64_6 hfz64_7 hfz64_8 hfz64_9
              try clear hfz65_0 hfz65_1 hfz65_2 hfz65_3
              try clear hfz68_0 hfz68_1 hfz68_10 hfz68_2 hfz68_3 hfz68_4 hfz68_5 hfz68_6 hfz68_7 hfz68_8 hfz68_9
              try clear hfz70_0 hfz70_1 hfz70_10 hfz70_2 hfz70_3 hfz70_4 hfz70_5 hfz70_6 hfz70_7 hfz70_8 hfz70_9
              try clear hfz71_0 hfz71_1 hfz71_2 hfz71_3
              try clear hfz73_0 hfz73_1 hfz73_10 hfz73_2 hfz73_3 hfz73_4 hfz73_5 hfz73_6 hfz73_7 hfz73_8 hfz73_9
              try clear hx105_0
              try clear hx105_1
              try clear hx105_10
              try clear hx105_2
              try clear hx105_3
              try clear hx105_4
              try clear hx105_5
              try clear hx105_6
              try clear hx105_7
              try clear hx105_8
              try clear hx105_9
              try clear p105
              try clear p2
              try clear q105
              obtain ⟨kq, x75_18, rfl, HA, HJ18, BK101, BK106, HB⟩ := hcut
              cases kq with
              | zero => exact absurd HA.out (by simp [spec_GoodBoard.j2])
              | succ kj18 =>
               have H := HA.out
               clear HA
               simp only [spec_GoodBoard.j2] at H
               by_cases c75 : x75_18 = true
               · subst c75
                 have H1 : (some false) = some r := by rw [if_pos rfl] at H; exact H
                 clear H
                 have H := H1
                 clear H1
                 obtain rfl := Option.some.inj H
                 go_wp2
                 go_ret
                 exact ⟨z674d, zcb41⟩
               · replace c75 := Bool.eq_false_iff.mpr c75
                 subst c75
                 have H1 : (if x30_2 > 0 then (if 0 ≤ (wrap64 (x30_2 - 1)) then (if (wrap64 (x30_2 - 1)) < (l0_3.length : Int) then ((spec_l1Compare.f kj18 ((rd_T97 l0_3 (wrap64 (x30_2 - 1))).f0.f0) ((rd_T97 l0_3 (wrap64 (x30_2 - 1))).f0.f1) ((rd_T97 l0_3 (wrap64 (x30_2 - 1))).f0.f2) ((rd_T97 l0_3 x30_2).f0.f0) ((rd_T97 l0_3 x30_2).f0.f1) ((rd_T97 l0_3 x30_2).f0.f2)).bind fun t111 => (if t111 ≥ 0 then (some false) else (spec_GoodBoard.l0 kj18 l0_3 (l0_3.length : Int) (wrap64 (x30_2 + 1)) a0_0 a0_1 a0_2 l0_3))) else (none)) else (none)) else (spec_GoodBoard.l0 kj18 l0_3 (l0_3.length : Int) (wrap64 (x30_2 + 1)) a0_0 a0_1 a0_2 l0_3)) = some r := by rw [if_neg (show ¬ (false = true) by decide)] at H; exact H
                 clear H
                 have H := H1
                 clear H1
                 by_cases c76 : x30_2 > 0
                 · rw [if_pos c76] at H
                   have c76b0 : decide (0 < x30_2) = true := decide_eq_true c76
                   clear c76
                   obtain ⟨ji77, hji77⟩ : ∃ j_ : Int, (wrap64 (x30_2 - 1)) = j_ := ⟨_, rfl⟩
                   replace H : (if 0 ≤ (ji77) then (if (ji77) < (l0_3.length : Int) then ((spec_l1Compare.f kj18 ((rd_T97 l0_3 (ji77)).f0.f0) ((rd_T97 l0_3 (ji77)).f0.f1) ((rd_T97 l0_3 (ji77)).f0.f2) ((rd_T97 l0_3 x30_2).f0.f0) ((rd_T97 l0_3 x30_2).f0.f1) ((rd_T97 l0_3 x30_2).f0.f2)).bind fun t111 => (if t111 ≥ 0 then (some false) else (spec_GoodBoard.l0 kj18 l0_3 (l0_3.length : Int) (wrap64 (x30_2 + 1)) a0_0 a0_1 a0_2 l0_3))) else (none)) else (none)) = some r := by first | (rw [hji77] at H; exact H) | (simp only [hji77] at H ⊢; exact H)
                   have hji77w : (IntKind.i64.wrap (x30_2 - 1)) = ji77 := (i64_w _).trans hji77
                   by_cases c78 : 0 ≤ (ji77)
                   · rw [if_pos c78] at H
                     have c78b0 : decide (0 ≤ (ji77)) = true := decide_eq_true c78
                     clear c78
                     by_cases c79 : (ji77) < (l0_3.length : Int)
                     · rw [if_pos c79] at H
                       have c79b0 : decide ((ji77) < (l0_3.length : Int)) = true := decide_eq_true c79
                       clear c79
                       replace H := Option.bind_eq_some_iff.mp H
                       obtain ⟨t111, A800, H⟩ := H
                       try dsimp only at H
                       have A80 := aM A800
                       clear A800
                       by_cases c81 : t111 ≥ 0
                       · rw [if_pos c81] at H
                         have c81b0 : decide (0 ≤ t111) = true := decide_eq_true c81
                         clear c81
                         obtain rfl := Option.some.inj H
                         try go_wp2
                         have _ := aM (blk_drew BK101.out)
                         have _ := aM (blk_drew BK106.out)
                         have _ := aM (below_drew1 HB.out)
                         clear BK101
                         clear BK106
                         clear HB
                         rename_i BK101 BK106 HB
                         have p110 : 0 ≤ ((ji77) : Int) := of_decide_eq_true z1200
                         have q110 : (ji77) < (l0_3.length : Int) := of_decide_eq_true z1200
                         obtain ⟨ad110, A110_1, c110_1, A110_7, c110_7, e110, hx110_0, hx110_1, hx110_2, hx110_3, hx110_4, hx110_5, hx110_6, hx110_7, hx110_8, hx110_9, hx110_10, hl110_1, hi110_1, hl110_7, hi110_7⟩ := at_T97 HR0_3.out (ji77) p110 q110
                         have hw110_10 := hx110_10
                         have hw110_9 := hx110_9
                         have hw110_8 := hx110_8
                         have hw110_7 := hx110_7
                         have hw110_6 := hx110_6
                         have hw110_5 := hx110_5
                         have hw110_4 := hx110_4
                         have hw110_3 := hx110_3
                         have hw110_2 := hx110_2
                         have hw110_1 := hx110_1
                         have hw110_0 := hx110_0
                         obtain rfl : ad105 = ad110 := (by injection e110)
                         replace hx110_0 := (HB.out.cell (World.block_lt_of_cell? w _ hx110_0)).trans hx110_0
                         replace hx110_1 := (HB.out.cell (World.block_lt_of_cell? w _ hx110_1)).trans hx110_1
                         replace hx110_2 := (HB.out.cell (World.block_lt_of_cell? w _ hx110_2)).trans hx110_2
                         replace hx110_3 := (HB.out.cell (World.block_lt_of_cell? w _ hx110_3)).trans hx110_3
                         replace hx110_4 := (HB.out.cell (World.block_lt_of_cell? w _ hx110_4)).trans hx110_4
                         replace hx110_5 := (HB.out.cell (World.block_lt_of_cell? w _ hx110_5)).trans hx110_5
                         replace hx110_6 := (HB.out.cell (World.block_lt_of_cell? w _ hx110_6)).trans hx110_6
                         replace hx110_7 := (HB.out.cell (World.block_lt_of_cell? w _ hx110_7)).trans hx110_7
                         replace hx110_8 := (HB.out.cell (World.block_lt_of_cell? w _ hx110_8)).trans hx110_8
                         replace hx110_9 := (HB.out.cell (World.block_lt_of_cell? w _ hx110_9)).trans hx110_9
                         replace hx110_10 := (HB.out.cell (World.block_lt_of_cell? w _ hx110_10)).trans hx110_10
                         have HR110_1 := aM hi110_1
                         have HC110_1 := aM hl110_1
                         clear hi110_1 hl110_1
                         have HR110_7 := aM hi110_7
                         have HC110_7 := aM hl110_7
                         clear hi110_7 hl110_7
                         replace p110 := eq_true p110
                         replace q110 := eq_true q110
                         refine start_ (n := 15) (S := fun w' => w'.cell? ⟨gb101, 0, none⟩ = some (.int .i64 a0_0) ∧ w'.cell? ⟨gb101, 1, none⟩ = some (.int .i64 a0_1) ∧ w'.cell? ⟨gb101, 2, none⟩ = some (.int .i64 a0_2) ∧ w'.cell? ⟨gb101, 3, none⟩ = some (.slice (some ad105) l0_3.length c0_3) ∧ w'.cell? ⟨gb106, 0, none⟩ = some (.string ((rd_T97 l0_3 x30_2).f0.f0)) ∧ w'.cell? ⟨gb106, 1, none⟩ = some (.slice A105_1 ((rd_T97 l0_3 x30_2).f0.f1).length c105_1) ∧ w'.cell? ⟨gb106, 2, none⟩ = some (.int .i64 ((rd_T97 l0_3 x30_2).f0.f2)) ∧ w'.cell? ⟨gb106, 3, none⟩ = some (.int .i64 ((rd_T97 l0_3 x30_2).f1.f0)) ∧ w'.cell? ⟨gb106, 4, none⟩ = some (.int .i64 ((rd_T97 l0_3 x30_2).f1.f1)) ∧ w'.cell? ⟨gb106, 5, none⟩ = some (.int .i64 ((rd_T97 l0_3 x30_2).f1.f2)) ∧ w'.cell? ⟨gb106, 6, none⟩ = some (.int .i64 ((rd_T97 l0_3 x30_2).f1.f3)) ∧ w'.cell? ⟨gb106, 7, none⟩ = some (.slice A105_7 ((rd_T97 l0_3 x30_2).f1.f4).length c105_7) ∧ w'.cell? ⟨gb106, 8, none⟩ = some (.bool ((rd_T97 l0_3 x30_2).f1.f5)) ∧ w'.cell? ⟨gb106, 9, none⟩ = some (.int .i64 ((rd_T97 l0_3 x30_2).f2)) ∧ w'.cell? ⟨gb106, 10, none⟩ = some (.bool ((rd_T97 l0_3 x30_2).f3)) ∧ w'.cell? (ad105.add (((ji77)).toNat * 11)) = some (.string ((rd_T97 l0_3 (ji77)).f0.f0)) ∧ w'.cell? ⟨(ad105.add (((ji77)).toNat * 11)).block, (ad105.add (((ji77)).toNat * 11)).off + 1, none⟩ = some (.slice A110_1 ((rd_T97 l0_3 (ji77)).f0.f1).length c110_1) ∧ w'.cell? ⟨(ad105.add (((ji77)).toNat * 11)).block, (ad105.add (((ji77)).toNat * 11)).off + 2, none⟩ = some (.int .i64 ((rd_T97 l0_3 (ji77)).f0.f2)) ∧ w'.cell? ⟨(ad105.add (((ji77)).toNat * 11)).block, (ad105.add (((ji77)).toNat * 11)).off + 3, none⟩ = some (.int .i64 ((rd_T97 l0_3 (ji77)).f1.f0)) ∧ w'.cell? ⟨(ad105.add (((ji77)).toNat * 11)).block, (ad105.add (((ji77)).toNat * 11)).off + 4, none⟩ = some (.int .i64 ((rd_T97 l0_3 (ji77)).f1.f1)) ∧ w'.cell? ⟨(ad105.add (((ji77)).toNat * 11)).block, (ad105.add (((ji77)).toNat * 11)).off + 5, none⟩ = some (.int .i64 ((rd_T97 l0_3 (ji77)).f1.f2)) ∧ w'.cell? ⟨(ad105.add (((ji77)).toNat * 11)).block, (ad105.add (((ji77)).toNat * 11)).off + 6, none⟩ = some (.int .i64 ((rd_T97 l0_3 (ji77)).f1.f3)) ∧ w'.cell? ⟨(ad105.add (((ji77)).toNat * 11)).block, (ad105.add (((ji77)).toNat * 11)).off + 7, none⟩ = some (.slice A110_7 ((rd_T97 l0_3 (ji77)).f1.f4).length c110_7) ∧ w'.cell? ⟨(ad105.add (((ji77)).toNat * 11)).block, (ad105.add (((ji77)).toNat * 11)).off + 8, none⟩ = some (.bool ((rd_T97 l0_3 (ji77)).f1.f5)) ∧ w'.cell? ⟨(ad105.add (((ji77)).toNat * 11)).block, (ad105.add (((ji77)).toNat * 11)).off + 9, none⟩ = some (.int .i64 ((rd_T97 l0_3 (ji77)).f2)) ∧ w'.cell? ⟨(ad105.add (((ji77)).toNat * 11)).block, (ad105.add (((ji77)).toNat * 11)).off + 10, none⟩ = some (.bool ((rd_T97 l0_3 (ji77)).f3))) (ds := []) #[false, false, false, false, false, false, false, false, false, false, false, false, false, false, false] (by kernel_rfl) rfl rfl ⟨(blk_cell BK101.out 0).trans rfl, (blk_cell BK101.out 1).trans rfl, (blk_cell BK101.out 2).trans rfl, (blk_cell BK101.out 3).trans rfl, (blk_cell BK106.out 0).trans rfl, (blk_cell BK106.out 1).trans rfl, (blk_cell BK106.out 2).trans rfl, (blk_cell BK106.out 3).trans rfl, (blk_cell BK106.out 4).trans rfl, (blk_cell BK106.out 5).trans rfl, (blk_cell BK106.out 6).trans rfl, (blk_cell BK106.out 7).trans rfl, (blk_cell BK106.out 8).trans rfl, (blk_cell BK106.out 9).trans rfl, (blk_cell BK106.out 10).trans rfl, ((HB.out.cell (World.block_lt_of_cell? w _ hw110_0)).trans hw110_0), ((HB.out.cell (World.block_lt_of_cell? w _ hw110_1)).trans hw110_1), ((HB.out.cell (World.block_lt_of_cell? w _ hw110_2)).trans hw110_2), ((HB.out.cell (World.block_lt_of_cell? w _ hw110_3)).trans hw110_3), ((HB.out.cell (World.block_lt_of_cell? w _ hw110_4)).trans hw110_4), ((HB.out.cell (World.block_lt_of_cell? w _ hw110_5)).trans hw110_5), ((HB.out.cell (World.block_lt_of_cell? w _ hw110_6)).trans hw110_6), ((HB.out.cell (World.block_lt_of_cell? w _ hw110_7)).trans hw110_7), ((HB.out.cell (World.block_lt_of_cell? w _ hw110_8)).trans hw110_8), ((HB.out.cell (World.block_lt_of_cell? w _ hw110_9)).trans hw110_9), ((HB.out.cell (World.block_lt_of_cell? w _ hw110_10)).trans hw110_10)⟩ (fun hHeld => ?_); refine with_tabW spec_GoodBoard.tab8 spec_GoodBoard.bits8 (fun HT_ HW_ => ?_)
                         generalize wc.drew = w82 at BK101 BK106 HB HR110_1 HR110_7 hx110_0 hx110_1 hx110_10 hx110_2 hx110_3 hx110_4 hx110_5 hx110_6 hx110_7 hx110_8 hx110_9 hHeld ⊢
                         refine pure_ (i := 0) (N := some 76) (v := ?_) (a' := ?_) #[true, false, false, false, false, false, false, false, false, false, false, false, false, false, false] rfl rfl (any_of HT_.out (by kernel_rfl)) (fun _ _ _ h => h) (Or.inl ⟨by rfl, ?_⟩) ?_ ?_
                         rotate_left
                         · intro w'
                           go_simp
                           with_reducible rfl
                         rotate_left
                         · simp only [Act.put, List.setIfInBounds_toArray, List.set_cons_zero, List.set_cons_succ, i64_w, i32_w]
                           rfl
                         refine pure_ (i := 1) (N := some 77) (v := ?_) (a' := ?_) #[true, true, false, false, false, false, false, false, false, false, false, false, false, false, false] rfl rfl (any_of HT_.out (by kernel_rfl)) (fun _ _ _ h => h) (Or.inl ⟨by rfl, ?_⟩) ?_ ?_
                         rotate_left
                         · intro w'
                           go_simp
                           with_reducible rfl
                         rotate_left
                         · simp only [Act.put, List.setIfInBounds_toArray, List.set_cons_zero, List.set_cons_succ, i64_w, i32_w]
                           rfl
                         refine pure_ (i := 2) (N := some 78) (v := ?_) (a' := ?_) #[true, true, true, false, false, false, false, false, false, false, false, false, false, false, false] rfl rfl (any_of HT_.out (by kernel_rfl)) (fun _ _ _ h => h) (Or.inl ⟨by rfl, ?_⟩) ?_ ?_
                         rotate_left
                         · intro w'
                           go_simp
                           with_reducible rfl
                         rotate_left
                         · simp only [Act.put, List.setIfInBounds_toArray, List.set_cons_zero, List.set_cons_succ, i64_w, i32_w]
                           rfl
                         refine pure_ (i := 3) (N := some 79) (v := ?_) (a' := ?_) #[true, true, true, true, false, false, false, false, false, false, false, false, false, false, false] rfl rfl (any_of HT_.out (by kernel_rfl)) (fun _ _ _ h => h) (Or.inl ⟨by rfl, ?_⟩) ?_ ?_
                         rotate_left
                         · intro w'
                           go_simp
                           with_reducible rfl
                         rotate_left
                         · simp only [Act.put, List.setIfInBounds_toArray, List.set_cons_zero, List.set_cons_succ, i64_w, i32_w]
                           rfl
                         refine pure_ (i := 5) (N := some 81) (v := ?_) (a' := ?_) #[true, true, true, true, false, true, false, false, false, false, false, false, false, false, false] rfl rfl (any_of HT_.out (by kernel_rfl)) (fun _ _ _ h => h) (Or.inl ⟨by rfl, ?_⟩) ?_ ?_
                         rotate_left
                         · intro w'
                           go_simp
                           with_reducible rfl
                         rotate_left
                         · simp only [Act.put, List.setIfInBounds_toArray, List.set_cons_zero, List.set_cons_succ, i64_w, i32_w]
                           rfl
                         refine pure_ (i := 6) (N := some 82) (v := ?_) (a' := ?_) #[true, true, true, true, false, true, true, false, false, false, false, false, false, false, false] rfl rfl (any_of HT_.out (by kernel_rfl)) (fun _ _ _ h => h) (Or.inl ⟨by rfl, ?_⟩) ?_ ?_
                         rotate_left
                         · intro w'
                           go_simp
                           with_reducible rfl
                         rotate_left
                         · simp only [Act.put, List.setIfInBounds_toArray, List.set_cons_zero, List.set_cons_succ, i64_w, i32_w]
                           rfl
                         refine pure_ (i := 10) (N := some 86) (v := ?_) (a' := ?_) #[true, true, true, true, false, true, true, false, false, false, true, false, false, false, false] rfl rfl (any_of HT_.out (by kernel_rfl)) (fun _ _ _ h => h) (Or.inl ⟨by rfl, ?_⟩) ?_ ?_
                         rotate_left
                         · intro w'
                           go_simp
                           with_reducible rfl
                         rotate_left
                         · simp only [Act.put, List.setIfInBounds_toArray, List.set_cons_zero, List.set_cons_succ, i64_w, i32_w]
                           rfl
                         refine take_ (i := 4) (N := some 80) (v := ?_) (a' := ?_) #[true, true, true, true, true, true, true, false, false, false, true, false, false, false, false] rfl rfl (take_ofW HT_.out HW_.out (by kernel_rfl)) (fun _ _ _ h => h) (Or.inl ⟨by rfl, ?_⟩) hHeld ?_ ?_
                         rotate_left
                         · rintro w' ⟨s0, s1, s2, s3, s4, s5, s6, s7, s8, s9, s10, s11, s12, s13, s14, s15, s16, s17, s18, s19, s20, s21, s22, s23, s24, s25⟩
                           go_simp
                           with_reducible rfl
                         rotate_left
                         · simp only [Act.put, List.setIfInBounds_toArray, List.set_cons_zero, List.set_cons_succ, i64_w, i32_w]
                           rfl
                         refine pure_ (i := 7) (N := some 83) (v := ?_) (a' := ?_) #[true, true, true, true, true, true, true, true, false, false, true, false, false, false, false] rfl rfl (any_of HT_.out (by kernel_rfl)) (fun _ _ _ h => h) (Or.inl ⟨by rfl, ?_⟩) ?_ ?_
                         rotate_left
                         · intro w'
                           go_simp
                           with_reducible rfl
                         rotate_left
                         · simp only [Act.put, List.setIfInBounds_toArray, List.set_cons_zero, List.set_cons_succ, i64_w, i32_w]
                           rfl
                         refine pure_ (i := 8) (N := some 84) (v := ?_) (a' := ?_) #[true, true, true, true, true, true, true, true, true, false, true, false, false, false, false] rfl rfl (any_of HT_.out (by kernel_rfl)) (fun _ _ _ h => h) (Or.inl ⟨by rfl, ?_⟩) ?_ ?_
                         rotate_left
                         · intro w'
                           go_simp
                           with_reducible rfl
                         rotate_left
                         · simp only [Act.put, List.setIfInBounds_toArray, List.set_cons_zero, List.set_cons_succ, i64_w, i32_w]
                           rfl
                         refine take_ (i := 9) (N := some 85) (v := ?_) (a' := ?_) #[true, true, true, true, true, true, true, true, true, true, true, false, false, false, false] rfl rfl (take_ofW HT_.out HW_.out (by kernel_rfl)) (fun _ _ _ h => h) (Or.inl ⟨by rfl, ?_⟩) hHeld ?_ ?_
                         rotate_left
                         · rintro w' ⟨s0, s1, s2, s3, s4, s5, s6, s7, s8, s9, s10, s11, s12, s13, s14, s15, s16, s17, s18, s19, s20, s21, s22, s23, s24, s25⟩
                           go_simp
                           with_reducible rfl
                         rotate_left
                         · simp only [Act.put, List.setIfInBounds_toArray, List.set_cons_zero, List.set_cons_succ, i64_w, i32_w]
                           rfl
                         refine take_ (i := 11) (N := some 87) (v := ?_) (a' := ?_) #[true, true, true, true, true, true, true, true, true, true, true, true, false, false, false] rfl rfl (take_ofW HT_.out HW_.out (by kernel_rfl)) (fun _ _ _ h => h) (Or.inl ⟨by rfl, ?_⟩) hHeld ?_ ?_
                         rotate_left
                         · rintro w' ⟨s0, s1, s2, s3, s4, s5, s6, s7, s8, s9, s10, s11, s12, s13, s14, s15, s16, s17, s18, s19, s20, s21, s22, s23, s24, s25⟩
                           go_simp
                           with_reducible rfl
                         rotate_left
                         · simp only [Act.put, List.setIfInBounds_toArray, List.set_cons_zero, List.set_cons_succ, i64_w, i32_w]
                           rfl
                         refine one_ (i := 12) (N := some 88) #[true, true, true, true, true, true, true, true, true, true, true, true, true, false, false] rfl rfl (one_of HT_.out (by kernel_rfl)) (by decide) (fun K hK => ?_)
                         refine goes_ Tryd.func58 (by kernel_rfl) rfl #[.agg #[.string ((rd_T97 l0_3 (ji77)).f0.f0), .slice A110_1 ((rd_T97 l0_3 (ji77)).f0.f1).length c110_1, .int .i64 ((rd_T97 l0_3 (ji77)).f0.f2)], .agg #[.string ((rd_T97 l0_3 x30_2).f0.f0), .slice A105_1 ((rd_T97 l0_3 x30_2).f0.f1).length c105_1, .int .i64 ((rd_T97 l0_3 x30_2).f0.f2)]] (by rfl) rfl rfl (by (try simp only [List.map_toArray, List.map_cons, List.map_nil]); first | done | (simp only [hji77]; rfl) | rfl | (simp only [List.length_drop, List.length_take]; rfl)) ?_
                         with_reducible refine (spec_l1Compare.calls kj18 ((rd_T97 l0_3 (ji77)).f0.f0) _ _ ((rd_T97 l0_3 (ji77)).f0.f1) ((rd_T97 l0_3 (ji77)).f0.f2) ((rd_T97 l0_3 x30_2).f0.f0) _ _ ((rd_T97 l0_3 x30_2).f0.f1) ((rd_T97 l0_3 x30_2).f0.f2) t111 _ ?side1 ?side2 ?side3 ?side4 A80.out).mono ?_
                         (case side1 => exact (cZ (Kd.C_below HR110_1.out HB.out)))
                         (case side2 => exact HC110_1.out)
                         (case side3 => exact (cZ (Kd.C_below HR105_1.out HB.out)))
                         (case side4 => exact HC105_1.out)
                         rintro e w83 ⟨rfl, hb⟩
                         refine ⟨_, rfl, ?_⟩
                         have _ := bB gb101 hb
                         have _ := bB gb106 hb
                         have _ := aM (below_step hbZ hb)
                         clear BK101
                         clear BK106
                         clear HB
                         rename_i BK101 BK106 HB
                         (try clear hb)
                         (try clear hb2)
                         (try clear hk)
                         (try clear hi)
                         refine hK.out _ _ ⟨(blk_cell BK101.out 0).trans rfl, (blk_cell BK101.out 1).trans rfl, (blk_cell BK101.out 2).trans rfl, (blk_cell BK101.out 3).trans rfl, (blk_cell BK106.out 0).trans rfl, (blk_cell BK106.out 1).trans rfl, (blk_cell BK106.out 2).trans rfl, (blk_cell BK106.out 3).trans rfl, (blk_cell BK106.out 4).trans rfl, (blk_cell BK106.out 5).trans rfl, (blk_cell BK106.out 6).trans rfl, (blk_cell BK106.out 7).trans rfl, (blk_cell BK106.out 8).trans rfl, (blk_cell BK106.out 9).trans rfl, (blk_cell BK106.out 10).trans rfl, ((HB.out.cell (World.block_lt_of_cell? w _ hw110_0)).trans hw110_0), ((HB.out.cell (World.block_lt_of_cell? w _ hw110_1)).trans hw110_1), ((HB.out.cell (World.block_lt_of_cell? w _ hw110_2)).trans hw110_2), ((HB.out.cell (World.block_lt_of_cell? w _ hw110_3)).trans hw110_3), ((HB.out.cell (World.block_lt_of_cell? w _ hw110_4)).trans hw110_4), ((HB.out.cell (World.block_lt_of_cell? w _ hw110_5)).trans hw110_5), ((HB.out.cell (World.block_lt_of_cell? w _ hw110_6)).trans hw110_6), ((HB.out.cell (World.block_lt_of_cell? w _ hw110_7)).trans hw110_7), ((HB.out.cell (World.block_lt_of_cell? w _ hw110_8)).trans hw110_8), ((HB.out.cell (World.block_lt_of_cell? w _ hw110_9)).trans hw110_9), ((HB.out.cell (World.block_lt_of_cell? w _ hw110_10)).trans hw110_10)⟩ (fun hHeld => ?_)
                         clear hK K
                         refine norm_ (a' := ?_) ?_ ?_
                         rotate_left
                         · show Act.put _ (some 88) _ = _
                           simp only [Act.put, List.setIfInBounds_toArray, List.set_cons_zero, List.set_cons_succ, i64_w, i32_w]
                           rfl
                         refine pure_ (i := 13) (N := some 89) (v := ?_) (a' := ?_) #[true, true, true, true, true, true, true, true, true, true, true, true, true, true, false] rfl rfl (any_of HT_.out (by kernel_rfl)) (fun _ _ _ h => h) (Or.inl ⟨by rfl, ?_⟩) ?_ ?_
                         rotate_left
                         · intro w'
                           go_simp
                           with_reducible rfl
                         rotate_left
                         · simp only [Act.put, List.setIfInBounds_toArray, List.set_cons_zero, List.set_cons_succ, i64_w, i32_w]
                           rfl
                         refine pure_ (i := 14) (N := some 90) (v := ?_) (a' := ?_) #[true, true, true, true, true, true, true, true, true, true, true, true, true, true, true] rfl rfl (any_of HT_.out (by kernel_rfl)) (fun _ _ _ h => h) (Or.inl ⟨by rfl, ?_⟩) ?_ ?_
                         rotate_left
                         · intro w'
                           go_simp
                           with_reducible rfl
                         rotate_left
                         · simp only [Act.put, List.setIfInBounds_toArray, List.set_cons_zero, List.set_cons_succ, i64_w, i32_w]
                           rfl
                         refine done_ (done_of HT_.out (by kernel_rfl)) ?_
                         try go_wp2
                         go_ret
                         exact ⟨by first | rfl | (simp [errW_none, errW_some] <;> rfl) | (simp only [← hji77]; first | rfl | (simp [errW_none, errW_some] <;> rfl)) | (simp [*, errW_none, errW_some] <;> rfl), zcb41⟩
                       · rw [if_neg c81] at H
                         have c81b0 : decide (0 ≤ t111) = false := decide_eq_false c81
                         clear c81
                         have H' := aM H
                         clear H
                         try go_wp2
                         have _ := aM (blk_drew BK101.out)
                         have _ := aM (blk_drew BK106.out)
                         have _ := aM (below_drew1 HB.out)
                         clear BK101
                         clear BK106
                         clear HB
                         rename_i BK101 BK106 HB
                         have p110 : 0 ≤ ((ji77) : Int) := of_decide_eq_true z1200
                         have q110 : (ji77) < (l0_3.length : Int) := of_decide_eq_true z1200
                         obtain ⟨ad110, A110_1, c110_1, A110_7, c110_7, e110, hx110_0, hx110_1, hx110_2, hx110_3, hx110_4, hx110_5, hx110_6, hx110_7, hx110_8, hx110_9, hx110_10, hl110_1, hi110_1, hl110_7, hi110_7⟩ := at_T97 HR0_3.out (ji77) p110 q110
                         have hw110_10 := hx110_10
                         have hw110_9 := hx110_9
                         have hw110_8 := hx110_8
                         have hw110_7 := hx110_7
                         have hw110_6 := hx110_6
                         have hw110_5 := hx110_5
                         have hw110_4 := hx110_4
                         have hw110_3 := hx110_3
                         have hw110_2 := hx110_2
                         have hw110_1 := hx110_1
                         have hw110_0 := hx110_0
                         obtain rfl : ad105 = ad110 := (by injection e110)
                         replace hx110_0 := (HB.out.cell (World.block_lt_of_cell? w _ hx110_0)).trans hx110_0
                         replace hx110_1 := (HB.out.cell (World.block_lt_of_cell? w _ hx110_1)).trans hx110_1
                         replace hx110_2 := (HB.out.cell (World.block_lt_of_cell? w _ hx110_2)).trans hx110_2
                         replace hx110_3 := (HB.out.cell (World.block_lt_of_cell? w _ hx110_3)).trans hx110_3
                         replace hx110_4 := (HB.out.cell (World.block_lt_of_cell? w _ hx110_4)).trans hx110_4
                         replace hx110_5 := (HB.out.cell (World.block_lt_of_cell? w _ hx110_5)).trans hx110_5
                         replace hx110_6 := (HB.out.cell (World.block_lt_of_cell? w _ hx110_6)).trans hx110_6
                         replace hx110_7 := (HB.out.cell (World.block_lt_of_cell? w _ hx110_7)).trans hx110_7
                         replace hx110_8 := (HB.out.cell (World.block_lt_of_cell? w _ hx110_8)).trans hx110_8
                         replace hx110_9 := (HB.out.cell (World.block_lt_of_cell? w _ hx110_9)).trans hx110_9
                         replace hx110_10 := (HB.out.cell (World.block_lt_of_cell? w _ hx110_10)).trans hx110_10
                         have HR110_1 := aM hi110_1
                         have HC110_1 := aM hl110_1
                         clear hi110_1 hl110_1
                         have HR110_7 := aM hi110_7
                         have HC110_7 := aM hl110_7
                         clear hi110_7 hl110_7
                         replace p110 := eq_true p110
                         replace q110 := eq_true q110
                         refine start_ (n := 15) (S := fun w' => w'.cell? ⟨gb101, 0, none⟩ = some (.int .i64 a0_0) ∧ w'.cell? ⟨gb101, 1, none⟩ = some (.int .i64 a0_1) ∧ w'.cell? ⟨gb101, 2, none⟩ = some (.int .i64 a0_2) ∧ w'.cell? ⟨gb101, 3, none⟩ = some (.slice (some ad105) l0_3.length c0_3) ∧ w'.cell? ⟨gb106, 0, none⟩ = some (.string ((rd_T97 l0_3 x30_2).f0.f0)) ∧ w'.cell? ⟨gb106, 1, none⟩ = some (.slice A105_1 ((rd_T97 l0_3 x30_2).f0.f1).length c105_1) ∧ w'.cell? ⟨gb106, 2, none⟩ = some (.int .i64 ((rd_T97 l0_3 x30_2).f0.f2)) ∧ w'.cell? ⟨gb106, 3, none⟩ = some (.int .i64 ((rd_T97 l0_3 x30_2).f1.f0)) ∧ w'.cell? ⟨gb106, 4, none⟩ = some (.int .i64 ((rd_T97 l0_3 x30_2).f1.f1)) ∧ w'.cell? ⟨gb106, 5, none⟩ = some (.int .i64 ((rd_T97 l0_3 x30_2).f1.f2)) ∧ w'.cell? ⟨gb106, 6, none⟩ = some (.int .i64 ((rd_T97 l0_3 x30_2).f1.f3)) ∧ w'.cell? ⟨gb106, 7, none⟩ = some (.slice A105_7 ((rd_T97 l0_3 x30_2).f1.f4).length c105_7) ∧ w'.cell? ⟨gb106, 8, none⟩ = some (.bool ((rd_T97 l0_3 x30_2).f1.f5)) ∧ w'.cell? ⟨gb106, 9, none⟩ = some (.int .i64 ((rd_T97 l0_3 x30_2).f2)) ∧ w'.cell? ⟨gb106, 10, none⟩ = some (.bool ((rd_T97 l0_3 x30_2).f3)) ∧ w'.cell? (ad105.add (((ji77)).toNat * 11)) = some (.string ((rd_T97 l0_3 (ji77)).f0.f0)) ∧ w'.cell? ⟨(ad105.add (((ji77)).toNat * 11)).block, (ad105.add (((ji77)).toNat * 11)).off + 1, none⟩ = some (.slice A110_1 ((rd_T97 l0_3 (ji77)).f0.f1).length c110_1) ∧ w'.cell? ⟨(ad105.add (((ji77)).toNat * 11)).block, (ad105.add (((ji77)).toNat * 11)).off + 2, none⟩ = some (.int .i64 ((rd_T97 l0_3 (ji77)).f0.f2)) ∧ w'.cell? ⟨(ad105.add (((ji77)).toNat * 11)).block, (ad105.add (((ji77)).toNat * 11)).off + 3, none⟩ = some (.int .i64 ((rd_T97 l0_3 (ji77)).f1.f0)) ∧ w'.cell? ⟨(ad105.add (((ji77)).toNat * 11)).block, (ad105.add (((ji77)).toNat * 11)).off + 4, none⟩ = some (.int .i64 ((rd_T97 l0_3 (ji77)).f1.f1)) ∧ w'.cell? ⟨(ad105.add (((ji77)).toNat * 11)).block, (ad105.add (((ji77)).toNat * 11)).off + 5, none⟩ = some (.int .i64 ((rd_T97 l0_3 (ji77)).f1.f2)) ∧ w'.cell? ⟨(ad105.add (((ji77)).toNat * 11)).block, (ad105.add (((ji77)).toNat * 11)).off + 6, none⟩ = some (.int .i64 ((rd_T97 l0_3 (ji77)).f1.f3)) ∧ w'.cell? ⟨(ad105.add (((ji77)).toNat * 11)).block, (ad105.add (((ji77)).toNat * 11)).off + 7, none⟩ = some (.slice A110_7 ((rd_T97 l0_3 (ji77)).f1.f4).length c110_7) ∧ w'.cell? ⟨(ad105.add (((ji77)).toNat * 11)).block, (ad105.add (((ji77)).toNat * 11)).off + 8, none⟩ = some (.bool ((rd_T97 l0_3 (ji77)).f1.f5)) ∧ w'.cell? ⟨(ad105.add (((ji77)).toNat * 11)).block, (ad105.add (((ji77)).toNat * 11)).off + 9, none⟩ = some (.int .i64 ((rd_T97 l0_3 (ji77)).f2)) ∧ w'.cell? ⟨(ad105.add (((ji77)).toNat * 11)).block, (ad105.add (((ji77)).toNat * 11)).off + 10, none⟩ = some (.bool ((rd_T97 l0_3 (ji77)).f3))) (ds := []) #[false, false, false, false, false, false, false, false, false, false, false, false, false, false, false] (by kernel_rfl) rfl rfl ⟨(blk_cell BK101.out 0).trans rfl, (blk_cell BK101.out 1).trans rfl, (blk_cell BK101.out 2).trans rfl, (blk_cell BK101.out 3).trans rfl, (blk_cell BK106.out 0).trans rfl, (blk_cell BK106.out 1).trans rfl, (blk_cell BK106.out 2).trans rfl, (blk_cell BK106.out 3).trans rfl, (blk_cell BK106.out 4).trans rfl, (blk_cell BK106.out 5).trans rfl, (blk_cell BK106.out 6).trans rfl, (blk_cell BK106.out 7).trans rfl, (blk_cell BK106.out 8).trans rfl, (blk_cell BK106.out 9).trans rfl, (blk_cell BK106.out 10).trans rfl, ((HB.out.cell (World.block_lt_of_cell? w _ hw110_0)).trans hw110_0), ((HB.out.cell (World.block_lt_of_cell? w _ hw110_1)).trans hw110_1), ((HB.out.cell (World.block_lt_of_cell? w _ hw110_2)).trans hw110_2), ((HB.out.cell (World.block_lt_of_cell? w _ hw110_3)).trans hw110_3), ((HB.out.cell (World.block_lt_of_cell? w _ hw110_4)).trans hw110_4), ((HB.out.cell (World.block_lt_of_cell? w _ hw110_5)).trans hw110_5), ((HB.out.cell (World.block_lt_of_cell? w _ hw110_6)).trans hw110_6), ((HB.out.cell (World.block_lt_of_cell? w _ hw110_7)).trans hw110_7), ((HB.out.cell (World.block_lt_of_cell? w _ hw110_8)).trans hw110_8), ((HB.out.cell (World.block_lt_of_cell? w _ hw110_9)).trans hw110_9), ((HB.out.cell (World.block_lt_of_cell? w _ hw110_10)).trans hw110_10)⟩ (fun hHeld => ?_); refine with_tabW spec_GoodBoard.tab8 spec_GoodBoard.bits8 (fun HT_ HW_ => ?_)
                         generalize wc.drew = w84 at BK101 BK106 HB HR110_1 HR110_7 hx110_0 hx110_1 hx110_10 hx110_2 hx110_3 hx110_4 hx110_5 hx110_6 hx110_7 hx110_8 hx110_9 hHeld ⊢
                         refine pure_ (i := 0) (N := some 76) (v := ?_) (a' := ?_) #[true, false, false, false, false, false, false, false, false, false, false, false, false, false, false] rfl rfl (any_of HT_.out (by kernel_rfl)) (fun _ _ _ h => h) (Or.inl ⟨by rfl, ?_⟩) ?_ ?_
                         rotate_left
                         · intro w'
                           go_simp
                           with_reducible rfl
                         rotate_left
                         · simp only [Act.put, List.setIfInBounds_toArray, List.set_cons_zero, List.set_cons_succ, i64_w, i32_w]
                           rfl
                         refine pure_ (i := 1) (N := some 77) (v := ?_) (a' := ?_) #[true, true, false, false, false, false, false, false, false, false, false, false, false, false, false] rfl rfl (any_of HT_.out (by kernel_rfl)) (fun _ _ _ h => h) (Or.inl ⟨by rfl, ?_⟩) ?_ ?_
                         rotate_left
                         · intro w'
                           go_simp
                           with_reducible rfl
                         rotate_left
                         · simp only [Act.put, List.setIfInBounds_toArray, List.set_cons_zero, List.set_cons_succ, i64_w, i32_w]
                           rfl
                         refine pure_ (i := 2) (N := some 78) (v := ?_) (a' := ?_) #[true, true, true, false, false, false, false, false, false, false, false, false, false, false, false] rfl rfl (any_of HT_.out (by kernel_rfl)) (fun _ _ _ h => h) (Or.inl ⟨by rfl, ?_⟩) ?_ ?_
                         rotate_left
                         · intro w'
                           go_simp
                           with_reducible rfl
                         rotate_left
                         · simp only [Act.put, List.setIfInBounds_toArray, List.set_cons_zero, List.set_cons_succ, i64_w, i32_w]
                           rfl
                         refine pure_ (i := 3) (N := some 79) (v := ?_) (a' := ?_) #[true, true, true, true, false, false, false, false, false, false, false, false, false, false, false] rfl rfl (any_of HT_.out (by kernel_rfl)) (fun _ _ _ h => h) (Or.inl ⟨by rfl, ?_⟩) ?_ ?_
                         rotate_left
                         · intro w'
                           go_simp
                           with_reducible rfl
                         rotate_left
                         · simp only [Act.put, List.setIfInBounds_toArray, List.set_cons_zero, List.set_cons_succ, i64_w, i32_w]
                           rfl
                         refine pure_ (i := 5) (N := some 81) (v := ?_) (a' := ?_) #[true, true, true, true, false, true, false, false, false, false, false, false, false, false, false] rfl rfl (any_of HT_.out (by kernel_rfl)) (fun _ _ _ h => h) (Or.inl ⟨by rfl, ?_⟩) ?_ ?_
                         rotate_left
                         · intro w'
                           go_simp
                           with_reducible rfl
                         rotate_left
                         · simp only [Act.put, List.setIfInBounds_toArray, List.set_cons_zero, List.set_cons_succ, i64_w, i32_w]
                           rfl
                         refine pure_ (i := 6) (N := some 82) (v := ?_) (a' := ?_) #[true, true, true, true, false, true, true, false, false, false, false, false, false, false, false] rfl rfl (any_of HT_.out (by kernel_rfl)) (fun _ _ _ h => h) (Or.inl ⟨by rfl, ?_⟩) ?_ ?_
                         rotate_left
                         · intro w'
                           go_simp
                           with_reducible rfl
                         rotate_left
                         · simp only [Act.put, List.setIfInBounds_toArray, List.set_cons_zero, List.set_cons_succ, i64_w, i32_w]
                           rfl
                         refine pure_ (i := 10) (N := some 86) (v := ?_) (a' := ?_) #[true, true, true, true, false, true, true, false, false, false, true, false, false, false, false] rfl rfl (any_of HT_.out (by kernel_rfl)) (fun _ _ _ h => h) (Or.inl ⟨by rfl, ?_⟩) ?_ ?_
                         rotate_left
                         · intro w'
                           go_simp
                           with_reducible rfl
                         rotate_left
                         · simp only [Act.put, List.setIfInBounds_toArray, List.set_cons_zero, List.set_cons_succ, i64_w, i32_w]
                           rfl
                         refine take_ (i := 4) (N := some 80) (v := ?_) (a' := ?_) #[true, true, true, true, true, true, true, false, false, false, true, false, false, false, false] rfl rfl (take_ofW HT_.out HW_.out (by kernel_rfl)) (fun _ _ _ h => h) (Or.inl ⟨by rfl, ?_⟩) hHeld ?_ ?_
                         rotate_left
                         · rintro w' ⟨s0, s1, s2, s3, s4, s5, s6, s7, s8, s9, s10, s11, s12, s13, s14, s15, s16, s17, s18, s19, s20, s21, s22, s23, s24, s25⟩
                           go_simp
                           with_reducible rfl
                         rotate_left
                         · simp only [Act.put, List.setIfInBounds_toArray, List.set_cons_zero, List.set_cons_succ, i64_w, i32_w]
                           rfl
                         refine pure_ (i := 7) (N := some 83) (v := ?_) (a' := ?_) #[true, true, true, true, true, true, true, true, false, false, true, false, false, false, false] rfl rfl (any_of HT_.out (by kernel_rfl)) (fun _ _ _ h => h) (Or.inl ⟨by rfl, ?_⟩) ?_ ?_
                         rotate_left
                         · intro w'
                           go_simp
                           with_reducible rfl
                         rotate_left
                         · simp only [Act.put, List.setIfInBounds_toArray, List.set_cons_zero, List.set_cons_succ, i64_w, i32_w]
                           rfl
                         refine pure_ (i := 8) (N := some 84) (v := ?_) (a' := ?_) #[true, true, true, true, true, true, true, true, true, false, true, false, false, false, false] rfl rfl (any_of HT_.out (by kernel_rfl)) (fun _ _ _ h => h) (Or.inl ⟨by rfl, ?_⟩) ?_ ?_
                         rotate_left
                         · intro w'
                           go_simp
                           with_reducible rfl
                         rotate_left
                         · simp only [Act.put, List.setIfInBounds_toArray, List.set_cons_zero, List.set_cons_succ, i64_w, i32_w]
                           rfl
                         refine take_ (i := 9) (N := some 85) (v := ?_) (a' := ?_) #[true, true, true, true, true, true, true, true, true, true, true, false, false, false, false] rfl rfl (take_ofW HT_.out HW_.out (by kernel_rfl)) (fun _ _ _ h => h) (Or.inl ⟨by rfl, ?_⟩) hHeld ?_ ?_
                         rotate_left
                         · rintro w' ⟨s0, s1, s2, s3, s4, s5, s6, s7, s8, s9, s10, s11, s12, s13, s14, s15, s16, s17, s18, s19, s20, s21, s22, s23, s24, s25⟩
                           go_simp
                           with_reducible rfl
                         rotate_left
                         · simp only [Act.put, List.setIfInBounds_toArray, List.set_cons_zero, List.set_cons_succ, i64_w, i32_w]
                           rfl
                         refine take_ (i := 11) (N := some 87) (v := ?_) (a' := ?_) #[true, true, true, true, true, true, true, true, true, true, true, true, false, false, false] rfl rfl (take_ofW HT_.out HW_.out (by kernel_rfl)) (fun _ _ _ h => h) (Or.inl ⟨by rfl, ?_⟩) hHeld ?_ ?_
                         rotate_left
                         · rintro w' ⟨s0, s1, s2, s3, s4, s5, s6, s7, s8, s9, s10, s11, s12, s13, s14, s15, s16, s17, s18, s19, s20, s21, s22, s23, s24, s25⟩
                           go_simp
                           with_reducible rfl
                         rotate_left
                         · simp only [Act.put, List.setIfInBounds_toArray, List.set_cons_zero, List.set_cons_succ, i64_w, i32_w]
                           rfl
                         refine one_ (i := 12) (N := some 88) #[true, true, true, true, true, true, true, true, true, true, true, true, true, false, false] rfl rfl (one_of HT_.out (by kernel_rfl)) (by decide) (fun K hK => ?_)
                         refine goes_ Tryd.func58 (by kernel_rfl) rfl #[.agg #[.string ((rd_T97 l0_3 (ji77)).f0.f0), .slice A110_1 ((rd_T97 l0_3 (ji77)).f0.f1).length c110_1, .int .i64 ((rd_T97 l0_3 (ji77)).f0.f2)], .agg #[.string ((rd_T97 l0_3 x30_2).f0.f0), .slice A105_1 ((rd_T97 l0_3 x30_2).f0.f1).length c105_1, .int .i64 ((rd_T97 l0_3 x30_2).f0.f2)]] (by rfl) rfl rfl (by (try simp only [List.map_toArray, List.map_cons, List.map_nil]); first | done | (simp only [hji77]; rfl) | rfl | (simp only [List.length_drop, List.length_take]; rfl)) ?_
                         with_reducible refine (spec_l1Compare.calls kj18 ((rd_T97 l0_3 (ji77)).f0.f0) _ _ ((rd_T97 l0_3 (ji77)).f0.f1) ((rd_T97 l0_3 (ji77)).f0.f2) ((rd_T97 l0_3 x30_2).f0.f0) _ _ ((rd_T97 l0_3 x30_2).f0.f1) ((rd_T97 l0_3 x30_2).f0.f2) t111 _ ?side1 ?side2 ?side3 ?side4 A80.out).mono ?_
                         (case side1 => exact (cZ (Kd.C_below HR110_1.out HB.out)))
                         (case side2 => exact HC110_1.out)
                         (case side3 => exact (cZ (Kd.C_below HR105_1.out HB.out)))
                         (case side4 => exact HC105_1.out)
                         rintro e w85 ⟨rfl, hb⟩
                         refine ⟨_, rfl, ?_⟩
                         have _ := bB gb101 hb
                         have _ := bB gb106 hb
                         have _ := aM (below_step hbZ hb)
                         clear BK101
                         clear BK106
                         clear HB
                         rename_i BK101 BK106 HB
                         (try clear hb)
                         (try clear hb2)
                         (try clear hk)
                         (try clear hi)
                         refine hK.out _ _ ⟨(blk_cell BK101.out 0).trans rfl, (blk_cell BK101.out 1).trans rfl, (blk_cell BK101.out 2).trans rfl, (blk_cell BK101.out 3).trans rfl, (blk_cell BK106.out 0).trans rfl, (blk_cell BK106.out 1).trans rfl, (blk_cell BK106.out 2).trans rfl, (blk_cell BK106.out 3).trans rfl, (blk_cell BK106.out 4).trans rfl, (blk_cell BK106.out 5).trans rfl, (blk_cell BK106.out 6).trans rfl, (blk_cell BK106.out 7).trans rfl, (blk_cell BK106.out 8).trans rfl, (blk_cell BK106.out 9).trans rfl, (blk_cell BK106.out 10).trans rfl, ((HB.out.cell (World.block_lt_of_cell? w _ hw110_0)).trans hw110_0), ((HB.out.cell (World.block_lt_of_cell? w _ hw110_1)).trans hw110_1), ((HB.out.cell (World.block_lt_of_cell? w _ hw110_2)).trans hw110_2), ((HB.out.cell (World.block_lt_of_cell? w _ hw110_3)).trans hw110_3), ((HB.out.cell (World.block_lt_of_cell? w _ hw110_4)).trans hw110_4), ((HB.out.cell (World.block_lt_of_cell? w _ hw110_5)).trans hw110_5), ((HB.out.cell (World.block_lt_of_cell? w _ hw110_6)).trans hw110_6), ((HB.out.cell (World.block_lt_of_cell? w _ hw110_7)).trans hw110_7), ((HB.out.cell (World.block_lt_of_cell? w _ hw110_8)).trans hw110_8), ((HB.out.cell (World.block_lt_of_cell? w _ hw110_9)).trans hw110_9), ((HB.out.cell (World.block_lt_of_cell? w _ hw110_10)).trans hw110_10)⟩ (fun hHeld => ?_)
                         clear hK K
                         refine norm_ (a' := ?_) ?_ ?_
                         rotate_left
                         · show Act.put _ (some 88) _ = _
                           simp only [Act.put, List.setIfInBounds_toArray, List.set_cons_zero, List.set_cons_succ, i64_w, i32_w]
                           rfl
                         refine pure_ (i := 13) (N := some 89) (v := ?_) (a' := ?_) #[true, true, true, true, true, true, true, true, true, true, true, true, true, true, false] rfl rfl (any_of HT_.out (by kernel_rfl)) (fun _ _ _ h => h) (Or.inl ⟨by rfl, ?_⟩) ?_ ?_
                         rotate_left
                         · intro w'
                           go_simp
                           with_reducible rfl
                         rotate_left
                         · simp only [Act.put, List.setIfInBounds_toArray, List.set_cons_zero, List.set_cons_succ, i64_w, i32_w]
                           rfl
                         refine pure_ (i := 14) (N := some 90) (v := ?_) (a' := ?_) #[true, true, true, true, true, true, true, true, true, true, true, true, true, true, true] rfl rfl (any_of HT_.out (by kernel_rfl)) (fun _ _ _ h => h) (Or.inl ⟨by rfl, ?_⟩) ?_ ?_
                         rotate_left
                         · intro w'
                           go_simp
                           with_reducible rfl
                         rotate_left
                         · simp only [Act.put, List.setIfInBounds_toArray, List.set_cons_zero, List.set_cons_succ, i64_w, i32_w]
                           rfl
                         refine done_ (done_of HT_.out (by kernel_rfl)) ?_
                         try go_wp2
                         go_roundg kj18
                         case measure => have := HJ1.out; have := HK2.out; have := HJ18.out; omega
                         case rel => exact ⟨(wrap64 (x30_2 + 1)), z4458, H', ⟨by have := HJ1.out; have := HK2.out; have := HJ18.out; omega⟩, ⟨bkZ⟩, ⟨zcb41⟩⟩
                     · rw [if_neg c79] at H
                       exact absurd H (by simp)
                   · rw [if_neg c78] at H
                     exact absurd H (by simp)
                 · rw [if_neg c76] at H
                   have c76b0 : decide (0 < x30_2) = false := decide_eq_false c76
                   clear c76
                   have H' := aM H
                   clear H
                   try go_wp2
                   have _ := aM (blk_drew BK101.out)
                   have _ := aM (blk_drew BK106.out)
                   have _ := aM (below_drew1 HB.out)
                   clear BK101
                   clear BK106
                   clear HB
                   rename_i BK101 BK106 HB
                   refine start_ (n := 15) (S := fun w' => True) (ds := []) #[false, false, false, false, false, false, false, false, false, false, false, false, false, false, false] (by kernel_rfl) rfl rfl trivial (fun hHeld => ?_); refine with_tabW spec_GoodBoard.tab8 spec_GoodBoard.bits8 (fun HT_ HW_ => ?_)
                   generalize wc.drew = w86 at BK101 BK106 HB hHeld ⊢
                   refine pure_ (i := 0) (N := some 76) (v := ?_) (a' := ?_) #[true, false, false, false, false, false, false, false, false, false, false, false, false, false, false] rfl rfl (any_of HT_.out (by kernel_rfl)) (fun _ _ _ h => h) (Or.inl ⟨by rfl, ?_⟩) ?_ ?_
                   rotate_left
                   · intro w'
                     go_simp
                     with_reducible rfl
                   rotate_left
                   · simp only [Act.put, List.setIfInBounds_toArray, List.set_cons_zero, List.set_cons_succ, i64_w, i32_w]
                     rfl
                   refine pure_ (i := 1) (N := some 77) (v := ?_) (a' := ?_) #[true, true, false, false, false, false, false, false, false, false, false, false, false, false, false] rfl rfl (any_of HT_.out (by kernel_rfl)) (fun _ _ _ h => h) (Or.inl ⟨by rfl, ?_⟩) ?_ ?_
                   rotate_left
                   · intro w'
                     go_simp
                     with_reducible rfl
                   rotate_left
                   · simp only [Act.put, List.setIfInBounds_toArray, List.set_cons_zero, List.set_cons_succ, i64_w, i32_w]
                     rfl
                   refine pure_ (i := 2) (N := some 78) (v := ?_) (a' := ?_) #[true, true, true, false, false, false, false, false, false, false, false, false, false, false, false] rfl rfl (any_of HT_.out (by kernel_rfl)) (fun _ _ _ h => h) (Or.inl ⟨by rfl, ?_⟩) ?_ ?_
                   rotate_left
                   · intro w'
                     go_simp
                     with_reducible rfl
                   rotate_left
                   · simp only [Act.put, List.setIfInBounds_toArray, List.set_cons_zero, List.set_cons_succ, i64_w, i32_w]
                     rfl
                   refine pure_ (i := 3) (N := some 79) (v := undef) (a' := ?_) #[true, true, true, true, false, false, false, false, false, false, false, false, false, false, false] rfl rfl (any_of HT_.out (by kernel_rfl)) (fun _ _ _ h => h) (Or.inr ⟨by rfl, rfl⟩) ?_ ?_
                   rotate_left
                   · simp only [Act.put, List.setIfInBounds_toArray, List.set_cons_zero, List.set_cons_succ, i64_w, i32_w]
                     rfl
                   refine pure_ (i := 4) (N := some 80) (v := undef) (a' := ?_) #[true, true, true, true, true, false, false, false, false, false, false, false, false, false, false] rfl rfl (any_of HT_.out (by kernel_rfl)) (fun _ _ _ h => h) (Or.inr ⟨by rfl, rfl⟩) ?_ ?_
                   rotate_left
                   · simp only [Act.put, List.setIfInBounds_toArray, List.set_cons_zero, List.set_cons_succ, i64_w, i32_w]
                     rfl
                   refine pure_ (i := 5) (N := some 81) (v := undef) (a' := ?_) #[true, true, true, true, true, true, false, false, false, false, false, false, false, false, false] rfl rfl (any_of HT_.out (by kernel_rfl)) (fun _ _ _ h => h) (Or.inr ⟨by rfl, rfl⟩) ?_ ?_
                   rotate_left
                   · simp only [Act.put, List.setIfInBounds_toArray, List.set_cons_zero, List.set_cons_succ, i64_w, i32_w]
                     rfl
                   refine pure_ (i := 6) (N := some 82) (v := undef) (a' := ?_) #[true, true, true, true, true, true, true, false, false, false, false, false, false, false, false] rfl rfl (any_of HT_.out (by kernel_rfl)) (fun _ _ _ h => h) (Or.inr ⟨by rfl, rfl⟩) ?_ ?_
                   rotate_left
                   · simp only [Act.put, List.setIfInBounds_toArray, List.set_cons_zero, List.set_cons_succ, i64_w, i32_w]
                     rfl
                   refine pure_ (i := 7) (N := some 83) (v := undef) (a' := ?_) #[true, true, true, true, true, true, true, true, false, false, false, false, false, false, false] rfl rfl (any_of HT_.out (by kernel_rfl)) (fun _ _ _ h => h) (Or.inr ⟨by rfl, rfl⟩) ?_ ?_
                   rotate_left
                   · simp only [Act.put, List.setIfInBounds_toArray, List.set_cons_zero, List.set_cons_succ, i64_w, i32_w]
                     rfl
                   refine pure_ (i := 8) (N := some 84) (v := undef) (a' := ?_) #[true, true, true, true, true, true, true, true, true, false, false, false, false, false, false] rfl rfl (any_of HT_.out (by kernel_rfl)) (fun _ _ _ h => h) (Or.inr ⟨by rfl, rfl⟩) ?_ ?_
                   rotate_left
                   · simp only [Act.put, List.setIfInBounds_toArray, List.set_cons_zero, List.set_cons_succ, i64_w, i32_w]
                     rfl
                   refine pure_ (i := 9) (N := some 85) (v := undef) (a' := ?_) #[true, true, true, true, true, true, true, true, true, true, false, false, false, false, false] rfl rfl (any_of HT_.out (by kernel_rfl)) (fun _ _ _ h => h) (Or.inr ⟨by rfl, rfl⟩) ?_ ?_
                   rotate_left
                   · simp only [Act.put, List.setIfInBounds_toArray, List.set_cons_zero, List.set_cons_succ, i64_w, i32_w]
                     rfl
                   refine pure_ (i := 10) (N := some 86) (v := undef) (a' := ?_) #[true, true, true, true, true, true, true, true, true, true, true, false, false, false, false] rfl rfl (any_of HT_.out (by kernel_rfl)) (fun _ _ _ h => h) (Or.inr ⟨by rfl, rfl⟩) ?_ ?_
                   rotate_left
                   · simp only [Act.put, List.setIfInBounds_toArray, List.set_cons_zero, List.set_cons_succ, i64_w, i32_w]
                     rfl
                   refine pure_ (i := 11) (N := some 87) (v := undef) (a' := ?_) #[true, true, true, true, true, true, true, true, true, true, true, true, false, false, false] rfl rfl (any_of HT_.out (by kernel_rfl)) (fun _ _ _ h => h) (Or.inr ⟨by rfl, rfl⟩) ?_ ?_
                   rotate_left
                   · simp only [Act.put, List.setIfInBounds_toArray, List.set_cons_zero, List.set_cons_succ, i64_w, i32_w]
                     rfl
                   refine pure_ (i := 12) (N := some 88) (v := undef) (a' := ?_) #[true, true, true, true, true, true, true, true, true, true, true, true, true, false, false] rfl rfl (any_of HT_.out (by kernel_rfl)) (fun _ _ _ h => h) (Or.inr ⟨by rfl, rfl⟩) ?_ ?_
                   rotate_left
                   · simp only [Act.put, List.setIfInBounds_toArray, List.set_cons_zero, List.set_cons_succ, i64_w, i32_w]
                     rfl
                   refine pure_ (i := 13) (N := some 89) (v := undef) (a' := ?_) #[true, true, true, true, true, true, true, true, true, true, true, true, true, true, false] rfl rfl (any_of HT_.out (by kernel_rfl)) (fun _ _ _ h => h) (Or.inr ⟨by rfl, rfl⟩) ?_ ?_
                   rotate_left
                   · simp only [Act.put, List.setIfInBounds_toArray, List.set_cons_zero, List.set_cons_succ, i64_w, i32_w]
                     rfl
                   refine pure_ (i := 14) (N := some 90) (v := ?_) (a' := ?_) #[true, true, true, true, true, true, true, true, true, true, true, true, true, true, true] rfl rfl (any_of HT_.out (by kernel_rfl)) (fun _ _ _ h => h) (Or.inl ⟨by rfl, ?_⟩) ?_ ?_
                   rotate_left
                   · intro w'
                     go_simp
                     with_reducible rfl
                   rotate_left
                   · simp only [Act.put, List.setIfInBounds_toArray, List.set_cons_zero, List.set_cons_succ, i64_w, i32_w]
                     rfl
                   refine done_ (done_of HT_.out (by kernel_rfl)) ?_
                   try go_wp2
                   go_roundg kj18
                   case measure => have := HJ1.out; have := HK2.out; have := HJ18.out; omega
                   case rel => exact ⟨(wrap64 (x30_2 + 1)), z4458, H', ⟨by have := HJ1.out; have := HK2.out; have := HJ18.out; omega⟩, ⟨bkZ⟩, ⟨zcb41⟩⟩
           · rw [if_neg c18] at H
             exact absurd H (by simp)
         · rw [if_neg c17] at H
           exact absurd H (by simp)
       · rw [if_neg c16] at H
         have c16b0 : decide (x30_2 < (l0_3.length : Int)) = false := decide_eq_false c16
         clear c16
         obtain rfl := Option.some.inj H
         go_wp2
         go_ret
         exact ⟨z674d, zcb41⟩

end Go.Proofs.YteogadaloebdaaaDoor.P

-- written by a program of this session's (wip/pp)
namespace Go.Proofs.YteogadaloebdaaaDoor.P
open Go.RowKit Go.Proofs.YteogadaloebdaaaDoorW.PrintWords Go.Proofs.YteogadaloebdaaaDoorW.PrintLast Go.Proofs.YteogadaloebdaaaDoorW.PrintMore
attribute [local go_sem] max2_int min2_int max_two min_two max_three min_three max_four min_four str_geq str_gtr str_leq   -- for this text's walks alone
set_option linter.unusedVariables false
set_option linter.unusedSimpArgs false

/-! ### laws_toTag: function 76 -/
def laws_toTag.f (a0_0 : ByteArray) (a0_1 : ByteArray) : Option (ByteArray × ByteArray) := some (a0_0, a0_1)
set_option maxHeartbeats 8000000 in
set_option maxRecDepth 100000 in
theorem laws_toTag.calls (a0_0 : ByteArray) (a0_1 : ByteArray) (r1 : ByteArray) (r2 : ByteArray) (w : World) (h : laws_toTag.f a0_0 a0_1 = some (r1, r2)) :
 Calls Tryd.prog 76 #[.agg #[.string a0_0, .string a0_1]] w fun e w' => e = .returned (.agg #[.string r1, .string r2]) ∧ Below w.heap.size w w' := by
 have hu107 := Tryd.underlying107
 have hu69 := Tryd.underlying69
 have HB := aM (Below.refl w.heap.size w)
 have H : (some (a0_0, a0_1)) = some (r1, r2) := h
 clear h
 simp only [Option.some.injEq, Prod.mk.injEq] at H
 obtain ⟨rfl, rfl⟩ := H
 go_enter Tryd.func76, Tryd.ntmps76
 go_wp2_with (first | ((with_reducible refine gate_dst (N := 1) rfl ?_); refine box_event ?hg (N := 1) ?hd (cs := #[.string a0_0, .string a0_1]) (t := 107) ?hr ?_; (case hd => rfl); (case hg => rfl); (case hr => first | (go_simp; done) | (go_simp; rfl)); intro gb101 hg w2 hbox hb; have _ := aM (below_step hbZ hb); have _ := aM hbox; have _ := szZ hg; have _ := szZ hg; clear HB; rename_i HB BK101 GW101 GE101; clear hb hbox hg) | ((with_reducible refine gate_dst (N := 2) rfl ?_); refine box_event ?hg (N := 2) ?hd (cs := #[.string (⟨#[]⟩ : ByteArray), .string (⟨#[]⟩ : ByteArray)]) (t := 69) ?hr ?_; (case hd => rfl); (case hg => rfl); (case hr => first | (go_simp; done) | (go_simp; rfl)); intro gb102 hg w3 hbox hb; have _ := bB gb101 hb; have _ := aM (below_step hbZ hb); have _ := aM hbox; have _ := szZ hg; have _ := szZ hg; have ⟨_, _⟩ := nbB gb101 hg; clear BK101 HB; rename_i BK101 HB BK102 GW102 GE102 NB101_102 NB102_101; clear hb hbox hg) | ((with_reducible refine gate_dst (N := 3) rfl ?_); refine box_event ?hg (N := 3) ?hd (cs := #[.string (⟨#[]⟩ : ByteArray), .string (⟨#[]⟩ : ByteArray)]) (t := 69) ?hr ?_; (case hd => rfl); (case hg => rfl); (case hr => first | (go_simp; done) | (go_simp; rfl)); intro gb103 hg w4 hbox hb; have _ := bB gb101 hb; have _ := bB gb102 hb; have _ := aM (below_step hbZ hb); have _ := aM hbox; have _ := szZ hg; have _ := szZ hg; have ⟨_, _⟩ := nbB gb101 hg; have ⟨_, _⟩ := nbB gb102 hg; clear BK101 BK102 HB; rename_i BK101 BK102 HB BK103 GW103 GE103 NB101_103 NB103_101 NB102_103 NB103_102; clear hb hbox hg; have hnb5 := NB101_102.out; have hnc5 := NB102_101.out; have hnb6 := NB101_103.out; have hnc6 := NB103_101.out; obtain ⟨hcz7_0, hcz7_1, hfz7_0, hfz7_1⟩ := cellsZ2 BK101.out; have hnb8 := NB103_102.out; have hnc8 := NB102_103.out; obtain ⟨hcz9_0, hcz9_1, hfz9_0, hfz9_1⟩ := cellsZ2 BK103.out; obtain ⟨hcz10_0, hcz10_1, hfz10_0, hfz10_1⟩ := cellsZ2 BK102.out))
 refine bodyPost_ret (results_cell_row rfl _ _ gb102 69 #[.string a0_0, .string a0_1] (0, 0) _ rfl bkZ Tryd.underlying69 rfl (by kernel_rfl)) rfl ?_
 exact ⟨z674d, zcb41⟩

end Go.Proofs.YteogadaloebdaaaDoor.P

-- written by a program of this session's (wip/pp)
namespace Go.Proofs.YteogadaloebdaaaDoor.P
open Go.RowKit Go.Proofs.YteogadaloebdaaaDoorW.PrintWords Go.Proofs.YteogadaloebdaaaDoorW.PrintLast Go.Proofs.YteogadaloebdaaaDoorW.PrintMore
attribute [local go_sem] max2_int min2_int max_two min_two max_three min_three max_four min_four str_geq str_gtr str_leq   -- for this text's walks alone
set_option linter.unusedVariables false
set_option linter.unusedSimpArgs false

/-! ### laws_toTagS: function 46 -/
def laws_toTagS.l0 : Nat → List (S107) → List (S69) → Int → Option ((List (S69)))
 | 0, _, _, _ => none
 | k + 1, x0, x3, x4 => if x4 < (x0.length : Int) then (if 0 ≤ x4 then ((laws_toTag.f ((rd_T107 x0 x4).f0) ((rd_T107 x0 x4).f1)).bind fun bt105 => (if x4 < (x3.length : Int) then (laws_toTagS.l0 k x0 (x3.set (x4 : Int).toNat (⟨bt105.1, bt105.2⟩ : S69)) (wrap64 (x4 + 1))) else (none))) else (none)) else (some x3)
def laws_toTagS.f (k : Nat) (l0 : List (S107)) : Option ((List (S69))) := if 0 ≤ (l0.length : Int) then (if ((l0.length : Int) : Int).toNat ≤ 8796093022208 then (laws_toTagS.l0 k l0 (List.replicate ((l0.length : Int) : Int).toNat z69) 0) else (none)) else (none)
theorem laws_toTagS.mono_l : ∀ k, (∀ y0 y1 y2, LeO (laws_toTagS.l0 k y0 y1 y2) (laws_toTagS.l0 (k + 1) y0 y1 y2))
 | 0 => fun _ _ _ r h => by simp [laws_toTagS.l0] at h
 | k + 1 => by
  have ih0 := laws_toTagS.mono_l k
  · intro y0 y1 y2
    unfold laws_toTagS.l0
    repeat' first
     | (with_reducible first | exact ih0 .. | exact LeO.refl _ | exact LeO.none _ | refine LeO.ite ?_ ?_ | refine LeO.bind ?_ (fun _ => ?_))
     | exact LeO.none _
     | refine LeO.ite ?_ ?_
     | refine LeO.bind ?_ (fun _ => ?_)
theorem laws_toTagS.mono : ∀ a0 k, LeO (laws_toTagS.f k a0) (laws_toTagS.f (k + 1) a0) := by
 intro a0 k
 have ih0 := laws_toTagS.mono_l k
 unfold laws_toTagS.f
 repeat' first
  | (with_reducible first | exact ih0 .. | exact LeO.refl _ | exact LeO.none _ | refine LeO.ite ?_ ?_ | refine LeO.bind ?_ (fun _ => ?_))
  | exact LeO.none _
  | refine LeO.ite ?_ ?_
  | refine LeO.bind ?_ (fun _ => ?_)
set_option maxHeartbeats 8000000 in
set_option maxRecDepth 100000 in
theorem laws_toTagS.calls (k : Nat) (A0 : Option Addr) (c0 : Nat) (l0 : List (S107)) (r : List (S69)) (w : World) (hr0 : Kd.C k107 w A0 l0.length l0) (hc0 : l0.length ≤ c0) (h : laws_toTagS.f k l0 = some r) :
 Calls Tryd.prog 46 #[.slice A0 l0.length c0] w fun e w' => ∃ v0_ : Value, e = .returned (v0_) ∧ Kd.R k69 69 w' w.heap.size (fun _ => True) v0_ r ∧ Below w.heap.size w w' := by
 have hu107 := Tryd.underlying107
 have hu69 := Tryd.underlying69
 have HR0 := aM hr0
 have HC0 := aM hc0
 clear hr0 hc0
 have HB := aM (Below.refl w.heap.size w)
 have H : (if 0 ≤ (l0.length : Int) then (if ((l0.length : Int) : Int).toNat ≤ 8796093022208 then (laws_toTagS.l0 k l0 (List.replicate ((l0.length : Int) : Int).toNat z69) 0) else (none)) else (none)) = some r := h
 clear h
 by_cases c2 : 0 ≤ (l0.length : Int)
 · rw [if_pos c2] at H
   have c2b0 := eq_true c2
   have c2b1 : decide (0 ≤ (l0.length : Int)) = true := decide_eq_true c2
   clear c2
   by_cases c3 : ((l0.length : Int) : Int).toNat ≤ 8796093022208
   · rw [if_pos c3] at H
     have c3b0 := eq_true c3
     have c3b1 : decide (((l0.length : Int) : Int).toNat ≤ 8796093022208) = true := decide_eq_true c3
     clear c3
     obtain ⟨y101, hy101⟩ : ∃ y_ : List (S69), y_ = (List.replicate ((l0.length : Int) : Int).toNat z69) := ⟨_, rfl⟩
     replace H : (laws_toTagS.l0 k l0 y101 0) = some r := by first | (rw [hy101]; with_reducible exact H) | (have H2_ := (Option.bind_some _ _).symm.trans H; rw [hy101]; with_reducible exact H2_) | (have H2_ := (Option.bind_some _ _).symm.trans H; with_reducible exact H2_) | with_reducible exact H | (rw [hy101]; exact H) | exact H
     have Ny101 := aM hy101
     clear hy101
     have H' := aM H
     clear H
     go_enter Tryd.func46, Tryd.ntmps46
     go_wp2_with (first | ((with_reducible refine gate_dst (N := 7) rfl ?_); refine Kd.R_make k69 _ 69 rfl (N := 7) rfl 23 _ _ rfl (l0.length : Int) rfl rfl Tryd.underlying23 (.agg #[(.string ⟨#[]⟩), (.string ⟨#[]⟩)]) 32 info69 rfl (by decide) (by omega) z69 (ok := fun _ => True) (okp := fun _ => True) (k69_mkM _ _ _ z69 ) (fun _ hk => hk) trivial (of_decide_eq_true z1200) (Nat.le_trans (Nat.mul_le_mul_right _ (of_decide_eq_true z1200 : (l0.length : Int).toNat ≤ 8796093022208)) (by omega)) (Below.refl _ _) (Nat.le_refl _) ?_; intro v102 w4 ho5 hb hg_ hnew_; clear hg_ hnew_; (first | rw [← Ny101.out] at ho5 | (simp only [Int.reduceToNat] at ho5; rw [← Ny101.out] at ho5)); have _ := aM (Kd.R_lower ho5 (below_size hbZ)); have _ := aM (below_step hbZ hb); clear HB; rename_i HO103 HB; clear hb ho5))
     go_loopg [4] k (fun kq v4 w' => ∃ (x3_1 : List (S69)) (x4_1 : Int), v4 = .int .i64 x4_1 ∧ Aside0 (laws_toTagS.l0 kq l0 x3_1 x4_1 = some r) ∧ Aside0 (kq ≤ k) ∧ Aside0 (Kd.R k69 69 w' w.heap.size (fun _ => True) v102 x3_1) ∧ Aside0 (Below w.heap.size w w'))
     case atStart => exact ⟨(y101), (0), z4458, H', ⟨Nat.le_refl _⟩, ⟨rZ HO103.out⟩, ⟨z5acd⟩⟩
     case round =>
      clear H'
      try clear c2
      try clear c2b0
      try clear c2b1
      try clear p2
      try clear c3
      try clear c3b0
      try clear c3b1
      try clear c4
      obtain ⟨x3_1, x4_1, rfl, HA, HK1, HO_3, HB⟩ := hrel
      cases gk with
      | zero => exact absurd HA.out (by simp [laws_toTagS.l0])
      | succ k1 =>
       have H := HA.out
       clear HA
       simp only [laws_toTagS.l0] at H
       by_cases c6 : x4_1 < (l0.length : Int)
       · rw [if_pos c6] at H
         have c6b0 : decide (x4_1 < (l0.length : Int)) = true := decide_eq_true c6
         clear c6
         by_cases c7 : 0 ≤ x4_1
         · rw [if_pos c7] at H
           have c7b0 : decide (0 ≤ x4_1) = true := decide_eq_true c7
           clear c7
           replace H := Option.bind_eq_some_iff.mp H
           obtain ⟨⟨t105, t106⟩, A80, H⟩ := H
           try dsimp only at H
           have A8 := aM A80
           clear A80
           by_cases c9 : x4_1 < (x3_1.length : Int)
           · rw [if_pos c9] at H
             have c9b0 : decide (x4_1 < (x3_1.length : Int)) = true := decide_eq_true c9
             clear c9
             obtain ⟨y107, hy107⟩ : ∃ y_ : List (S69), y_ = (x3_1.set (x4_1 : Int).toNat (⟨t105, t106⟩ : S69)) := ⟨_, rfl⟩
             replace H : (laws_toTagS.l0 k1 l0 y107 (wrap64 (x4_1 + 1))) = some r := by first | (rw [hy107]; with_reducible exact H) | (have H2_ := (Option.bind_some _ _).symm.trans H; rw [hy107]; with_reducible exact H2_) | (have H2_ := (Option.bind_some _ _).symm.trans H; with_reducible exact H2_) | with_reducible exact H | (rw [hy107]; exact H) | exact H
             have Ny107 := aM hy107
             clear hy107
             have H' := aM H
             clear H
             have p104 : 0 ≤ (x4_1 : Int) := of_decide_eq_true z1200
             have q104 : x4_1 < (l0.length : Int) := of_decide_eq_true z1200
             obtain ⟨ad104, e104, hx104_0, hx104_1⟩ := at_T107 HR0.out x4_1 p104 q104
             cases e104
             replace hx104_0 := (HB.out.cell (World.block_lt_of_cell? w _ hx104_0)).trans hx104_0
             replace hx104_1 := (HB.out.cell (World.block_lt_of_cell? w _ hx104_1)).trans hx104_1
             replace p104 := eq_true p104
             replace q104 := eq_true q104
             go_wp2_with (first | ((with_reducible refine gate_callee (f := 76) rfl ?_); refine goesL_ (some 20) rfl rfl Tryd.func76 (by kernel_rfl) rfl #[.agg #[.string ((rd_T107 l0 x4_1).f0), .string ((rd_T107 l0 x4_1).f1)]] rfl zee81 ?_; (with_reducible refine (laws_toTag.calls ((rd_T107 l0 x4_1).f0) ((rd_T107 l0 x4_1).f1) t105 t106 _ A8.out).mono ?_); rintro e w11 ⟨rfl, hb⟩; refine ⟨_, rfl, ?_⟩; have _ := aM (Kd.R_below (rZ HO_3.out) hb); have _ := aM (below_step hbZ hb); clear HO_3 HB; rename_i HO_3 HB; (try clear hb); have p10 : 0 ≤ (x4_1 : Int) := of_decide_eq_true z1200; have q10 : (x4_1 : Int) < ((x3_1.length : Int) : Int) := of_decide_eq_true z1200; obtain ⟨go10, co10, eo10, gb10, gl10, cl10, HG10⟩ := Kd.R_form HO_3.out (by omega); (first | cases eo10 | (injection eo10 with ea_ en_ ec_; (first | subst ea_ | (injection ea_ with ea_; subst ea_)); subst ec_; clear en_)); have GB10 := aM gb10; have GG10 := aM HG10; clear gb10 gl10 HG10; obtain ⟨ce10, hcl10, hM10, hcc10, hfr10⟩ := Kd.R_elem HO_3.out z69 (x4_1 : Int) p10 q10; obtain rfl := k69_openM hM10; have hx10_0 : w11.cell? ⟨go10, (x4_1 : Int).toNat * 2, none⟩ = some (.string ((rd_T69 x3_1 x4_1).f0)) := hcc10 0 _ rfl; have hx10_1 : w11.cell? ⟨go10, (x4_1 : Int).toNat * 2 + 1, none⟩ = some (.string ((rd_T69 x3_1 x4_1).f1)) := hcc10 1 _ rfl; have hf10_0 : w11.frozen? ⟨go10, (x4_1 : Int).toNat * 2, none⟩ = false := hfr10 0; have hf10_1 : w11.frozen? ⟨go10, (x4_1 : Int).toNat * 2 + 1, none⟩ = false := hfr10 1; clear hcl10 hcc10 hfr10 hM10; replace p10 := eq_true p10; replace q10 := eq_true q10; have HX12 := aM (show Kd.R k69 69 w11 w.heap.size (fun _ => True) (.slice (some ⟨go10, 0, none⟩) x3_1.length co10) x3_1 from (rZ HO_3.out)); obtain ⟨ce12, hcl12, hM12, hcc12, hfr12⟩ := Kd.R_elem HX12.out z69 (x4_1 : Int) (of_decide_eq_true z1200) (by have h_ : (x4_1 : Int) < ((x3_1.length : Int) : Int) := of_decide_eq_true z1200; first | exact h_ | (have e_ := (Kd.R_reads' HO_3.out).1; omega) | simpa using h_); obtain rfl := k69_openM hM12; have HP12 := Kd.R_seg HX12.out (x4_1 : Int) (of_decide_eq_true z1200) (by have h_ : (x4_1 : Int) < ((x3_1.length : Int) : Int) := of_decide_eq_true z1200; first | exact h_ | (have e_ := (Kd.R_reads' HO_3.out).1; omega) | simpa using h_) (seg := [.string t105, .string t106]) (j := 0) hcl12 hcc12 (show 2 ≤ 2 from by decide) (x' := (⟨t105, t106⟩ : S69)) (k69_mkM _ _ _ (⟨t105, t106⟩ : S69) ) (fun _ hk => hk); have hx12_0 := hcc12 0 _ rfl; (try simp only [show (k69).sz = 2 from rfl, Nat.mul_one, Nat.add_zero] at hx12_0); have hf12_0 := hfr12 0; (try simp only [show (k69).sz = 2 from rfl, Nat.mul_one, Nat.add_zero] at hf12_0); have hx12_1 := hcc12 1 _ rfl; (try simp only [show (k69).sz = 2 from rfl, Nat.mul_one, Nat.add_zero] at hx12_1); have hf12_1 := hfr12 1; (try simp only [show (k69).sz = 2 from rfl, Nat.mul_one, Nat.add_zero] at hf12_1); clear hcl12 hcc12 hfr12 hM12) | ((with_reducible refine gate_store (t := 69) (p := 21) rfl ?_); refine store_event (t := 69) (p := 21) (v := ?vo_w13) (w1 := ((w11.setCell ⟨go10, (x4_1 : Int).toNat * 2, none⟩ (.string t105)).setCell ⟨go10, (x4_1 : Int).toNat * 2 + 1, none⟩ (.string t106))) ?hg ?ho ?hn ?hr ?_; (case ho => rfl); (case hg => rfl); (case hn => rfl); (case hr => first | (go_simp; done) | (go_simp; rfl)); intro w13 hw; have hg : w11.grownBy w13 (some go10) := (by rw [hw]; exact HP12.2); have hp_ : Kd.R k69 69 w13 w.heap.size (fun _ => True) (.slice (some ⟨go10, 0, none⟩) x3_1.length co10) y107 := (by rw [hw, Ny107.out]; exact HP12.1); clear HP12; have _ := aM hp_; have _ := aM ((by rw [hw]; exact below_set (below_set (HB.out) GB10.out) GB10.out : Below w.heap.size w w13)); clear HO_3 HB; rename_i HO_3 HB; clear hg hw hp_))
             go_roundg k1
             case measure => have := HK1.out; omega
             case rel => exact ⟨(y107), (wrap64 (x4_1 + 1)), z4458, H', ⟨zfb39⟩, ⟨rZ HO_3.out⟩, ⟨z5acd⟩⟩
           · rw [if_neg c9] at H
             exact absurd H (by simp)
         · rw [if_neg c7] at H
           exact absurd H (by simp)
       · rw [if_neg c6] at H
         have c6b0 : decide (x4_1 < (l0.length : Int)) = false := decide_eq_false c6
         clear c6
         obtain rfl := Option.some.inj H
         go_wp2
         go_ret
         exact ⟨_, z674d, rZ HO_3.out, z5acd⟩
   · rw [if_neg c3] at H
     exact absurd H (by simp)
 · rw [if_neg c2] at H
   exact absurd H (by simp)

end Go.Proofs.YteogadaloebdaaaDoor.P

-- written by a program of this session's (wip/pp)
namespace Go.Proofs.YteogadaloebdaaaDoor.P
open Go.RowKit Go.Proofs.YteogadaloebdaaaDoorW.PrintWords Go.Proofs.YteogadaloebdaaaDoorW.PrintLast Go.Proofs.YteogadaloebdaaaDoorW.PrintMore
attribute [local go_sem] max2_int min2_int max_two min_two max_three min_three max_four min_four str_geq str_gtr str_leq   -- for this text's walks alone
set_option linter.unusedVariables false
set_option linter.unusedSimpArgs false

/-! ### laws_toKey: function 15 -/
def laws_toKey.f (k : Nat) (a0_0 : ByteArray) (l0_1 : List (S107)) (a0_2 : Int) : Option (ByteArray × (List (S69)) × Int) := (laws_toTagS.f k l0_1).bind fun t104 => (some (a0_0, t104, a0_2))
theorem laws_toKey.mono : ∀ a0 a1 a2 k, LeO (laws_toKey.f k a0 a1 a2) (laws_toKey.f (k + 1) a0 a1 a2) := by
 intro a0 a1 a2 k
 unfold laws_toKey.f
 repeat' first
  | (with_reducible first | exact laws_toTagS.mono .. | exact LeO.refl _ | exact LeO.none _ | refine LeO.ite ?_ ?_ | refine LeO.bind ?_ (fun _ => ?_))
  | exact LeO.none _
  | refine LeO.ite ?_ ?_
  | refine LeO.bind ?_ (fun _ => ?_)
set_option maxHeartbeats 8000000 in
set_option maxRecDepth 100000 in
theorem laws_toKey.calls (k : Nat) (a0_0 : ByteArray) (A0_1 : Option Addr) (c0_1 : Nat) (l0_1 : List (S107)) (a0_2 : Int) (r1 : ByteArray) (r2 : List (S69)) (r3 : Int) (w : World) (hr0_1 : Kd.C k107 w A0_1 l0_1.length l0_1) (hc0_1 : l0_1.length ≤ c0_1) (h : laws_toKey.f k a0_0 l0_1 a0_2 = some (r1, r2, r3)) :
 Calls Tryd.prog 15 #[.agg #[.string a0_0, .slice A0_1 l0_1.length c0_1, .int .i64 a0_2]] w fun e w' => ∃ v1_ : Value, e = .returned (.agg #[.string r1, v1_, .int .i64 r3]) ∧ Kd.R k69 69 w' w.heap.size (fun _ => True) v1_ r2 ∧ Below w.heap.size w w' := by
 have hu37 := Tryd.underlying37
 have hu25 := Tryd.underlying25
 have HR0_1 := aM hr0_1
 have HC0_1 := aM hc0_1
 clear hr0_1 hc0_1
 have HB := aM (Below.refl w.heap.size w)
 have H : ((laws_toTagS.f k l0_1).bind fun t104 => (some (a0_0, t104, a0_2))) = some (r1, r2, r3) := h
 clear h
 replace H := Option.bind_eq_some_iff.mp H
 obtain ⟨t104, A20, H⟩ := H
 try dsimp only at H
 have A2 := aM A20
 clear A20
 simp only [Option.some.injEq, Prod.mk.injEq] at H
 obtain ⟨rfl, rfl, rfl⟩ := H
 go_enter Tryd.func15, Tryd.ntmps15
 go_wp2_with (first | ((with_reducible refine gate_dst (N := 1) rfl ?_); refine box_event ?hg (N := 1) ?hd (cs := #[.string a0_0, .slice A0_1 l0_1.length c0_1, .int .i64 a0_2]) (t := 37) ?hr ?_; (case hd => rfl); (case hg => rfl); (case hr => first | (go_simp; done) | (go_simp; rfl)); intro gb101 hg w3 hbox hb; have _ := aM (below_step hbZ hb); have _ := aM hbox; have _ := szZ hg; have _ := szZ hg; clear HB; rename_i HB BK101 GW101 GE101; clear hb hbox hg) | ((with_reducible refine gate_dst (N := 2) rfl ?_); refine box_event ?hg (N := 2) ?hd (cs := #[.string (⟨#[]⟩ : ByteArray), .slice none 0 0, .int .i64 0]) (t := 25) ?hr ?_; (case hd => rfl); (case hg => rfl); (case hr => first | (go_simp; done) | (go_simp; rfl)); intro gb102 hg w4 hbox hb; have _ := bB gb101 hb; have _ := aM (below_step hbZ hb); have _ := aM hbox; have _ := szZ hg; have _ := szZ hg; have ⟨_, _⟩ := nbB gb101 hg; clear BK101 HB; rename_i BK101 HB BK102 GW102 GE102 NB101_102 NB102_101; clear hb hbox hg) | ((with_reducible refine gate_dst (N := 3) rfl ?_); refine box_event ?hg (N := 3) ?hd (cs := #[.string (⟨#[]⟩ : ByteArray), .slice none 0 0, .int .i64 0]) (t := 25) ?hr ?_; (case hd => rfl); (case hg => rfl); (case hr => first | (go_simp; done) | (go_simp; rfl)); intro gb103 hg w5 hbox hb; have _ := bB gb101 hb; have _ := bB gb102 hb; have _ := aM (below_step hbZ hb); have _ := aM hbox; have _ := szZ hg; have _ := szZ hg; have ⟨_, _⟩ := nbB gb101 hg; have ⟨_, _⟩ := nbB gb102 hg; clear BK101 BK102 HB; rename_i BK101 BK102 HB BK103 GW103 GE103 NB101_103 NB103_101 NB102_103 NB103_102; clear hb hbox hg; have hnb6 := NB101_102.out; have hnc6 := NB102_101.out; have hnb7 := NB101_103.out; have hnc7 := NB103_101.out; obtain ⟨hcz8_0, hcz8_1, hcz8_2, hfz8_0, hfz8_1, hfz8_2⟩ := cellsZ3 BK101.out; have hnb9 := NB103_102.out; have hnc9 := NB102_103.out; obtain ⟨hcz10_0, hcz10_1, hcz10_2, hfz10_0, hfz10_1, hfz10_2⟩ := cellsZ3 BK103.out) | ((with_reducible refine gate_callee (f := 46) rfl ?_); refine goesL_ (some 9) rfl rfl Tryd.func46 (by kernel_rfl) rfl #[.slice A0_1 l0_1.length c0_1] rfl zee81 ?_; (with_reducible refine (laws_toTagS.calls k _ _ l0_1 t104 _ ?side1 ?side2 A2.out).mono ?_); (case side1 => exact Kd.C_below HR0_1.out hbZ); (case side2 => exact HC0_1.out); rintro e w11 ⟨v105, rfl, ho0, hb⟩; refine ⟨_, rfl, ?_⟩; have _ := aM (Kd.R_lower ho0 (below_size hbZ)); have _ := bB gb101 hb; have _ := bB gb102 hb; have _ := aM (blk_below (g := gb103) (o := .cells #[.string a0_0, .slice none 0 0, .int .i64 0] 25 (0, 0)) bkZ hb); have _ := aM (below_step hbZ hb); clear BK101 BK102 BK103 HB; rename_i HO106 BK101 BK102 BK103 HB; (try clear hb); (try clear ho0); obtain ⟨Ao12, co12, eo12⟩ := Kd.R_slice HO106.out; subst eo12; obtain ⟨hcz13_0, hcz13_1, hcz13_2, hfz13_0, hfz13_1, hfz13_2⟩ := cellsZ3 BK103.out; obtain ⟨hcz14_0, hcz14_1, hcz14_2, hfz14_0, hfz14_1, hfz14_2⟩ := cellsZ3 BK101.out; obtain ⟨hcz15_0, hcz15_1, hcz15_2, hfz15_0, hfz15_1, hfz15_2⟩ := cellsZ3 BK102.out))
 refine bodyPost_ret (results_cell_row rfl _ _ gb102 25 #[.string a0_0, .slice Ao12 t104.length co12, .int .i64 a0_2] (0, 0) _ rfl bkZ Tryd.underlying25 rfl (by kernel_rfl)) rfl ?_
 exact ⟨_, z674d, by (with_reducible repeat (first | apply Kd.R_alloc | apply Kd.R_drewN | apply Kd.R_drew)); exact Kd.R_mono (Kd.R_far (p := ⟨gb102, 2, none⟩) (Kd.R_far (p := ⟨gb102, 1, none⟩) (Kd.R_far (p := ⟨gb102, 0, none⟩) (Kd.R_far (p := ⟨gb103, 2, none⟩) (Kd.R_far (p := ⟨gb103, 1, none⟩) (Kd.R_types (Kd.R_types HO106.out BK103.out (by decide)) BK102.out (by decide)) (fun _ hk => hk.1.2) (.slice Ao12 t104.length co12)) (fun _ hk => hk.1.2) (.int .i64 a0_2)) (fun _ hk => hk.2) (.string a0_0)) (fun _ hk => hk.2) (.slice Ao12 t104.length co12)) (fun _ hk => hk.2) (.int .i64 a0_2)) (fun _ hk => trivial), zcb41⟩

end Go.Proofs.YteogadaloebdaaaDoor.P

-- written by a program of this session's (wip/pp)
namespace Go.Proofs.YteogadaloebdaaaDoor.P
open Go.RowKit Go.Proofs.YteogadaloebdaaaDoorW.PrintWords Go.Proofs.YteogadaloebdaaaDoorW.PrintLast Go.Proofs.YteogadaloebdaaaDoorW.PrintMore
attribute [local go_sem] max2_int min2_int max_two min_two max_three min_three max_four min_four str_geq str_gtr str_leq   -- for this text's walks alone
set_option linter.unusedVariables false
set_option linter.unusedSimpArgs false

/-! ### laws_toIntS: function 125 -/
def laws_toIntS.l0 : Nat → List Int → List Int → Int → Option (List Int)
 | 0, _, _, _ => none
 | k + 1, x0, x3, x4 => if x4 < (x0.length : Int) then (if 0 ≤ x4 then (if x4 < (x3.length : Int) then (laws_toIntS.l0 k x0 (x3.set (x4 : Int).toNat (rd x0 x4)) (wrap64 (x4 + 1))) else (none)) else (none)) else (some x3)
def laws_toIntS.f (k : Nat) (l0 : List Int) : Option (List Int) := if 0 ≤ (l0.length : Int) then (if ((l0.length : Int) : Int).toNat ≤ 35184372088832 then (laws_toIntS.l0 k l0 (List.replicate ((l0.length : Int) : Int).toNat 0) 0) else (none)) else (none)
theorem laws_toIntS.mono_l : ∀ k, (∀ y0 y1 y2, LeO (laws_toIntS.l0 k y0 y1 y2) (laws_toIntS.l0 (k + 1) y0 y1 y2))
 | 0 => fun _ _ _ r h => by simp [laws_toIntS.l0] at h
 | k + 1 => by
  have ih0 := laws_toIntS.mono_l k
  · intro y0 y1 y2
    unfold laws_toIntS.l0
    repeat' first
     | (with_reducible first | exact ih0 .. | exact LeO.refl _ | exact LeO.none _ | refine LeO.ite ?_ ?_ | refine LeO.bind ?_ (fun _ => ?_))
     | exact LeO.none _
     | refine LeO.ite ?_ ?_
     | refine LeO.bind ?_ (fun _ => ?_)
theorem laws_toIntS.mono : ∀ a0 k, LeO (laws_toIntS.f k a0) (laws_toIntS.f (k + 1) a0) := by
 intro a0 k
 have ih0 := laws_toIntS.mono_l k
 unfold laws_toIntS.f
 repeat' first
  | (with_reducible first | exact ih0 .. | exact LeO.refl _ | exact LeO.none _ | refine LeO.ite ?_ ?_ | refine LeO.bind ?_ (fun _ => ?_))
  | exact LeO.none _
  | refine LeO.ite ?_ ?_
  | refine LeO.bind ?_ (fun _ => ?_)
set_option maxHeartbeats 8000000 in
set_option maxRecDepth 100000 in
theorem laws_toIntS.calls (k : Nat) (A0 : Option Addr) (c0 : Nat) (l0 : List Int) (r : List Int) (w : World) (hr0 : Kd.C (Kd.int .i64) w A0 l0.length l0) (hc0 : l0.length ≤ c0) (h : laws_toIntS.f k l0 = some r) :
 Calls Tryd.prog 125 #[.slice A0 l0.length c0] w fun e w' => ∃ v0_ : Value, e = .returned (v0_) ∧ Kd.R (Kd.int .i64) 3 w' w.heap.size (fun _ => True) v0_ r ∧ Below w.heap.size w w' := by
 have HR0 := aM hr0
 have HC0 := aM hc0
 clear hr0 hc0
 have HB := aM (Below.refl w.heap.size w)
 have H : (if 0 ≤ (l0.length : Int) then (if ((l0.length : Int) : Int).toNat ≤ 35184372088832 then (laws_toIntS.l0 k l0 (List.replicate ((l0.length : Int) : Int).toNat 0) 0) else (none)) else (none)) = some r := h
 clear h
 by_cases c2 : 0 ≤ (l0.length : Int)
 · rw [if_pos c2] at H
   have c2b0 := eq_true c2
   have c2b1 : decide (0 ≤ (l0.length : Int)) = true := decide_eq_true c2
   clear c2
   by_cases c3 : ((l0.length : Int) : Int).toNat ≤ 35184372088832
   · rw [if_pos c3] at H
     have c3b0 := eq_true c3
     have c3b1 : decide (((l0.length : Int) : Int).toNat ≤ 35184372088832) = true := decide_eq_true c3
     clear c3
     obtain ⟨y101, hy101⟩ : ∃ y_ : List Int, y_ = (List.replicate ((l0.length : Int) : Int).toNat 0) := ⟨_, rfl⟩
     replace H : (laws_toIntS.l0 k l0 y101 0) = some r := by first | (rw [hy101]; with_reducible exact H) | (have H2_ := (Option.bind_some _ _).symm.trans H; rw [hy101]; with_reducible exact H2_) | (have H2_ := (Option.bind_some _ _).symm.trans H; with_reducible exact H2_) | with_reducible exact H | (rw [hy101]; exact H) | exact H
     have Ny101 := aM hy101
     clear hy101
     have H' := aM H
     clear H
     go_enter Tryd.func125, Tryd.ntmps125
     go_wp2_with (first | ((with_reducible refine gate_dst (N := 7) rfl ?_); refine Kd.R_make (Kd.int .i64) _ 3 rfl (N := 7) rfl 93 _ _ rfl (l0.length : Int) rfl rfl Tryd.underlying93 (.int .i64 0) 8 info3 rfl (by decide) (by omega) 0 (ok := fun _ => True) (okp := fun _ => True) rfl (fun _ hk => hk) trivial (of_decide_eq_true z1200) (Nat.le_trans (Nat.mul_le_mul_right _ (of_decide_eq_true z1200 : (l0.length : Int).toNat ≤ 35184372088832)) (by omega)) (Below.refl _ _) (Nat.le_refl _) ?_; intro v102 w4 ho5 hb hg_ hnew_; clear hg_ hnew_; (first | rw [← Ny101.out] at ho5 | (simp only [Int.reduceToNat] at ho5; rw [← Ny101.out] at ho5)); have _ := aM (Kd.R_lower ho5 (below_size hbZ)); have _ := aM (below_step hbZ hb); clear HB; rename_i HO103 HB; clear hb ho5))
     go_loopg [4] k (fun kq v4 w' => ∃ (x3_1 : List Int) (x4_1 : Int), v4 = .int .i64 x4_1 ∧ Aside0 (laws_toIntS.l0 kq l0 x3_1 x4_1 = some r) ∧ Aside0 (kq ≤ k) ∧ Aside0 (Kd.R (Kd.int .i64) 3 w' w.heap.size (fun _ => True) v102 x3_1) ∧ Aside0 (Below w.heap.size w w'))
     case atStart => exact ⟨(y101), (0), z4458, H', ⟨Nat.le_refl _⟩, ⟨rZ HO103.out⟩, ⟨z5acd⟩⟩
     case round =>
      clear H'
      try clear c1
      try clear c2
      try clear c2b0
      try clear c2b1
      try clear p2
      try clear c3
      try clear c3b0
      try clear c3b1
      obtain ⟨x3_1, x4_1, rfl, HA, HK1, HO_3, HB⟩ := hrel
      cases gk with
      | zero => exact absurd HA.out (by simp [laws_toIntS.l0])
      | succ k1 =>
       have H := HA.out
       clear HA
       simp only [laws_toIntS.l0] at H
       by_cases c6 : x4_1 < (l0.length : Int)
       · rw [if_pos c6] at H
         have c6b0 : decide (x4_1 < (l0.length : Int)) = true := decide_eq_true c6
         clear c6
         by_cases c7 : 0 ≤ x4_1
         · rw [if_pos c7] at H
           have c7b0 : decide (0 ≤ x4_1) = true := decide_eq_true c7
           clear c7
           by_cases c8 : x4_1 < (x3_1.length : Int)
           · rw [if_pos c8] at H
             have c8b0 : decide (x4_1 < (x3_1.length : Int)) = true := decide_eq_true c8
             clear c8
             obtain ⟨y105, hy105⟩ : ∃ y_ : List Int, y_ = (x3_1.set (x4_1 : Int).toNat (rd l0 x4_1)) := ⟨_, rfl⟩
             replace H : (laws_toIntS.l0 k1 l0 y105 (wrap64 (x4_1 + 1))) = some r := by first | (rw [hy105]; with_reducible exact H) | (have H2_ := (Option.bind_some _ _).symm.trans H; rw [hy105]; with_reducible exact H2_) | (have H2_ := (Option.bind_some _ _).symm.trans H; with_reducible exact H2_) | with_reducible exact H | (rw [hy105]; exact H) | exact H
             have Ny105 := aM hy105
             clear hy105
             have H' := aM H
             clear H
             have p104 : 0 ≤ (x4_1 : Int) := of_decide_eq_true z1200
             have q104 : x4_1 < (l0.length : Int) := of_decide_eq_true z1200
             obtain ⟨ad104, e104, hx104_0⟩ := Kd.at_int HR0.out x4_1 p104 q104
             cases e104
             replace hx104_0 := (HB.out.cell (World.block_lt_of_cell? w _ hx104_0)).trans hx104_0
             replace p104 := eq_true p104
             replace q104 := eq_true q104
             have p9 : 0 ≤ (x4_1 : Int) := of_decide_eq_true z1200
             have q9 : (x4_1 : Int) < ((x3_1.length : Int) : Int) := of_decide_eq_true z1200
             obtain ⟨go9, co9, eo9, gb9, gl9, cl9, HG9⟩ := Kd.R_form HO_3.out (by omega)
             (first | cases eo9 | (injection eo9 with ea_ en_ ec_; (first | subst ea_ | (injection ea_ with ea_; subst ea_)); subst ec_; clear en_))
             have GB9 := aM gb9
             have GG9 := aM HG9
             clear gb9 gl9 HG9
             obtain ⟨hx9_0, hf9_0⟩ := Kd.R_celln 0 HO_3.out (x4_1 : Int) p9 q9
             replace p9 := eq_true p9
             replace q9 := eq_true q9
             have HP10 := Kd.R_putg HO_3.out (x4_1 : Int) (rd l0 x4_1)
             go_wp2_with (first | ((with_reducible refine gate_store (t := 3) (p := 20) rfl ?_); refine store_event (t := 3) (p := 20) (v := ?vo_w11) (w1 := (wr.setCell ⟨go9, (x4_1 : Int).toNat, none⟩ (.int .i64 (rd l0 x4_1)))) ?hg ?ho ?hn ?hr ?_; (case ho => rfl); (case hg => rfl); (case hn => rfl); (case hr => first | (go_simp; done) | (go_simp; rfl)); intro w11 hw; have hg : wr.grownBy w11 (some go9) := (by rw [hw]; exact HP10.2); have hp_ : Kd.R (Kd.int .i64) 3 w11 w.heap.size (fun _ => True) (.slice (some ⟨go9, 0, none⟩) x3_1.length co9) y105 := (by rw [hw, Ny105.out]; exact HP10.1); clear HP10; have _ := aM hp_; have _ := aM ((by rw [hw]; exact below_set (HB.out) GB9.out : Below w.heap.size w w11)); clear HO_3 HB; rename_i HO_3 HB; clear hg hw hp_))
             go_roundg k1
             case measure => have := HK1.out; omega
             case rel => exact ⟨(y105), (wrap64 (x4_1 + 1)), z4458, H', ⟨zfb39⟩, ⟨rZ HO_3.out⟩, ⟨z5acd⟩⟩
           · rw [if_neg c8] at H
             exact absurd H (by simp)
         · rw [if_neg c7] at H
           exact absurd H (by simp)
       · rw [if_neg c6] at H
         have c6b0 : decide (x4_1 < (l0.length : Int)) = false := decide_eq_false c6
         clear c6
         obtain rfl := Option.some.inj H
         go_wp2
         go_ret
         exact ⟨_, z674d, rZ HO_3.out, z5acd⟩
   · rw [if_neg c3] at H
     exact absurd H (by simp)
 · rw [if_neg c2] at H
   exact absurd H (by simp)

end Go.Proofs.YteogadaloebdaaaDoor.P

-- written by a program of this session's (wip/pp)
namespace Go.Proofs.YteogadaloebdaaaDoor.P
open Go.RowKit Go.Proofs.YteogadaloebdaaaDoorW.PrintWords Go.Proofs.YteogadaloebdaaaDoorW.PrintLast Go.Proofs.YteogadaloebdaaaDoorW.PrintMore
attribute [local go_sem] max2_int min2_int max_two min_two max_three min_three max_four min_four str_geq str_gtr str_leq   -- for this text's walks alone
set_option linter.unusedVariables false
set_option linter.unusedSimpArgs false

/-! ### laws_toAgg: function 104 -/
def laws_toAgg.f (k : Nat) (a0_0 : Int) (a0_1 : Int) (a0_2 : Int) (a0_3 : Int) (l0_4 : List Int) (a0_5 : Bool) : Option (Int × Int × Int × Int × List Int × Bool) := (laws_toIntS.f k l0_4).bind fun t104 => (some (a0_0, a0_1, a0_2, a0_3, t104, a0_5))
theorem laws_toAgg.mono : ∀ a0 a1 a2 a3 a4 a5 k, LeO (laws_toAgg.f k a0 a1 a2 a3 a4 a5) (laws_toAgg.f (k + 1) a0 a1 a2 a3 a4 a5) := by
 intro a0 a1 a2 a3 a4 a5 k
 unfold laws_toAgg.f
 repeat' first
  | (with_reducible first | exact laws_toIntS.mono .. | exact LeO.refl _ | exact LeO.none _ | refine LeO.ite ?_ ?_ | refine LeO.bind ?_ (fun _ => ?_))
  | exact LeO.none _
  | refine LeO.ite ?_ ?_
  | refine LeO.bind ?_ (fun _ => ?_)
set_option maxHeartbeats 8000000 in
set_option maxRecDepth 100000 in
theorem laws_toAgg.calls (k : Nat) (a0_0 : Int) (a0_1 : Int) (a0_2 : Int) (a0_3 : Int) (A0_4 : Option Addr) (c0_4 : Nat) (l0_4 : List Int) (a0_5 : Bool) (r1 : Int) (r2 : Int) (r3 : Int) (r4 : Int) (r5 : List Int) (r6 : Bool) (w : World) (hr0_4 : Kd.C (Kd.int .i64) w A0_4 l0_4.length l0_4) (hc0_4 : l0_4.length ≤ c0_4) (h : laws_toAgg.f k a0_0 a0_1 a0_2 a0_3 l0_4 a0_5 = some (r1, r2, r3, r4, r5, r6)) :
 Calls Tryd.prog 104 #[.agg #[.int .i64 a0_0, .int .i64 a0_1, .int .i64 a0_2, .int .i64 a0_3, .slice A0_4 l0_4.length c0_4, .bool a0_5]] w fun e w' => ∃ v4_ : Value, e = .returned (.agg #[.int .i64 r1, .int .i64 r2, .int .i64 r3, .int .i64 r4, v4_, .bool r6]) ∧ Kd.R (Kd.int .i64) 3 w' w.heap.size (fun _ => True) v4_ r5 ∧ Below w.heap.size w w' := by
 have hu116 := Tryd.underlying116
 have hu95 := Tryd.underlying95
 have HR0_4 := aM hr0_4
 have HC0_4 := aM hc0_4
 clear hr0_4 hc0_4
 have HB := aM (Below.refl w.heap.size w)
 have H : ((laws_toIntS.f k l0_4).bind fun t104 => (some (a0_0, a0_1, a0_2, a0_3, t104, a0_5))) = some (r1, r2, r3, r4, r5, r6) := h
 clear h
 replace H := Option.bind_eq_some_iff.mp H
 obtain ⟨t104, A20, H⟩ := H
 try dsimp only at H
 have A2 := aM A20
 clear A20
 simp only [Option.some.injEq, Prod.mk.injEq] at H
 obtain ⟨rfl, rfl, rfl, rfl, rfl, rfl⟩ := H
 go_enter Tryd.func104, Tryd.ntmps104
 go_wp2_with (first | ((with_reducible refine gate_dst (N := 1) rfl ?_); refine box_event ?hg (N := 1) ?hd (cs := #[.int .i64 a0_0, .int .i64 a0_1, .int .i64 a0_2, .int .i64 a0_3, .slice A0_4 l0_4.length c0_4, .bool a0_5]) (t := 116) ?hr ?_; (case hd => rfl); (case hg => rfl); (case hr => first | (go_simp; done) | (go_simp; rfl)); intro gb101 hg w3 hbox hb; have _ := aM (below_step hbZ hb); have _ := aM hbox; have _ := szZ hg; have _ := szZ hg; clear HB; rename_i HB BK101 GW101 GE101; clear hb hbox hg) | ((with_reducible refine gate_dst (N := 2) rfl ?_); refine box_event ?hg (N := 2) ?hd (cs := #[.int .i64 0, .int .i64 0, .int .i64 0, .int .i64 0, .slice none 0 0, .bool false]) (t := 95) ?hr ?_; (case hd => rfl); (case hg => rfl); (case hr => first | (go_simp; done) | (go_simp; rfl)); intro gb102 hg w4 hbox hb; have _ := bB gb101 hb; have _ := aM (below_step hbZ hb); have _ := aM hbox; have _ := szZ hg; have _ := szZ hg; have ⟨_, _⟩ := nbB gb101 hg; clear BK101 HB; rename_i BK101 HB BK102 GW102 GE102 NB101_102 NB102_101; clear hb hbox hg) | ((with_reducible refine gate_dst (N := 3) rfl ?_); refine box_event ?hg (N := 3) ?hd (cs := #[.int .i64 0, .int .i64 0, .int .i64 0, .int .i64 0, .slice none 0 0, .bool false]) (t := 95) ?hr ?_; (case hd => rfl); (case hg => rfl); (case hr => first | (go_simp; done) | (go_simp; rfl)); intro gb103 hg w5 hbox hb; have _ := bB gb101 hb; have _ := bB gb102 hb; have _ := aM (below_step hbZ hb); have _ := aM hbox; have _ := szZ hg; have _ := szZ hg; have ⟨_, _⟩ := nbB gb101 hg; have ⟨_, _⟩ := nbB gb102 hg; clear BK101 BK102 HB; rename_i BK101 BK102 HB BK103 GW103 GE103 NB101_103 NB103_101 NB102_103 NB103_102; clear hb hbox hg; have hnb6 := NB101_102.out; have hnc6 := NB102_101.out; have hnb7 := NB101_103.out; have hnc7 := NB103_101.out; obtain ⟨hcz8_0, hcz8_1, hcz8_2, hcz8_3, hcz8_4, hcz8_5, hfz8_0, hfz8_1, hfz8_2, hfz8_3, hfz8_4, hfz8_5⟩ := cellsZ6 BK101.out; have hnb9 := NB103_102.out; have hnc9 := NB102_103.out; obtain ⟨hcz10_0, hcz10_1, hcz10_2, hcz10_3, hcz10_4, hcz10_5, hfz10_0, hfz10_1, hfz10_2, hfz10_3, hfz10_4, hfz10_5⟩ := cellsZ6 BK103.out) | ((with_reducible refine gate_callee (f := 125) rfl ?_); refine goesL_ (some 18) rfl rfl Tryd.func125 (by kernel_rfl) rfl #[.slice A0_4 l0_4.length c0_4] rfl zee81 ?_; (with_reducible refine (laws_toIntS.calls k _ _ l0_4 t104 _ ?side1 ?side2 A2.out).mono ?_); (case side1 => exact Kd.C_below HR0_4.out hbZ); (case side2 => exact HC0_4.out); rintro e w11 ⟨v105, rfl, ho0, hb⟩; refine ⟨_, rfl, ?_⟩; have _ := aM (Kd.R_lower ho0 (below_size hbZ)); have _ := bB gb101 hb; have _ := bB gb102 hb; have _ := aM (blk_below (g := gb103) (o := .cells #[.int .i64 a0_0, .int .i64 a0_1, .int .i64 a0_2, .int .i64 a0_3, .slice none 0 0, .bool false] 95 (0, 0)) bkZ hb); have _ := aM (below_step hbZ hb); clear BK101 BK102 BK103 HB; rename_i HO106 BK101 BK102 BK103 HB; (try clear hb); (try clear ho0); obtain ⟨Ao12, co12, eo12⟩ := Kd.R_slice HO106.out; subst eo12; obtain ⟨hcz13_0, hcz13_1, hcz13_2, hcz13_3, hcz13_4, hcz13_5, hfz13_0, hfz13_1, hfz13_2, hfz13_3, hfz13_4, hfz13_5⟩ := cellsZ6 BK103.out; obtain ⟨hcz14_0, hcz14_1, hcz14_2, hcz14_3, hcz14_4, hcz14_5, hfz14_0, hfz14_1, hfz14_2, hfz14_3, hfz14_4, hfz14_5⟩ := cellsZ6 BK101.out; obtain ⟨hcz15_0, hcz15_1, hcz15_2, hcz15_3, hcz15_4, hcz15_5, hfz15_0, hfz15_1, hfz15_2, hfz15_3, hfz15_4, hfz15_5⟩ := cellsZ6 BK102.out))
 refine bodyPost_ret (results_cell_row rfl _ _ gb102 95 #[.int .i64 a0_0, .int .i64 a0_1, .int .i64 a0_2, .int .i64 a0_3, .slice Ao12 t104.length co12, .bool a0_5] (0, 0) _ rfl bkZ Tryd.underlying95 rfl (by kernel_rfl)) rfl ?_
 exact ⟨_, z674d, by (with_reducible repeat (first | apply Kd.R_alloc | apply Kd.R_drewN | apply Kd.R_drew)); exact Kd.R_mono (Kd.R_far (p := ⟨gb102, 5, none⟩) (Kd.R_far (p := ⟨gb102, 4, none⟩) (Kd.R_far (p := ⟨gb102, 3, none⟩) (Kd.R_far (p := ⟨gb102, 2, none⟩) (Kd.R_far (p := ⟨gb102, 1, none⟩) (Kd.R_far (p := ⟨gb102, 0, none⟩) (Kd.R_far (p := ⟨gb103, 5, none⟩) (Kd.R_far (p := ⟨gb103, 4, none⟩) (Kd.R_types (Kd.R_types HO106.out BK103.out (by decide)) BK102.out (by decide)) (fun _ hk => hk.1.2) (.slice Ao12 t104.length co12)) (fun _ hk => hk.1.2) (.bool a0_5)) (fun _ hk => hk.2) (.int .i64 a0_0)) (fun _ hk => hk.2) (.int .i64 a0_1)) (fun _ hk => hk.2) (.int .i64 a0_2)) (fun _ hk => hk.2) (.int .i64 a0_3)) (fun _ hk => hk.2) (.slice Ao12 t104.length co12)) (fun _ hk => hk.2) (.bool a0_5)) (fun _ hk => trivial), zcb41⟩

end Go.Proofs.YteogadaloebdaaaDoor.P

-- written by a program of this session's (wip/pp)
namespace Go.Proofs.YteogadaloebdaaaDoor.P
open Go.RowKit Go.Proofs.YteogadaloebdaaaDoorW.PrintWords Go.Proofs.YteogadaloebdaaaDoorW.PrintLast Go.Proofs.YteogadaloebdaaaDoorW.PrintMore
attribute [local go_sem] max2_int min2_int max_two min_two max_three min_three max_four min_four str_geq str_gtr str_leq   -- for this text's walks alone
set_option linter.unusedVariables false
set_option linter.unusedSimpArgs false

/-! ### laws_toWin: function 88 -/
def laws_toWin.f (k : Nat) (a0_0 : ByteArray) (l0_1 : List (S107)) (a0_2 : Int) (a0_3 : Int) (a0_4 : Int) (a0_5 : Int) (a0_6 : Int) (l0_7 : List Int) (a0_8 : Bool) (a0_9 : Int) (a0_10 : Bool) : Option (ByteArray × (List (S69)) × Int × Int × Int × Int × Int × List Int × Bool × Int × Bool) := (laws_toKey.f k a0_0 l0_1 a0_2).bind fun bt104 => ((laws_toAgg.f k a0_3 a0_4 a0_5 a0_6 l0_7 a0_8).bind fun bt109 => (some (bt104.1, bt104.2.1, bt104.2.2, bt109.1, bt109.2.1, bt109.2.2.1, bt109.2.2.2.1, bt109.2.2.2.2.1, bt109.2.2.2.2.2, a0_9, a0_10)))
theorem laws_toWin.mono : ∀ a0 a1 a2 a3 a4 a5 a6 a7 a8 a9 a10 k, LeO (laws_toWin.f k a0 a1 a2 a3 a4 a5 a6 a7 a8 a9 a10) (laws_toWin.f (k + 1) a0 a1 a2 a3 a4 a5 a6 a7 a8 a9 a10) := by
 intro a0 a1 a2 a3 a4 a5 a6 a7 a8 a9 a10 k
 unfold laws_toWin.f
 repeat' first
  | (with_reducible first | exact laws_toAgg.mono .. | exact laws_toKey.mono .. | exact LeO.refl _ | exact LeO.none _ | refine LeO.ite ?_ ?_ | refine LeO.bind ?_ (fun _ => ?_))
  | exact LeO.none _
  | refine LeO.ite ?_ ?_
  | refine LeO.bind ?_ (fun _ => ?_)
set_option maxHeartbeats 8000000 in
set_option maxRecDepth 100000 in
theorem laws_toWin.calls (k : Nat) (a0_0 : ByteArray) (A0_1 : Option Addr) (c0_1 : Nat) (l0_1 : List (S107)) (a0_2 : Int) (a0_3 : Int) (a0_4 : Int) (a0_5 : Int) (a0_6 : Int) (A0_7 : Option Addr) (c0_7 : Nat) (l0_7 : List Int) (a0_8 : Bool) (a0_9 : Int) (a0_10 : Bool) (r1 : ByteArray) (r2 : List (S69)) (r3 : Int) (r4 : Int) (r5 : Int) (r6 : Int) (r7 : Int) (r8 : List Int) (r9 : Bool) (r10 : Int) (r11 : Bool) (w : World) (hr0_1 : Kd.C k107 w A0_1 l0_1.length l0_1) (hc0_1 : l0_1.length ≤ c0_1) (hr0_7 : Kd.C (Kd.int .i64) w A0_7 l0_7.length l0_7) (hc0_7 : l0_7.length ≤ c0_7) (h : laws_toWin.f k a0_0 l0_1 a0_2 a0_3 a0_4 a0_5 a0_6 l0_7 a0_8 a0_9 a0_10 = some (r1, r2, r3, r4, r5, r6, r7, r8, r9, r10, r11)) :
 Calls Tryd.prog 88 #[.agg #[.string a0_0, .slice A0_1 l0_1.length c0_1, .int .i64 a0_2, .int .i64 a0_3, .int .i64 a0_4, .int .i64 a0_5, .int .i64 a0_6, .slice A0_7 l0_7.length c0_7, .bool a0_8, .int .i64 a0_9, .bool a0_10]] w fun e w' => ∃ v1_ v7_ : Value, e = .returned (.agg #[.string r1, v1_, .int .i64 r3, .int .i64 r4, .int .i64 r5, .int .i64 r6, .int .i64 r7, v7_, .bool r9, .int .i64 r10, .bool r11]) ∧ Kd.R k69 69 w' w.heap.size (fun _ => True) v1_ r2 ∧ Kd.R (Kd.int .i64) 3 w' w.heap.size (fun _ => True) v7_ r8 ∧ Below w.heap.size w w' := by
 have hu118 := Tryd.underlying118
 have hu97 := Tryd.underlying97
 have hu37 := Tryd.underlying37
 have hu25 := Tryd.underlying25
 have hu116 := Tryd.underlying116
 have hu95 := Tryd.underlying95
 have HR0_1 := aM hr0_1
 have HC0_1 := aM hc0_1
 clear hr0_1 hc0_1
 have HR0_7 := aM hr0_7
 have HC0_7 := aM hc0_7
 clear hr0_7 hc0_7
 have HB := aM (Below.refl w.heap.size w)
 have H : ((laws_toKey.f k a0_0 l0_1 a0_2).bind fun bt104 => ((laws_toAgg.f k a0_3 a0_4 a0_5 a0_6 l0_7 a0_8).bind fun bt109 => (some (bt104.1, bt104.2.1, bt104.2.2, bt109.1, bt109.2.1, bt109.2.2.1, bt109.2.2.2.1, bt109.2.2.2.2.1, bt109.2.2.2.2.2, a0_9, a0_10)))) = some (r1, r2, r3, r4, r5, r6, r7, r8, r9, r10, r11) := h
 clear h
 replace H := Option.bind_eq_some_iff.mp H
 obtain ⟨⟨t104, t105, t108⟩, A20, H⟩ := H
 try dsimp only at H
 have A2 := aM A20
 clear A20
 replace H := Option.bind_eq_some_iff.mp H
 obtain ⟨⟨t109, t110, t111, t112, t113, t116⟩, A30, H⟩ := H
 try dsimp only at H
 have A3 := aM A30
 clear A30
 simp only [Option.some.injEq, Prod.mk.injEq] at H
 obtain ⟨rfl, rfl, rfl, rfl, rfl, rfl, rfl, rfl, rfl, rfl, rfl⟩ := H
 go_enter Tryd.func88, Tryd.ntmps88
 go_wp2_with (first | ((with_reducible refine gate_dst (N := 1) rfl ?_); refine box_event ?hg (N := 1) ?hd (cs := #[.string a0_0, .slice A0_1 l0_1.length c0_1, .int .i64 a0_2, .int .i64 a0_3, .int .i64 a0_4, .int .i64 a0_5, .int .i64 a0_6, .slice A0_7 l0_7.length c0_7, .bool a0_8, .int .i64 a0_9, .bool a0_10]) (t := 118) ?hr ?_; (case hd => rfl); (case hg => rfl); (case hr => first | (go_simp; done) | (go_simp; rfl)); intro gb101 hg w4 hbox hb; have _ := aM (below_step hbZ hb); have _ := aM hbox; have _ := szZ hg; have _ := szZ hg; clear HB; rename_i HB BK101 GW101 GE101; clear hb hbox hg) | ((with_reducible refine gate_dst (N := 2) rfl ?_); refine box_event ?hg (N := 2) ?hd (cs := #[.string (⟨#[]⟩ : ByteArray), .slice none 0 0, .int .i64 0, .int .i64 0, .int .i64 0, .int .i64 0, .int .i64 0, .slice none 0 0, .bool false, .int .i64 0, .bool false]) (t := 97) ?hr ?_; (case hd => rfl); (case hg => rfl); (case hr => first | (go_simp; done) | (go_simp; rfl)); intro gb102 hg w5 hbox hb; have _ := bB gb101 hb; have _ := aM (below_step hbZ hb); have _ := aM hbox; have _ := szZ hg; have _ := szZ hg; have ⟨_, _⟩ := nbB gb101 hg; clear BK101 HB; rename_i BK101 HB BK102 GW102 GE102 NB101_102 NB102_101; clear hb hbox hg) | ((with_reducible refine gate_dst (N := 3) rfl ?_); refine box_event ?hg (N := 3) ?hd (cs := #[.string (⟨#[]⟩ : ByteArray), .slice none 0 0, .int .i64 0, .int .i64 0, .int .i64 0, .int .i64 0, .int .i64 0, .slice none 0 0, .bool false, .int .i64 0, .bool false]) (t := 97) ?hr ?_; (case hd => rfl); (case hg => rfl); (case hr => first | (go_simp; done) | (go_simp; rfl)); intro gb103 hg w6 hbox hb; have _ := bB gb101 hb; have _ := bB gb102 hb; have _ := aM (below_step hbZ hb); have _ := aM hbox; have _ := szZ hg; have _ := szZ hg; have ⟨_, _⟩ := nbB gb101 hg; have ⟨_, _⟩ := nbB gb102 hg; clear BK101 BK102 HB; rename_i BK101 BK102 HB BK103 GW103 GE103 NB101_103 NB103_101 NB102_103 NB103_102; clear hb hbox hg; have hnb7 := NB101_102.out; have hnc7 := NB102_101.out; have hnb8 := NB101_103.out; have hnc8 := NB103_101.out; have hcz9_0 : w6.cell? ⟨gb101, 0, none⟩ = some (.string a0_0) := (blk_cell BK101.out 0).trans rfl; have hcz9_1 : w6.cell? ⟨gb101, 1, none⟩ = some (.slice A0_1 l0_1.length c0_1) := (blk_cell BK101.out 1).trans rfl; have hcz9_2 : w6.cell? ⟨gb101, 2, none⟩ = some (.int .i64 a0_2) := (blk_cell BK101.out 2).trans rfl; have hcz9_3 : w6.cell? ⟨gb101, 3, none⟩ = some (.int .i64 a0_3) := (blk_cell BK101.out 3).trans rfl; have hcz9_4 : w6.cell? ⟨gb101, 4, none⟩ = some (.int .i64 a0_4) := (blk_cell BK101.out 4).trans rfl; have hcz9_5 : w6.cell? ⟨gb101, 5, none⟩ = some (.int .i64 a0_5) := (blk_cell BK101.out 5).trans rfl; have hcz9_6 : w6.cell? ⟨gb101, 6, none⟩ = some (.int .i64 a0_6) := (blk_cell BK101.out 6).trans rfl; have hcz9_7 : w6.cell? ⟨gb101, 7, none⟩ = some (.slice A0_7 l0_7.length c0_7) := (blk_cell BK101.out 7).trans rfl; have hcz9_8 : w6.cell? ⟨gb101, 8, none⟩ = some (.bool a0_8) := (blk_cell BK101.out 8).trans rfl; have hcz9_9 : w6.cell? ⟨gb101, 9, none⟩ = some (.int .i64 a0_9) := (blk_cell BK101.out 9).trans rfl; have hcz9_10 : w6.cell? ⟨gb101, 10, none⟩ = some (.bool a0_10) := (blk_cell BK101.out 10).trans rfl; have hfz9_0 := blk_frozen BK101.out 0; have hfz9_1 := blk_frozen BK101.out 1; have hfz9_2 := blk_frozen BK101.out 2; have hfz9_3 := blk_frozen BK101.out 3; have hfz9_4 := blk_frozen BK101.out 4; have hfz9_5 := blk_frozen BK101.out 5; have hfz9_6 := blk_frozen BK101.out 6; have hfz9_7 := blk_frozen BK101.out 7; have hfz9_8 := blk_frozen BK101.out 8; have hfz9_9 := blk_frozen BK101.out 9; have hfz9_10 := blk_frozen BK101.out 10) | ((with_reducible refine gate_callee (f := 15) rfl ?_); refine goesL_ (some 6) rfl rfl Tryd.func15 (by kernel_rfl) rfl #[.agg #[.string a0_0, .slice A0_1 l0_1.length c0_1, .int .i64 a0_2]] rfl zee81 ?_; (with_reducible refine (laws_toKey.calls k a0_0 _ _ l0_1 a0_2 t104 t105 t108 _ ?side1 ?side2 A2.out).mono ?_); (case side1 => exact (cZ (Kd.C_below HR0_1.out HB.out))); (case side2 => exact HC0_1.out); rintro e w10 ⟨v106, rfl, ho0, hb⟩; refine ⟨_, rfl, ?_⟩; have _ := aM (Kd.R_lower ho0 (below_size hbZ)); have _ := bB gb101 hb; have _ := bB gb102 hb; have _ := bB gb103 hb; have _ := aM (below_step hbZ hb); clear BK101 BK102 BK103 HB; rename_i HO107 BK101 BK102 BK103 HB; (try clear hb); (try clear ho0); have hnb11 := NB103_102.out; have hnc11 := NB102_103.out; have hcz12_0 : w10.cell? ⟨gb103, 0, none⟩ = some (.string (⟨#[]⟩ : ByteArray)) := (blk_cell BK103.out 0).trans rfl; have hcz12_1 : w10.cell? ⟨gb103, 1, none⟩ = some (.slice none 0 0) := (blk_cell BK103.out 1).trans rfl; have hcz12_2 : w10.cell? ⟨gb103, 2, none⟩ = some (.int .i64 0) := (blk_cell BK103.out 2).trans rfl; have hcz12_3 : w10.cell? ⟨gb103, 3, none⟩ = some (.int .i64 0) := (blk_cell BK103.out 3).trans rfl; have hcz12_4 : w10.cell? ⟨gb103, 4, none⟩ = some (.int .i64 0) := (blk_cell BK103.out 4).trans rfl; have hcz12_5 : w10.cell? ⟨gb103, 5, none⟩ = some (.int .i64 0) := (blk_cell BK103.out 5).trans rfl; have hcz12_6 : w10.cell? ⟨gb103, 6, none⟩ = some (.int .i64 0) := (blk_cell BK103.out 6).trans rfl; have hcz12_7 : w10.cell? ⟨gb103, 7, none⟩ = some (.slice none 0 0) := (blk_cell BK103.out 7).trans rfl; have hcz12_8 : w10.cell? ⟨gb103, 8, none⟩ = some (.bool false) := (blk_cell BK103.out 8).trans rfl; have hcz12_9 : w10.cell? ⟨gb103, 9, none⟩ = some (.int .i64 0) := (blk_cell BK103.out 9).trans rfl; have hcz12_10 : w10.cell? ⟨gb103, 10, none⟩ = some (.bool false) := (blk_cell BK103.out 10).trans rfl; have hfz12_0 := blk_frozen BK103.out 0; have hfz12_1 := blk_frozen BK103.out 1; have hfz12_2 := blk_frozen BK103.out 2; have hfz12_3 := blk_frozen BK103.out 3; have hfz12_4 := blk_frozen BK103.out 4; have hfz12_5 := blk_frozen BK103.out 5; have hfz12_6 := blk_frozen BK103.out 6; have hfz12_7 := blk_frozen BK103.out 7; have hfz12_8 := blk_frozen BK103.out 8; have hfz12_9 := blk_frozen BK103.out 9; have hfz12_10 := blk_frozen BK103.out 10; obtain ⟨Ao13, co13, eo13⟩ := Kd.R_slice HO107.out; subst eo13; have hcz14_0 : w10.cell? ⟨gb101, 0, none⟩ = some (.string a0_0) := (blk_cell BK101.out 0).trans rfl; have hcz14_1 : w10.cell? ⟨gb101, 1, none⟩ = some (.slice A0_1 l0_1.length c0_1) := (blk_cell BK101.out 1).trans rfl; have hcz14_2 : w10.cell? ⟨gb101, 2, none⟩ = some (.int .i64 a0_2) := (blk_cell BK101.out 2).trans rfl; have hcz14_3 : w10.cell? ⟨gb101, 3, none⟩ = some (.int .i64 a0_3) := (blk_cell BK101.out 3).trans rfl; have hcz14_4 : w10.cell? ⟨gb101, 4, none⟩ = some (.int .i64 a0_4) := (blk_cell BK101.out 4).trans rfl; have hcz14_5 : w10.cell? ⟨gb101, 5, none⟩ = some (.int .i64 a0_5) := (blk_cell BK101.out 5).trans rfl; have hcz14_6 : w10.cell? ⟨gb101, 6, none⟩ = some (.int .i64 a0_6) := (blk_cell BK101.out 6).trans rfl; have hcz14_7 : w10.cell? ⟨gb101, 7, none⟩ = some (.slice A0_7 l0_7.length c0_7) := (blk_cell BK101.out 7).trans rfl; have hcz14_8 : w10.cell? ⟨gb101, 8, none⟩ = some (.bool a0_8) := (blk_cell BK101.out 8).trans rfl; have hcz14_9 : w10.cell? ⟨gb101, 9, none⟩ = some (.int .i64 a0_9) := (blk_cell BK101.out 9).trans rfl; have hcz14_10 : w10.cell? ⟨gb101, 10, none⟩ = some (.bool a0_10) := (blk_cell BK101.out 10).trans rfl; have hfz14_0 := blk_frozen BK101.out 0; have hfz14_1 := blk_frozen BK101.out 1; have hfz14_2 := blk_frozen BK101.out 2; have hfz14_3 := blk_frozen BK101.out 3; have hfz14_4 := blk_frozen BK101.out 4; have hfz14_5 := blk_frozen BK101.out 5; have hfz14_6 := blk_frozen BK101.out 6; have hfz14_7 := blk_frozen BK101.out 7; have hfz14_8 := blk_frozen BK101.out 8; have hfz14_9 := blk_frozen BK101.out 9; have hfz14_10 := blk_frozen BK101.out 10) | ((with_reducible refine gate_callee (f := 104) rfl ?_); refine goesL_ (some 10) rfl rfl Tryd.func104 (by kernel_rfl) rfl #[.agg #[.int .i64 a0_3, .int .i64 a0_4, .int .i64 a0_5, .int .i64 a0_6, .slice A0_7 l0_7.length c0_7, .bool a0_8]] rfl zee81 ?_; (with_reducible refine (laws_toAgg.calls k a0_3 a0_4 a0_5 a0_6 _ _ l0_7 a0_8 t109 t110 t111 t112 t113 t116 _ ?side1 ?side2 A3.out).mono ?_); (case side1 => exact Kd.C_below HR0_7.out hbZ); (case side2 => exact HC0_7.out); rintro e w15 ⟨v114, rfl, ho0, hb⟩; refine ⟨_, rfl, ?_⟩; have _ := aM (Kd.R_below (rZ (rF3 HO107.out BK103.out)) hb); have _ := aM (Kd.R_lower ho0 (below_size hbZ)); have _ := bB gb101 hb; have _ := bB gb102 hb; have _ := aM (blk_below (g := gb103) (o := .cells #[.string t104, .slice Ao13 t105.length co13, .int .i64 t108, .int .i64 0, .int .i64 0, .int .i64 0, .int .i64 0, .slice none 0 0, .bool false, .int .i64 0, .bool false] 97 (0, 0)) bkZ hb); have _ := aM (below_step hbZ hb); clear HO107 BK101 BK102 BK103 HB; rename_i HO107 HO115 BK101 BK102 BK103 HB; (try clear hb); (try clear ho0); have hcz16_0 : w15.cell? ⟨gb103, 0, none⟩ = some (.string t104) := (blk_cell BK103.out 0).trans rfl; have hcz16_1 : w15.cell? ⟨gb103, 1, none⟩ = some (.slice Ao13 t105.length co13) := (blk_cell BK103.out 1).trans rfl; have hcz16_2 : w15.cell? ⟨gb103, 2, none⟩ = some (.int .i64 t108) := (blk_cell BK103.out 2).trans rfl; have hcz16_3 : w15.cell? ⟨gb103, 3, none⟩ = some (.int .i64 0) := (blk_cell BK103.out 3).trans rfl; have hcz16_4 : w15.cell? ⟨gb103, 4, none⟩ = some (.int .i64 0) := (blk_cell BK103.out 4).trans rfl; have hcz16_5 : w15.cell? ⟨gb103, 5, none⟩ = some (.int .i64 0) := (blk_cell BK103.out 5).trans rfl; have hcz16_6 : w15.cell? ⟨gb103, 6, none⟩ = some (.int .i64 0) := (blk_cell BK103.out 6).trans rfl; have hcz16_7 : w15.cell? ⟨gb103, 7, none⟩ = some (.slice none 0 0) := (blk_cell BK103.out 7).trans rfl; have hcz16_8 : w15.cell? ⟨gb103, 8, none⟩ = some (.bool false) := (blk_cell BK103.out 8).trans rfl; have hcz16_9 : w15.cell? ⟨gb103, 9, none⟩ = some (.int .i64 0) := (blk_cell BK103.out 9).trans rfl; have hcz16_10 : w15.cell? ⟨gb103, 10, none⟩ = some (.bool false) := (blk_cell BK103.out 10).trans rfl; have hfz16_0 := blk_frozen BK103.out 0; have hfz16_1 := blk_frozen BK103.out 1; have hfz16_2 := blk_frozen BK103.out 2; have hfz16_3 := blk_frozen BK103.out 3; have hfz16_4 := blk_frozen BK103.out 4; have hfz16_5 := blk_frozen BK103.out 5; have hfz16_6 := blk_frozen BK103.out 6; have hfz16_7 := blk_frozen BK103.out 7; have hfz16_8 := blk_frozen BK103.out 8; have hfz16_9 := blk_frozen BK103.out 9; have hfz16_10 := blk_frozen BK103.out 10; obtain ⟨Ao17, co17, eo17⟩ := Kd.R_slice HO115.out; subst eo17; have hcz18_0 : w15.cell? ⟨gb101, 0, none⟩ = some (.string a0_0) := (blk_cell BK101.out 0).trans rfl; have hcz18_1 : w15.cell? ⟨gb101, 1, none⟩ = some (.slice A0_1 l0_1.length c0_1) := (blk_cell BK101.out 1).trans rfl; have hcz18_2 : w15.cell? ⟨gb101, 2, none⟩ = some (.int .i64 a0_2) := (blk_cell BK101.out 2).trans rfl; have hcz18_3 : w15.cell? ⟨gb101, 3, none⟩ = some (.int .i64 a0_3) := (blk_cell BK101.out 3).trans rfl; have hcz18_4 : w15.cell? ⟨gb101, 4, none⟩ = some (.int .i64 a0_4) := (blk_cell BK101.out 4).trans rfl; have hcz18_5 : w15.cell? ⟨gb101, 5, none⟩ = some (.int .i64 a0_5) := (blk_cell BK101.out 5).trans rfl; have hcz18_6 : w15.cell? ⟨gb101, 6, none⟩ = some (.int .i64 a0_6) := (blk_cell BK101.out 6).trans rfl; have hcz18_7 : w15.cell? ⟨gb101, 7, none⟩ = some (.slice A0_7 l0_7.length c0_7) := (blk_cell BK101.out 7).trans rfl; have hcz18_8 : w15.cell? ⟨gb101, 8, none⟩ = some (.bool a0_8) := (blk_cell BK101.out 8).trans rfl; have hcz18_9 : w15.cell? ⟨gb101, 9, none⟩ = some (.int .i64 a0_9) := (blk_cell BK101.out 9).trans rfl; have hcz18_10 : w15.cell? ⟨gb101, 10, none⟩ = some (.bool a0_10) := (blk_cell BK101.out 10).trans rfl; have hfz18_0 := blk_frozen BK101.out 0; have hfz18_1 := blk_frozen BK101.out 1; have hfz18_2 := blk_frozen BK101.out 2; have hfz18_3 := blk_frozen BK101.out 3; have hfz18_4 := blk_frozen BK101.out 4; have hfz18_5 := blk_frozen BK101.out 5; have hfz18_6 := blk_frozen BK101.out 6; have hfz18_7 := blk_frozen BK101.out 7; have hfz18_8 := blk_frozen BK101.out 8; have hfz18_9 := blk_frozen BK101.out 9; have hfz18_10 := blk_frozen BK101.out 10; have hcz19_0 : w15.cell? ⟨gb102, 0, none⟩ = some (.string (⟨#[]⟩ : ByteArray)) := (blk_cell BK102.out 0).trans rfl; have hcz19_1 : w15.cell? ⟨gb102, 1, none⟩ = some (.slice none 0 0) := (blk_cell BK102.out 1).trans rfl; have hcz19_2 : w15.cell? ⟨gb102, 2, none⟩ = some (.int .i64 0) := (blk_cell BK102.out 2).trans rfl; have hcz19_3 : w15.cell? ⟨gb102, 3, none⟩ = some (.int .i64 0) := (blk_cell BK102.out 3).trans rfl; have hcz19_4 : w15.cell? ⟨gb102, 4, none⟩ = some (.int .i64 0) := (blk_cell BK102.out 4).trans rfl; have hcz19_5 : w15.cell? ⟨gb102, 5, none⟩ = some (.int .i64 0) := (blk_cell BK102.out 5).trans rfl; have hcz19_6 : w15.cell? ⟨gb102, 6, none⟩ = some (.int .i64 0) := (blk_cell BK102.out 6).trans rfl; have hcz19_7 : w15.cell? ⟨gb102, 7, none⟩ = some (.slice none 0 0) := (blk_cell BK102.out 7).trans rfl; have hcz19_8 : w15.cell? ⟨gb102, 8, none⟩ = some (.bool false) := (blk_cell BK102.out 8).trans rfl; have hcz19_9 : w15.cell? ⟨gb102, 9, none⟩ = some (.int .i64 0) := (blk_cell BK102.out 9).trans rfl; have hcz19_10 : w15.cell? ⟨gb102, 10, none⟩ = some (.bool false) := (blk_cell BK102.out 10).trans rfl; have hfz19_0 := blk_frozen BK102.out 0; have hfz19_1 := blk_frozen BK102.out 1; have hfz19_2 := blk_frozen BK102.out 2; have hfz19_3 := blk_frozen BK102.out 3; have hfz19_4 := blk_frozen BK102.out 4; have hfz19_5 := blk_frozen BK102.out 5; have hfz19_6 := blk_frozen BK102.out 6; have hfz19_7 := blk_frozen BK102.out 7; have hfz19_8 := blk_frozen BK102.out 8; have hfz19_9 := blk_frozen BK102.out 9; have hfz19_10 := blk_frozen BK102.out 10))
 refine bodyPost_ret (results_cell_row rfl _ _ gb102 97 #[.string t104, .slice Ao13 t105.length co13, .int .i64 t108, .int .i64 t109, .int .i64 t110, .int .i64 t111, .int .i64 t112, .slice Ao17 t113.length co17, .bool t116, .int .i64 a0_9, .bool a0_10] (0, 0) _ rfl bkZ Tryd.underlying97 rfl (by kernel_rfl)) rfl ?_
 exact ⟨_, _, z674d, by (with_reducible repeat (first | apply Kd.R_alloc | apply Kd.R_drewN | apply Kd.R_drew)); exact Kd.R_mono (Kd.R_far (p := ⟨gb102, 10, none⟩) (Kd.R_far (p := ⟨gb102, 9, none⟩) (Kd.R_far (p := ⟨gb102, 8, none⟩) (Kd.R_far (p := ⟨gb102, 7, none⟩) (Kd.R_far (p := ⟨gb102, 6, none⟩) (Kd.R_far (p := ⟨gb102, 5, none⟩) (Kd.R_far (p := ⟨gb102, 4, none⟩) (Kd.R_far (p := ⟨gb102, 3, none⟩) (Kd.R_far (p := ⟨gb102, 2, none⟩) (Kd.R_far (p := ⟨gb102, 1, none⟩) (Kd.R_far (p := ⟨gb102, 0, none⟩) (Kd.R_far (p := ⟨gb103, 10, none⟩) (Kd.R_far (p := ⟨gb103, 9, none⟩) (Kd.R_far (p := ⟨gb103, 8, none⟩) (Kd.R_far (p := ⟨gb103, 7, none⟩) (Kd.R_far (p := ⟨gb103, 6, none⟩) (Kd.R_far (p := ⟨gb103, 5, none⟩) (Kd.R_far (p := ⟨gb103, 4, none⟩) (Kd.R_far (p := ⟨gb103, 3, none⟩) (Kd.R_types (Kd.R_types HO107.out BK103.out (by decide)) BK102.out (by decide)) (fun _ hk => hk.1.2) (.int .i64 t109)) (fun _ hk => hk.1.2) (.int .i64 t110)) (fun _ hk => hk.1.2) (.int .i64 t111)) (fun _ hk => hk.1.2) (.int .i64 t112)) (fun _ hk => hk.1.2) (.slice Ao17 t113.length co17)) (fun _ hk => hk.1.2) (.bool t116)) (fun _ hk => hk.1.2) (.int .i64 a0_9)) (fun _ hk => hk.1.2) (.bool a0_10)) (fun _ hk => hk.2) (.string t104)) (fun _ hk => hk.2) (.slice Ao13 t105.length co13)) (fun _ hk => hk.2) (.int .i64 t108)) (fun _ hk => hk.2) (.int .i64 t109)) (fun _ hk => hk.2) (.int .i64 t110)) (fun _ hk => hk.2) (.int .i64 t111)) (fun _ hk => hk.2) (.int .i64 t112)) (fun _ hk => hk.2) (.slice Ao17 t113.length co17)) (fun _ hk => hk.2) (.bool t116)) (fun _ hk => hk.2) (.int .i64 a0_9)) (fun _ hk => hk.2) (.bool a0_10)) (fun _ hk => trivial), by (with_reducible repeat (first | apply Kd.R_alloc | apply Kd.R_drewN | apply Kd.R_drew)); exact Kd.R_mono (Kd.R_far (p := ⟨gb102, 10, none⟩) (Kd.R_far (p := ⟨gb102, 9, none⟩) (Kd.R_far (p := ⟨gb102, 8, none⟩) (Kd.R_far (p := ⟨gb102, 7, none⟩) (Kd.R_far (p := ⟨gb102, 6, none⟩) (Kd.R_far (p := ⟨gb102, 5, none⟩) (Kd.R_far (p := ⟨gb102, 4, none⟩) (Kd.R_far (p := ⟨gb102, 3, none⟩) (Kd.R_far (p := ⟨gb102, 2, none⟩) (Kd.R_far (p := ⟨gb102, 1, none⟩) (Kd.R_far (p := ⟨gb102, 0, none⟩) (Kd.R_far (p := ⟨gb103, 10, none⟩) (Kd.R_far (p := ⟨gb103, 9, none⟩) (Kd.R_far (p := ⟨gb103, 8, none⟩) (Kd.R_far (p := ⟨gb103, 7, none⟩) (Kd.R_far (p := ⟨gb103, 6, none⟩) (Kd.R_far (p := ⟨gb103, 5, none⟩) (Kd.R_far (p := ⟨gb103, 4, none⟩) (Kd.R_far (p := ⟨gb103, 3, none⟩) (Kd.R_types (Kd.R_types HO115.out BK103.out (by decide)) BK102.out (by decide)) (fun _ hk => hk.1.2) (.int .i64 t109)) (fun _ hk => hk.1.2) (.int .i64 t110)) (fun _ hk => hk.1.2) (.int .i64 t111)) (fun _ hk => hk.1.2) (.int .i64 t112)) (fun _ hk => hk.1.2) (.slice Ao17 t113.length co17)) (fun _ hk => hk.1.2) (.bool t116)) (fun _ hk => hk.1.2) (.int .i64 a0_9)) (fun _ hk => hk.1.2) (.bool a0_10)) (fun _ hk => hk.2) (.string t104)) (fun _ hk => hk.2) (.slice Ao13 t105.length co13)) (fun _ hk => hk.2) (.int .i64 t108)) (fun _ hk => hk.2) (.int .i64 t109)) (fun _ hk => hk.2) (.int .i64 t110)) (fun _ hk => hk.2) (.int .i64 t111)) (fun _ hk => hk.2) (.int .i64 t112)) (fun _ hk => hk.2) (.slice Ao17 t113.length co17)) (fun _ hk => hk.2) (.bool t116)) (fun _ hk => hk.2) (.int .i64 a0_9)) (fun _ hk => hk.2) (.bool a0_10)) (fun _ hk => trivial), zcb41⟩

end Go.Proofs.YteogadaloebdaaaDoor.P

-- written by a program of this session's (wip/pp)
namespace Go.Proofs.YteogadaloebdaaaDoor.P
open Go.RowKit Go.Proofs.YteogadaloebdaaaDoorW.PrintWords Go.Proofs.YteogadaloebdaaaDoorW.PrintLast Go.Proofs.YteogadaloebdaaaDoorW.PrintMore
attribute [local go_sem] max2_int min2_int max_two min_two max_three min_three max_four min_four str_geq str_gtr str_leq   -- for this text's walks alone
set_option linter.unusedVariables false
set_option linter.unusedSimpArgs false

/-! ### laws_toWinS: function 59 -/
def laws_toWinS.l0 : Nat → List (S118) → List (S97) → Int → Option ((List (S97)))
 | 0, _, _, _ => none
 | k + 1, x0, x3, x4 => if x4 < (x0.length : Int) then (if 0 ≤ x4 then ((laws_toWin.f k ((rd_T118 x0 x4).f0.f0) ((rd_T118 x0 x4).f0.f1) ((rd_T118 x0 x4).f0.f2) ((rd_T118 x0 x4).f1.f0) ((rd_T118 x0 x4).f1.f1) ((rd_T118 x0 x4).f1.f2) ((rd_T118 x0 x4).f1.f3) ((rd_T118 x0 x4).f1.f4) ((rd_T118 x0 x4).f1.f5) ((rd_T118 x0 x4).f2) ((rd_T118 x0 x4).f3)).bind fun bt105 => (if x4 < (x3.length : Int) then (laws_toWinS.l0 k x0 (x3.set (x4 : Int).toNat (⟨(⟨bt105.1, bt105.2.1, bt105.2.2.1⟩ : S25), (⟨bt105.2.2.2.1, bt105.2.2.2.2.1, bt105.2.2.2.2.2.1, bt105.2.2.2.2.2.2.1, bt105.2.2.2.2.2.2.2.1, bt105.2.2.2.2.2.2.2.2.1⟩ : S95), bt105.2.2.2.2.2.2.2.2.2.1, bt105.2.2.2.2.2.2.2.2.2.2⟩ : S97)) (wrap64 (x4 + 1))) else (none))) else (none)) else (some x3)
def laws_toWinS.f (k : Nat) (l0 : List (S118)) : Option ((List (S97))) := if 0 ≤ (l0.length : Int) then (if ((l0.length : Int) : Int).toNat ≤ 2199023255552 then (laws_toWinS.l0 k l0 (List.replicate ((l0.length : Int) : Int).toNat z97) 0) else (none)) else (none)
theorem laws_toWinS.mono_l : ∀ k, (∀ y0 y1 y2, LeO (laws_toWinS.l0 k y0 y1 y2) (laws_toWinS.l0 (k + 1) y0 y1 y2))
 | 0 => fun _ _ _ r h => by simp [laws_toWinS.l0] at h
 | k + 1 => by
  have ih0 := laws_toWinS.mono_l k
  · intro y0 y1 y2
    unfold laws_toWinS.l0
    repeat' first
     | (with_reducible first | exact ih0 .. | exact laws_toWin.mono .. | exact LeO.refl _ | exact LeO.none _ | refine LeO.ite ?_ ?_ | refine LeO.bind ?_ (fun _ => ?_))
     | exact LeO.none _
     | refine LeO.ite ?_ ?_
     | refine LeO.bind ?_ (fun _ => ?_)
theorem laws_toWinS.mono : ∀ a0 k, LeO (laws_toWinS.f k a0) (laws_toWinS.f (k + 1) a0) := by
 intro a0 k
 have ih0 := laws_toWinS.mono_l k
 unfold laws_toWinS.f
 repeat' first
  | (with_reducible first | exact ih0 .. | exact laws_toWin.mono .. | exact LeO.refl _ | exact LeO.none _ | refine LeO.ite ?_ ?_ | refine LeO.bind ?_ (fun _ => ?_))
  | exact LeO.none _
  | refine LeO.ite ?_ ?_
  | refine LeO.bind ?_ (fun _ => ?_)
set_option maxHeartbeats 8000000 in
set_option maxRecDepth 100000 in
theorem laws_toWinS.calls (k : Nat) (A0 : Option Addr) (c0 : Nat) (l0 : List (S118)) (r : List (S97)) (w : World) (hr0 : Kd.C k118 w A0 l0.length l0) (hc0 : l0.length ≤ c0) (h : laws_toWinS.f k l0 = some r) :
 Calls Tryd.prog 59 #[.slice A0 l0.length c0] w fun e w' => ∃ v0_ : Value, e = .returned (v0_) ∧ Kd.S k97 97 w' w.heap.size (fun _ => True) v0_ r ∧ Below w.heap.size w w' := by
 have hu118 := Tryd.underlying118
 have hu97 := Tryd.underlying97
 have HR0 := aM hr0
 have HC0 := aM hc0
 clear hr0 hc0
 have HB := aM (Below.refl w.heap.size w)
 have H : (if 0 ≤ (l0.length : Int) then (if ((l0.length : Int) : Int).toNat ≤ 2199023255552 then (laws_toWinS.l0 k l0 (List.replicate ((l0.length : Int) : Int).toNat z97) 0) else (none)) else (none)) = some r := h
 clear h
 by_cases c2 : 0 ≤ (l0.length : Int)
 · rw [if_pos c2] at H
   have c2b0 := eq_true c2
   have c2b1 : decide (0 ≤ (l0.length : Int)) = true := decide_eq_true c2
   clear c2
   by_cases c3 : ((l0.length : Int) : Int).toNat ≤ 2199023255552
   · rw [if_pos c3] at H
     have c3b0 := eq_true c3
     have c3b1 : decide (((l0.length : Int) : Int).toNat ≤ 2199023255552) = true := decide_eq_true c3
     clear c3
     obtain ⟨y101, hy101⟩ : ∃ y_ : List (S97), y_ = (List.replicate ((l0.length : Int) : Int).toNat z97) := ⟨_, rfl⟩
     replace H : (laws_toWinS.l0 k l0 y101 0) = some r := by first | (rw [hy101]; with_reducible exact H) | (have H2_ := (Option.bind_some _ _).symm.trans H; rw [hy101]; with_reducible exact H2_) | (have H2_ := (Option.bind_some _ _).symm.trans H; with_reducible exact H2_) | with_reducible exact H | (rw [hy101]; exact H) | exact H
     have Ny101 := aM hy101
     clear hy101
     have H' := aM H
     clear H
     go_enter Tryd.func59, Tryd.ntmps59
     go_wp2_with (first | ((with_reducible refine gate_dst (N := 7) rfl ?_); refine Kd.S_make k97 _ 97 rfl (N := 7) rfl 53 _ _ rfl (l0.length : Int) rfl rfl Tryd.underlying53 (.agg #[(.string ⟨#[]⟩), (.slice none 0 0), (.int .i64 0), (.int .i64 0), (.int .i64 0), (.int .i64 0), (.int .i64 0), (.slice none 0 0), (.bool false), (.int .i64 0), (.bool false)]) 128 info97 rfl (by decide) (by omega) z97 (ok := fun _ => True) (okp := fun _ => True) (k97_mkM _ _ _ z97 (Kd.R_nil _ _ _ _ _) (Kd.R_nil _ _ _ _ _)) (fun _ hk => hk) trivial (of_decide_eq_true z1200) (Nat.le_trans (Nat.mul_le_mul_right _ (of_decide_eq_true z1200 : (l0.length : Int).toNat ≤ 2199023255552)) (by omega)) (Below.refl _ _) (Nat.le_refl _) ?_; intro v102 w4 ho5 hb hg_ hnew_; clear hg_ hnew_; (first | rw [← Ny101.out] at ho5 | (simp only [Int.reduceToNat] at ho5; rw [← Ny101.out] at ho5)); have _ := aM (Kd.S_lower ho5 (below_size hbZ)); have _ := aM (below_step hbZ hb); clear HB; rename_i HO103 HB; clear hb ho5))
     go_loopg [4] k (fun kq v4 w' => ∃ (x3_1 : List (S97)) (x4_1 : Int), v4 = .int .i64 x4_1 ∧ Aside0 (laws_toWinS.l0 kq l0 x3_1 x4_1 = some r) ∧ Aside0 (kq ≤ k) ∧ Aside0 (Kd.S k97 97 w' w.heap.size (fun _ => True) v102 x3_1) ∧ Aside0 (Below w.heap.size w w'))
     case atStart => exact ⟨(y101), (0), z4458, H', ⟨Nat.le_refl _⟩, ⟨z1bd3⟩, ⟨z5acd⟩⟩
     case round =>
      clear H'
      try clear c2
      try clear c2b0
      try clear c2b1
      try clear p2
      try clear c3
      try clear c3b0
      try clear c3b1
      try clear c5
      obtain ⟨x3_1, x4_1, rfl, HA, HK1, HO_3, HB⟩ := hrel
      cases gk with
      | zero => exact absurd HA.out (by simp [laws_toWinS.l0])
      | succ k1 =>
       have H := HA.out
       clear HA
       simp only [laws_toWinS.l0] at H
       by_cases c6 : x4_1 < (l0.length : Int)
       · rw [if_pos c6] at H
         have c6b0 : decide (x4_1 < (l0.length : Int)) = true := decide_eq_true c6
         clear c6
         by_cases c7 : 0 ≤ x4_1
         · rw [if_pos c7] at H
           have c7b0 : decide (0 ≤ x4_1) = true := decide_eq_true c7
           clear c7
           replace H := Option.bind_eq_some_iff.mp H
           obtain ⟨⟨t105, t106, t109, t110, t111, t112, t113, t114, t117, t118, t119⟩, A80, H⟩ := H
           try dsimp only at H
           have A8 := aM A80
           clear A80
           by_cases c9 : x4_1 < (x3_1.length : Int)
           · rw [if_pos c9] at H
             have c9b0 : decide (x4_1 < (x3_1.length : Int)) = true := decide_eq_true c9
             clear c9
             obtain ⟨y120, hy120⟩ : ∃ y_ : List (S97), y_ = (x3_1.set (x4_1 : Int).toNat (⟨(⟨t105, t106, t109⟩ : S25), (⟨t110, t111, t112, t113, t114, t117⟩ : S95), t118, t119⟩ : S97)) := ⟨_, rfl⟩
             replace H : (laws_toWinS.l0 k1 l0 y120 (wrap64 (x4_1 + 1))) = some r := by first | (rw [hy120]; with_reducible exact H) | (have H2_ := (Option.bind_some _ _).symm.trans H; rw [hy120]; with_reducible exact H2_) | (have H2_ := (Option.bind_some _ _).symm.trans H; with_reducible exact H2_) | with_reducible exact H | (rw [hy120]; exact H) | exact H
             have Ny120 := aM hy120
             clear hy120
             have H' := aM H
             clear H
             have p104 : 0 ≤ (x4_1 : Int) := of_decide_eq_true z1200
             have q104 : x4_1 < (l0.length : Int) := of_decide_eq_true z1200
             obtain ⟨ad104, A104_1, c104_1, A104_7, c104_7, e104, hx104_0, hx104_1, hx104_2, hx104_3, hx104_4, hx104_5, hx104_6, hx104_7, hx104_8, hx104_9, hx104_10, hl104_1, hi104_1, hl104_7, hi104_7⟩ := at_T118 HR0.out x4_1 p104 q104
             cases e104
             replace hx104_0 := (HB.out.cell (World.block_lt_of_cell? w _ hx104_0)).trans hx104_0
             replace hx104_1 := (HB.out.cell (World.block_lt_of_cell? w _ hx104_1)).trans hx104_1
             replace hx104_2 := (HB.out.cell (World.block_lt_of_cell? w _ hx104_2)).trans hx104_2
             replace hx104_3 := (HB.out.cell (World.block_lt_of_cell? w _ hx104_3)).trans hx104_3
             replace hx104_4 := (HB.out.cell (World.block_lt_of_cell? w _ hx104_4)).trans hx104_4
             replace hx104_5 := (HB.out.cell (World.block_lt_of_cell? w _ hx104_5)).trans hx104_5
             replace hx104_6 := (HB.out.cell (World.block_lt_of_cell? w _ hx104_6)).trans hx104_6
             replace hx104_7 := (HB.out.cell (World.block_lt_of_cell? w _ hx104_7)).trans hx104_7
             replace hx104_8 := (HB.out.cell (World.block_lt_of_cell? w _ hx104_8)).trans hx104_8
             replace hx104_9 := (HB.out.cell (World.block_lt_of_cell? w _ hx104_9)).trans hx104_9
             replace hx104_10 := (HB.out.cell (World.block_lt_of_cell? w _ hx104_10)).trans hx104_10
             have HR104_1 := aM hi104_1
             have HC104_1 := aM hl104_1
             clear hi104_1 hl104_1
             have HR104_7 := aM hi104_7
             have HC104_7 := aM hl104_7
             clear hi104_7 hl104_7
             replace p104 := eq_true p104
             replace q104 := eq_true q104
             go_wp2_with (first | ((with_reducible refine gate_callee (f := 88) rfl ?_); refine goesL_ (some 20) rfl rfl Tryd.func88 (by kernel_rfl) rfl #[.agg #[.string ((rd_T118 l0 x4_1).f0.f0), .slice A104_1 ((rd_T118 l0 x4_1).f0.f1).length c104_1, .int .i64 ((rd_T118 l0 x4_1).f0.f2), .int .i64 ((rd_T118 l0 x4_1).f1.f0), .int .i64 ((rd_T118 l0 x4_1).f1.f1), .int .i64 ((rd_T118 l0 x4_1).f1.f2), .int .i64 ((rd_T118 l0 x4_1).f1.f3), .slice A104_7 ((rd_T118 l0 x4_1).f1.f4).length c104_7, .bool ((rd_T118 l0 x4_1).f1.f5), .int .i64 ((rd_T118 l0 x4_1).f2), .bool ((rd_T118 l0 x4_1).f3)]] rfl zee81 ?_; (with_reducible refine (laws_toWin.calls k1 ((rd_T118 l0 x4_1).f0.f0) _ _ ((rd_T118 l0 x4_1).f0.f1) ((rd_T118 l0 x4_1).f0.f2) ((rd_T118 l0 x4_1).f1.f0) ((rd_T118 l0 x4_1).f1.f1) ((rd_T118 l0 x4_1).f1.f2) ((rd_T118 l0 x4_1).f1.f3) _ _ ((rd_T118 l0 x4_1).f1.f4) ((rd_T118 l0 x4_1).f1.f5) ((rd_T118 l0 x4_1).f2) ((rd_T118 l0 x4_1).f3) t105 t106 t109 t110 t111 t112 t113 t114 t117 t118 t119 _ ?side1 ?side2 ?side3 ?side4 A8.out).mono ?_); (case side1 => exact (cZ (Kd.C_below HR104_1.out HB.out))); (case side2 => exact HC104_1.out); (case side3 => exact (cZ (Kd.C_below HR104_7.out HB.out))); (case side4 => exact HC104_7.out); rintro e w11 ⟨v107, v115, rfl, ho0, ho1, hb⟩; refine ⟨_, rfl, ?_⟩; have _ := aM (Kd.S_mono (Kd.S_told (Kd.S_told (Kd.S_old (by (with_reducible repeat (first | apply Kd.S_alloc | apply Kd.S_drewN | apply Kd.S_drew)); exact HO_3.out) hb) (Kd.R_base ho0)) (Kd.R_base ho1)) (fun _ h_ => h_.1)); have _ := aM (Kd.R_lower ho0 (below_size hbZ)); have _ := aM (Kd.R_lower ho1 (below_size hbZ)); have _ := aM (below_step hbZ hb); clear HO_3 HB; rename_i HO_3 HO108 HO116 HB; (try clear hb); (try clear ho0); (try clear ho1); have p10 : 0 ≤ (x4_1 : Int) := of_decide_eq_true z1200; have q10 : (x4_1 : Int) < ((x3_1.length : Int) : Int) := of_decide_eq_true z1200; obtain ⟨go10, co10, eo10, gb10, gl10, cl10, HG10⟩ := Kd.S_form HO_3.out (by omega); (first | cases eo10 | (injection eo10 with ea_ en_ ec_; (first | subst ea_ | (injection ea_ with ea_; subst ea_)); subst ec_; clear en_)); have GB10 := aM gb10; have GG10 := aM HG10; clear gb10 gl10 HG10; obtain ⟨_, ce10, hcl10, hM10, hcc10, hfr10, _, _⟩ := Kd.S_elem HO_3.out z97 (x4_1 : Int) p10 q10; obtain ⟨ve10_1, ve10_7, rfl, ge10_1, ge10_7⟩ := k97_openM hM10; have hx10_0 : w11.cell? ⟨go10, (x4_1 : Int).toNat * 11, none⟩ = some (.string ((rd_T97 x3_1 x4_1).f0.f0)) := hcc10 0 _ rfl; have hx10_1 : w11.cell? ⟨go10, (x4_1 : Int).toNat * 11 + 1, none⟩ = some (ve10_1) := hcc10 1 _ rfl; have hx10_2 : w11.cell? ⟨go10, (x4_1 : Int).toNat * 11 + 2, none⟩ = some (.int .i64 ((rd_T97 x3_1 x4_1).f0.f2)) := hcc10 2 _ rfl; have hx10_3 : w11.cell? ⟨go10, (x4_1 : Int).toNat * 11 + 3, none⟩ = some (.int .i64 ((rd_T97 x3_1 x4_1).f1.f0)) := hcc10 3 _ rfl; have hx10_4 : w11.cell? ⟨go10, (x4_1 : Int).toNat * 11 + 4, none⟩ = some (.int .i64 ((rd_T97 x3_1 x4_1).f1.f1)) := hcc10 4 _ rfl; have hx10_5 : w11.cell? ⟨go10, (x4_1 : Int).toNat * 11 + 5, none⟩ = some (.int .i64 ((rd_T97 x3_1 x4_1).f1.f2)) := hcc10 5 _ rfl; have hx10_6 : w11.cell? ⟨go10, (x4_1 : Int).toNat * 11 + 6, none⟩ = some (.int .i64 ((rd_T97 x3_1 x4_1).f1.f3)) := hcc10 6 _ rfl; have hx10_7 : w11.cell? ⟨go10, (x4_1 : Int).toNat * 11 + 7, none⟩ = some (ve10_7) := hcc10 7 _ rfl; have hx10_8 : w11.cell? ⟨go10, (x4_1 : Int).toNat * 11 + 8, none⟩ = some (.bool ((rd_T97 x3_1 x4_1).f1.f5)) := hcc10 8 _ rfl; have hx10_9 : w11.cell? ⟨go10, (x4_1 : Int).toNat * 11 + 9, none⟩ = some (.int .i64 ((rd_T97 x3_1 x4_1).f2)) := hcc10 9 _ rfl; have hx10_10 : w11.cell? ⟨go10, (x4_1 : Int).toNat * 11 + 10, none⟩ = some (.bool ((rd_T97 x3_1 x4_1).f3)) := hcc10 10 _ rfl; have hf10_0 : w11.frozen? ⟨go10, (x4_1 : Int).toNat * 11, none⟩ = false := hfr10 0; have hf10_1 : w11.frozen? ⟨go10, (x4_1 : Int).toNat * 11 + 1, none⟩ = false := hfr10 1; have hf10_2 : w11.frozen? ⟨go10, (x4_1 : Int).toNat * 11 + 2, none⟩ = false := hfr10 2; have hf10_3 : w11.frozen? ⟨go10, (x4_1 : Int).toNat * 11 + 3, none⟩ = false := hfr10 3; have hf10_4 : w11.frozen? ⟨go10, (x4_1 : Int).toNat * 11 + 4, none⟩ = false := hfr10 4; have hf10_5 : w11.frozen? ⟨go10, (x4_1 : Int).toNat * 11 + 5, none⟩ = false := hfr10 5; have hf10_6 : w11.frozen? ⟨go10, (x4_1 : Int).toNat * 11 + 6, none⟩ = false := hfr10 6; have hf10_7 : w11.frozen? ⟨go10, (x4_1 : Int).toNat * 11 + 7, none⟩ = false := hfr10 7; have hf10_8 : w11.frozen? ⟨go10, (x4_1 : Int).toNat * 11 + 8, none⟩ = false := hfr10 8; have hf10_9 : w11.frozen? ⟨go10, (x4_1 : Int).toNat * 11 + 9, none⟩ = false := hfr10 9; have hf10_10 : w11.frozen? ⟨go10, (x4_1 : Int).toNat * 11 + 10, none⟩ = false := hfr10 10; clear hcl10 hcc10 hfr10 hM10; replace p10 := eq_true p10; replace q10 := eq_true q10; obtain ⟨Ao14, co14, eo14⟩ := Kd.R_slice HO108.out; subst eo14; obtain ⟨Ao15, co15, eo15⟩ := Kd.R_slice HO116.out; subst eo15; have n_ := aM (Kd.S_mono (ok' := (fun k_ => some k_ ≠ (.slice Ao14 t106.length co14 : Value).ownBlock ∧ some k_ ≠ (.slice Ao15 t114.length co15 : Value).ownBlock)) HO_3.out (fun k_ hk => ⟨hk.1.2, hk.2⟩)); clear HO_3; have HO_3 := n_; clear n_; have HX12 := aM (show Kd.S k97 97 w11 w.heap.size (fun k_ => ((fun _ => True)) k_ ∧ ¬ ((fun k_ => some k_ = (.slice Ao14 t106.length co14 : Value).ownBlock ∨ some k_ = (.slice Ao15 t114.length co15 : Value).ownBlock)) k_) (.slice (some ⟨go10, 0, none⟩) x3_1.length co10) x3_1 from (by (with_reducible repeat (first | apply Kd.S_alloc | apply Kd.S_drewN | apply Kd.S_drew)); exact Kd.S_mono HO_3.out (fun k_ hk => ⟨trivial, fun e_ => e_.elim (fun h_ => hk.1 h_) (fun h_ => hk.2 h_)⟩))); obtain ⟨oki12, ce12, hcl12, hM12, hcc12, hfr12, hoki12, hH12⟩ := Kd.S_elem HX12.out z97 (x4_1 : Int) (of_decide_eq_true z1200) (by have h_ : (x4_1 : Int) < ((x3_1.length : Int) : Int) := of_decide_eq_true z1200; first | exact h_ | (have e_ := (Kd.S_reads' HO_3.out).1; omega) | simpa using h_); obtain ⟨ve12_1, ve12_7, rfl, ge12_1, ge12_7⟩ := k97_openM hM12; have HP12 := Kd.S_seg hH12 (of_decide_eq_true z1200) (by have h_ : (x4_1 : Int) < ((x3_1.length : Int) : Int) := of_decide_eq_true z1200; first | exact h_ | (have e_ := (Kd.S_reads' HO_3.out).1; omega) | simpa using h_) (seg := [.string t105, .slice Ao14 t106.length co14, .int .i64 t109, .int .i64 t110, .int .i64 t111, .int .i64 t112, .int .i64 t113, .slice Ao15 t114.length co15, .bool t117, .int .i64 t118, .bool t119]) (j := 0) (show 11 ≤ 11 from by decide) (x' := (⟨(⟨t105, t106, t109⟩ : S25), (⟨t110, t111, t112, t113, t114, t117⟩ : S95), t118, t119⟩ : S97)) (k97_mkM _ _ _ (⟨(⟨t105, t106, t109⟩ : S25), (⟨t110, t111, t112, t113, t114, t117⟩ : S95), t118, t119⟩ : S97) (Kd.R_mono (Kd.R_tight rfl (Kd.R_mono (ok' := fun k_ => ((fun _ => True)) k_ ∧ k_ ≠ go10) (Kd.R_apart' (HO108.out) (Kd.S_typed HO_3.out) (by decide)) (fun k_ hk => ⟨trivial, fun e_ => (hk.2) (by rw [e_]; rfl)⟩))) (fun _ h_ => Or.inr (Or.inl h_))) (Kd.R_mono (Kd.R_tight rfl (Kd.R_mono (ok' := fun k_ => ((fun _ => True)) k_ ∧ k_ ≠ go10) (Kd.R_apart' (HO116.out) (Kd.S_typed HO_3.out) (by decide)) (fun k_ hk => ⟨trivial, fun e_ => (hk.2) (by rw [e_]; rfl)⟩))) (fun _ h_ => Or.inr (Or.inr (h_))))) (fun _ hk => hk) (fun k_ hk_ => hk_.elim (fun h_ => ((Kd.R_mono (ok' := fun k_ => ((fun _ => True)) k_ ∧ k_ ≠ go10) (Kd.R_apart' (HO108.out) (Kd.S_typed HO_3.out) (by decide)) (fun k_ hk => ⟨trivial, fun e_ => (hk.2) (by rw [e_]; rfl)⟩))).1 k_ h_.symm) (fun h_ => ((Kd.R_mono (ok' := fun k_ => ((fun _ => True)) k_ ∧ k_ ≠ go10) (Kd.R_apart' (HO116.out) (Kd.S_typed HO_3.out) (by decide)) (fun k_ hk => ⟨trivial, fun e_ => (hk.2) (by rw [e_]; rfl)⟩))).1 k_ h_.symm)); have hx12_0 := hcc12 0 _ rfl; (try simp only [show (k97).sz = 11 from rfl, Nat.mul_one, Nat.add_zero] at hx12_0); have hf12_0 := hfr12 0; (try simp only [show (k97).sz = 11 from rfl, Nat.mul_one, Nat.add_zero] at hf12_0); have hx12_1 := hcc12 1 _ rfl; (try simp only [show (k97).sz = 11 from rfl, Nat.mul_one, Nat.add_zero] at hx12_1); have hf12_1 := hfr12 1; (try simp only [show (k97).sz = 11 from rfl, Nat.mul_one, Nat.add_zero] at hf12_1); have hx12_2 := hcc12 2 _ rfl; (try simp only [show (k97).sz = 11 from rfl, Nat.mul_one, Nat.add_zero] at hx12_2); have hf12_2 := hfr12 2; (try simp only [show (k97).sz = 11 from rfl, Nat.mul_one, Nat.add_zero] at hf12_2); have hx12_3 := hcc12 3 _ rfl; (try simp only [show (k97).sz = 11 from rfl, Nat.mul_one, Nat.add_zero] at hx12_3); have hf12_3 := hfr12 3; (try simp only [show (k97).sz = 11 from rfl, Nat.mul_one, Nat.add_zero] at hf12_3); have hx12_4 := hcc12 4 _ rfl; (try simp only [show (k97).sz = 11 from rfl, Nat.mul_one, Nat.add_zero] at hx12_4); have hf12_4 := hfr12 4; (try simp only [show (k97).sz = 11 from rfl, Nat.mul_one, Nat.add_zero] at hf12_4); have hx12_5 := hcc12 5 _ rfl; (try simp only [show (k97).sz = 11 from rfl, Nat.mul_one, Nat.add_zero] at hx12_5); have hf12_5 := hfr12 5; (try simp only [show (k97).sz = 11 from rfl, Nat.mul_one, Nat.add_zero] at hf12_5); have hx12_6 := hcc12 6 _ rfl; (try simp only [show (k97).sz = 11 from rfl, Nat.mul_one, Nat.add_zero] at hx12_6); have hf12_6 := hfr12 6; (try simp only [show (k97).sz = 11 from rfl, Nat.mul_one, Nat.add_zero] at hf12_6); have hx12_7 := hcc12 7 _ rfl; (try simp only [show (k97).sz = 11 from rfl, Nat.mul_one, Nat.add_zero] at hx12_7); have hf12_7 := hfr12 7; (try simp only [show (k97).sz = 11 from rfl, Nat.mul_one, Nat.add_zero] at hf12_7); have hx12_8 := hcc12 8 _ rfl; (try simp only [show (k97).sz = 11 from rfl, Nat.mul_one, Nat.add_zero] at hx12_8); have hf12_8 := hfr12 8; (try simp only [show (k97).sz = 11 from rfl, Nat.mul_one, Nat.add_zero] at hf12_8); have hx12_9 := hcc12 9 _ rfl; (try simp only [show (k97).sz = 11 from rfl, Nat.mul_one, Nat.add_zero] at hx12_9); have hf12_9 := hfr12 9; (try simp only [show (k97).sz = 11 from rfl, Nat.mul_one, Nat.add_zero] at hf12_9); have hx12_10 := hcc12 10 _ rfl; (try simp only [show (k97).sz = 11 from rfl, Nat.mul_one, Nat.add_zero] at hx12_10); have hf12_10 := hfr12 10; (try simp only [show (k97).sz = 11 from rfl, Nat.mul_one, Nat.add_zero] at hf12_10); clear hcl12 hcc12 hfr12 hM12 hoki12 hH12) | ((with_reducible refine gate_store (t := 97) (p := 21) rfl ?_); refine store_event (t := 97) (p := 21) (v := ?vo_w13) (w1 := (((((((((((w11.setCell ⟨go10, (x4_1 : Int).toNat * 11, none⟩ (.string t105)).setCell ⟨go10, (x4_1 : Int).toNat * 11 + 1, none⟩ (.slice Ao14 t106.length co14)).setCell ⟨go10, (x4_1 : Int).toNat * 11 + 2, none⟩ (.int .i64 t109)).setCell ⟨go10, (x4_1 : Int).toNat * 11 + 3, none⟩ (.int .i64 t110)).setCell ⟨go10, (x4_1 : Int).toNat * 11 + 4, none⟩ (.int .i64 t111)).setCell ⟨go10, (x4_1 : Int).toNat * 11 + 5, none⟩ (.int .i64 t112)).setCell ⟨go10, (x4_1 : Int).toNat * 11 + 6, none⟩ (.int .i64 t113)).setCell ⟨go10, (x4_1 : Int).toNat * 11 + 7, none⟩ (.slice Ao15 t114.length co15)).setCell ⟨go10, (x4_1 : Int).toNat * 11 + 8, none⟩ (.bool t117)).setCell ⟨go10, (x4_1 : Int).toNat * 11 + 9, none⟩ (.int .i64 t118)).setCell ⟨go10, (x4_1 : Int).toNat * 11 + 10, none⟩ (.bool t119))) ?hg ?ho ?hn ?hr ?_; (case ho => rfl); (case hg => rfl); (case hn => rfl); (case hr => first | (go_simp; done) | (go_simp; rfl)); intro w13 hw; have hg : w11.grownBy w13 (some go10) := (by rw [hw]; exact HP12.2); have hp_ : Kd.S k97 97 w13 w.heap.size (fun _ => True) (.slice (some ⟨go10, 0, none⟩) x3_1.length co10) y120 := (by rw [hw, Ny120.out]; exact HP12.1); clear HP12; have _ := aM hp_; have _ := aM ((by rw [hw]; exact below_set (below_set (below_set (below_set (below_set (below_set (below_set (below_set (below_set (below_set (below_set (HB.out) GB10.out) GB10.out) GB10.out) GB10.out) GB10.out) GB10.out) GB10.out) GB10.out) GB10.out) GB10.out) GB10.out : Below w.heap.size w w13)); clear HO_3 HB HO108 HO116; rename_i HO_3 HB; clear hg hw hp_))
             go_roundg k1
             case measure => have := HK1.out; omega
             case rel => exact ⟨(y120), (wrap64 (x4_1 + 1)), z4458, H', ⟨zfb39⟩, ⟨by (with_reducible repeat (first | apply Kd.S_alloc | apply Kd.S_drewN | apply Kd.S_drew)); exact HO_3.out⟩, ⟨z5acd⟩⟩
           · rw [if_neg c9] at H
             exact absurd H (by simp)
         · rw [if_neg c7] at H
           exact absurd H (by simp)
       · rw [if_neg c6] at H
         have c6b0 : decide (x4_1 < (l0.length : Int)) = false := decide_eq_false c6
         clear c6
         obtain rfl := Option.some.inj H
         go_wp2
         go_ret
         exact ⟨_, z674d, by (with_reducible repeat (first | apply Kd.S_alloc | apply Kd.S_drewN | apply Kd.S_drew)); exact HO_3.out, z5acd⟩
   · rw [if_neg c3] at H
     exact absurd H (by simp)
 · rw [if_neg c2] at H
   exact absurd H (by simp)

end Go.Proofs.YteogadaloebdaaaDoor.P

-- written by a program of this session's (wip/pp)
namespace Go.Proofs.YteogadaloebdaaaDoor.P
open Go.RowKit Go.Proofs.YteogadaloebdaaaDoorW.PrintWords Go.Proofs.YteogadaloebdaaaDoorW.PrintLast Go.Proofs.YteogadaloebdaaaDoorW.PrintMore
attribute [local go_sem] max2_int min2_int max_two min_two max_three min_three max_four min_four str_geq str_gtr str_leq   -- for this text's walks alone
set_option linter.unusedVariables false
set_option linter.unusedSimpArgs false

/-! ### laws_toBoard: function 25 -/
def laws_toBoard.f (k : Nat) (a0_0 : Int) (a0_1 : Int) (a0_2 : Int) (l0_3 : List (S118)) : Option (Int × Int × Int × (List (S97))) := (laws_toWinS.f k l0_3).bind fun t104 => (some (a0_0, a0_1, a0_2, t104))
theorem laws_toBoard.mono : ∀ a0 a1 a2 a3 k, LeO (laws_toBoard.f k a0 a1 a2 a3) (laws_toBoard.f (k + 1) a0 a1 a2 a3) := by
 intro a0 a1 a2 a3 k
 unfold laws_toBoard.f
 repeat' first
  | (with_reducible first | exact laws_toWinS.mono .. | exact LeO.refl _ | exact LeO.none _ | refine LeO.ite ?_ ?_ | refine LeO.bind ?_ (fun _ => ?_))
  | exact LeO.none _
  | refine LeO.ite ?_ ?_
  | refine LeO.bind ?_ (fun _ => ?_)
set_option maxHeartbeats 8000000 in
set_option maxRecDepth 100000 in
theorem laws_toBoard.calls (k : Nat) (a0_0 : Int) (a0_1 : Int) (a0_2 : Int) (A0_3 : Option Addr) (c0_3 : Nat) (l0_3 : List (S118)) (r1 : Int) (r2 : Int) (r3 : Int) (r4 : List (S97)) (w : World) (hr0_3 : Kd.C k118 w A0_3 l0_3.length l0_3) (hc0_3 : l0_3.length ≤ c0_3) (h : laws_toBoard.f k a0_0 a0_1 a0_2 l0_3 = some (r1, r2, r3, r4)) :
 Calls Tryd.prog 25 #[.agg #[.int .i64 a0_0, .int .i64 a0_1, .int .i64 a0_2, .slice A0_3 l0_3.length c0_3]] w fun e w' => ∃ v3_ : Value, e = .returned (.agg #[.int .i64 r1, .int .i64 r2, .int .i64 r3, v3_]) ∧ Kd.S k97 97 w' w.heap.size (fun _ => True) v3_ r4 ∧ Below w.heap.size w w' := by
 have hu50 := Tryd.underlying50
 have hu55 := Tryd.underlying55
 have HR0_3 := aM hr0_3
 have HC0_3 := aM hc0_3
 clear hr0_3 hc0_3
 have HB := aM (Below.refl w.heap.size w)
 have H : ((laws_toWinS.f k l0_3).bind fun t104 => (some (a0_0, a0_1, a0_2, t104))) = some (r1, r2, r3, r4) := h
 clear h
 replace H := Option.bind_eq_some_iff.mp H
 obtain ⟨t104, A20, H⟩ := H
 try dsimp only at H
 have A2 := aM A20
 clear A20
 simp only [Option.some.injEq, Prod.mk.injEq] at H
 obtain ⟨rfl, rfl, rfl, rfl⟩ := H
 go_enter Tryd.func25, Tryd.ntmps25
 go_wp2_with (first | ((with_reducible refine gate_dst (N := 1) rfl ?_); refine box_event ?hg (N := 1) ?hd (cs := #[.int .i64 a0_0, .int .i64 a0_1, .int .i64 a0_2, .slice A0_3 l0_3.length c0_3]) (t := 50) ?hr ?_; (case hd => rfl); (case hg => rfl); (case hr => first | (go_simp; done) | (go_simp; rfl)); intro gb101 hg w3 hbox hb; have _ := aM (below_step hbZ hb); have _ := aM hbox; have _ := szZ hg; have _ := szZ hg; clear HB; rename_i HB BK101 GW101 GE101; clear hb hbox hg) | ((with_reducible refine gate_dst (N := 2) rfl ?_); refine box_event ?hg (N := 2) ?hd (cs := #[.int .i64 0, .int .i64 0, .int .i64 0, .slice none 0 0]) (t := 55) ?hr ?_; (case hd => rfl); (case hg => rfl); (case hr => first | (go_simp; done) | (go_simp; rfl)); intro gb102 hg w4 hbox hb; have _ := bB gb101 hb; have _ := aM (below_step hbZ hb); have _ := aM hbox; have _ := szZ hg; have _ := szZ hg; have ⟨_, _⟩ := nbB gb101 hg; clear BK101 HB; rename_i BK101 HB BK102 GW102 GE102 NB101_102 NB102_101; clear hb hbox hg) | ((with_reducible refine gate_dst (N := 3) rfl ?_); refine box_event ?hg (N := 3) ?hd (cs := #[.int .i64 0, .int .i64 0, .int .i64 0, .slice none 0 0]) (t := 55) ?hr ?_; (case hd => rfl); (case hg => rfl); (case hr => first | (go_simp; done) | (go_simp; rfl)); intro gb103 hg w5 hbox hb; have _ := bB gb101 hb; have _ := bB gb102 hb; have _ := aM (below_step hbZ hb); have _ := aM hbox; have _ := szZ hg; have _ := szZ hg; have ⟨_, _⟩ := nbB gb101 hg; have ⟨_, _⟩ := nbB gb102 hg; clear BK101 BK102 HB; rename_i BK101 BK102 HB BK103 GW103 GE103 NB101_103 NB103_101 NB102_103 NB103_102; clear hb hbox hg; have hnb6 := NB101_102.out; have hnc6 := NB102_101.out; have hnb7 := NB101_103.out; have hnc7 := NB103_101.out; obtain ⟨hcz8_0, hcz8_1, hcz8_2, hcz8_3, hfz8_0, hfz8_1, hfz8_2, hfz8_3⟩ := cellsZ4 BK101.out; have hnb9 := NB103_102.out; have hnc9 := NB102_103.out; obtain ⟨hcz10_0, hcz10_1, hcz10_2, hcz10_3, hfz10_0, hfz10_1, hfz10_2, hfz10_3⟩ := cellsZ4 BK103.out) | ((with_reducible refine gate_callee (f := 59) rfl ?_); refine goesL_ (some 15) rfl rfl Tryd.func59 (by kernel_rfl) rfl #[.slice A0_3 l0_3.length c0_3] rfl zee81 ?_; (with_reducible refine (laws_toWinS.calls k _ _ l0_3 t104 _ ?side1 ?side2 A2.out).mono ?_); (case side1 => exact Kd.C_below HR0_3.out hbZ); (case side2 => exact HC0_3.out); rintro e w11 ⟨v105, rfl, ho0, hb⟩; refine ⟨_, rfl, ?_⟩; have _ := aM (Kd.S_lower ho0 (below_size hbZ)); have _ := bB gb101 hb; have _ := bB gb102 hb; have _ := aM (blk_below (g := gb103) (o := .cells #[.int .i64 a0_0, .int .i64 a0_1, .int .i64 a0_2, .slice none 0 0] 55 (0, 0)) bkZ hb); have _ := aM (below_step hbZ hb); clear BK101 BK102 BK103 HB; rename_i HO106 BK101 BK102 BK103 HB; (try clear hb); (try clear ho0); obtain ⟨Ao12, co12, eo12⟩ := Kd.S_slice HO106.out; subst eo12; obtain ⟨hcz13_0, hcz13_1, hcz13_2, hcz13_3, hfz13_0, hfz13_1, hfz13_2, hfz13_3⟩ := cellsZ4 BK103.out; obtain ⟨hcz14_0, hcz14_1, hcz14_2, hcz14_3, hfz14_0, hfz14_1, hfz14_2, hfz14_3⟩ := cellsZ4 BK102.out))
 refine bodyPost_ret (results_cell_row rfl _ _ gb102 55 #[.int .i64 a0_0, .int .i64 a0_1, .int .i64 a0_2, .slice Ao12 t104.length co12] (0, 0) _ rfl bkZ Tryd.underlying55 rfl (by kernel_rfl)) rfl ?_
 exact ⟨_, z674d, by (with_reducible repeat (first | apply Kd.S_alloc | apply Kd.S_drewN | apply Kd.S_drew)); exact Kd.S_mono (Kd.S_far (p := ⟨gb102, 3, none⟩) (Kd.S_far (p := ⟨gb102, 2, none⟩) (Kd.S_far (p := ⟨gb102, 1, none⟩) (Kd.S_far (p := ⟨gb102, 0, none⟩) (Kd.S_far (p := ⟨gb103, 3, none⟩) (Kd.S_types (Kd.S_types HO106.out BK103.out (by decide)) BK102.out (by decide)) (fun _ hk => hk.1.2) (.slice Ao12 t104.length co12)) (fun _ hk => hk.2) (.int .i64 a0_0)) (fun _ hk => hk.2) (.int .i64 a0_1)) (fun _ hk => hk.2) (.int .i64 a0_2)) (fun _ hk => hk.2) (.slice Ao12 t104.length co12)) (fun _ hk => trivial), zcb41⟩

end Go.Proofs.YteogadaloebdaaaDoor.P

-- written by a program of this session's (wip/pp)
namespace Go.Proofs.YteogadaloebdaaaDoor.P
open Go.RowKit Go.Proofs.YteogadaloebdaaaDoorW.PrintWords Go.Proofs.YteogadaloebdaaaDoorW.PrintLast Go.Proofs.YteogadaloebdaaaDoorW.PrintMore
attribute [local go_sem] max2_int min2_int max_two min_two max_three min_three max_four min_four str_geq str_gtr str_leq   -- for this text's walks alone
set_option linter.unusedVariables false
set_option linter.unusedSimpArgs false

/-! ### impl_within: function 61 -/
def impl_within.f (a0 : Int) (a1 : Int) (a2 : Int) : Option (Bool) := if a0 ≥ a1 then (some (decide (a0 ≤ a2))) else (some false)
set_option maxHeartbeats 8000000 in
set_option maxRecDepth 100000 in
theorem impl_within.calls (a0 : Int) (a1 : Int) (a2 : Int) (r : Bool) (w : World) (h : impl_within.f a0 a1 a2 = some r) :
 Calls Tryd.prog 61 #[.int .i64 a0, .int .i64 a1, .int .i64 a2] w fun e w' => e = .returned (.bool r) ∧ Drawn0 w w' := by
 have H : (if a0 ≥ a1 then (some (decide (a0 ≤ a2))) else (some false)) = some r := h
 clear h
 by_cases c4 : a0 ≥ a1
 · rw [if_pos c4] at H
   have c4b0 : decide (a1 ≤ a0) = true := decide_eq_true c4
   clear c4
   obtain rfl := Option.some.inj H
   go_enter Tryd.func61, Tryd.ntmps61
   go_wp2
   go_ret
   exact ⟨z4458, za9de⟩
 · rw [if_neg c4] at H
   have c4b0 : decide (a1 ≤ a0) = false := decide_eq_false c4
   clear c4
   obtain rfl := Option.some.inj H
   go_enter Tryd.func61, Tryd.ntmps61
   go_wp2
   go_ret
   exact ⟨z4458, za9de⟩

end Go.Proofs.YteogadaloebdaaaDoor.P

/-
  DERIVED: THE SHELF's CONTRACTS AT THIS DUMP, IN PLAIN WORDS (tools/lay-plain.mjs out of 'TrydShelf.lean', which tools/lay-shelf.mjs wrote): THE SAME DECLARATIONS UNDER THE SAME NAMES: 'import', 'namespace', 'open', 'def', 'theorem' AND NOTHING ELSE: no command of the shelf's: FOR A HAND-IN. Each laying: the table of numbers ('.._ren') and one theorem, a field a fact of the dump's own or the kernel's comparison; each contract: ONE APPLICATION.
-/
namespace Go.Proofs
open Go.Shelf
def Tryd.lays231_ren : Go.Shelf.Ren := ⟨fun | 231 => 106 | n => n, fun | 9 => 9 | 5 => 5 | 3 => 3 | 4 => 4 | n => n, fun | n => n⟩
theorem Tryd.lays231 : Go.Proofs.Lays.n231 Tryd.prog Tryd.lays231_ren := {
  mixed := by kernel_rfl
  f231 := Tryd.func106.trans (congrArg some (by kernel_rfl))
  t3 := Tryd.underlying3
  a3 := Tryd.isAgg3
  z3 := Tryd.sizeOf3
  v3 := Tryd.zeroValue3
  t4 := Tryd.underlying4
  a4 := Tryd.isAgg4
  z4 := Tryd.sizeOf4
  v4 := Tryd.zeroValue4
  t5 := Tryd.underlying5
  a5 := Tryd.isAgg5
  z5 := Tryd.sizeOf5
  v5 := Tryd.zeroValue5
  t9 := Tryd.underlying9
  a9 := Tryd.isAgg9
  z9 := Tryd.sizeOf9
  v9 := Tryd.zeroValue9 }
open Go.RowKit in
/-- strings.trimLeftByte (no doc; what TrimLeft and Trim call at a cutset of one ASCII byte): the leading bytes that are c are cut off. The world is as it was. (LAID: no walk: one application.) -/
theorem Tryd.strings_trimLeftByte (s : ByteArray) (c : UInt8) (w : World) :
    Calls Tryd.prog 106 #[.string s, .int .u8 c.toNat] w fun e w' => e = .returned (.string ⟨(Lib.trimLeftB s.data.toList c).toArray⟩) ∧ w' = w := Any.strings_trimLeftByte Tryd.lays231 s c w
def Tryd.lays232_ren : Go.Shelf.Ren := ⟨fun | 232 => 107 | n => n, fun | 9 => 9 | 5 => 5 | 3 => 3 | 4 => 4 | n => n, fun | n => n⟩
theorem Tryd.lays232 : Go.Proofs.Lays.n232 Tryd.prog Tryd.lays232_ren := {
  mixed := by kernel_rfl
  f232 := Tryd.func107.trans (congrArg some (by kernel_rfl))
  t3 := Tryd.underlying3
  a3 := Tryd.isAgg3
  z3 := Tryd.sizeOf3
  v3 := Tryd.zeroValue3
  t4 := Tryd.underlying4
  a4 := Tryd.isAgg4
  z4 := Tryd.sizeOf4
  v4 := Tryd.zeroValue4
  t5 := Tryd.underlying5
  a5 := Tryd.isAgg5
  z5 := Tryd.sizeOf5
  v5 := Tryd.zeroValue5
  t9 := Tryd.underlying9
  a9 := Tryd.isAgg9
  z9 := Tryd.sizeOf9
  v9 := Tryd.zeroValue9 }
open Go.RowKit in
/-- strings.trimRightByte (no doc; what TrimRight and Trim call at a cutset of one ASCII byte): the trailing bytes that are c are cut off. The world is as it was. ('hs': a string's length is a number that an int holds.) (LAID: no walk: one application.) -/
theorem Tryd.strings_trimRightByte (s : ByteArray) (c : UInt8) (w : World) (hs : s.size ≤ 9223372036854775807) :
    Calls Tryd.prog 107 #[.string s, .int .u8 c.toNat] w fun e w' => e = .returned (.string ⟨(Lib.trimRightB s.data.toList c).toArray⟩) ∧ w' = w := Any.strings_trimRightByte Tryd.lays232 s c w hs
def Tryd.lays160_ren : Go.Shelf.Ren := ⟨fun | 160 => 91 | 232 => 107 | 231 => 106 | 227 => 108 | 234 => 110 | 233 => 109 | 236 => 112 | 235 => 111 | 228 => 127 | 271 => 129 | 151 => 128 | 197 => 122 | 120 => 140 | 152 => 139 | 260 => 138 | 137 => 146 | 119 => 147 | 224 => 115 | 225 => 114 | 217 => 113 | 266 => 130 | n => n, fun | 9 => 9 | 4 => 4 | 3 => 3 | 5 => 5 | 117 => 135 | 116 => 134 | 0 => 0 | 124 => 138 | 21 => 21 | 105 => 147 | 46 => 105 | 119 => 172 | 139 => 175 | 138 => 174 | n => n, fun | 3 => 4 | 4 => 5 | n => n⟩
theorem Tryd.lays160 : Go.Proofs.Lays.n160 Tryd.prog Tryd.lays160_ren := {
  mixed := by kernel_rfl
  f119 := Tryd.func147.trans (congrArg some (by kernel_rfl))
  f120 := Tryd.func140.trans (congrArg some (by kernel_rfl))
  f137 := Tryd.func146.trans (congrArg some (by kernel_rfl))
  f151 := Tryd.func128.trans (congrArg some (by kernel_rfl))
  f152 := Tryd.func139.trans (congrArg some (by kernel_rfl))
  f160 := Tryd.func91.trans (congrArg some (by kernel_rfl))
  f197 := Tryd.func122.trans (congrArg some (by kernel_rfl))
  f217 := Tryd.func113.trans (congrArg some (by kernel_rfl))
  f224 := Tryd.func115.trans (congrArg some (by kernel_rfl))
  f225 := Tryd.func114.trans (congrArg some (by kernel_rfl))
  f227 := Tryd.func108.trans (congrArg some (by kernel_rfl))
  f228 := Tryd.func127.trans (congrArg some (by kernel_rfl))
  f231 := Tryd.func106.trans (congrArg some (by kernel_rfl))
  f232 := Tryd.func107.trans (congrArg some (by kernel_rfl))
  f233 := Tryd.func109.trans (congrArg some (by kernel_rfl))
  f234 := Tryd.func110.trans (congrArg some (by kernel_rfl))
  f235 := Tryd.func111.trans (congrArg some (by kernel_rfl))
  f236 := Tryd.func112.trans (congrArg some (by kernel_rfl))
  f260 := Tryd.func138.trans (congrArg some (by kernel_rfl))
  f266 := Tryd.func130.trans (congrArg some (by kernel_rfl))
  f271 := Tryd.func129.trans (congrArg some (by kernel_rfl))
  t0 := Tryd.underlying0
  a0 := Tryd.isAgg0
  z0 := Tryd.sizeOf0
  v0 := Tryd.zeroValue0
  t3 := Tryd.underlying3
  a3 := Tryd.isAgg3
  z3 := Tryd.sizeOf3
  v3 := Tryd.zeroValue3
  t4 := Tryd.underlying4
  a4 := Tryd.isAgg4
  z4 := Tryd.sizeOf4
  v4 := Tryd.zeroValue4
  t5 := Tryd.underlying5
  a5 := Tryd.isAgg5
  z5 := Tryd.sizeOf5
  v5 := Tryd.zeroValue5
  t9 := Tryd.underlying9
  a9 := Tryd.isAgg9
  z9 := Tryd.sizeOf9
  v9 := Tryd.zeroValue9
  t21 := Tryd.underlying21
  a21 := Tryd.isAgg21
  z21 := Tryd.sizeOf21
  v21 := Tryd.zeroValue21
  t46 := Tryd.underlying105
  a46 := Tryd.isAgg105
  z46 := Tryd.sizeOf105
  v46 := Tryd.zeroValue105
  t105 := Tryd.underlying147
  a105 := Tryd.isAgg147
  z105 := Tryd.sizeOf147
  v105 := Tryd.zeroValue147
  t116 := Tryd.underlying134
  a116 := Tryd.isAgg134
  z116 := Tryd.sizeOf134
  t117 := Tryd.underlying135
  a117 := Tryd.isAgg135
  z117 := Tryd.sizeOf135
  v117 := Tryd.zeroValue135
  t119 := Tryd.underlying172
  a119 := Tryd.isAgg172
  z119 := Tryd.sizeOf172
  t124 := Tryd.underlying138
  a124 := Tryd.isAgg138
  z124 := Tryd.sizeOf138
  v124 := Tryd.zeroValue138
  t138 := Tryd.underlying174
  a138 := Tryd.isAgg174
  z138 := Tryd.sizeOf174
  v138 := Tryd.zeroValue174
  t139 := Tryd.underlying175
  a139 := Tryd.isAgg175
  z139 := Tryd.sizeOf175
  v139 := Tryd.zeroValue175
  g3 := by kernel_rfl
  g4 := by kernel_rfl }
open Go.RowKit in
/-- strings.Trim: "Trim returns a slice of the string s with all leading and trailing Unicode code points contained in cutset removed.": AT A cutset OF ONE ASCII BYTE. THE WORLD BEHIND IT: as it was, or (where s is not empty) with ONE DRAW MORE off the tape: the statement 'return trimLeftByte(trimRightByte(s, c), c)' draws its order of evaluation. (LAID: no walk: one application.) -/
theorem Tryd.strings_Trim_one (s : ByteArray) (c : UInt8) (hc : c.toNat < 128) (w : World) (hs : s.size ≤ 9223372036854775807) :
    Calls Tryd.prog 91 #[.string s, .string ⟨#[c]⟩] w fun e w' => e = .returned (.string ⟨(Lib.trimB s.data.toList c).toArray⟩) ∧ (w' = w ∨ w' = w.drew) := Any.strings_Trim_one Tryd.lays160 s c hc w hs
def Tryd.lays119_ren : Go.Shelf.Ren := ⟨fun | 119 => 147 | n => n, fun | 21 => 21 | 4 => 4 | n => n, fun | n => n⟩
theorem Tryd.lays119 : Go.Proofs.Lays.n119 Tryd.prog Tryd.lays119_ren := {
  mixed := by kernel_rfl
  f119 := Tryd.func147.trans (congrArg some (by kernel_rfl))
  t4 := Tryd.underlying4
  a4 := Tryd.isAgg4
  z4 := Tryd.sizeOf4
  v4 := Tryd.zeroValue4
  t21 := Tryd.underlying21
  a21 := Tryd.isAgg21
  z21 := Tryd.sizeOf21
  v21 := Tryd.zeroValue21 }
/-- utf8.ValidRune: "ValidRune reports whether r can be legally encoded as UTF-8. Code points that are out of range or a surrogate half are illegal.": IT RETURNS 'Lib.validRune r'; the world is as it was. (LAID: no walk: one application.) -/
theorem Tryd.utf8_ValidRune (r : Int) (w : World) :
    Calls Tryd.prog 147 #[.int .i32 r] w fun e w' => e = .returned (.bool (Lib.validRune r)) ∧ w' = w := Any.utf8_ValidRune Tryd.lays119 r w
def Tryd.lays120_ren : Go.Shelf.Ren := ⟨fun | 120 => 140 | n => n, fun | 5 => 5 | 4 => 4 | n => n, fun | n => n⟩
theorem Tryd.lays120 : Go.Proofs.Lays.n120 Tryd.prog Tryd.lays120_ren := {
  mixed := by kernel_rfl
  f120 := Tryd.func140.trans (congrArg some (by kernel_rfl))
  t4 := Tryd.underlying4
  a4 := Tryd.isAgg4
  z4 := Tryd.sizeOf4
  v4 := Tryd.zeroValue4
  t5 := Tryd.underlying5
  a5 := Tryd.isAgg5
  z5 := Tryd.sizeOf5
  v5 := Tryd.zeroValue5 }
/-- utf8.RuneStart: "RuneStart reports whether the byte could be the first byte of an encoded, possibly invalid rune. Second and subsequent bytes always have the top two bits set to 10.": IT RETURNS 'Lib.runeStart b'; the world is as it was. ('h0', 'h1': b is a byte: a caller has it of every byte that it was handed.) (LAID: no walk: one application.) -/
theorem Tryd.utf8_RuneStart (b : Int) (w : World) (h0 : 0 ≤ b) (h1 : b < 256) :
    Calls Tryd.prog 140 #[.int .u8 b] w fun e w' => e = .returned (.bool (Lib.runeStart b)) ∧ w' = w := Any.utf8_RuneStart Tryd.lays120 b w h0 h1
def Tryd.lays137_ren : Go.Shelf.Ren := ⟨fun | 137 => 146 | 217 => 113 | 266 => 130 | n => n, fun | 9 => 9 | 5 => 5 | 3 => 3 | n => n, fun | n => n⟩
theorem Tryd.lays137 : Go.Proofs.Lays.n137 Tryd.prog Tryd.lays137_ren := {
  mixed := by kernel_rfl
  f137 := Tryd.func146.trans (congrArg some (by kernel_rfl))
  f217 := Tryd.func113.trans (congrArg some (by kernel_rfl))
  f266 := Tryd.func130.trans (congrArg some (by kernel_rfl))
  t3 := Tryd.underlying3
  a3 := Tryd.isAgg3
  z3 := Tryd.sizeOf3
  v3 := Tryd.zeroValue3
  t5 := Tryd.underlying5
  a5 := Tryd.isAgg5
  z5 := Tryd.sizeOf5
  v5 := Tryd.zeroValue5
  t9 := Tryd.underlying9
  a9 := Tryd.isAgg9
  z9 := Tryd.sizeOf9
  v9 := Tryd.zeroValue9 }
open Go.RowKit in
/-- strings.IndexByte: "IndexByte returns the index of the first instance of c in s, or -1 if c is not present in s.": IT RETURNS 'Lib.indexByte s c'; the world is as it was. (LAID: no walk: one application.) -/
theorem Tryd.strings_IndexByte (s : ByteArray) (c : Int) (w : World) :
    Calls Tryd.prog 146 #[.string s, .int .u8 c] w fun e w' => e = .returned (.int .i64 (Lib.indexByte s.data.toList c.toNat.toUInt8)) ∧ w' = w := Any.strings_IndexByte Tryd.lays137 s c w
def Tryd.lays217_ren : Go.Shelf.Ren := ⟨fun | 217 => 113 | 266 => 130 | n => n, fun | 9 => 9 | 5 => 5 | 3 => 3 | n => n, fun | n => n⟩
theorem Tryd.lays217 : Go.Proofs.Lays.n217 Tryd.prog Tryd.lays217_ren := {
  mixed := by kernel_rfl
  f217 := Tryd.func113.trans (congrArg some (by kernel_rfl))
  f266 := Tryd.func130.trans (congrArg some (by kernel_rfl))
  t3 := Tryd.underlying3
  a3 := Tryd.isAgg3
  z3 := Tryd.sizeOf3
  v3 := Tryd.zeroValue3
  t5 := Tryd.underlying5
  a5 := Tryd.isAgg5
  z5 := Tryd.sizeOf5
  v5 := Tryd.zeroValue5
  t9 := Tryd.underlying9
  a9 := Tryd.isAgg9
  z9 := Tryd.sizeOf9
  v9 := Tryd.zeroValue9 }
open Go.RowKit Go.Lib in
/-- internal/stringslite.IndexByte (what strings.IndexByte calls): IT RETURNS 'Lib.indexByte s c'; the world is as it was. (LAID: no walk: one application.) -/
theorem Tryd.stringslite_IndexByte (s : ByteArray) (c : Int) (w : World) :
    Calls Tryd.prog 113 #[.string s, .int .u8 c] w fun e w' => e = .returned (.int .i64 (Lib.indexByte s.data.toList c.toNat.toUInt8)) ∧ w' = w := Any.stringslite_IndexByte Tryd.lays217 s c w
def Tryd.lays224_ren : Go.Shelf.Ren := ⟨fun | 224 => 115 | n => n, fun | 3 => 3 | n => n, fun | n => n⟩
theorem Tryd.lays224 : Go.Proofs.Lays.n224 Tryd.prog Tryd.lays224_ren := {
  mixed := by kernel_rfl
  f224 := Tryd.func115.trans (congrArg some (by kernel_rfl))
  t3 := Tryd.underlying3
  a3 := Tryd.isAgg3
  z3 := Tryd.sizeOf3
  v3 := Tryd.zeroValue3 }
open Go.RowKit Go.Lib in
/-- internal/bytealg.Cutover: "Cutover reports the number of failures of IndexByte we should tolerate before switching over to Index. n is the number of bytes processed so far.": on amd64: (n + 16) / 8. (LAID: no walk: one application.) -/
theorem Tryd.bytealg_Cutover (n : Int) (h0 : 0 ≤ n) (h1 : n < 4611686018427387904) (w : World) :
    Calls Tryd.prog 115 #[.int .i64 n] w fun e w' => e = .returned (.int .i64 ((n + 16) / 8)) ∧ w' = w := Any.bytealg_Cutover Tryd.lays224 n h0 h1 w
def Tryd.lays314_ren : Go.Shelf.Ren := ⟨fun | 314 => 131 | n => n, fun | 9 => 9 | 51 => 154 | 3 => 3 | 4 => 4 | 5 => 5 | 46 => 105 | n => n, fun | n => n⟩
theorem Tryd.lays314 : Go.Proofs.Lays.n314 Tryd.prog Tryd.lays314_ren := {
  mixed := by kernel_rfl
  f314 := Tryd.func131.trans (congrArg some (by kernel_rfl))
  t3 := Tryd.underlying3
  a3 := Tryd.isAgg3
  z3 := Tryd.sizeOf3
  v3 := Tryd.zeroValue3
  t4 := Tryd.underlying4
  a4 := Tryd.isAgg4
  z4 := Tryd.sizeOf4
  v4 := Tryd.zeroValue4
  t5 := Tryd.underlying5
  a5 := Tryd.isAgg5
  z5 := Tryd.sizeOf5
  v5 := Tryd.zeroValue5
  t9 := Tryd.underlying9
  a9 := Tryd.isAgg9
  z9 := Tryd.sizeOf9
  v9 := Tryd.zeroValue9
  t46 := Tryd.underlying105
  a46 := Tryd.isAgg105
  z46 := Tryd.sizeOf105
  v46 := Tryd.zeroValue105
  t51 := Tryd.underlying154
  a51 := Tryd.isAgg154
  z51 := Tryd.sizeOf154
  v51 := Tryd.zeroValue154 }
open Go.RowKit Go.Lib in
/-- hashStr: "returns the hash and the appropriate multiplicative factor for use in Rabin-Karp algorithm": THE HASH OF ALL OF sep, AND 16777619 ^ len(sep), both in uint32. (LAID: no walk: one application.) -/
theorem Tryd.bytealg_hashStr (sep : ByteArray) (hs : sep.size < 4294967281) (w : World) :
    Calls Tryd.prog 131 #[.string sep] w fun e w' => e = .returned (.tuple #[.int .u32 (RK.H sep.data.toList % 4294967296), .int .u32 (16777619 ^ sep.size % 4294967296)]) ∧ w' = w := Any.bytealg_hashStr Tryd.lays314 sep hs w
def Tryd.lays267_ren : Go.Shelf.Ren := ⟨fun | 267 => 116 | 314 => 131 | n => n, fun | 9 => 9 | 3 => 3 | 146 => 155 | 51 => 154 | 4 => 4 | 5 => 5 | 46 => 105 | n => n, fun | n => n⟩
theorem Tryd.lays267 : Go.Proofs.Lays.n267 Tryd.prog Tryd.lays267_ren := {
  mixed := by kernel_rfl
  f267 := Tryd.func116.trans (congrArg some (by kernel_rfl))
  f314 := Tryd.func131.trans (congrArg some (by kernel_rfl))
  t3 := Tryd.underlying3
  a3 := Tryd.isAgg3
  z3 := Tryd.sizeOf3
  v3 := Tryd.zeroValue3
  t4 := Tryd.underlying4
  a4 := Tryd.isAgg4
  z4 := Tryd.sizeOf4
  v4 := Tryd.zeroValue4
  t5 := Tryd.underlying5
  a5 := Tryd.isAgg5
  z5 := Tryd.sizeOf5
  v5 := Tryd.zeroValue5
  t9 := Tryd.underlying9
  a9 := Tryd.isAgg9
  z9 := Tryd.sizeOf9
  v9 := Tryd.zeroValue9
  t46 := Tryd.underlying105
  a46 := Tryd.isAgg105
  z46 := Tryd.sizeOf105
  v46 := Tryd.zeroValue105
  t51 := Tryd.underlying154
  a51 := Tryd.isAgg154
  z51 := Tryd.sizeOf154
  v51 := Tryd.zeroValue154
  t146 := Tryd.underlying155
  a146 := Tryd.isAgg155
  z146 := Tryd.sizeOf155
  v146 := Tryd.zeroValue155 }
open Go.RowKit Go.Lib in
theorem Tryd.bytealg_IndexRabinKarp (s sep : ByteArray) (h1 : 1 ≤ sep.size) (h2 : sep.size ≤ s.size) (hs : s.size < 4294967281) (w : World) :
    Calls Tryd.prog 116 #[.string s, .string sep] w fun e w' => e = .returned (.int .i64 (Lib.index s.data.toList sep.data.toList)) ∧ w' = w := Any.bytealg_IndexRabinKarp Tryd.lays267 s sep h1 h2 hs w
def Tryd.lays152_ren : Go.Shelf.Ren := ⟨fun | 152 => 139 | 137 => 146 | 119 => 147 | 224 => 115 | 225 => 114 | 217 => 113 | 266 => 130 | n => n, fun | 9 => 9 | 21 => 21 | 3 => 3 | 4 => 4 | 5 => 5 | 0 => 0 | 46 => 105 | n => n, fun | n => n⟩
theorem Tryd.lays152 : Go.Proofs.Lays.n152 Tryd.prog Tryd.lays152_ren := {
  mixed := by kernel_rfl
  f119 := Tryd.func147.trans (congrArg some (by kernel_rfl))
  f137 := Tryd.func146.trans (congrArg some (by kernel_rfl))
  f152 := Tryd.func139.trans (congrArg some (by kernel_rfl))
  f217 := Tryd.func113.trans (congrArg some (by kernel_rfl))
  f224 := Tryd.func115.trans (congrArg some (by kernel_rfl))
  f225 := Tryd.func114.trans (congrArg some (by kernel_rfl))
  f266 := Tryd.func130.trans (congrArg some (by kernel_rfl))
  t0 := Tryd.underlying0
  a0 := Tryd.isAgg0
  z0 := Tryd.sizeOf0
  v0 := Tryd.zeroValue0
  t3 := Tryd.underlying3
  a3 := Tryd.isAgg3
  z3 := Tryd.sizeOf3
  v3 := Tryd.zeroValue3
  t4 := Tryd.underlying4
  a4 := Tryd.isAgg4
  z4 := Tryd.sizeOf4
  v4 := Tryd.zeroValue4
  t5 := Tryd.underlying5
  a5 := Tryd.isAgg5
  z5 := Tryd.sizeOf5
  v5 := Tryd.zeroValue5
  t9 := Tryd.underlying9
  a9 := Tryd.isAgg9
  z9 := Tryd.sizeOf9
  v9 := Tryd.zeroValue9
  t21 := Tryd.underlying21
  a21 := Tryd.isAgg21
  z21 := Tryd.sizeOf21
  v21 := Tryd.zeroValue21
  t46 := Tryd.underlying105
  a46 := Tryd.isAgg105
  z46 := Tryd.sizeOf105
  v46 := Tryd.zeroValue105 }
open Go.RowKit Go.Lib in
theorem Tryd.strings_IndexRune_ascii (s : ByteArray) (r : Int) (w : World) (h0 : 0 ≤ r) (h1 : r < 128) :
    Calls Tryd.prog 139 #[.string s, .int .i32 r] w fun e w' => e = .returned (.int .i64 (Lib.indexByte s.data.toList r.toNat.toUInt8)) ∧ w' = w := Any.strings_IndexRune_ascii Tryd.lays152 s r w h0 h1
def Tryd.lays151_ren : Go.Shelf.Ren := ⟨fun | 151 => 128 | 152 => 139 | 137 => 146 | 119 => 147 | 224 => 115 | 225 => 114 | 217 => 113 | 266 => 130 | n => n, fun | 9 => 9 | 21 => 21 | 4 => 4 | 3 => 3 | 5 => 5 | 0 => 0 | 46 => 105 | n => n, fun | n => n⟩
theorem Tryd.lays151 : Go.Proofs.Lays.n151 Tryd.prog Tryd.lays151_ren := {
  mixed := by kernel_rfl
  f119 := Tryd.func147.trans (congrArg some (by kernel_rfl))
  f137 := Tryd.func146.trans (congrArg some (by kernel_rfl))
  f151 := Tryd.func128.trans (congrArg some (by kernel_rfl))
  f152 := Tryd.func139.trans (congrArg some (by kernel_rfl))
  f217 := Tryd.func113.trans (congrArg some (by kernel_rfl))
  f224 := Tryd.func115.trans (congrArg some (by kernel_rfl))
  f225 := Tryd.func114.trans (congrArg some (by kernel_rfl))
  f266 := Tryd.func130.trans (congrArg some (by kernel_rfl))
  t0 := Tryd.underlying0
  a0 := Tryd.isAgg0
  z0 := Tryd.sizeOf0
  v0 := Tryd.zeroValue0
  t3 := Tryd.underlying3
  a3 := Tryd.isAgg3
  z3 := Tryd.sizeOf3
  v3 := Tryd.zeroValue3
  t4 := Tryd.underlying4
  a4 := Tryd.isAgg4
  z4 := Tryd.sizeOf4
  v4 := Tryd.zeroValue4
  t5 := Tryd.underlying5
  a5 := Tryd.isAgg5
  z5 := Tryd.sizeOf5
  v5 := Tryd.zeroValue5
  t9 := Tryd.underlying9
  a9 := Tryd.isAgg9
  z9 := Tryd.sizeOf9
  v9 := Tryd.zeroValue9
  t21 := Tryd.underlying21
  a21 := Tryd.isAgg21
  z21 := Tryd.sizeOf21
  v21 := Tryd.zeroValue21
  t46 := Tryd.underlying105
  a46 := Tryd.isAgg105
  z46 := Tryd.sizeOf105
  v46 := Tryd.zeroValue105 }
open Go.RowKit Go.Lib in
theorem Tryd.strings_ContainsRune_ascii (s : ByteArray) (r : Int) (w : World) (h0 : 0 ≤ r) (h1 : r < 128) :
    Calls Tryd.prog 128 #[.string s, .int .i32 r] w fun e w' => e = .returned (.bool (decide (0 ≤ Lib.indexByte s.data.toList r.toNat.toUInt8))) ∧ w' = w := Any.strings_ContainsRune_ascii Tryd.lays151 s r w h0 h1
def Tryd.lays227_ren : Go.Shelf.Ren := ⟨fun | 227 => 108 | n => n, fun | 9 => 9 | 116 => 134 | 4 => 4 | 0 => 0 | 3 => 3 | 5 => 5 | n => n, fun | n => n⟩
theorem Tryd.lays227 : Go.Proofs.Lays.n227 Tryd.prog Tryd.lays227_ren := {
  mixed := by kernel_rfl
  f227 := Tryd.func108.trans (congrArg some (by kernel_rfl))
  t0 := Tryd.underlying0
  a0 := Tryd.isAgg0
  z0 := Tryd.sizeOf0
  v0 := Tryd.zeroValue0
  t3 := Tryd.underlying3
  a3 := Tryd.isAgg3
  z3 := Tryd.sizeOf3
  v3 := Tryd.zeroValue3
  t4 := Tryd.underlying4
  a4 := Tryd.isAgg4
  z4 := Tryd.sizeOf4
  v4 := Tryd.zeroValue4
  t5 := Tryd.underlying5
  a5 := Tryd.isAgg5
  z5 := Tryd.sizeOf5
  v5 := Tryd.zeroValue5
  t9 := Tryd.underlying9
  a9 := Tryd.isAgg9
  z9 := Tryd.sizeOf9
  v9 := Tryd.zeroValue9
  t116 := Tryd.underlying134
  a116 := Tryd.isAgg134
  z116 := Tryd.sizeOf134 }
open Go.RowKit Go.Lib in
theorem Tryd.strings_makeASCIISet (hv116 : ∀ w, (zeroValue 134).run Tryd.prog w = .ok (.agg (Array.replicate 256 (.bool false))) w) (chars : ByteArray) (w : World) (hs : chars.size < 4294967281) (hascii : ∀ (j : Nat) b, chars.data.toList[j]? = some b → b.toNat < 128) :
    Calls Tryd.prog 108 #[.string chars] w fun e w' => e = .returned (.tuple #[.agg (Lib.setCells chars.data.toList), .bool true]) ∧ w' = w.alloc (.cells (Lib.setCells chars.data.toList) 134) := Any.strings_makeASCIISet Tryd.lays227 hv116 (by kernel_rfl) chars w hs hascii
def Tryd.lays228_ren : Go.Shelf.Ren := ⟨fun | 228 => 127 | n => n, fun | 124 => 138 | 5 => 5 | 4 => 4 | 0 => 0 | 116 => 134 | n => n, fun | n => n⟩
theorem Tryd.lays228 : Go.Proofs.Lays.n228 Tryd.prog Tryd.lays228_ren := {
  mixed := by kernel_rfl
  f228 := Tryd.func127.trans (congrArg some (by kernel_rfl))
  t0 := Tryd.underlying0
  a0 := Tryd.isAgg0
  z0 := Tryd.sizeOf0
  v0 := Tryd.zeroValue0
  t4 := Tryd.underlying4
  a4 := Tryd.isAgg4
  z4 := Tryd.sizeOf4
  v4 := Tryd.zeroValue4
  t5 := Tryd.underlying5
  a5 := Tryd.isAgg5
  z5 := Tryd.sizeOf5
  v5 := Tryd.zeroValue5
  t116 := Tryd.underlying134
  a116 := Tryd.isAgg134
  z116 := Tryd.sizeOf134
  t124 := Tryd.underlying138
  a124 := Tryd.isAgg138
  z124 := Tryd.sizeOf138
  v124 := Tryd.zeroValue138 }
open Go.RowKit Go.Lib in
/-- '(as *asciiSet) contains(c)': 'as[c]': the set lies at block b, whole. (LAID: no walk: one application.) -/
theorem Tryd.asciiSet_contains (b : Nat) (x : UInt8) (v : Bool) (w : World) (hc : w.cell? ⟨b, x.toNat, none⟩ = some (.bool v)) :
    Calls Tryd.prog 127 #[.pointer (some ⟨b, 0, none⟩), .int .u8 x.toNat] w fun e w' => e = .returned (.bool v) ∧ w' = w := Any.asciiSet_contains Tryd.lays228 b x v w hc
def Tryd.lays260_ren : Go.Shelf.Ren := ⟨fun | 260 => 138 | n => n, fun | 9 => 9 | 21 => 21 | 3 => 3 | 4 => 4 | 5 => 5 | 119 => 172 | 0 => 0 | 46 => 105 | 139 => 175 | 138 => 174 | n => n, fun | 3 => 4 | 4 => 5 | n => n⟩
theorem Tryd.lays260 : Go.Proofs.Lays.n260 Tryd.prog Tryd.lays260_ren := {
  mixed := by kernel_rfl
  f260 := Tryd.func138.trans (congrArg some (by kernel_rfl))
  t0 := Tryd.underlying0
  a0 := Tryd.isAgg0
  z0 := Tryd.sizeOf0
  v0 := Tryd.zeroValue0
  t3 := Tryd.underlying3
  a3 := Tryd.isAgg3
  z3 := Tryd.sizeOf3
  v3 := Tryd.zeroValue3
  t4 := Tryd.underlying4
  a4 := Tryd.isAgg4
  z4 := Tryd.sizeOf4
  v4 := Tryd.zeroValue4
  t5 := Tryd.underlying5
  a5 := Tryd.isAgg5
  z5 := Tryd.sizeOf5
  v5 := Tryd.zeroValue5
  t9 := Tryd.underlying9
  a9 := Tryd.isAgg9
  z9 := Tryd.sizeOf9
  v9 := Tryd.zeroValue9
  t21 := Tryd.underlying21
  a21 := Tryd.isAgg21
  z21 := Tryd.sizeOf21
  v21 := Tryd.zeroValue21
  t46 := Tryd.underlying105
  a46 := Tryd.isAgg105
  z46 := Tryd.sizeOf105
  v46 := Tryd.zeroValue105
  t119 := Tryd.underlying172
  a119 := Tryd.isAgg172
  z119 := Tryd.sizeOf172
  t138 := Tryd.underlying174
  a138 := Tryd.isAgg174
  z138 := Tryd.sizeOf174
  v138 := Tryd.zeroValue174
  t139 := Tryd.underlying175
  a139 := Tryd.isAgg175
  z139 := Tryd.sizeOf175
  v139 := Tryd.zeroValue175
  g3 := by kernel_rfl
  g4 := by kernel_rfl }
open Go.RowKit Go.Lib in
theorem Tryd.utf8_decodeRuneInStringSlow (s : ByteArray) (w : World) (hT : Lib.Utf8Tabs 4 5 w) :
    Calls Tryd.prog 138 #[.string s] w fun e w' => e = .returned (.tuple #[.int .i32 (Lib.decodeGo s).1, .int .i64 (Lib.decodeGo s).2]) ∧ Below w.heap.size w w' := Any.utf8_decodeRuneInStringSlow Tryd.lays260 s w hT
open Go.RowKit Go.Lib in
theorem Tryd.strings_Trim (s cutset : ByteArray) (w : World) (hs : s.size ≤ 9223372036854775807) (hcs : cutset.size < 4294967281) (hascii : ∀ (j : Nat) b, cutset.data.toList[j]? = some b → b.toNat < 128) :
    Calls Tryd.prog 91 #[.string s, .string cutset] w fun e w' => e = .returned (.string ⟨(Lib.trimS s.data.toList cutset.data.toList).toArray⟩) ∧ Below w.heap.size w w' := Any.strings_Trim_laid Tryd.lays160 (by kernel_rfl) s cutset w hs hcs hascii
end Go.Proofs

-- written by a program of this session's (wip/pp)
namespace Go.Proofs.YteogadaloebdaaaDoor.P
open Go.RowKit Go.Proofs.YteogadaloebdaaaDoorW.PrintWords Go.Proofs.YteogadaloebdaaaDoorW.PrintLast Go.Proofs.YteogadaloebdaaaDoorW.PrintMore
attribute [local go_sem] max2_int min2_int max_two min_two max_three min_three max_four min_four str_geq str_gtr str_leq   -- for this text's walks alone
set_option linter.unusedVariables false
set_option linter.unusedSimpArgs false

/-! ### strings_Trim: function 91 -/
def strings_Trim.f (a0 a1 : ByteArray) : Option ByteArray := if a0.size ≤ 9223372036854775807 ∧ a1.size < 4294967281 ∧ (a1.data.toList.all fun b => decide (b.toNat < 128)) = true then some ⟨(Go.Lib.trimS a0.data.toList a1.data.toList).toArray⟩ else none
theorem strings_Trim.calls (a0 a1 : ByteArray) (r : ByteArray) (w : World) (h : strings_Trim.f a0 a1 = some r) :
 Calls Tryd.prog 91 #[.string a0, .string a1] w fun e w' => e = .returned (.string r) ∧ Below w.heap.size w w' := by
 unfold strings_Trim.f at h
 split at h
 · rename_i hb
   injection h with h
   subst h
   refine (Tryd.strings_Trim a0 a1 w hb.1 hb.2.1 (fun j b hj => ?_)).mono ?_
   · exact of_decide_eq_true (List.all_eq_true.1 hb.2.2 b (List.mem_of_getElem? hj))
   · rintro e w' ⟨rfl, hB⟩
     exact ⟨rfl, hB⟩
 · cases h

end Go.Proofs.YteogadaloebdaaaDoor.P

-- written by a program of this session's (wip/pp)
namespace Go.Proofs.YteogadaloebdaaaDoor.P
open Go.RowKit Go.Proofs.YteogadaloebdaaaDoorW.PrintWords Go.Proofs.YteogadaloebdaaaDoorW.PrintLast Go.Proofs.YteogadaloebdaaaDoorW.PrintMore
attribute [local go_sem] max2_int min2_int max_two min_two max_three min_three max_four min_four str_geq str_gtr str_leq   -- for this text's walks alone
set_option linter.unusedVariables false
set_option linter.unusedSimpArgs false

/-! ### impl_isName: function 68 -/
def impl_isName.f (a0 : ByteArray) : Option (Bool) := (impl_within.f (a0.size : Int) 1 12).bind fun t101 => (if t101 = true then ((strings_Trim.f a0 (⟨#[97, 98, 99, 100, 101, 102, 103, 104, 105, 106, 107, 108, 109, 110, 111, 112, 113, 114, 115, 116, 117, 118, 119, 120, 121, 122, 65, 66, 67, 68, 69, 70, 71, 72, 73, 74, 75, 76, 77, 78, 79, 80, 81, 82, 83, 84, 85, 86, 87, 88, 89, 90]⟩ : ByteArray)).bind fun t102 => (some (t102.toList == ([] : List UInt8)))) else (some false))
set_option maxHeartbeats 8000000 in
set_option maxRecDepth 100000 in
theorem impl_isName.calls (a0 : ByteArray) (r : Bool) (w : World) (h : impl_isName.f a0 = some r) :
 Calls Tryd.prog 68 #[.string a0] w fun e w' => e = .returned (.bool r) ∧ Below w.heap.size w w' := by
 have HB := aM (Below.refl w.heap.size w)
 have H : ((impl_within.f (a0.size : Int) 1 12).bind fun t101 => (if t101 = true then ((strings_Trim.f a0 (⟨#[97, 98, 99, 100, 101, 102, 103, 104, 105, 106, 107, 108, 109, 110, 111, 112, 113, 114, 115, 116, 117, 118, 119, 120, 121, 122, 65, 66, 67, 68, 69, 70, 71, 72, 73, 74, 75, 76, 77, 78, 79, 80, 81, 82, 83, 84, 85, 86, 87, 88, 89, 90]⟩ : ByteArray)).bind fun t102 => (some (t102.toList == ([] : List UInt8)))) else (some false))) = some r := h
 clear h
 replace H := Option.bind_eq_some_iff.mp H
 obtain ⟨t101, A20, H⟩ := H
 try dsimp only at H
 have A2 := aM A20
 clear A20
 by_cases c3 : t101 = true
 · subst c3
   have H1 : ((strings_Trim.f a0 (⟨#[97, 98, 99, 100, 101, 102, 103, 104, 105, 106, 107, 108, 109, 110, 111, 112, 113, 114, 115, 116, 117, 118, 119, 120, 121, 122, 65, 66, 67, 68, 69, 70, 71, 72, 73, 74, 75, 76, 77, 78, 79, 80, 81, 82, 83, 84, 85, 86, 87, 88, 89, 90]⟩ : ByteArray)).bind fun t102 => (some (t102.toList == ([] : List UInt8)))) = some r := by rw [if_pos rfl] at H; exact H
   clear H
   have H := H1
   clear H1
   replace H := Option.bind_eq_some_iff.mp H
   obtain ⟨t102, A40, H⟩ := H
   try dsimp only at H
   have A4 := aM A40
   clear A40
   obtain rfl := Option.some.inj H
   go_enter Tryd.func68, Tryd.ntmps68
   go_wp2_with (first | ((with_reducible refine gate_callee (f := 61) rfl ?_); refine goesL_ (some 5) rfl rfl Tryd.func61 (by kernel_rfl) rfl #[.int .i64 (a0.size : Int), .int .i64 1, .int .i64 12] rfl zee81 ?_; (with_reducible refine (impl_within.calls (a0.size : Int) 1 12 true _ A2.out).mono ?_); rintro e w' ⟨rfl, ⟨nd, rfl⟩⟩; refine ⟨_, rfl, ?_⟩) | (go_at_call 91; (with_reducible refine (strings_Trim.calls a0 (⟨#[97, 98, 99, 100, 101, 102, 103, 104, 105, 106, 107, 108, 109, 110, 111, 112, 113, 114, 115, 116, 117, 118, 119, 120, 121, 122, 65, 66, 67, 68, 69, 70, 71, 72, 73, 74, 75, 76, 77, 78, 79, 80, 81, 82, 83, 84, 85, 86, 87, 88, 89, 90]⟩ : ByteArray) t102 _ A4.out).mono ?_); rintro e w5 ⟨rfl, hb⟩; have _ := aM (below_step hbZ hb); clear HB; rename_i HB; (try clear hb)))
   go_ret
   exact ⟨z674d, z5acd⟩
 · replace c3 := Bool.eq_false_iff.mpr c3
   subst c3
   have H1 : (some false) = some r := by rw [if_neg (show ¬ (false = true) by decide)] at H; exact H
   clear H
   have H := H1
   clear H1
   obtain rfl := Option.some.inj H
   go_enter Tryd.func68, Tryd.ntmps68
   go_wp2_with (first | ((with_reducible refine gate_callee (f := 61) rfl ?_); refine goesL_ (some 5) rfl rfl Tryd.func61 (by kernel_rfl) rfl #[.int .i64 (a0.size : Int), .int .i64 1, .int .i64 12] rfl zee81 ?_; (with_reducible refine (impl_within.calls (a0.size : Int) 1 12 false _ A2.out).mono ?_); rintro e w' ⟨rfl, ⟨nd, rfl⟩⟩; refine ⟨_, rfl, ?_⟩))
   go_ret
   exact ⟨z674d, z5acd⟩

end Go.Proofs.YteogadaloebdaaaDoor.P
