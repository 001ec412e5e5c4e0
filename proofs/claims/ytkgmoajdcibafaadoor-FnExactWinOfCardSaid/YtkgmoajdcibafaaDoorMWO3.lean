/- Part 3 of the walks and words that WO uses. No conditions of its own. -/
import Derived.Shelf.Strings.SlTrimAscii
import Derived.Shelf.Strings.Trim
import Derived.Shelf.Small.Utf8
import Derived.Shelf.Small.Strs
import Derived.Shelf.Strings.Search1
import Derived.Shelf.Strings.Runes
import Derived.Shelf.Strings.AsciiSet
import Derived.Shelf.Unicode.DecodeSlow
import Derived.Test.YtkgmoajdcibafaaDoorProg
import Derived.Lib.SlTrimSet
import Derived.Test.YtkgmoajdcibafaaDoorMWO2

-- written by a program of this session's (wip/pp)
namespace Go.Proofs.YtkgmoajdcibafaaDoor.P
open Go.RowKit Go.Proofs.YtkgmoajdcibafaaDoorW.PrintWords Go.Proofs.YtkgmoajdcibafaaDoorW.PrintLast Go.Proofs.YtkgmoajdcibafaaDoorW.PrintMore
attribute [local go_sem] max2_int min2_int max_two min_two max_three min_three max_four min_four str_geq str_gtr str_leq   -- for this text's walks alone
set_option linter.unusedVariables false
set_option linter.unusedSimpArgs false

/-! ### spec_GoodBoard: function 40 -/
mutual
def spec_GoodBoard.j0 : Nat → Bool → Int → Int → Int → List (S37) → Option (Bool)
 | 0, _, _, _, _, _ => none
 | k + 1, x26, x102000, x102001, x102002, x102003 => if x26 = true then (some false) else (spec_GoodBoard.l0 k x102003 (x102003.length : Int) 0 x102000 x102001 x102002 x102003)
def spec_GoodBoard.l0 : Nat → List (S37) → Int → Int → Int → Int → Int → List (S37) → Option (Bool)
 | 0, _, _, _, _, _, _, _ => none
 | k + 1, x28, x29, x30, x102000, x102001, x102002, x102003 => if x30 < x29 then (if 0 ≤ x30 then (if x30 < (x28.length : Int) then ((spec_GoodKey.f k ((rd_T37 x28 x30).f0.f0) ((rd_T37 x28 x30).f0.f1) ((rd_T37 x28 x30).f0.f2)).bind fun t107 => (if t107 = true then (if x102000 = 0 then (none) else (if (Int.tmod ((rd_T37 x28 x30).f0.f2) x102000) = 0 then ((spec_GoodAgg.f k ((rd_T37 x28 x30).f1.f0) ((rd_T37 x28 x30).f1.f1) ((rd_T37 x28 x30).f1.f2) ((rd_T37 x28 x30).f1.f3) ((rd_T37 x28 x30).f1.f4) ((rd_T37 x28 x30).f1.f5)).bind fun t108 => (if t108 = true then (if ((rd_T37 x28 x30).f1.f0) = 0 then (spec_GoodBoard.j2 k x30 x28 x29 x30 true x102000 x102001 x102002 x102003 ((rd_T37 x28 x30).f0.f0) ((rd_T37 x28 x30).f0.f1) ((rd_T37 x28 x30).f0.f2) ((rd_T37 x28 x30).f1.f0) ((rd_T37 x28 x30).f1.f1) ((rd_T37 x28 x30).f1.f2) ((rd_T37 x28 x30).f1.f3) ((rd_T37 x28 x30).f1.f4) ((rd_T37 x28 x30).f1.f5) ((rd_T37 x28 x30).f2) ((rd_T37 x28 x30).f3)) else ((spec_l1In.f ((rd_T37 x28 x30).f2) 0 1000000).bind fun t109 => (if t109 = true then (if ((rd_T37 x28 x30).f2) = 0 then (spec_GoodBoard.j2 k x30 x28 x29 x30 (!((rd_T37 x28 x30).f3)) x102000 x102001 x102002 x102003 ((rd_T37 x28 x30).f0.f0) ((rd_T37 x28 x30).f0.f1) ((rd_T37 x28 x30).f0.f2) ((rd_T37 x28 x30).f1.f0) ((rd_T37 x28 x30).f1.f1) ((rd_T37 x28 x30).f1.f2) ((rd_T37 x28 x30).f1.f3) ((rd_T37 x28 x30).f1.f4) ((rd_T37 x28 x30).f1.f5) ((rd_T37 x28 x30).f2) ((rd_T37 x28 x30).f3)) else (spec_GoodBoard.j2 k x30 x28 x29 x30 false x102000 x102001 x102002 x102003 ((rd_T37 x28 x30).f0.f0) ((rd_T37 x28 x30).f0.f1) ((rd_T37 x28 x30).f0.f2) ((rd_T37 x28 x30).f1.f0) ((rd_T37 x28 x30).f1.f1) ((rd_T37 x28 x30).f1.f2) ((rd_T37 x28 x30).f1.f3) ((rd_T37 x28 x30).f1.f4) ((rd_T37 x28 x30).f1.f5) ((rd_T37 x28 x30).f2) ((rd_T37 x28 x30).f3))) else (spec_GoodBoard.j2 k x30 x28 x29 x30 true x102000 x102001 x102002 x102003 ((rd_T37 x28 x30).f0.f0) ((rd_T37 x28 x30).f0.f1) ((rd_T37 x28 x30).f0.f2) ((rd_T37 x28 x30).f1.f0) ((rd_T37 x28 x30).f1.f1) ((rd_T37 x28 x30).f1.f2) ((rd_T37 x28 x30).f1.f3) ((rd_T37 x28 x30).f1.f4) ((rd_T37 x28 x30).f1.f5) ((rd_T37 x28 x30).f2) ((rd_T37 x28 x30).f3))))) else (spec_GoodBoard.j2 k x30 x28 x29 x30 true x102000 x102001 x102002 x102003 ((rd_T37 x28 x30).f0.f0) ((rd_T37 x28 x30).f0.f1) ((rd_T37 x28 x30).f0.f2) ((rd_T37 x28 x30).f1.f0) ((rd_T37 x28 x30).f1.f1) ((rd_T37 x28 x30).f1.f2) ((rd_T37 x28 x30).f1.f3) ((rd_T37 x28 x30).f1.f4) ((rd_T37 x28 x30).f1.f5) ((rd_T37 x28 x30).f2) ((rd_T37 x28 x30).f3)))) else (spec_GoodBoard.j2 k x30 x28 x29 x30 true x102000 x102001 x102002 x102003 ((rd_T37 x28 x30).f0.f0) ((rd_T37 x28 x30).f0.f1) ((rd_T37 x28 x30).f0.f2) ((rd_T37 x28 x30).f1.f0) ((rd_T37 x28 x30).f1.f1) ((rd_T37 x28 x30).f1.f2) ((rd_T37 x28 x30).f1.f3) ((rd_T37 x28 x30).f1.f4) ((rd_T37 x28 x30).f1.f5) ((rd_T37 x28 x30).f2) ((rd_T37 x28 x30).f3)))) else (spec_GoodBoard.j2 k x30 x28 x29 x30 true x102000 x102001 x102002 x102003 ((rd_T37 x28 x30).f0.f0) ((rd_T37 x28 x30).f0.f1) ((rd_T37 x28 x30).f0.f2) ((rd_T37 x28 x30).f1.f0) ((rd_T37 x28 x30).f1.f1) ((rd_T37 x28 x30).f1.f2) ((rd_T37 x28 x30).f1.f3) ((rd_T37 x28 x30).f1.f4) ((rd_T37 x28 x30).f1.f5) ((rd_T37 x28 x30).f2) ((rd_T37 x28 x30).f3)))) else (none)) else (none)) else (some true)
def spec_GoodBoard.j2 : Nat → Int → List (S37) → Int → Int → Bool → Int → Int → Int → List (S37) → ByteArray → List (S123) → Int → Int → Int → Int → Int → List Int → Bool → Int → Bool → Option (Bool)
 | 0, _, _, _, _, _, _, _, _, _, _, _, _, _, _, _, _, _, _, _, _ => none
 | k + 1, x3, x28, x29, x30, x75, x102000, x102001, x102002, x102003, x107000, x107001, x107002, x107003, x107004, x107005, x107006, x107007, x107008, x107009, x107010 => if x75 = true then (some false) else (if x3 > 0 then (if 0 ≤ (wrap64 (x3 - 1)) then (if (wrap64 (x3 - 1)) < (x102003.length : Int) then ((spec_l1Compare.f k ((rd_T37 x102003 (wrap64 (x3 - 1))).f0.f0) ((rd_T37 x102003 (wrap64 (x3 - 1))).f0.f1) ((rd_T37 x102003 (wrap64 (x3 - 1))).f0.f2) x107000 x107001 x107002).bind fun t111 => (if t111 ≥ 0 then (some false) else (spec_GoodBoard.l0 k x28 x29 (wrap64 (x30 + 1)) x102000 x102001 x102002 x102003))) else (none)) else (none)) else (spec_GoodBoard.l0 k x28 x29 (wrap64 (x30 + 1)) x102000 x102001 x102002 x102003))
end
def spec_GoodBoard.f (k : Nat) (a0_0 : Int) (a0_1 : Int) (a0_2 : Int) (l0_3 : List (S37)) : Option (Bool) := (spec_l1In.f a0_0 1 100000).bind fun t102 => (if t102 = true then ((spec_l1In.f a0_1 0 1000000).bind fun t103 => (if t103 = true then ((spec_l11Time.f a0_2).bind fun t104 => (if t104 = true then (spec_GoodBoard.j0 k (decide ((l0_3.length : Int) > 40)) a0_0 a0_1 a0_2 l0_3) else (spec_GoodBoard.j0 k true a0_0 a0_1 a0_2 l0_3))) else (spec_GoodBoard.j0 k true a0_0 a0_1 a0_2 l0_3))) else (spec_GoodBoard.j0 k true a0_0 a0_1 a0_2 l0_3))
theorem spec_GoodBoard.mono_l : ∀ k, (∀ y0 y1 y2 y3 y4, LeO (spec_GoodBoard.j0 k y0 y1 y2 y3 y4) (spec_GoodBoard.j0 (k + 1) y0 y1 y2 y3 y4)) ∧ (∀ y0 y1 y2 y3 y4 y5 y6, LeO (spec_GoodBoard.l0 k y0 y1 y2 y3 y4 y5 y6) (spec_GoodBoard.l0 (k + 1) y0 y1 y2 y3 y4 y5 y6)) ∧ (∀ y0 y1 y2 y3 y4 y5 y6 y7 y8 y9 y10 y11 y12 y13 y14 y15 y16 y17 y18 y19, LeO (spec_GoodBoard.j2 k y0 y1 y2 y3 y4 y5 y6 y7 y8 y9 y10 y11 y12 y13 y14 y15 y16 y17 y18 y19) (spec_GoodBoard.j2 (k + 1) y0 y1 y2 y3 y4 y5 y6 y7 y8 y9 y10 y11 y12 y13 y14 y15 y16 y17 y18 y19))
 | 0 => ⟨fun _ _ _ _ _ r h => by simp [spec_GoodBoard.j0] at h, fun _ _ _ _ _ _ _ r h => by simp [spec_GoodBoard.l0] at h, fun _ _ _ _ _ _ _ _ _ _ _ _ _ _ _ _ _ _ _ _ r h => by simp [spec_GoodBoard.j2] at h⟩
 | k + 1 => by
  obtain ⟨ih0, ih1, ih2⟩ := spec_GoodBoard.mono_l k; have m0 := @spec_GoodAgg.mono; have m1 := @spec_GoodKey.mono; have m2 := @spec_l1Compare.mono
  refine ⟨?_, ?_, ?_⟩
  · intro y0 y1 y2 y3 y4
    unfold spec_GoodBoard.j0
    exact moZ
  · intro y0 y1 y2 y3 y4 y5 y6
    unfold spec_GoodBoard.l0
    exact moZ
  · intro y0 y1 y2 y3 y4 y5 y6 y7 y8 y9 y10 y11 y12 y13 y14 y15 y16 y17 y18 y19
    unfold spec_GoodBoard.j2
    exact moZ
theorem spec_GoodBoard.mono : ∀ a0 a1 a2 a3 k, LeO (spec_GoodBoard.f k a0 a1 a2 a3) (spec_GoodBoard.f (k + 1) a0 a1 a2 a3) := by
 intro a0 a1 a2 a3 k
 obtain ⟨ih0, ih1, ih2⟩ := spec_GoodBoard.mono_l k
 have m0 := @spec_GoodAgg.mono; have m1 := @spec_GoodKey.mono; have m2 := @spec_l1Compare.mono
 unfold spec_GoodBoard.f
 exact moZ
def spec_GoodBoard.T8 : Bool × List (List Nat × List Nat) := (true, [([], []), ([0], [0]), ([1], [1]), ([2], [2]), ([3, 2], [2, 3]), ([2], [2]), ([5, 2], [2, 5]), ([4, 6, 2], [2, 4, 6]), ([7, 2], [2, 7]), ([8, 2], [2, 8]), ([2], [2]), ([10, 2], [2, 10]), ([9, 11, 2, 2], [2, 9, 11]), ([12, 2], [2, 12]), ([2, 13], [2, 13])])
def spec_GoodBoard.B8 : List Nat := [0, 1, 3, 7, 15, 7, 39, 127, 255, 511, 7, 1031, 4095, 8191, 16383]
theorem spec_GoodBoard.tab8 : rtab .any (opsOf Tryd.f40 8) = spec_GoodBoard.T8 := by kernel_rfl
theorem spec_GoodBoard.bits8 : waitsOk spec_GoodBoard.T8.2 spec_GoodBoard.B8 = true := by kernel_rfl
set_option maxHeartbeats 8000000 in
set_option maxRecDepth 100000 in
theorem spec_GoodBoard.calls (k : Nat) (a0_0 : Int) (a0_1 : Int) (a0_2 : Int) (A0_3 : Option Addr) (c0_3 : Nat) (l0_3 : List (S37)) (r : Bool) (w : World) (hr0_3 : Kd.C k37 w A0_3 l0_3.length l0_3) (hc0_3 : l0_3.length ≤ c0_3) (h : spec_GoodBoard.f k a0_0 a0_1 a0_2 l0_3 = some r) :
 Calls Tryd.prog 40 #[.agg #[.int .i64 a0_0, .int .i64 a0_1, .int .i64 a0_2, .slice A0_3 l0_3.length c0_3]] w fun e w' => e = .returned (.bool r) ∧ Below w.heap.size w w' := by
 have hu42 := Tryd.underlying42
 have hu37 := Tryd.underlying37
 have hu32 := Tryd.underlying32
 have hu35 := Tryd.underlying35
 have HR0_3 := aM hr0_3
 have HC0_3 := aM hc0_3
 clear hr0_3 hc0_3
 have HB := aM (Below.refl w.heap.size w)
 have H : ((spec_l1In.f a0_0 1 100000).bind fun t102 => (if t102 = true then ((spec_l1In.f a0_1 0 1000000).bind fun t103 => (if t103 = true then ((spec_l11Time.f a0_2).bind fun t104 => (if t104 = true then (spec_GoodBoard.j0 k (decide ((l0_3.length : Int) > 40)) a0_0 a0_1 a0_2 l0_3) else (spec_GoodBoard.j0 k true a0_0 a0_1 a0_2 l0_3))) else (spec_GoodBoard.j0 k true a0_0 a0_1 a0_2 l0_3))) else (spec_GoodBoard.j0 k true a0_0 a0_1 a0_2 l0_3))) = some r := h
 clear h
 have HC2 := aM H
 clear H
 go_enter Tryd.func40, Tryd.ntmps40
 go_upto_region 1 with (first | ((with_reducible refine gate_dst (N := 1) rfl ?_); (try (refine gate_guard (by rfl) ?_; dsimp only)); refine bX 1 42 #[.int .i64 a0_0, .int .i64 a0_1, .int .i64 a0_2, .slice A0_3 l0_3.length c0_3] ?_; intro gb101 hg w3 hbox hb; have _ := aM (below_step hbZ hb); have _ := aM hbox; have _ := szZ hg; have _ := szZ hg; clear HB; rename_i HB BK101 GW101 GE101; clear hb hbox hg))
 (try simp only [Act.put, List.setIfInBounds_toArray, List.set_cons_zero, List.set_cons_succ])
 go_cut [26] (fun v26 wc => ∃ (kq : Nat) (x26_1 : Bool), v26 = .bool x26_1 ∧ Aside0 (spec_GoodBoard.j0 kq x26_1 a0_0 a0_1 a0_2 l0_3 = some r) ∧ Aside0 (kq ≤ k) ∧ Aside0 (wc.heap[gb101]? = some (.cells #[.int .i64 a0_0, .int .i64 a0_1, .int .i64 a0_2, (.slice A0_3 l0_3.length c0_3)] 42 (0, 0))) ∧ Aside0 (Below w.heap.size w wc))
 case first =>
  have H := HC2.out
  clear HC2
  obtain ⟨t102, A4, H⟩ := bS H; try dsimp only at H
  by_cases c5 : t102 = true
  · subst c5
    rw [if_pos rfl] at H
    obtain ⟨t103, A6, H⟩ := bS H; try dsimp only at H
    by_cases c7 : t103 = true
    · subst c7
      rw [if_pos rfl] at H
      obtain ⟨t104, A8, H⟩ := bS H; try dsimp only at H
      by_cases c9 : t104 = true
      · subst c9
        rw [if_pos rfl] at H
        have H' := aM H
        clear H
        have hz10 := cellsZ4 BK101.out
        go_wp2_with (first | ((with_reducible refine gate_callee (f := 84) rfl ?_); refine gL 7 Tryd.func84 #[.int .i64 a0_0, .int .i64 1, .int .i64 100000] ?_; (with_reducible refine (spec_l1In.calls a0_0 1 100000 true _ A4.out).mono ?_); rintro e w' ⟨rfl, ⟨nd, rfl⟩⟩; refine ⟨_, rfl, ?_⟩) | (go_at_call 84; (with_reducible refine (spec_l1In.calls a0_1 0 1000000 true _ A6.out).mono ?_); rintro e w' ⟨rfl, ⟨nd, rfl⟩⟩) | (go_at_call 58; (with_reducible refine (spec_l11Time.calls a0_2 true _ A8.out).mono ?_); rintro e w' ⟨rfl, ⟨nd, rfl⟩⟩))
        go_meet
        case rel => exact ⟨_, (decide ((l0_3.length : Int) > 40)), z4458, H', ⟨zb79b⟩, ⟨bkZ⟩, ⟨zcb41⟩⟩
      · replace c9 := Bool.eq_false_iff.mpr c9
        subst c9
        rw [if_neg (show ¬ (false = true) by decide)] at H
        have H' := aM H
        clear H
        have hz11 := cellsZ4 BK101.out
        go_wp2_with (first | ((with_reducible refine gate_callee (f := 84) rfl ?_); refine gL 7 Tryd.func84 #[.int .i64 a0_0, .int .i64 1, .int .i64 100000] ?_; (with_reducible refine (spec_l1In.calls a0_0 1 100000 true _ A4.out).mono ?_); rintro e w' ⟨rfl, ⟨nd, rfl⟩⟩; refine ⟨_, rfl, ?_⟩) | (go_at_call 84; (with_reducible refine (spec_l1In.calls a0_1 0 1000000 true _ A6.out).mono ?_); rintro e w' ⟨rfl, ⟨nd, rfl⟩⟩) | (go_at_call 58; (with_reducible refine (spec_l11Time.calls a0_2 false _ A8.out).mono ?_); rintro e w' ⟨rfl, ⟨nd, rfl⟩⟩))
        go_meet
        case rel => exact ⟨_, (true), z4458, H', ⟨zb79b⟩, ⟨bkZ⟩, ⟨zcb41⟩⟩
    · replace c7 := Bool.eq_false_iff.mpr c7
      subst c7
      rw [if_neg (show ¬ (false = true) by decide)] at H
      have H' := aM H
      clear H
      have hz12 := cellsZ4 BK101.out
      go_wp2_with (first | ((with_reducible refine gate_callee (f := 84) rfl ?_); refine gL 7 Tryd.func84 #[.int .i64 a0_0, .int .i64 1, .int .i64 100000] ?_; (with_reducible refine (spec_l1In.calls a0_0 1 100000 true _ A4.out).mono ?_); rintro e w' ⟨rfl, ⟨nd, rfl⟩⟩; refine ⟨_, rfl, ?_⟩) | (go_at_call 84; (with_reducible refine (spec_l1In.calls a0_1 0 1000000 false _ A6.out).mono ?_); rintro e w' ⟨rfl, ⟨nd, rfl⟩⟩))
      go_meet
      case rel => exact ⟨_, (true), z4458, H', ⟨zb79b⟩, ⟨bkZ⟩, ⟨zcb41⟩⟩
  · replace c5 := Bool.eq_false_iff.mpr c5
    subst c5
    rw [if_neg (show ¬ (false = true) by decide)] at H
    have H' := aM H
    clear H
    have hz13 := cellsZ4 BK101.out
    go_wp2_with (first | ((with_reducible refine gate_callee (f := 84) rfl ?_); refine gL 7 Tryd.func84 #[.int .i64 a0_0, .int .i64 1, .int .i64 100000] ?_; (with_reducible refine (spec_l1In.calls a0_0 1 100000 false _ A4.out).mono ?_); rintro e w' ⟨rfl, ⟨nd, rfl⟩⟩; refine ⟨_, rfl, ?_⟩))
    go_meet
    case rel => exact ⟨_, (true), z4458, H', ⟨zb79b⟩, ⟨bkZ⟩, ⟨zcb41⟩⟩
 case rest =>
  clear HC2
  obtain ⟨kq, x26_1, rfl, HA, HJ1, BK101, HB⟩ := hcut
  cases kq with
  | zero => exact absurd HA.out (by simp [spec_GoodBoard.j0])
  | succ kj1 =>
   have H := HA.out
   clear HA
   simp only [spec_GoodBoard.j0] at H
   by_cases c14 : x26_1 = true
   · subst c14
     rw [if_pos rfl] at H
     obtain rfl := Option.some.inj H
     go_wp2
     go_ret
     exact ⟨z674d, zcb41⟩
   · replace c14 := Bool.eq_false_iff.mpr c14
     subst c14
     rw [if_neg (show ¬ (false = true) by decide)] at H
     have H' := aM H
     clear H
     have hz15 := cellsZ4 BK101.out
     go_wp2
     go_loopg [30] kj1 (fun kq v30 w' => ∃ (x30_2 : Int), v30 = .int .i64 x30_2 ∧ Aside0 (spec_GoodBoard.l0 kq l0_3 (l0_3.length : Int) x30_2 a0_0 a0_1 a0_2 l0_3 = some r) ∧ Aside0 (kq ≤ kj1) ∧ Aside0 (w'.heap[gb101]? = some (.cells #[.int .i64 a0_0, .int .i64 a0_1, .int .i64 a0_2, (.slice A0_3 l0_3.length c0_3)] 42 (0, 0))) ∧ Aside0 (Below w.heap.size w w'))
     case atStart => exact ⟨(0), z4458, H', ⟨Nat.le_refl _⟩, ⟨bkZ⟩, ⟨zcb41⟩⟩
     case round =>
      clear H'
      (try clear c14); (try clear hz15)
      obtain ⟨x30_2, rfl, HA, HK2, BK101, HB⟩ := hrel
      cases gk with
      | zero => exact absurd HA.out (by simp [spec_GoodBoard.l0])
      | succ k2 =>
       have H := HA.out
       clear HA
       simp only [spec_GoodBoard.l0] at H
       by_cases c16 : x30_2 < (l0_3.length : Int)
       · rw [if_pos c16] at H
         have c16b0 := dL c16
         clear c16
         obtain ⟨c17b0, H⟩ := sE H
         obtain ⟨c18b0, H⟩ := sL H
         have HC19 := aM H
         clear H
         have p105 : 0 ≤ (x30_2 : Int) := of_decide_eq_true z1200
         have q105 : x30_2 < (l0_3.length : Int) := of_decide_eq_true z1200
         obtain ⟨ad105, A105_1, c105_1, A105_7, c105_7, e105, hx105_0, hx105_1, hx105_2, hx105_3, hx105_4, hx105_5, hx105_6, hx105_7, hx105_8, hx105_9, hx105_10, hl105_1, hi105_1, hl105_7, hi105_7⟩ := at_T37 HR0_3.out x30_2 p105 q105
         cases e105
         have TW105_1 := aM hx105_1
         have TW105_7 := aM hx105_7
         replace hx105_0 := (HB.out.cell (World.block_lt_of_cell? w _ hx105_0)).trans hx105_0
         replace hx105_1 := (HB.out.cell (World.block_lt_of_cell? w _ hx105_1)).trans hx105_1
         replace hx105_2 := (HB.out.cell (World.block_lt_of_cell? w _ hx105_2)).trans hx105_2
         replace hx105_3 := (HB.out.cell (World.block_lt_of_cell? w _ hx105_3)).trans hx105_3
         replace hx105_4 := (HB.out.cell (World.block_lt_of_cell? w _ hx105_4)).trans hx105_4
         replace hx105_5 := (HB.out.cell (World.block_lt_of_cell? w _ hx105_5)).trans hx105_5
         replace hx105_6 := (HB.out.cell (World.block_lt_of_cell? w _ hx105_6)).trans hx105_6
         replace hx105_7 := (HB.out.cell (World.block_lt_of_cell? w _ hx105_7)).trans hx105_7
         replace hx105_8 := (HB.out.cell (World.block_lt_of_cell? w _ hx105_8)).trans hx105_8
         replace hx105_9 := (HB.out.cell (World.block_lt_of_cell? w _ hx105_9)).trans hx105_9
         replace hx105_10 := (HB.out.cell (World.block_lt_of_cell? w _ hx105_10)).trans hx105_10
         have HR105_1 := aM hi105_1
         have HC105_1 := aM hl105_1
         clear hi105_1 hl105_1
         have HR105_7 := aM hi105_7
         have HC105_7 := aM hl105_7
         clear hi105_7 hl105_7
         replace p105 := eq_true p105
         replace q105 := eq_true q105
         go_upto_region 6 with (first | ((with_reducible refine gate_dst (N := 4) rfl ?_); (try (refine gate_guard (by rfl) ?_; dsimp only)); refine bX 4 37 #[.string (⟨#[]⟩ : ByteArray), .slice none 0 0, .int .i64 0, .int .i64 0, .int .i64 0, .int .i64 0, .int .i64 0, .slice none 0 0, .bool false, .int .i64 0, .bool false] ?_; intro gb106 hg w20 hbox hb; have _ := bB gb101 hb; have _ := aM (below_step hbZ hb); have _ := aM hbox; have _ := szZ hg; have _ := szZ hg; have ⟨_, _⟩ := nbB gb101 hg; clear BK101 HB; rename_i BK101 HB BK106 GW106 GE106 NB101_106 NB106_101; clear hb hbox hg; have hnb21 := NB106_101.out; have hnc21 := NB101_106.out; have hz22 := cellsZ11 BK106.out))
         (try simp only [Act.put, List.setIfInBounds_toArray, List.set_cons_zero, List.set_cons_succ])
         go_cut [75] (fun v75 wc => ∃ (kq : Nat) (x75_18 : Bool), v75 = .bool x75_18 ∧ Aside0 (spec_GoodBoard.j2 kq x30_2 l0_3 (l0_3.length : Int) x30_2 x75_18 a0_0 a0_1 a0_2 l0_3 ((rd_T37 l0_3 x30_2).f0.f0) ((rd_T37 l0_3 x30_2).f0.f1) ((rd_T37 l0_3 x30_2).f0.f2) ((rd_T37 l0_3 x30_2).f1.f0) ((rd_T37 l0_3 x30_2).f1.f1) ((rd_T37 l0_3 x30_2).f1.f2) ((rd_T37 l0_3 x30_2).f1.f3) ((rd_T37 l0_3 x30_2).f1.f4) ((rd_T37 l0_3 x30_2).f1.f5) ((rd_T37 l0_3 x30_2).f2) ((rd_T37 l0_3 x30_2).f3) = some r) ∧ Aside0 (kq ≤ k2) ∧ Aside0 (wc.heap[gb101]? = some (.cells #[.int .i64 a0_0, .int .i64 a0_1, .int .i64 a0_2, (.slice (some ad105) l0_3.length c0_3)] 42 (0, 0))) ∧ Aside0 (wc.heap[gb106]? = some (.cells #[.string ((rd_T37 l0_3 x30_2).f0.f0), (.slice A105_1 ((rd_T37 l0_3 x30_2).f0.f1).length c105_1), .int .i64 ((rd_T37 l0_3 x30_2).f0.f2), .int .i64 ((rd_T37 l0_3 x30_2).f1.f0), .int .i64 ((rd_T37 l0_3 x30_2).f1.f1), .int .i64 ((rd_T37 l0_3 x30_2).f1.f2), .int .i64 ((rd_T37 l0_3 x30_2).f1.f3), (.slice A105_7 ((rd_T37 l0_3 x30_2).f1.f4).length c105_7), .bool ((rd_T37 l0_3 x30_2).f1.f5), .int .i64 ((rd_T37 l0_3 x30_2).f2), .bool ((rd_T37 l0_3 x30_2).f3)] 37 (0, 0))) ∧ Aside0 (Below w.heap.size w wc))
         case first =>
          have H := HC19.out
          clear HC19
          obtain ⟨t107, A23, H⟩ := bS H; try dsimp only at H
          by_cases c24 : t107 = true
          · subst c24
            rw [if_pos rfl] at H
            replace H := ifN H; obtain ⟨c25, H⟩ := H
            have c25b0 : (a0_0 == 0) = false := beq_eq_false_iff_ne.mpr c25
            have c25b1 : (a0_0 != 0) = true := bne_iff_ne.mpr c25
            (first | rw [c25b0] | (simp only [i64_w, i32_w]; rw [c25b0]) | skip)
            by_cases c26 : (Int.tmod ((rd_T37 l0_3 x30_2).f0.f2) a0_0) = 0
            · rw [if_pos c26] at H
              have c26b0 : ((Int.tmod ((rd_T37 l0_3 x30_2).f0.f2) a0_0) == 0) = true := beq_iff_eq.mpr c26
              have c26b1 : ((Int.tmod ((rd_T37 l0_3 x30_2).f0.f2) a0_0) != 0) = false := bne_eq_false_iff_eq.mpr c26
              clear c26
              obtain ⟨t108, A27, H⟩ := bS H; try dsimp only at H
              by_cases c28 : t108 = true
              · subst c28
                rw [if_pos rfl] at H
                by_cases c29 : ((rd_T37 l0_3 x30_2).f1.f0) = 0
                · rw [if_pos c29] at H
                  have c29b0 : (((rd_T37 l0_3 x30_2).f1.f0) == 0) = true := beq_iff_eq.mpr c29
                  have c29b1 : (((rd_T37 l0_3 x30_2).f1.f0) != 0) = false := bne_eq_false_iff_eq.mpr c29
                  clear c29
                  have H' := aM H
                  clear H
                  have hnb30 := NB106_101.out
                  have hnc30 := NB101_106.out
                  have hz31 := cellsZ11 BK106.out
                  go_wp2_with (first | ((with_reducible refine gate_callee (f := 41) rfl ?_); refine gL 37 Tryd.func41 #[.agg #[.string ((rd_T37 l0_3 x30_2).f0.f0), .slice A105_1 ((rd_T37 l0_3 x30_2).f0.f1).length c105_1, .int .i64 ((rd_T37 l0_3 x30_2).f0.f2)]] ?_; (with_reducible refine (spec_GoodKey.calls k2 ((rd_T37 l0_3 x30_2).f0.f0) _ _ ((rd_T37 l0_3 x30_2).f0.f1) ((rd_T37 l0_3 x30_2).f0.f2) true _ ?side1 ?side2 A23.out).mono ?_); (case side1 => exact Kd.C_below HR105_1.out hbZ); (case side2 => exact HC105_1.out); rintro e w32 ⟨rfl, hb⟩; refine ⟨_, rfl, ?_⟩; have _ := bB gb101 hb; have _ := aM (blk_below (g := gb106) (o := .cells #[.string ((rd_T37 l0_3 x30_2).f0.f0), .slice A105_1 ((rd_T37 l0_3 x30_2).f0.f1).length c105_1, .int .i64 ((rd_T37 l0_3 x30_2).f0.f2), .int .i64 ((rd_T37 l0_3 x30_2).f1.f0), .int .i64 ((rd_T37 l0_3 x30_2).f1.f1), .int .i64 ((rd_T37 l0_3 x30_2).f1.f2), .int .i64 ((rd_T37 l0_3 x30_2).f1.f3), .slice A105_7 ((rd_T37 l0_3 x30_2).f1.f4).length c105_7, .bool ((rd_T37 l0_3 x30_2).f1.f5), .int .i64 ((rd_T37 l0_3 x30_2).f2), .bool ((rd_T37 l0_3 x30_2).f3)] 37 (0, 0)) bkZ hb); have _ := aM (below_step hbZ hb); clear BK101 BK106 HB; rename_i BK101 BK106 HB; (try clear hb); have hz33 := cellsZ11 BK106.out; have hz34 := cellsZ4 BK101.out) | (go_at_call 85; (with_reducible refine (spec_GoodAgg.calls k2 ((rd_T37 l0_3 x30_2).f1.f0) ((rd_T37 l0_3 x30_2).f1.f1) ((rd_T37 l0_3 x30_2).f1.f2) ((rd_T37 l0_3 x30_2).f1.f3) _ _ ((rd_T37 l0_3 x30_2).f1.f4) ((rd_T37 l0_3 x30_2).f1.f5) true _ ?side1 ?side2 A27.out).mono ?_); (case side1 => exact (cZ (Kd.C_below HR105_7.out HB.out))); (case side2 => exact HC105_7.out); rintro e w35 ⟨rfl, hb⟩; have _ := bB gb101 hb; have _ := bB gb106 hb; have _ := aM (below_step hbZ hb); clear BK101 BK106 HB; rename_i BK101 BK106 HB; (try clear hb); have hz36 := cellsZ11 BK106.out))
                  go_meet
                  case rel => exact ⟨_, (true), z4458, H', ⟨zdc19⟩, ⟨bkZ⟩, ⟨bkZ⟩, ⟨zcb41⟩⟩
                · rw [if_neg c29] at H
                  have c29b0 := eqN c29
                  obtain ⟨t109, A37, H⟩ := bS H; try dsimp only at H
                  by_cases c38 : t109 = true
                  · subst c38
                    rw [if_pos rfl] at H
                    by_cases c39 : ((rd_T37 l0_3 x30_2).f2) = 0
                    · rw [if_pos c39] at H
                      have c39b0 : (((rd_T37 l0_3 x30_2).f2) == 0) = true := beq_iff_eq.mpr c39
                      have c39b1 : (((rd_T37 l0_3 x30_2).f2) != 0) = false := bne_eq_false_iff_eq.mpr c39
                      clear c39
                      have H' := aM H
                      clear H
                      have hnb40 := NB106_101.out
                      have hnc40 := NB101_106.out
                      have hz41 := cellsZ11 BK106.out
                      go_wp2_with (first | ((with_reducible refine gate_callee (f := 41) rfl ?_); refine gL 37 Tryd.func41 #[.agg #[.string ((rd_T37 l0_3 x30_2).f0.f0), .slice A105_1 ((rd_T37 l0_3 x30_2).f0.f1).length c105_1, .int .i64 ((rd_T37 l0_3 x30_2).f0.f2)]] ?_; (with_reducible refine (spec_GoodKey.calls k2 ((rd_T37 l0_3 x30_2).f0.f0) _ _ ((rd_T37 l0_3 x30_2).f0.f1) ((rd_T37 l0_3 x30_2).f0.f2) true _ ?side1 ?side2 A23.out).mono ?_); (case side1 => exact Kd.C_below HR105_1.out hbZ); (case side2 => exact HC105_1.out); rintro e w42 ⟨rfl, hb⟩; refine ⟨_, rfl, ?_⟩; have _ := bB gb101 hb; have _ := aM (blk_below (g := gb106) (o := .cells #[.string ((rd_T37 l0_3 x30_2).f0.f0), .slice A105_1 ((rd_T37 l0_3 x30_2).f0.f1).length c105_1, .int .i64 ((rd_T37 l0_3 x30_2).f0.f2), .int .i64 ((rd_T37 l0_3 x30_2).f1.f0), .int .i64 ((rd_T37 l0_3 x30_2).f1.f1), .int .i64 ((rd_T37 l0_3 x30_2).f1.f2), .int .i64 ((rd_T37 l0_3 x30_2).f1.f3), .slice A105_7 ((rd_T37 l0_3 x30_2).f1.f4).length c105_7, .bool ((rd_T37 l0_3 x30_2).f1.f5), .int .i64 ((rd_T37 l0_3 x30_2).f2), .bool ((rd_T37 l0_3 x30_2).f3)] 37 (0, 0)) bkZ hb); have _ := aM (below_step hbZ hb); clear BK101 BK106 HB; rename_i BK101 BK106 HB; (try clear hb); have hz43 := cellsZ11 BK106.out; have hz44 := cellsZ4 BK101.out) | (go_at_call 85; (with_reducible refine (spec_GoodAgg.calls k2 ((rd_T37 l0_3 x30_2).f1.f0) ((rd_T37 l0_3 x30_2).f1.f1) ((rd_T37 l0_3 x30_2).f1.f2) ((rd_T37 l0_3 x30_2).f1.f3) _ _ ((rd_T37 l0_3 x30_2).f1.f4) ((rd_T37 l0_3 x30_2).f1.f5) true _ ?side1 ?side2 A27.out).mono ?_); (case side1 => exact (cZ (Kd.C_below HR105_7.out HB.out))); (case side2 => exact HC105_7.out); rintro e w45 ⟨rfl, hb⟩; have _ := bB gb101 hb; have _ := bB gb106 hb; have _ := aM (below_step hbZ hb); clear BK101 BK106 HB; rename_i BK101 BK106 HB; (try clear hb); have hz46 := cellsZ11 BK106.out) | (go_at_call 84; (with_reducible refine (spec_l1In.calls ((rd_T37 l0_3 x30_2).f2) 0 1000000 true _ A37.out).mono ?_); rintro e w' ⟨rfl, ⟨nd, rfl⟩⟩))
                      go_meet
                      case rel => exact ⟨_, (!((rd_T37 l0_3 x30_2).f3)), z4458, H', ⟨zdc19⟩, ⟨bkZ⟩, ⟨bkZ⟩, ⟨zcb41⟩⟩
                    · rw [if_neg c39] at H
                      have c39b0 := eqN c39
                      have H' := aM H
                      clear H
                      have hnb47 := NB106_101.out
                      have hnc47 := NB101_106.out
                      have hz48 := cellsZ11 BK106.out
                      go_wp2_with (first | ((with_reducible refine gate_callee (f := 41) rfl ?_); refine gL 37 Tryd.func41 #[.agg #[.string ((rd_T37 l0_3 x30_2).f0.f0), .slice A105_1 ((rd_T37 l0_3 x30_2).f0.f1).length c105_1, .int .i64 ((rd_T37 l0_3 x30_2).f0.f2)]] ?_; (with_reducible refine (spec_GoodKey.calls k2 ((rd_T37 l0_3 x30_2).f0.f0) _ _ ((rd_T37 l0_3 x30_2).f0.f1) ((rd_T37 l0_3 x30_2).f0.f2) true _ ?side1 ?side2 A23.out).mono ?_); (case side1 => exact Kd.C_below HR105_1.out hbZ); (case side2 => exact HC105_1.out); rintro e w49 ⟨rfl, hb⟩; refine ⟨_, rfl, ?_⟩; have _ := bB gb101 hb; have _ := aM (blk_below (g := gb106) (o := .cells #[.string ((rd_T37 l0_3 x30_2).f0.f0), .slice A105_1 ((rd_T37 l0_3 x30_2).f0.f1).length c105_1, .int .i64 ((rd_T37 l0_3 x30_2).f0.f2), .int .i64 ((rd_T37 l0_3 x30_2).f1.f0), .int .i64 ((rd_T37 l0_3 x30_2).f1.f1), .int .i64 ((rd_T37 l0_3 x30_2).f1.f2), .int .i64 ((rd_T37 l0_3 x30_2).f1.f3), .slice A105_7 ((rd_T37 l0_3 x30_2).f1.f4).length c105_7, .bool ((rd_T37 l0_3 x30_2).f1.f5), .int .i64 ((rd_T37 l0_3 x30_2).f2), .bool ((rd_T37 l0_3 x30_2).f3)] 37 (0, 0)) bkZ hb); have _ := aM (below_step hbZ hb); clear BK101 BK106 HB; rename_i BK101 BK106 HB; (try clear hb); have hz50 := cellsZ11 BK106.out; have hz51 := cellsZ4 BK101.out) | (go_at_call 85; (with_reducible refine (spec_GoodAgg.calls k2 ((rd_T37 l0_3 x30_2).f1.f0) ((rd_T37 l0_3 x30_2).f1.f1) ((rd_T37 l0_3 x30_2).f1.f2) ((rd_T37 l0_3 x30_2).f1.f3) _ _ ((rd_T37 l0_3 x30_2).f1.f4) ((rd_T37 l0_3 x30_2).f1.f5) true _ ?side1 ?side2 A27.out).mono ?_); (case side1 => exact (cZ (Kd.C_below HR105_7.out HB.out))); (case side2 => exact HC105_7.out); rintro e w52 ⟨rfl, hb⟩; have _ := bB gb101 hb; have _ := bB gb106 hb; have _ := aM (below_step hbZ hb); clear BK101 BK106 HB; rename_i BK101 BK106 HB; (try clear hb); have hz53 := cellsZ11 BK106.out) | (go_at_call 84; (with_reducible refine (spec_l1In.calls ((rd_T37 l0_3 x30_2).f2) 0 1000000 true _ A37.out).mono ?_); rintro e w' ⟨rfl, ⟨nd, rfl⟩⟩))
                      go_meet
                      case rel => exact ⟨_, (false), z4458, H', ⟨zdc19⟩, ⟨bkZ⟩, ⟨bkZ⟩, ⟨zcb41⟩⟩
                  · replace c38 := Bool.eq_false_iff.mpr c38
                    subst c38
                    rw [if_neg (show ¬ (false = true) by decide)] at H
                    have H' := aM H
                    clear H
                    have hnb54 := NB106_101.out
                    have hnc54 := NB101_106.out
                    have hz55 := cellsZ11 BK106.out
                    go_wp2_with (first | ((with_reducible refine gate_callee (f := 41) rfl ?_); refine gL 37 Tryd.func41 #[.agg #[.string ((rd_T37 l0_3 x30_2).f0.f0), .slice A105_1 ((rd_T37 l0_3 x30_2).f0.f1).length c105_1, .int .i64 ((rd_T37 l0_3 x30_2).f0.f2)]] ?_; (with_reducible refine (spec_GoodKey.calls k2 ((rd_T37 l0_3 x30_2).f0.f0) _ _ ((rd_T37 l0_3 x30_2).f0.f1) ((rd_T37 l0_3 x30_2).f0.f2) true _ ?side1 ?side2 A23.out).mono ?_); (case side1 => exact Kd.C_below HR105_1.out hbZ); (case side2 => exact HC105_1.out); rintro e w56 ⟨rfl, hb⟩; refine ⟨_, rfl, ?_⟩; have _ := bB gb101 hb; have _ := aM (blk_below (g := gb106) (o := .cells #[.string ((rd_T37 l0_3 x30_2).f0.f0), .slice A105_1 ((rd_T37 l0_3 x30_2).f0.f1).length c105_1, .int .i64 ((rd_T37 l0_3 x30_2).f0.f2), .int .i64 ((rd_T37 l0_3 x30_2).f1.f0), .int .i64 ((rd_T37 l0_3 x30_2).f1.f1), .int .i64 ((rd_T37 l0_3 x30_2).f1.f2), .int .i64 ((rd_T37 l0_3 x30_2).f1.f3), .slice A105_7 ((rd_T37 l0_3 x30_2).f1.f4).length c105_7, .bool ((rd_T37 l0_3 x30_2).f1.f5), .int .i64 ((rd_T37 l0_3 x30_2).f2), .bool ((rd_T37 l0_3 x30_2).f3)] 37 (0, 0)) bkZ hb); have _ := aM (below_step hbZ hb); clear BK101 BK106 HB; rename_i BK101 BK106 HB; (try clear hb); have hz57 := cellsZ11 BK106.out; have hz58 := cellsZ4 BK101.out) | (go_at_call 85; (with_reducible refine (spec_GoodAgg.calls k2 ((rd_T37 l0_3 x30_2).f1.f0) ((rd_T37 l0_3 x30_2).f1.f1) ((rd_T37 l0_3 x30_2).f1.f2) ((rd_T37 l0_3 x30_2).f1.f3) _ _ ((rd_T37 l0_3 x30_2).f1.f4) ((rd_T37 l0_3 x30_2).f1.f5) true _ ?side1 ?side2 A27.out).mono ?_); (case side1 => exact (cZ (Kd.C_below HR105_7.out HB.out))); (case side2 => exact HC105_7.out); rintro e w59 ⟨rfl, hb⟩; have _ := bB gb101 hb; have _ := bB gb106 hb; have _ := aM (below_step hbZ hb); clear BK101 BK106 HB; rename_i BK101 BK106 HB; (try clear hb); have hz60 := cellsZ11 BK106.out) | (go_at_call 84; (with_reducible refine (spec_l1In.calls ((rd_T37 l0_3 x30_2).f2) 0 1000000 false _ A37.out).mono ?_); rintro e w' ⟨rfl, ⟨nd, rfl⟩⟩))
                    go_meet
                    case rel => exact ⟨_, (true), z4458, H', ⟨zdc19⟩, ⟨bkZ⟩, ⟨bkZ⟩, ⟨zcb41⟩⟩
              · replace c28 := Bool.eq_false_iff.mpr c28
                subst c28
                rw [if_neg (show ¬ (false = true) by decide)] at H
                have H' := aM H
                clear H
                have hnb61 := NB106_101.out
                have hnc61 := NB101_106.out
                have hz62 := cellsZ11 BK106.out
                go_wp2_with (first | ((with_reducible refine gate_callee (f := 41) rfl ?_); refine gL 37 Tryd.func41 #[.agg #[.string ((rd_T37 l0_3 x30_2).f0.f0), .slice A105_1 ((rd_T37 l0_3 x30_2).f0.f1).length c105_1, .int .i64 ((rd_T37 l0_3 x30_2).f0.f2)]] ?_; (with_reducible refine (spec_GoodKey.calls k2 ((rd_T37 l0_3 x30_2).f0.f0) _ _ ((rd_T37 l0_3 x30_2).f0.f1) ((rd_T37 l0_3 x30_2).f0.f2) true _ ?side1 ?side2 A23.out).mono ?_); (case side1 => exact Kd.C_below HR105_1.out hbZ); (case side2 => exact HC105_1.out); rintro e w63 ⟨rfl, hb⟩; refine ⟨_, rfl, ?_⟩; have _ := bB gb101 hb; have _ := aM (blk_below (g := gb106) (o := .cells #[.string ((rd_T37 l0_3 x30_2).f0.f0), .slice A105_1 ((rd_T37 l0_3 x30_2).f0.f1).length c105_1, .int .i64 ((rd_T37 l0_3 x30_2).f0.f2), .int .i64 ((rd_T37 l0_3 x30_2).f1.f0), .int .i64 ((rd_T37 l0_3 x30_2).f1.f1), .int .i64 ((rd_T37 l0_3 x30_2).f1.f2), .int .i64 ((rd_T37 l0_3 x30_2).f1.f3), .slice A105_7 ((rd_T37 l0_3 x30_2).f1.f4).length c105_7, .bool ((rd_T37 l0_3 x30_2).f1.f5), .int .i64 ((rd_T37 l0_3 x30_2).f2), .bool ((rd_T37 l0_3 x30_2).f3)] 37 (0, 0)) bkZ hb); have _ := aM (below_step hbZ hb); clear BK101 BK106 HB; rename_i BK101 BK106 HB; (try clear hb); have hz64 := cellsZ11 BK106.out; have hz65 := cellsZ4 BK101.out) | (go_at_call 85; (with_reducible refine (spec_GoodAgg.calls k2 ((rd_T37 l0_3 x30_2).f1.f0) ((rd_T37 l0_3 x30_2).f1.f1) ((rd_T37 l0_3 x30_2).f1.f2) ((rd_T37 l0_3 x30_2).f1.f3) _ _ ((rd_T37 l0_3 x30_2).f1.f4) ((rd_T37 l0_3 x30_2).f1.f5) false _ ?side1 ?side2 A27.out).mono ?_); (case side1 => exact (cZ (Kd.C_below HR105_7.out HB.out))); (case side2 => exact HC105_7.out); rintro e w66 ⟨rfl, hb⟩; have _ := bB gb101 hb; have _ := bB gb106 hb; have _ := aM (below_step hbZ hb); clear BK101 BK106 HB; rename_i BK101 BK106 HB; (try clear hb)))
                go_meet
                case rel => exact ⟨_, (true), z4458, H', ⟨zdc19⟩, ⟨bkZ⟩, ⟨bkZ⟩, ⟨zcb41⟩⟩
            · rw [if_neg c26] at H
              have c26b0 := eqN c26
              have H' := aM H
              clear H
              have hnb67 := NB106_101.out
              have hnc67 := NB101_106.out
              have hz68 := cellsZ11 BK106.out
              go_wp2_with (first | ((with_reducible refine gate_callee (f := 41) rfl ?_); refine gL 37 Tryd.func41 #[.agg #[.string ((rd_T37 l0_3 x30_2).f0.f0), .slice A105_1 ((rd_T37 l0_3 x30_2).f0.f1).length c105_1, .int .i64 ((rd_T37 l0_3 x30_2).f0.f2)]] ?_; (with_reducible refine (spec_GoodKey.calls k2 ((rd_T37 l0_3 x30_2).f0.f0) _ _ ((rd_T37 l0_3 x30_2).f0.f1) ((rd_T37 l0_3 x30_2).f0.f2) true _ ?side1 ?side2 A23.out).mono ?_); (case side1 => exact Kd.C_below HR105_1.out hbZ); (case side2 => exact HC105_1.out); rintro e w69 ⟨rfl, hb⟩; refine ⟨_, rfl, ?_⟩; have _ := bB gb101 hb; have _ := aM (blk_below (g := gb106) (o := .cells #[.string ((rd_T37 l0_3 x30_2).f0.f0), .slice A105_1 ((rd_T37 l0_3 x30_2).f0.f1).length c105_1, .int .i64 ((rd_T37 l0_3 x30_2).f0.f2), .int .i64 ((rd_T37 l0_3 x30_2).f1.f0), .int .i64 ((rd_T37 l0_3 x30_2).f1.f1), .int .i64 ((rd_T37 l0_3 x30_2).f1.f2), .int .i64 ((rd_T37 l0_3 x30_2).f1.f3), .slice A105_7 ((rd_T37 l0_3 x30_2).f1.f4).length c105_7, .bool ((rd_T37 l0_3 x30_2).f1.f5), .int .i64 ((rd_T37 l0_3 x30_2).f2), .bool ((rd_T37 l0_3 x30_2).f3)] 37 (0, 0)) bkZ hb); have _ := aM (below_step hbZ hb); clear BK101 BK106 HB; rename_i BK101 BK106 HB; (try clear hb); have hz70 := cellsZ11 BK106.out; have hz71 := cellsZ4 BK101.out))
              go_meet
              case rel => exact ⟨_, (true), z4458, H', ⟨zdc19⟩, ⟨bkZ⟩, ⟨bkZ⟩, ⟨zcb41⟩⟩
          · replace c24 := Bool.eq_false_iff.mpr c24
            subst c24
            rw [if_neg (show ¬ (false = true) by decide)] at H
            have H' := aM H
            clear H
            have hnb72 := NB106_101.out
            have hnc72 := NB101_106.out
            have hz73 := cellsZ11 BK106.out
            go_wp2_with (first | ((with_reducible refine gate_callee (f := 41) rfl ?_); refine gL 37 Tryd.func41 #[.agg #[.string ((rd_T37 l0_3 x30_2).f0.f0), .slice A105_1 ((rd_T37 l0_3 x30_2).f0.f1).length c105_1, .int .i64 ((rd_T37 l0_3 x30_2).f0.f2)]] ?_; (with_reducible refine (spec_GoodKey.calls k2 ((rd_T37 l0_3 x30_2).f0.f0) _ _ ((rd_T37 l0_3 x30_2).f0.f1) ((rd_T37 l0_3 x30_2).f0.f2) false _ ?side1 ?side2 A23.out).mono ?_); (case side1 => exact Kd.C_below HR105_1.out hbZ); (case side2 => exact HC105_1.out); rintro e w74 ⟨rfl, hb⟩; refine ⟨_, rfl, ?_⟩; have _ := bB gb101 hb; have _ := aM (blk_below (g := gb106) (o := .cells #[.string ((rd_T37 l0_3 x30_2).f0.f0), .slice A105_1 ((rd_T37 l0_3 x30_2).f0.f1).length c105_1, .int .i64 ((rd_T37 l0_3 x30_2).f0.f2), .int .i64 ((rd_T37 l0_3 x30_2).f1.f0), .int .i64 ((rd_T37 l0_3 x30_2).f1.f1), .int .i64 ((rd_T37 l0_3 x30_2).f1.f2), .int .i64 ((rd_T37 l0_3 x30_2).f1.f3), .slice A105_7 ((rd_T37 l0_3 x30_2).f1.f4).length c105_7, .bool ((rd_T37 l0_3 x30_2).f1.f5), .int .i64 ((rd_T37 l0_3 x30_2).f2), .bool ((rd_T37 l0_3 x30_2).f3)] 37 (0, 0)) bkZ hb); have _ := aM (below_step hbZ hb); clear BK101 BK106 HB; rename_i BK101 BK106 HB; (try clear hb)))
            go_meet
            case rel => exact ⟨_, (true), z4458, H', ⟨zdc19⟩, ⟨bkZ⟩, ⟨bkZ⟩, ⟨zcb41⟩⟩
         case rest =>
          clear HC19
          (try clear c16b0); (try clear c17b0); (try clear c18b0); (try clear hz22); (try clear hx105_0); (try clear hx105_1); (try clear hx105_10); (try clear hx105_2); (try clear hx105_3); (try clear hx105_4); (try clear hx105_5); (try clear hx105_6); (try clear hx105_7); (try clear hx105_8); (try clear hx105_9); (try clear p105); (try clear q105)
          obtain ⟨kq, x75_18, rfl, HA, HJ18, BK101, BK106, HB⟩ := hcut
          cases kq with
          | zero => exact absurd HA.out (by simp [spec_GoodBoard.j2])
          | succ kj18 =>
           have H := HA.out
           clear HA
           simp only [spec_GoodBoard.j2] at H
           by_cases c75 : x75_18 = true
           · subst c75
             rw [if_pos rfl] at H
             obtain rfl := Option.some.inj H
             go_wp2
             go_ret
             exact ⟨z674d, zcb41⟩
           · replace c75 := Bool.eq_false_iff.mpr c75
             subst c75
             rw [if_neg (show ¬ (false = true) by decide)] at H
             by_cases c76 : x30_2 > 0
             · rw [if_pos c76] at H
               have c76b0 := dL c76
               clear c76
               obtain ⟨ji77, hji77⟩ : ∃ j_ : Int, (wrap64 (x30_2 - 1)) = j_ := ⟨_, rfl⟩
               replace H : (if 0 ≤ (ji77) then (if (ji77) < (l0_3.length : Int) then ((spec_l1Compare.f kj18 ((rd_T37 l0_3 (ji77)).f0.f0) ((rd_T37 l0_3 (ji77)).f0.f1) ((rd_T37 l0_3 (ji77)).f0.f2) ((rd_T37 l0_3 x30_2).f0.f0) ((rd_T37 l0_3 x30_2).f0.f1) ((rd_T37 l0_3 x30_2).f0.f2)).bind fun t111 => (if t111 ≥ 0 then (some false) else (spec_GoodBoard.l0 kj18 l0_3 (l0_3.length : Int) (wrap64 (x30_2 + 1)) a0_0 a0_1 a0_2 l0_3))) else (none)) else (none)) = some r := by first | (rw [hji77] at H; exact H) | (simp only [hji77] at H ⊢; exact H)
               have hji77w : (IntKind.i64.wrap (x30_2 - 1)) = ji77 := (i64_w _).trans hji77
               obtain ⟨c78b0, H⟩ := sE H
               obtain ⟨c79b0, H⟩ := sL H
               obtain ⟨t111, A80, H⟩ := bS H; try dsimp only at H
               by_cases c81 : t111 ≥ 0
               · rw [if_pos c81] at H
                 have c81b0 := dE c81
                 clear c81
                 obtain rfl := Option.some.inj H
                 try go_wp2
                 have _ := aM (blk_drew BK101.out)
                 have _ := aM (blk_drew BK106.out)
                 have _ := aM (below_drew1 HB.out)
                 clear BK101
                 clear BK106
                 clear HB
                 rename_i BK101 BK106 HB
                 have p110 : 0 ≤ ((ji77) : Int) := of_decide_eq_true z1200
                 have q110 : (ji77) < (l0_3.length : Int) := of_decide_eq_true z1200
                 obtain ⟨ad110, A110_1, c110_1, A110_7, c110_7, e110, hx110_0, hx110_1, hx110_2, hx110_3, hx110_4, hx110_5, hx110_6, hx110_7, hx110_8, hx110_9, hx110_10, hl110_1, hi110_1, hl110_7, hi110_7⟩ := at_T37 HR0_3.out (ji77) p110 q110
                 have hw110_10 := hx110_10
                 have hw110_9 := hx110_9
                 have hw110_8 := hx110_8
                 have hw110_7 := hx110_7
                 have hw110_6 := hx110_6
                 have hw110_5 := hx110_5
                 have hw110_4 := hx110_4
                 have hw110_3 := hx110_3
                 have hw110_2 := hx110_2
                 have hw110_1 := hx110_1
                 have hw110_0 := hx110_0
                 obtain rfl : ad105 = ad110 := (by injection e110)
                 have TW110_1 := aM hx110_1
                 have TW110_7 := aM hx110_7
                 replace hx110_0 := (HB.out.cell (World.block_lt_of_cell? w _ hx110_0)).trans hx110_0
                 replace hx110_1 := (HB.out.cell (World.block_lt_of_cell? w _ hx110_1)).trans hx110_1
                 replace hx110_2 := (HB.out.cell (World.block_lt_of_cell? w _ hx110_2)).trans hx110_2
                 replace hx110_3 := (HB.out.cell (World.block_lt_of_cell? w _ hx110_3)).trans hx110_3
                 replace hx110_4 := (HB.out.cell (World.block_lt_of_cell? w _ hx110_4)).trans hx110_4
                 replace hx110_5 := (HB.out.cell (World.block_lt_of_cell? w _ hx110_5)).trans hx110_5
                 replace hx110_6 := (HB.out.cell (World.block_lt_of_cell? w _ hx110_6)).trans hx110_6
                 replace hx110_7 := (HB.out.cell (World.block_lt_of_cell? w _ hx110_7)).trans hx110_7
                 replace hx110_8 := (HB.out.cell (World.block_lt_of_cell? w _ hx110_8)).trans hx110_8
                 replace hx110_9 := (HB.out.cell (World.block_lt_of_cell? w _ hx110_9)).trans hx110_9
                 replace hx110_10 := (HB.out.cell (World.block_lt_of_cell? w _ hx110_10)).trans hx110_10
                 have HR110_1 := aM hi110_1
                 have HC110_1 := aM hl110_1
                 clear hi110_1 hl110_1
                 have HR110_7 := aM hi110_7
                 have HC110_7 := aM hl110_7
                 clear hi110_7 hl110_7
                 replace p110 := eq_true p110
                 replace q110 := eq_true q110
                 refine sA 15 spec_GoodBoard.tab8 spec_GoodBoard.bits8 (fun w' => w'.cell? ⟨gb101, 0, none⟩ = some (.int .i64 a0_0) ∧ w'.cell? ⟨gb101, 1, none⟩ = some (.int .i64 a0_1) ∧ w'.cell? ⟨gb101, 2, none⟩ = some (.int .i64 a0_2) ∧ w'.cell? ⟨gb101, 3, none⟩ = some (.slice (some ad105) l0_3.length c0_3) ∧ w'.cell? ⟨gb106, 0, none⟩ = some (.string ((rd_T37 l0_3 x30_2).f0.f0)) ∧ w'.cell? ⟨gb106, 1, none⟩ = some (.slice A105_1 ((rd_T37 l0_3 x30_2).f0.f1).length c105_1) ∧ w'.cell? ⟨gb106, 2, none⟩ = some (.int .i64 ((rd_T37 l0_3 x30_2).f0.f2)) ∧ w'.cell? ⟨gb106, 3, none⟩ = some (.int .i64 ((rd_T37 l0_3 x30_2).f1.f0)) ∧ w'.cell? ⟨gb106, 4, none⟩ = some (.int .i64 ((rd_T37 l0_3 x30_2).f1.f1)) ∧ w'.cell? ⟨gb106, 5, none⟩ = some (.int .i64 ((rd_T37 l0_3 x30_2).f1.f2)) ∧ w'.cell? ⟨gb106, 6, none⟩ = some (.int .i64 ((rd_T37 l0_3 x30_2).f1.f3)) ∧ w'.cell? ⟨gb106, 7, none⟩ = some (.slice A105_7 ((rd_T37 l0_3 x30_2).f1.f4).length c105_7) ∧ w'.cell? ⟨gb106, 8, none⟩ = some (.bool ((rd_T37 l0_3 x30_2).f1.f5)) ∧ w'.cell? ⟨gb106, 9, none⟩ = some (.int .i64 ((rd_T37 l0_3 x30_2).f2)) ∧ w'.cell? ⟨gb106, 10, none⟩ = some (.bool ((rd_T37 l0_3 x30_2).f3)) ∧ w'.cell? (ad105.add (((ji77)).toNat * 11)) = some (.string ((rd_T37 l0_3 (ji77)).f0.f0)) ∧ w'.cell? ⟨(ad105.add (((ji77)).toNat * 11)).block, (ad105.add (((ji77)).toNat * 11)).off + 1, none⟩ = some (.slice A110_1 ((rd_T37 l0_3 (ji77)).f0.f1).length c110_1) ∧ w'.cell? ⟨(ad105.add (((ji77)).toNat * 11)).block, (ad105.add (((ji77)).toNat * 11)).off + 2, none⟩ = some (.int .i64 ((rd_T37 l0_3 (ji77)).f0.f2)) ∧ w'.cell? ⟨(ad105.add (((ji77)).toNat * 11)).block, (ad105.add (((ji77)).toNat * 11)).off + 3, none⟩ = some (.int .i64 ((rd_T37 l0_3 (ji77)).f1.f0)) ∧ w'.cell? ⟨(ad105.add (((ji77)).toNat * 11)).block, (ad105.add (((ji77)).toNat * 11)).off + 4, none⟩ = some (.int .i64 ((rd_T37 l0_3 (ji77)).f1.f1)) ∧ w'.cell? ⟨(ad105.add (((ji77)).toNat * 11)).block, (ad105.add (((ji77)).toNat * 11)).off + 5, none⟩ = some (.int .i64 ((rd_T37 l0_3 (ji77)).f1.f2)) ∧ w'.cell? ⟨(ad105.add (((ji77)).toNat * 11)).block, (ad105.add (((ji77)).toNat * 11)).off + 6, none⟩ = some (.int .i64 ((rd_T37 l0_3 (ji77)).f1.f3)) ∧ w'.cell? ⟨(ad105.add (((ji77)).toNat * 11)).block, (ad105.add (((ji77)).toNat * 11)).off + 7, none⟩ = some (.slice A110_7 ((rd_T37 l0_3 (ji77)).f1.f4).length c110_7) ∧ w'.cell? ⟨(ad105.add (((ji77)).toNat * 11)).block, (ad105.add (((ji77)).toNat * 11)).off + 8, none⟩ = some (.bool ((rd_T37 l0_3 (ji77)).f1.f5)) ∧ w'.cell? ⟨(ad105.add (((ji77)).toNat * 11)).block, (ad105.add (((ji77)).toNat * 11)).off + 9, none⟩ = some (.int .i64 ((rd_T37 l0_3 (ji77)).f2)) ∧ w'.cell? ⟨(ad105.add (((ji77)).toNat * 11)).block, (ad105.add (((ji77)).toNat * 11)).off + 10, none⟩ = some (.bool ((rd_T37 l0_3 (ji77)).f3))) [] (fun hHeld HT_ HW_ => ?_)
                 generalize wc.drew = w82 at BK101 BK106 HB HR110_1 HR110_7 hx110_0 hx110_1 hx110_10 hx110_2 hx110_3 hx110_4 hx110_5 hx110_6 hx110_7 hx110_8 hx110_9 hHeld ⊢
                 refine pA 0 76 HT_ ?_; refine pA 1 77 HT_ ?_; refine pA 2 78 HT_ ?_; refine pA 3 79 HT_ ?_; refine pA 5 81 HT_ ?_; refine pA 6 82 HT_ ?_; refine pA 10 86 HT_ ?_; refine tA 4 80 HT_ HW_ hHeld ?_; refine pA 7 83 HT_ ?_; refine pA 8 84 HT_ ?_; refine tA 9 85 HT_ HW_ hHeld ?_; refine tA 11 87 HT_ HW_ hHeld ?_; refine oA 12 88 HT_ (fun K hK => ?_)
                 refine goes_ Tryd.func64 (by kernel_rfl) rfl #[.agg #[.string ((rd_T37 l0_3 (ji77)).f0.f0), .slice A110_1 ((rd_T37 l0_3 (ji77)).f0.f1).length c110_1, .int .i64 ((rd_T37 l0_3 (ji77)).f0.f2)], .agg #[.string ((rd_T37 l0_3 x30_2).f0.f0), .slice A105_1 ((rd_T37 l0_3 x30_2).f0.f1).length c105_1, .int .i64 ((rd_T37 l0_3 x30_2).f0.f2)]] (by rfl) rfl rfl (by (try simp only [List.map_toArray, List.map_cons, List.map_nil]); first | done | (simp only [hji77]; rfl) | rfl | (simp only [List.length_drop, List.length_take]; rfl)) ?_
                 with_reducible refine (spec_l1Compare.calls kj18 ((rd_T37 l0_3 (ji77)).f0.f0) _ _ ((rd_T37 l0_3 (ji77)).f0.f1) ((rd_T37 l0_3 (ji77)).f0.f2) ((rd_T37 l0_3 x30_2).f0.f0) _ _ ((rd_T37 l0_3 x30_2).f0.f1) ((rd_T37 l0_3 x30_2).f0.f2) t111 _ ?side1 ?side2 ?side3 ?side4 A80.out).mono ?_
                 (case side1 => exact (cZ (Kd.C_below HR110_1.out HB.out)))
                 (case side2 => exact HC110_1.out)
                 (case side3 => exact (cZ (Kd.C_below HR105_1.out HB.out)))
                 (case side4 => exact HC105_1.out)
                 rintro e w83 ⟨rfl, hb⟩
                 refine ⟨_, rfl, ?_⟩
                 have _ := bB gb101 hb
                 have _ := bB gb106 hb
                 have _ := aM (below_step hbZ hb)
                 clear BK101
                 clear BK106
                 clear HB
                 rename_i BK101 BK106 HB
                 (try clear hb)
                 refine hK.out _ _ sZ (fun hHeld => ?_)
                 clear hK K
                 refine nA 88 ?_; refine pA 13 89 HT_ ?_; refine pA 14 90 HT_ ?_
                 refine done_ (done_of HT_.out (by kernel_rfl)) ?_
                 try go_wp2
                 go_ret
                 exact ⟨by first | rfl | (simp [errW_none, errW_some] <;> rfl) | (simp only [← hji77]; first | rfl | (simp [errW_none, errW_some] <;> rfl)) | (simp [*, errW_none, errW_some] <;> rfl), zcb41⟩
               · rw [if_neg c81] at H
                 have c81b0 := nE c81
                 clear c81
                 have H' := aM H
                 clear H
                 try go_wp2
                 have _ := aM (blk_drew BK101.out)
                 have _ := aM (blk_drew BK106.out)
                 have _ := aM (below_drew1 HB.out)
                 clear BK101
                 clear BK106
                 clear HB
                 rename_i BK101 BK106 HB
                 have p110 : 0 ≤ ((ji77) : Int) := of_decide_eq_true z1200
                 have q110 : (ji77) < (l0_3.length : Int) := of_decide_eq_true z1200
                 obtain ⟨ad110, A110_1, c110_1, A110_7, c110_7, e110, hx110_0, hx110_1, hx110_2, hx110_3, hx110_4, hx110_5, hx110_6, hx110_7, hx110_8, hx110_9, hx110_10, hl110_1, hi110_1, hl110_7, hi110_7⟩ := at_T37 HR0_3.out (ji77) p110 q110
                 have hw110_10 := hx110_10
                 have hw110_9 := hx110_9
                 have hw110_8 := hx110_8
                 have hw110_7 := hx110_7
                 have hw110_6 := hx110_6
                 have hw110_5 := hx110_5
                 have hw110_4 := hx110_4
                 have hw110_3 := hx110_3
                 have hw110_2 := hx110_2
                 have hw110_1 := hx110_1
                 have hw110_0 := hx110_0
                 obtain rfl : ad105 = ad110 := (by injection e110)
                 have TW110_1 := aM hx110_1
                 have TW110_7 := aM hx110_7
                 replace hx110_0 := (HB.out.cell (World.block_lt_of_cell? w _ hx110_0)).trans hx110_0
                 replace hx110_1 := (HB.out.cell (World.block_lt_of_cell? w _ hx110_1)).trans hx110_1
                 replace hx110_2 := (HB.out.cell (World.block_lt_of_cell? w _ hx110_2)).trans hx110_2
                 replace hx110_3 := (HB.out.cell (World.block_lt_of_cell? w _ hx110_3)).trans hx110_3
                 replace hx110_4 := (HB.out.cell (World.block_lt_of_cell? w _ hx110_4)).trans hx110_4
                 replace hx110_5 := (HB.out.cell (World.block_lt_of_cell? w _ hx110_5)).trans hx110_5
                 replace hx110_6 := (HB.out.cell (World.block_lt_of_cell? w _ hx110_6)).trans hx110_6
                 replace hx110_7 := (HB.out.cell (World.block_lt_of_cell? w _ hx110_7)).trans hx110_7
                 replace hx110_8 := (HB.out.cell (World.block_lt_of_cell? w _ hx110_8)).trans hx110_8
                 replace hx110_9 := (HB.out.cell (World.block_lt_of_cell? w _ hx110_9)).trans hx110_9
                 replace hx110_10 := (HB.out.cell (World.block_lt_of_cell? w _ hx110_10)).trans hx110_10
                 have HR110_1 := aM hi110_1
                 have HC110_1 := aM hl110_1
                 clear hi110_1 hl110_1
                 have HR110_7 := aM hi110_7
                 have HC110_7 := aM hl110_7
                 clear hi110_7 hl110_7
                 replace p110 := eq_true p110
                 replace q110 := eq_true q110
                 refine sA 15 spec_GoodBoard.tab8 spec_GoodBoard.bits8 (fun w' => w'.cell? ⟨gb101, 0, none⟩ = some (.int .i64 a0_0) ∧ w'.cell? ⟨gb101, 1, none⟩ = some (.int .i64 a0_1) ∧ w'.cell? ⟨gb101, 2, none⟩ = some (.int .i64 a0_2) ∧ w'.cell? ⟨gb101, 3, none⟩ = some (.slice (some ad105) l0_3.length c0_3) ∧ w'.cell? ⟨gb106, 0, none⟩ = some (.string ((rd_T37 l0_3 x30_2).f0.f0)) ∧ w'.cell? ⟨gb106, 1, none⟩ = some (.slice A105_1 ((rd_T37 l0_3 x30_2).f0.f1).length c105_1) ∧ w'.cell? ⟨gb106, 2, none⟩ = some (.int .i64 ((rd_T37 l0_3 x30_2).f0.f2)) ∧ w'.cell? ⟨gb106, 3, none⟩ = some (.int .i64 ((rd_T37 l0_3 x30_2).f1.f0)) ∧ w'.cell? ⟨gb106, 4, none⟩ = some (.int .i64 ((rd_T37 l0_3 x30_2).f1.f1)) ∧ w'.cell? ⟨gb106, 5, none⟩ = some (.int .i64 ((rd_T37 l0_3 x30_2).f1.f2)) ∧ w'.cell? ⟨gb106, 6, none⟩ = some (.int .i64 ((rd_T37 l0_3 x30_2).f1.f3)) ∧ w'.cell? ⟨gb106, 7, none⟩ = some (.slice A105_7 ((rd_T37 l0_3 x30_2).f1.f4).length c105_7) ∧ w'.cell? ⟨gb106, 8, none⟩ = some (.bool ((rd_T37 l0_3 x30_2).f1.f5)) ∧ w'.cell? ⟨gb106, 9, none⟩ = some (.int .i64 ((rd_T37 l0_3 x30_2).f2)) ∧ w'.cell? ⟨gb106, 10, none⟩ = some (.bool ((rd_T37 l0_3 x30_2).f3)) ∧ w'.cell? (ad105.add (((ji77)).toNat * 11)) = some (.string ((rd_T37 l0_3 (ji77)).f0.f0)) ∧ w'.cell? ⟨(ad105.add (((ji77)).toNat * 11)).block, (ad105.add (((ji77)).toNat * 11)).off + 1, none⟩ = some (.slice A110_1 ((rd_T37 l0_3 (ji77)).f0.f1).length c110_1) ∧ w'.cell? ⟨(ad105.add (((ji77)).toNat * 11)).block, (ad105.add (((ji77)).toNat * 11)).off + 2, none⟩ = some (.int .i64 ((rd_T37 l0_3 (ji77)).f0.f2)) ∧ w'.cell? ⟨(ad105.add (((ji77)).toNat * 11)).block, (ad105.add (((ji77)).toNat * 11)).off + 3, none⟩ = some (.int .i64 ((rd_T37 l0_3 (ji77)).f1.f0)) ∧ w'.cell? ⟨(ad105.add (((ji77)).toNat * 11)).block, (ad105.add (((ji77)).toNat * 11)).off + 4, none⟩ = some (.int .i64 ((rd_T37 l0_3 (ji77)).f1.f1)) ∧ w'.cell? ⟨(ad105.add (((ji77)).toNat * 11)).block, (ad105.add (((ji77)).toNat * 11)).off + 5, none⟩ = some (.int .i64 ((rd_T37 l0_3 (ji77)).f1.f2)) ∧ w'.cell? ⟨(ad105.add (((ji77)).toNat * 11)).block, (ad105.add (((ji77)).toNat * 11)).off + 6, none⟩ = some (.int .i64 ((rd_T37 l0_3 (ji77)).f1.f3)) ∧ w'.cell? ⟨(ad105.add (((ji77)).toNat * 11)).block, (ad105.add (((ji77)).toNat * 11)).off + 7, none⟩ = some (.slice A110_7 ((rd_T37 l0_3 (ji77)).f1.f4).length c110_7) ∧ w'.cell? ⟨(ad105.add (((ji77)).toNat * 11)).block, (ad105.add (((ji77)).toNat * 11)).off + 8, none⟩ = some (.bool ((rd_T37 l0_3 (ji77)).f1.f5)) ∧ w'.cell? ⟨(ad105.add (((ji77)).toNat * 11)).block, (ad105.add (((ji77)).toNat * 11)).off + 9, none⟩ = some (.int .i64 ((rd_T37 l0_3 (ji77)).f2)) ∧ w'.cell? ⟨(ad105.add (((ji77)).toNat * 11)).block, (ad105.add (((ji77)).toNat * 11)).off + 10, none⟩ = some (.bool ((rd_T37 l0_3 (ji77)).f3))) [] (fun hHeld HT_ HW_ => ?_)
                 generalize wc.drew = w84 at BK101 BK106 HB HR110_1 HR110_7 hx110_0 hx110_1 hx110_10 hx110_2 hx110_3 hx110_4 hx110_5 hx110_6 hx110_7 hx110_8 hx110_9 hHeld ⊢
                 refine pA 0 76 HT_ ?_; refine pA 1 77 HT_ ?_; refine pA 2 78 HT_ ?_; refine pA 3 79 HT_ ?_; refine pA 5 81 HT_ ?_; refine pA 6 82 HT_ ?_; refine pA 10 86 HT_ ?_; refine tA 4 80 HT_ HW_ hHeld ?_; refine pA 7 83 HT_ ?_; refine pA 8 84 HT_ ?_; refine tA 9 85 HT_ HW_ hHeld ?_; refine tA 11 87 HT_ HW_ hHeld ?_; refine oA 12 88 HT_ (fun K hK => ?_)
                 refine goes_ Tryd.func64 (by kernel_rfl) rfl #[.agg #[.string ((rd_T37 l0_3 (ji77)).f0.f0), .slice A110_1 ((rd_T37 l0_3 (ji77)).f0.f1).length c110_1, .int .i64 ((rd_T37 l0_3 (ji77)).f0.f2)], .agg #[.string ((rd_T37 l0_3 x30_2).f0.f0), .slice A105_1 ((rd_T37 l0_3 x30_2).f0.f1).length c105_1, .int .i64 ((rd_T37 l0_3 x30_2).f0.f2)]] (by rfl) rfl rfl (by (try simp only [List.map_toArray, List.map_cons, List.map_nil]); first | done | (simp only [hji77]; rfl) | rfl | (simp only [List.length_drop, List.length_take]; rfl)) ?_
                 with_reducible refine (spec_l1Compare.calls kj18 ((rd_T37 l0_3 (ji77)).f0.f0) _ _ ((rd_T37 l0_3 (ji77)).f0.f1) ((rd_T37 l0_3 (ji77)).f0.f2) ((rd_T37 l0_3 x30_2).f0.f0) _ _ ((rd_T37 l0_3 x30_2).f0.f1) ((rd_T37 l0_3 x30_2).f0.f2) t111 _ ?side1 ?side2 ?side3 ?side4 A80.out).mono ?_
                 (case side1 => exact (cZ (Kd.C_below HR110_1.out HB.out)))
                 (case side2 => exact HC110_1.out)
                 (case side3 => exact (cZ (Kd.C_below HR105_1.out HB.out)))
                 (case side4 => exact HC105_1.out)
                 rintro e w85 ⟨rfl, hb⟩
                 refine ⟨_, rfl, ?_⟩
                 have _ := bB gb101 hb
                 have _ := bB gb106 hb
                 have _ := aM (below_step hbZ hb)
                 clear BK101
                 clear BK106
                 clear HB
                 rename_i BK101 BK106 HB
                 (try clear hb)
                 refine hK.out _ _ sZ (fun hHeld => ?_)
                 clear hK K
                 refine nA 88 ?_; refine pA 13 89 HT_ ?_; refine pA 14 90 HT_ ?_
                 refine done_ (done_of HT_.out (by kernel_rfl)) ?_
                 try go_wp2
                 go_roundg kj18
                 case measure => have := HJ1.out; have := HK2.out; have := HJ18.out; omega
                 case rel => exact ⟨(wrap64 (x30_2 + 1)), z4458, H', ⟨by have := HJ1.out; have := HK2.out; have := HJ18.out; omega⟩, ⟨bkZ⟩, ⟨zcb41⟩⟩
             · rw [if_neg c76] at H
               have c76b0 := nL c76
               clear c76
               have H' := aM H
               clear H
               try go_wp2
               have _ := aM (blk_drew BK101.out)
               have _ := aM (blk_drew BK106.out)
               have _ := aM (below_drew1 HB.out)
               clear BK101
               clear BK106
               clear HB
               rename_i BK101 BK106 HB
               refine sA 15 spec_GoodBoard.tab8 spec_GoodBoard.bits8 (fun w' => True) [] (fun hHeld HT_ HW_ => ?_)
               generalize wc.drew = w86 at BK101 BK106 HB hHeld ⊢
               refine pA 0 76 HT_ ?_; refine pA 1 77 HT_ ?_; refine pA 2 78 HT_ ?_; refine uA 3 79 HT_ ?_; refine uA 4 80 HT_ ?_; refine uA 5 81 HT_ ?_; refine uA 6 82 HT_ ?_; refine uA 7 83 HT_ ?_; refine uA 8 84 HT_ ?_; refine uA 9 85 HT_ ?_; refine uA 10 86 HT_ ?_; refine uA 11 87 HT_ ?_; refine uA 12 88 HT_ ?_; refine uA 13 89 HT_ ?_; refine pA 14 90 HT_ ?_
               refine done_ (done_of HT_.out (by kernel_rfl)) ?_
               try go_wp2
               go_roundg kj18
               case measure => have := HJ1.out; have := HK2.out; have := HJ18.out; omega
               case rel => exact ⟨(wrap64 (x30_2 + 1)), z4458, H', ⟨by have := HJ1.out; have := HK2.out; have := HJ18.out; omega⟩, ⟨bkZ⟩, ⟨zcb41⟩⟩
       · rw [if_neg c16] at H
         have c16b0 := nL c16
         clear c16
         obtain rfl := Option.some.inj H
         go_wp2
         go_ret
         exact ⟨z674d, zcb41⟩

end Go.Proofs.YtkgmoajdcibafaaDoor.P

-- written by a program of this session's (wip/pp)
namespace Go.Proofs.YtkgmoajdcibafaaDoor.P
open Go.RowKit Go.Proofs.YtkgmoajdcibafaaDoorW.PrintWords Go.Proofs.YtkgmoajdcibafaaDoorW.PrintLast Go.Proofs.YtkgmoajdcibafaaDoorW.PrintMore
attribute [local go_sem] max2_int min2_int max_two min_two max_three min_three max_four min_four str_geq str_gtr str_leq   -- for this text's walks alone
set_option linter.unusedVariables false
set_option linter.unusedSimpArgs false

/-! ### spec_l11At: function 42 -/
def spec_l11At.l0 : Nat → Int → Int → Int → Int → List (S37) → ByteArray → List (S123) → Int → Option (Int × Bool)
 | 0, _, _, _, _, _, _, _, _ => none
 | k + 1, x6, x102000, x102001, x102002, x102003, x103000, x103001, x103002 => if x6 < (x102003.length : Int) then (if 0 ≤ x6 then ((spec_l1Compare.f k ((rd_T37 x102003 x6).f0.f0) ((rd_T37 x102003 x6).f0.f1) ((rd_T37 x102003 x6).f0.f2) x103000 x103001 x103002).bind fun t104 => (if t104 < 0 then (spec_l11At.l0 k (wrap64 (x6 + 1)) x102000 x102001 x102002 x102003 x103000 x103001 x103002) else ((spec_l1Compare.f k ((rd_T37 x102003 x6).f0.f0) ((rd_T37 x102003 x6).f0.f1) ((rd_T37 x102003 x6).f0.f2) x103000 x103001 x103002).bind fun t106 => (some (x6, (t106 == 0)))))) else (none)) else (some (x6, false))
def spec_l11At.f (k : Nat) (a0_0 : Int) (a0_1 : Int) (a0_2 : Int) (l0_3 : List (S37)) (a1_0 : ByteArray) (l1_1 : List (S123)) (a1_2 : Int) : Option (Int × Bool) := spec_l11At.l0 k 0 a0_0 a0_1 a0_2 l0_3 a1_0 l1_1 a1_2
theorem spec_l11At.mono_l : ∀ k, (∀ y0 y1 y2 y3 y4 y5 y6 y7, LeO (spec_l11At.l0 k y0 y1 y2 y3 y4 y5 y6 y7) (spec_l11At.l0 (k + 1) y0 y1 y2 y3 y4 y5 y6 y7))
 | 0 => fun _ _ _ _ _ _ _ _ r h => by simp [spec_l11At.l0] at h
 | k + 1 => by
  have ih0 := spec_l11At.mono_l k; have m0 := @spec_l1Compare.mono
  · intro y0 y1 y2 y3 y4 y5 y6 y7
    unfold spec_l11At.l0
    exact moZ
theorem spec_l11At.mono : ∀ a0 a1 a2 a3 a4 a5 a6 k, LeO (spec_l11At.f k a0 a1 a2 a3 a4 a5 a6) (spec_l11At.f (k + 1) a0 a1 a2 a3 a4 a5 a6) := by
 intro a0 a1 a2 a3 a4 a5 a6 k
 have ih0 := spec_l11At.mono_l k
 have m0 := @spec_l1Compare.mono
 unfold spec_l11At.f
 exact moZ
def spec_l11At.T2 : Bool × List (List Nat × List Nat) := (true, [([], []), ([], []), ([1], [1]), ([2], [2]), ([0, 3], [0, 3]), ([4], [4]), ([5], [5]), ([6, 5], [5, 6]), ([5], [5]), ([7, 8, 5], [5, 7, 8]), ([9, 5], [5, 9]), ([10, 5], [5, 10]), ([5], [5]), ([11, 12, 5, 5], [5, 11, 12]), ([13, 5], [5, 13]), ([5, 14], [5, 14])])
def spec_l11At.B2 : List Nat := [0, 0, 2, 6, 15, 31, 63, 127, 63, 511, 1023, 2047, 63, 8191, 16383, 32767]
theorem spec_l11At.tab2 : rtab .any (opsOf Tryd.f42 2) = spec_l11At.T2 := by kernel_rfl
theorem spec_l11At.bits2 : waitsOk spec_l11At.T2.2 spec_l11At.B2 = true := by kernel_rfl
def spec_l11At.T4 : Bool × List (List Nat × List Nat) := (true, [([], []), ([], []), ([], []), ([2], [2]), ([3], [3]), ([1, 4], [1, 4]), ([5], [5]), ([6], [6]), ([7, 6], [6, 7]), ([6], [6]), ([8, 9, 6], [6, 8, 9]), ([10, 6], [6, 10]), ([11, 6], [6, 11]), ([6], [6]), ([12, 13, 6, 6], [6, 12, 13]), ([14, 6], [6, 14]), ([6, 15], [6, 15]), ([0, 14, 0], [0]), ([16, 17, 0, 1, 2, 3, 4, 5, 6, 7, 8, 9, 10, 11, 12, 13, 14, 15, 16, 17], [16])])
def spec_l11At.B4 : List Nat := [0, 0, 0, 4, 12, 30, 62, 126, 254, 126, 1022, 2046, 4094, 126, 16382, 32766, 65534, 32767, 262143]
theorem spec_l11At.tab4 : rtab .any (opsOf Tryd.f42 4) = spec_l11At.T4 := by kernel_rfl
theorem spec_l11At.bits4 : waitsOk spec_l11At.T4.2 spec_l11At.B4 = true := by kernel_rfl
set_option maxHeartbeats 8000000 in
set_option maxRecDepth 100000 in
theorem spec_l11At.calls (k : Nat) (a0_0 : Int) (a0_1 : Int) (a0_2 : Int) (A0_3 : Option Addr) (c0_3 : Nat) (l0_3 : List (S37)) (a1_0 : ByteArray) (A1_1 : Option Addr) (c1_1 : Nat) (l1_1 : List (S123)) (a1_2 : Int) (r1 : Int) (r2 : Bool) (w : World) (hr0_3 : Kd.C k37 w A0_3 l0_3.length l0_3) (hc0_3 : l0_3.length ≤ c0_3) (hr1_1 : Kd.C k123 w A1_1 l1_1.length l1_1) (hc1_1 : l1_1.length ≤ c1_1) (h : spec_l11At.f k a0_0 a0_1 a0_2 l0_3 a1_0 l1_1 a1_2 = some (r1, r2)) :
 Calls Tryd.prog 42 #[.agg #[.int .i64 a0_0, .int .i64 a0_1, .int .i64 a0_2, .slice A0_3 l0_3.length c0_3], .agg #[.string a1_0, .slice A1_1 l1_1.length c1_1, .int .i64 a1_2]] w fun e w' => e = .returned (.tuple #[.int .i64 r1, .bool r2]) ∧ Below w.heap.size w w' := by
 have hu42 := Tryd.underlying42
 have hu32 := Tryd.underlying32
 have HR0_3 := aM hr0_3
 have HC0_3 := aM hc0_3
 clear hr0_3 hc0_3
 have HR1_1 := aM hr1_1
 have HC1_1 := aM hc1_1
 clear hr1_1 hc1_1
 have HB := aM (Below.refl w.heap.size w)
 have H : (spec_l11At.l0 k 0 a0_0 a0_1 a0_2 l0_3 a1_0 l1_1 a1_2) = some (r1, r2) := h
 clear h
 have H' := aM H
 clear H
 go_enter Tryd.func42, Tryd.ntmps42
 go_wp2_with (first | ((with_reducible refine gate_dst (N := 2) rfl ?_); refine bX 2 42 #[.int .i64 a0_0, .int .i64 a0_1, .int .i64 a0_2, .slice A0_3 l0_3.length c0_3] ?_; intro gb101 hg w3 hbox hb; have _ := aM (below_step hbZ hb); have _ := aM hbox; have _ := szZ hg; have _ := szZ hg; clear HB; rename_i HB BK101 GW101 GE101; clear hb hbox hg) | ((with_reducible refine gate_dst (N := 3) rfl ?_); refine bX 3 32 #[.string a1_0, .slice A1_1 l1_1.length c1_1, .int .i64 a1_2] ?_; intro gb102 hg w4 hbox hb; have _ := bB gb101 hb; have _ := aM (below_step hbZ hb); have _ := aM hbox; have _ := szZ hg; have _ := szZ hg; have ⟨_, _⟩ := nbB gb101 hg; clear BK101 HB; rename_i BK101 HB BK102 GW102 GE102 NB101_102 NB102_101; clear hb hbox hg))
 go_loopg [6] k (fun kq v6 w' => ∃ (x6_1 : Int), v6 = .int .i64 x6_1 ∧ Aside0 (spec_l11At.l0 kq x6_1 a0_0 a0_1 a0_2 l0_3 a1_0 l1_1 a1_2 = some (r1, r2)) ∧ Aside0 (kq ≤ k) ∧ Aside0 (w'.heap[gb101]? = some (.cells #[.int .i64 a0_0, .int .i64 a0_1, .int .i64 a0_2, (.slice A0_3 l0_3.length c0_3)] 42 (0, 0))) ∧ Aside0 (w'.heap[gb102]? = some (.cells #[.string a1_0, (.slice A1_1 l1_1.length c1_1), .int .i64 a1_2] 32 (0, 0))) ∧ Aside0 (Below w.heap.size w w'))
 case atStart => exact ⟨(0), z4458, H', ⟨Nat.le_refl _⟩, ⟨bkZ⟩, ⟨bkZ⟩, ⟨zcb41⟩⟩
 case round =>
  clear H'
  (try clear c1)
  obtain ⟨x6_1, rfl, HA, HK1, BK101, BK102, HB⟩ := hrel
  cases gk with
  | zero => exact absurd HA.out (by simp [spec_l11At.l0])
  | succ k1 =>
   have H := HA.out
   clear HA
   simp only [spec_l11At.l0] at H
   by_cases c5 : x6_1 < (l0_3.length : Int)
   · rw [if_pos c5] at H
     have c5b0 := dL c5
     clear c5
     obtain ⟨c6b0, H⟩ := sE H
     obtain ⟨t104, A7, H⟩ := bS H; try dsimp only at H
     by_cases c8 : t104 < 0
     · rw [if_pos c8] at H
       have c8b0 := dL c8
       clear c8
       have H' := aM H
       clear H
       try go_wp2
       have _ := aM (blk_drew BK101.out)
       have _ := aM (blk_drew BK102.out)
       have _ := aM (below_drew1 HB.out)
       clear BK101
       clear BK102
       clear HB
       rename_i BK101 BK102 HB
       have p103 : 0 ≤ (x6_1 : Int) := of_decide_eq_true z1200
       have q103 : x6_1 < (l0_3.length : Int) := of_decide_eq_true z1200
       obtain ⟨ad103, A103_1, c103_1, A103_7, c103_7, e103, hx103_0, hx103_1, hx103_2, hx103_3, hx103_4, hx103_5, hx103_6, hx103_7, hx103_8, hx103_9, hx103_10, hl103_1, hi103_1, hl103_7, hi103_7⟩ := at_T37 HR0_3.out x6_1 p103 q103
       have hw103_10 := hx103_10
       have hw103_9 := hx103_9
       have hw103_8 := hx103_8
       have hw103_7 := hx103_7
       have hw103_6 := hx103_6
       have hw103_5 := hx103_5
       have hw103_4 := hx103_4
       have hw103_3 := hx103_3
       have hw103_2 := hx103_2
       have hw103_1 := hx103_1
       have hw103_0 := hx103_0
       cases e103
       have TW103_1 := aM hx103_1
       have TW103_7 := aM hx103_7
       replace hx103_0 := (HB.out.cell (World.block_lt_of_cell? w _ hx103_0)).trans hx103_0
       replace hx103_1 := (HB.out.cell (World.block_lt_of_cell? w _ hx103_1)).trans hx103_1
       replace hx103_2 := (HB.out.cell (World.block_lt_of_cell? w _ hx103_2)).trans hx103_2
       replace hx103_3 := (HB.out.cell (World.block_lt_of_cell? w _ hx103_3)).trans hx103_3
       replace hx103_4 := (HB.out.cell (World.block_lt_of_cell? w _ hx103_4)).trans hx103_4
       replace hx103_5 := (HB.out.cell (World.block_lt_of_cell? w _ hx103_5)).trans hx103_5
       replace hx103_6 := (HB.out.cell (World.block_lt_of_cell? w _ hx103_6)).trans hx103_6
       replace hx103_7 := (HB.out.cell (World.block_lt_of_cell? w _ hx103_7)).trans hx103_7
       replace hx103_8 := (HB.out.cell (World.block_lt_of_cell? w _ hx103_8)).trans hx103_8
       replace hx103_9 := (HB.out.cell (World.block_lt_of_cell? w _ hx103_9)).trans hx103_9
       replace hx103_10 := (HB.out.cell (World.block_lt_of_cell? w _ hx103_10)).trans hx103_10
       have HR103_1 := aM hi103_1
       have HC103_1 := aM hl103_1
       clear hi103_1 hl103_1
       have HR103_7 := aM hi103_7
       have HC103_7 := aM hl103_7
       clear hi103_7 hl103_7
       replace p103 := eq_true p103
       replace q103 := eq_true q103
       refine sA 16 spec_l11At.tab2 spec_l11At.bits2 (fun w' => w'.cell? ⟨gb101, 0, none⟩ = some (.int .i64 a0_0) ∧ w'.cell? ⟨gb101, 1, none⟩ = some (.int .i64 a0_1) ∧ w'.cell? ⟨gb101, 2, none⟩ = some (.int .i64 a0_2) ∧ w'.cell? ⟨gb101, 3, none⟩ = some (.slice (some ad103) l0_3.length c0_3) ∧ w'.cell? ⟨gb102, 0, none⟩ = some (.string a1_0) ∧ w'.cell? ⟨gb102, 1, none⟩ = some (.slice A1_1 l1_1.length c1_1) ∧ w'.cell? ⟨gb102, 2, none⟩ = some (.int .i64 a1_2) ∧ w'.cell? (ad103.add ((x6_1).toNat * 11)) = some (.string ((rd_T37 l0_3 x6_1).f0.f0)) ∧ w'.cell? ⟨(ad103.add ((x6_1).toNat * 11)).block, (ad103.add ((x6_1).toNat * 11)).off + 1, none⟩ = some (.slice A103_1 ((rd_T37 l0_3 x6_1).f0.f1).length c103_1) ∧ w'.cell? ⟨(ad103.add ((x6_1).toNat * 11)).block, (ad103.add ((x6_1).toNat * 11)).off + 2, none⟩ = some (.int .i64 ((rd_T37 l0_3 x6_1).f0.f2)) ∧ w'.cell? ⟨(ad103.add ((x6_1).toNat * 11)).block, (ad103.add ((x6_1).toNat * 11)).off + 3, none⟩ = some (.int .i64 ((rd_T37 l0_3 x6_1).f1.f0)) ∧ w'.cell? ⟨(ad103.add ((x6_1).toNat * 11)).block, (ad103.add ((x6_1).toNat * 11)).off + 4, none⟩ = some (.int .i64 ((rd_T37 l0_3 x6_1).f1.f1)) ∧ w'.cell? ⟨(ad103.add ((x6_1).toNat * 11)).block, (ad103.add ((x6_1).toNat * 11)).off + 5, none⟩ = some (.int .i64 ((rd_T37 l0_3 x6_1).f1.f2)) ∧ w'.cell? ⟨(ad103.add ((x6_1).toNat * 11)).block, (ad103.add ((x6_1).toNat * 11)).off + 6, none⟩ = some (.int .i64 ((rd_T37 l0_3 x6_1).f1.f3)) ∧ w'.cell? ⟨(ad103.add ((x6_1).toNat * 11)).block, (ad103.add ((x6_1).toNat * 11)).off + 7, none⟩ = some (.slice A103_7 ((rd_T37 l0_3 x6_1).f1.f4).length c103_7) ∧ w'.cell? ⟨(ad103.add ((x6_1).toNat * 11)).block, (ad103.add ((x6_1).toNat * 11)).off + 8, none⟩ = some (.bool ((rd_T37 l0_3 x6_1).f1.f5)) ∧ w'.cell? ⟨(ad103.add ((x6_1).toNat * 11)).block, (ad103.add ((x6_1).toNat * 11)).off + 9, none⟩ = some (.int .i64 ((rd_T37 l0_3 x6_1).f2)) ∧ w'.cell? ⟨(ad103.add ((x6_1).toNat * 11)).block, (ad103.add ((x6_1).toNat * 11)).off + 10, none⟩ = some (.bool ((rd_T37 l0_3 x6_1).f3))) [] (fun hHeld HT_ HW_ => ?_)
       generalize wr.drew = w9 at BK101 BK102 HB HR103_1 HR103_7 hx103_0 hx103_1 hx103_10 hx103_2 hx103_3 hx103_4 hx103_5 hx103_6 hx103_7 hx103_8 hx103_9 hHeld ⊢
       refine pA 0 7 HT_ ?_; refine pA 1 8 HT_ ?_; refine tA 2 9 HT_ HW_ hHeld ?_; refine pA 3 10 HT_ ?_; refine pA 4 11 HT_ ?_; refine pA 5 12 HT_ ?_; refine pA 6 13 HT_ ?_; refine pA 8 15 HT_ ?_; refine tA 7 14 HT_ HW_ hHeld ?_; refine pA 9 16 HT_ ?_; refine pA 10 17 HT_ ?_; refine tA 11 18 HT_ HW_ hHeld ?_; refine tA 12 19 HT_ HW_ hHeld ?_; refine oA 13 20 HT_ (fun K hK => ?_)
       refine goes_ Tryd.func64 (by kernel_rfl) rfl #[.agg #[.string ((rd_T37 l0_3 x6_1).f0.f0), .slice A103_1 ((rd_T37 l0_3 x6_1).f0.f1).length c103_1, .int .i64 ((rd_T37 l0_3 x6_1).f0.f2)], .agg #[.string a1_0, .slice A1_1 l1_1.length c1_1, .int .i64 a1_2]] (by rfl) rfl rfl zee81 ?_
       with_reducible refine (spec_l1Compare.calls k1 ((rd_T37 l0_3 x6_1).f0.f0) _ _ ((rd_T37 l0_3 x6_1).f0.f1) ((rd_T37 l0_3 x6_1).f0.f2) a1_0 _ _ l1_1 a1_2 t104 _ ?side1 ?side2 ?side3 ?side4 A7.out).mono ?_
       (case side1 => exact (cZ (Kd.C_below HR103_1.out HB.out)))
       (case side2 => exact HC103_1.out)
       (case side3 => exact (cZ (Kd.C_below HR1_1.out HB.out)))
       (case side4 => exact HC1_1.out)
       rintro e w10 ⟨rfl, hb⟩
       refine ⟨_, rfl, ?_⟩
       have _ := bB gb101 hb
       have _ := bB gb102 hb
       have _ := aM (below_step hbZ hb)
       clear BK101
       clear BK102
       clear HB
       rename_i BK101 BK102 HB
       (try clear hb)
       refine hK.out _ _ sZ (fun hHeld => ?_)
       clear hK K
       refine nA 20 ?_; refine pA 14 21 HT_ ?_; refine pA 15 22 HT_ ?_
       refine done_ (done_of HT_.out (by kernel_rfl)) ?_
       try go_wp2
       go_roundg k1
       case measure => have := HK1.out; omega
       case rel => exact ⟨(wrap64 (x6_1 + 1)), z4458, H', ⟨zfb39⟩, ⟨bkZ⟩, ⟨bkZ⟩, ⟨zcb41⟩⟩
     · rw [if_neg c8] at H
       have c8b0 := nL c8
       clear c8
       obtain ⟨t106, A11, H⟩ := bS H; try dsimp only at H
       simp only [Option.some.injEq, Prod.mk.injEq] at H
       obtain ⟨rfl, rfl⟩ := H
       try go_wp2
       have _ := aM (blk_drew BK101.out)
       have _ := aM (blk_drew BK102.out)
       have _ := aM (below_drew1 HB.out)
       clear BK101
       clear BK102
       clear HB
       rename_i BK101 BK102 HB
       have p103 : 0 ≤ (x6_1 : Int) := of_decide_eq_true z1200
       have q103 : x6_1 < (l0_3.length : Int) := of_decide_eq_true z1200
       obtain ⟨ad103, A103_1, c103_1, A103_7, c103_7, e103, hx103_0, hx103_1, hx103_2, hx103_3, hx103_4, hx103_5, hx103_6, hx103_7, hx103_8, hx103_9, hx103_10, hl103_1, hi103_1, hl103_7, hi103_7⟩ := at_T37 HR0_3.out x6_1 p103 q103
       have hw103_10 := hx103_10
       have hw103_9 := hx103_9
       have hw103_8 := hx103_8
       have hw103_7 := hx103_7
       have hw103_6 := hx103_6
       have hw103_5 := hx103_5
       have hw103_4 := hx103_4
       have hw103_3 := hx103_3
       have hw103_2 := hx103_2
       have hw103_1 := hx103_1
       have hw103_0 := hx103_0
       cases e103
       have TW103_1 := aM hx103_1
       have TW103_7 := aM hx103_7
       replace hx103_0 := (HB.out.cell (World.block_lt_of_cell? w _ hx103_0)).trans hx103_0
       replace hx103_1 := (HB.out.cell (World.block_lt_of_cell? w _ hx103_1)).trans hx103_1
       replace hx103_2 := (HB.out.cell (World.block_lt_of_cell? w _ hx103_2)).trans hx103_2
       replace hx103_3 := (HB.out.cell (World.block_lt_of_cell? w _ hx103_3)).trans hx103_3
       replace hx103_4 := (HB.out.cell (World.block_lt_of_cell? w _ hx103_4)).trans hx103_4
       replace hx103_5 := (HB.out.cell (World.block_lt_of_cell? w _ hx103_5)).trans hx103_5
       replace hx103_6 := (HB.out.cell (World.block_lt_of_cell? w _ hx103_6)).trans hx103_6
       replace hx103_7 := (HB.out.cell (World.block_lt_of_cell? w _ hx103_7)).trans hx103_7
       replace hx103_8 := (HB.out.cell (World.block_lt_of_cell? w _ hx103_8)).trans hx103_8
       replace hx103_9 := (HB.out.cell (World.block_lt_of_cell? w _ hx103_9)).trans hx103_9
       replace hx103_10 := (HB.out.cell (World.block_lt_of_cell? w _ hx103_10)).trans hx103_10
       have HR103_1 := aM hi103_1
       have HC103_1 := aM hl103_1
       clear hi103_1 hl103_1
       have HR103_7 := aM hi103_7
       have HC103_7 := aM hl103_7
       clear hi103_7 hl103_7
       replace p103 := eq_true p103
       replace q103 := eq_true q103
       refine sA 16 spec_l11At.tab2 spec_l11At.bits2 (fun w' => w'.cell? ⟨gb101, 0, none⟩ = some (.int .i64 a0_0) ∧ w'.cell? ⟨gb101, 1, none⟩ = some (.int .i64 a0_1) ∧ w'.cell? ⟨gb101, 2, none⟩ = some (.int .i64 a0_2) ∧ w'.cell? ⟨gb101, 3, none⟩ = some (.slice (some ad103) l0_3.length c0_3) ∧ w'.cell? ⟨gb102, 0, none⟩ = some (.string a1_0) ∧ w'.cell? ⟨gb102, 1, none⟩ = some (.slice A1_1 l1_1.length c1_1) ∧ w'.cell? ⟨gb102, 2, none⟩ = some (.int .i64 a1_2) ∧ w'.cell? (ad103.add ((x6_1).toNat * 11)) = some (.string ((rd_T37 l0_3 x6_1).f0.f0)) ∧ w'.cell? ⟨(ad103.add ((x6_1).toNat * 11)).block, (ad103.add ((x6_1).toNat * 11)).off + 1, none⟩ = some (.slice A103_1 ((rd_T37 l0_3 x6_1).f0.f1).length c103_1) ∧ w'.cell? ⟨(ad103.add ((x6_1).toNat * 11)).block, (ad103.add ((x6_1).toNat * 11)).off + 2, none⟩ = some (.int .i64 ((rd_T37 l0_3 x6_1).f0.f2)) ∧ w'.cell? ⟨(ad103.add ((x6_1).toNat * 11)).block, (ad103.add ((x6_1).toNat * 11)).off + 3, none⟩ = some (.int .i64 ((rd_T37 l0_3 x6_1).f1.f0)) ∧ w'.cell? ⟨(ad103.add ((x6_1).toNat * 11)).block, (ad103.add ((x6_1).toNat * 11)).off + 4, none⟩ = some (.int .i64 ((rd_T37 l0_3 x6_1).f1.f1)) ∧ w'.cell? ⟨(ad103.add ((x6_1).toNat * 11)).block, (ad103.add ((x6_1).toNat * 11)).off + 5, none⟩ = some (.int .i64 ((rd_T37 l0_3 x6_1).f1.f2)) ∧ w'.cell? ⟨(ad103.add ((x6_1).toNat * 11)).block, (ad103.add ((x6_1).toNat * 11)).off + 6, none⟩ = some (.int .i64 ((rd_T37 l0_3 x6_1).f1.f3)) ∧ w'.cell? ⟨(ad103.add ((x6_1).toNat * 11)).block, (ad103.add ((x6_1).toNat * 11)).off + 7, none⟩ = some (.slice A103_7 ((rd_T37 l0_3 x6_1).f1.f4).length c103_7) ∧ w'.cell? ⟨(ad103.add ((x6_1).toNat * 11)).block, (ad103.add ((x6_1).toNat * 11)).off + 8, none⟩ = some (.bool ((rd_T37 l0_3 x6_1).f1.f5)) ∧ w'.cell? ⟨(ad103.add ((x6_1).toNat * 11)).block, (ad103.add ((x6_1).toNat * 11)).off + 9, none⟩ = some (.int .i64 ((rd_T37 l0_3 x6_1).f2)) ∧ w'.cell? ⟨(ad103.add ((x6_1).toNat * 11)).block, (ad103.add ((x6_1).toNat * 11)).off + 10, none⟩ = some (.bool ((rd_T37 l0_3 x6_1).f3))) [] (fun hHeld HT_ HW_ => ?_)
       generalize wr.drew = w12 at BK101 BK102 HB HR103_1 HR103_7 hx103_0 hx103_1 hx103_10 hx103_2 hx103_3 hx103_4 hx103_5 hx103_6 hx103_7 hx103_8 hx103_9 hHeld ⊢
       refine pA 0 7 HT_ ?_; refine pA 1 8 HT_ ?_; refine tA 2 9 HT_ HW_ hHeld ?_; refine pA 3 10 HT_ ?_; refine pA 4 11 HT_ ?_; refine pA 5 12 HT_ ?_; refine pA 6 13 HT_ ?_; refine pA 8 15 HT_ ?_; refine tA 7 14 HT_ HW_ hHeld ?_; refine pA 9 16 HT_ ?_; refine pA 10 17 HT_ ?_; refine tA 11 18 HT_ HW_ hHeld ?_; refine tA 12 19 HT_ HW_ hHeld ?_; refine oA 13 20 HT_ (fun K hK => ?_)
       refine goes_ Tryd.func64 (by kernel_rfl) rfl #[.agg #[.string ((rd_T37 l0_3 x6_1).f0.f0), .slice A103_1 ((rd_T37 l0_3 x6_1).f0.f1).length c103_1, .int .i64 ((rd_T37 l0_3 x6_1).f0.f2)], .agg #[.string a1_0, .slice A1_1 l1_1.length c1_1, .int .i64 a1_2]] (by rfl) rfl rfl zee81 ?_
       with_reducible refine (spec_l1Compare.calls k1 ((rd_T37 l0_3 x6_1).f0.f0) _ _ ((rd_T37 l0_3 x6_1).f0.f1) ((rd_T37 l0_3 x6_1).f0.f2) a1_0 _ _ l1_1 a1_2 t104 _ ?side1 ?side2 ?side3 ?side4 A7.out).mono ?_
       (case side1 => exact (cZ (Kd.C_below HR103_1.out HB.out)))
       (case side2 => exact HC103_1.out)
       (case side3 => exact (cZ (Kd.C_below HR1_1.out HB.out)))
       (case side4 => exact HC1_1.out)
       rintro e w13 ⟨rfl, hb⟩
       refine ⟨_, rfl, ?_⟩
       have _ := bB gb101 hb
       have _ := bB gb102 hb
       have _ := aM (below_step hbZ hb)
       clear BK101
       clear BK102
       clear HB
       rename_i BK101 BK102 HB
       (try clear hb)
       refine hK.out _ _ sZ (fun hHeld => ?_)
       clear hK K
       refine nA 20 ?_; refine pA 14 21 HT_ ?_; refine pA 15 22 HT_ ?_
       refine done_ (done_of HT_.out (by kernel_rfl)) ?_
       try go_wp2
       have _ := aM (blk_drew BK101.out)
       have _ := aM (blk_drew BK102.out)
       have _ := aM (below_drew1 HB.out)
       clear BK101
       clear BK102
       clear HB
       rename_i BK101 BK102 HB
       have p105 : 0 ≤ (x6_1 : Int) := of_decide_eq_true z1200
       have q105 : x6_1 < (l0_3.length : Int) := of_decide_eq_true z1200
       obtain ⟨ad105, A105_1, c105_1, A105_7, c105_7, e105, hx105_0, hx105_1, hx105_2, hx105_3, hx105_4, hx105_5, hx105_6, hx105_7, hx105_8, hx105_9, hx105_10, hl105_1, hi105_1, hl105_7, hi105_7⟩ := at_T37 HR0_3.out x6_1 p105 q105
       have hw105_10 := hx105_10
       have hw105_9 := hx105_9
       have hw105_8 := hx105_8
       have hw105_7 := hx105_7
       have hw105_6 := hx105_6
       have hw105_5 := hx105_5
       have hw105_4 := hx105_4
       have hw105_3 := hx105_3
       have hw105_2 := hx105_2
       have hw105_1 := hx105_1
       have hw105_0 := hx105_0
       obtain rfl : ad103 = ad105 := (by injection e105)
       (try (have ez_ := hx105_1.symm.trans TW103_1.out; simp only [Option.some.injEq, Value.slice.injEq, true_and] at ez_; obtain ⟨ez1_, ez2_⟩ := ez_; subst ez1_ ez2_))
       (try (have ez_ := hx105_7.symm.trans TW103_7.out; simp only [Option.some.injEq, Value.slice.injEq, true_and] at ez_; obtain ⟨ez1_, ez2_⟩ := ez_; subst ez1_ ez2_))
       have TW105_1 := aM hx105_1
       have TW105_7 := aM hx105_7
       replace hx105_0 := (HB.out.cell (World.block_lt_of_cell? w _ hx105_0)).trans hx105_0
       replace hx105_1 := (HB.out.cell (World.block_lt_of_cell? w _ hx105_1)).trans hx105_1
       replace hx105_2 := (HB.out.cell (World.block_lt_of_cell? w _ hx105_2)).trans hx105_2
       replace hx105_3 := (HB.out.cell (World.block_lt_of_cell? w _ hx105_3)).trans hx105_3
       replace hx105_4 := (HB.out.cell (World.block_lt_of_cell? w _ hx105_4)).trans hx105_4
       replace hx105_5 := (HB.out.cell (World.block_lt_of_cell? w _ hx105_5)).trans hx105_5
       replace hx105_6 := (HB.out.cell (World.block_lt_of_cell? w _ hx105_6)).trans hx105_6
       replace hx105_7 := (HB.out.cell (World.block_lt_of_cell? w _ hx105_7)).trans hx105_7
       replace hx105_8 := (HB.out.cell (World.block_lt_of_cell? w _ hx105_8)).trans hx105_8
       replace hx105_9 := (HB.out.cell (World.block_lt_of_cell? w _ hx105_9)).trans hx105_9
       replace hx105_10 := (HB.out.cell (World.block_lt_of_cell? w _ hx105_10)).trans hx105_10
       have HR105_1 := aM hi105_1
       have HC105_1 := aM hl105_1
       clear hi105_1 hl105_1
       have HR105_7 := aM hi105_7
       have HC105_7 := aM hl105_7
       clear hi105_7 hl105_7
       replace p105 := eq_true p105
       replace q105 := eq_true q105
       refine sA 19 spec_l11At.tab4 spec_l11At.bits4 (fun w' => w'.cell? ⟨gb101, 0, none⟩ = some (.int .i64 a0_0) ∧ w'.cell? ⟨gb101, 1, none⟩ = some (.int .i64 a0_1) ∧ w'.cell? ⟨gb101, 2, none⟩ = some (.int .i64 a0_2) ∧ w'.cell? ⟨gb101, 3, none⟩ = some (.slice (some ad103) l0_3.length c0_3) ∧ w'.cell? ⟨gb102, 0, none⟩ = some (.string a1_0) ∧ w'.cell? ⟨gb102, 1, none⟩ = some (.slice A1_1 l1_1.length c1_1) ∧ w'.cell? ⟨gb102, 2, none⟩ = some (.int .i64 a1_2) ∧ w'.cell? (ad103.add ((x6_1).toNat * 11)) = some (.string ((rd_T37 l0_3 x6_1).f0.f0)) ∧ w'.cell? ⟨(ad103.add ((x6_1).toNat * 11)).block, (ad103.add ((x6_1).toNat * 11)).off + 1, none⟩ = some (.slice A105_1 ((rd_T37 l0_3 x6_1).f0.f1).length c105_1) ∧ w'.cell? ⟨(ad103.add ((x6_1).toNat * 11)).block, (ad103.add ((x6_1).toNat * 11)).off + 2, none⟩ = some (.int .i64 ((rd_T37 l0_3 x6_1).f0.f2)) ∧ w'.cell? ⟨(ad103.add ((x6_1).toNat * 11)).block, (ad103.add ((x6_1).toNat * 11)).off + 3, none⟩ = some (.int .i64 ((rd_T37 l0_3 x6_1).f1.f0)) ∧ w'.cell? ⟨(ad103.add ((x6_1).toNat * 11)).block, (ad103.add ((x6_1).toNat * 11)).off + 4, none⟩ = some (.int .i64 ((rd_T37 l0_3 x6_1).f1.f1)) ∧ w'.cell? ⟨(ad103.add ((x6_1).toNat * 11)).block, (ad103.add ((x6_1).toNat * 11)).off + 5, none⟩ = some (.int .i64 ((rd_T37 l0_3 x6_1).f1.f2)) ∧ w'.cell? ⟨(ad103.add ((x6_1).toNat * 11)).block, (ad103.add ((x6_1).toNat * 11)).off + 6, none⟩ = some (.int .i64 ((rd_T37 l0_3 x6_1).f1.f3)) ∧ w'.cell? ⟨(ad103.add ((x6_1).toNat * 11)).block, (ad103.add ((x6_1).toNat * 11)).off + 7, none⟩ = some (.slice A105_7 ((rd_T37 l0_3 x6_1).f1.f4).length c105_7) ∧ w'.cell? ⟨(ad103.add ((x6_1).toNat * 11)).block, (ad103.add ((x6_1).toNat * 11)).off + 8, none⟩ = some (.bool ((rd_T37 l0_3 x6_1).f1.f5)) ∧ w'.cell? ⟨(ad103.add ((x6_1).toNat * 11)).block, (ad103.add ((x6_1).toNat * 11)).off + 9, none⟩ = some (.int .i64 ((rd_T37 l0_3 x6_1).f2)) ∧ w'.cell? ⟨(ad103.add ((x6_1).toNat * 11)).block, (ad103.add ((x6_1).toNat * 11)).off + 10, none⟩ = some (.bool ((rd_T37 l0_3 x6_1).f3))) [] (fun hHeld HT_ HW_ => ?_)
       generalize w13.drew = w14 at BK101 BK102 HB HR105_1 HR105_7 hx105_0 hx105_1 hx105_10 hx105_2 hx105_3 hx105_4 hx105_5 hx105_6 hx105_7 hx105_8 hx105_9 hHeld ⊢
       refine pA 0 25 HT_ ?_; refine pA 1 26 HT_ ?_; refine pA 2 27 HT_ ?_; refine tA 3 28 HT_ HW_ hHeld ?_; refine pA 4 29 HT_ ?_; refine pA 5 30 HT_ ?_; refine pA 6 31 HT_ ?_; refine pA 7 32 HT_ ?_; refine pA 9 34 HT_ ?_; refine tA 8 33 HT_ HW_ hHeld ?_; refine pA 10 35 HT_ ?_; refine pA 11 36 HT_ ?_; refine tA 12 37 HT_ HW_ hHeld ?_; refine tA 13 38 HT_ HW_ hHeld ?_; refine oA 14 39 HT_ (fun K hK => ?_)
       refine goes_ Tryd.func64 (by kernel_rfl) rfl #[.agg #[.string ((rd_T37 l0_3 x6_1).f0.f0), .slice A105_1 ((rd_T37 l0_3 x6_1).f0.f1).length c105_1, .int .i64 ((rd_T37 l0_3 x6_1).f0.f2)], .agg #[.string a1_0, .slice A1_1 l1_1.length c1_1, .int .i64 a1_2]] (by rfl) rfl rfl zee81 ?_
       with_reducible refine (spec_l1Compare.calls k1 ((rd_T37 l0_3 x6_1).f0.f0) _ _ ((rd_T37 l0_3 x6_1).f0.f1) ((rd_T37 l0_3 x6_1).f0.f2) a1_0 _ _ l1_1 a1_2 t106 _ ?side1 ?side2 ?side3 ?side4 A11.out).mono ?_
       (case side1 => exact (cZ (Kd.C_below HR105_1.out HB.out)))
       (case side2 => exact HC105_1.out)
       (case side3 => exact (cZ (Kd.C_below HR1_1.out HB.out)))
       (case side4 => exact HC1_1.out)
       rintro e w15 ⟨rfl, hb⟩
       refine ⟨_, rfl, ?_⟩
       have _ := bB gb101 hb
       have _ := bB gb102 hb
       have _ := aM (below_step hbZ hb)
       clear BK101
       clear BK102
       clear HB
       rename_i BK101 BK102 HB
       (try clear hb)
       refine hK.out _ _ sZ (fun hHeld => ?_)
       clear hK K
       refine nA 39 ?_; refine pA 15 40 HT_ ?_; refine pA 16 41 HT_ ?_; refine pA 17 4 HT_ ?_; refine pA 18 5 HT_ ?_
       refine done_ (done_of HT_.out (by kernel_rfl)) ?_
       try go_wp2
       go_ret2
       exact ⟨z674d, zcb41⟩
   · rw [if_neg c5] at H
     have c5b0 := nL c5
     clear c5
     simp only [Option.some.injEq, Prod.mk.injEq] at H
     obtain ⟨rfl, rfl⟩ := H
     try go_wp2
     have _ := aM (blk_drew BK101.out)
     have _ := aM (blk_drew BK102.out)
     have _ := aM (below_drew1 HB.out)
     clear BK101
     clear BK102
     clear HB
     rename_i BK101 BK102 HB
     refine sA 16 spec_l11At.tab2 spec_l11At.bits2 (fun w' => w'.cell? ⟨gb101, 0, none⟩ = some (.int .i64 a0_0) ∧ w'.cell? ⟨gb101, 1, none⟩ = some (.int .i64 a0_1) ∧ w'.cell? ⟨gb101, 2, none⟩ = some (.int .i64 a0_2) ∧ w'.cell? ⟨gb101, 3, none⟩ = some (.slice A0_3 l0_3.length c0_3)) [] (fun hHeld HT_ HW_ => ?_)
     generalize wr.drew = w16 at BK101 BK102 HB hHeld ⊢
     refine pA 0 7 HT_ ?_; refine pA 1 8 HT_ ?_; refine tA 2 9 HT_ HW_ hHeld ?_; refine pA 3 10 HT_ ?_; refine pA 4 11 HT_ ?_; refine pA 5 12 HT_ ?_; refine uA 6 13 HT_ ?_; refine uA 7 14 HT_ ?_; refine uA 8 15 HT_ ?_; refine uA 9 16 HT_ ?_; refine uA 10 17 HT_ ?_; refine uA 11 18 HT_ ?_; refine uA 12 19 HT_ ?_; refine uA 13 20 HT_ ?_; refine uA 14 21 HT_ ?_; refine pA 15 22 HT_ ?_
     refine done_ (done_of HT_.out (by kernel_rfl)) ?_
     try go_wp2
     have _ := aM (blk_drew BK101.out)
     have _ := aM (blk_drew BK102.out)
     have _ := aM (below_drew1 HB.out)
     clear BK101
     clear BK102
     clear HB
     rename_i BK101 BK102 HB
     refine sA 19 spec_l11At.tab4 spec_l11At.bits4 (fun w' => w'.cell? ⟨gb101, 0, none⟩ = some (.int .i64 a0_0) ∧ w'.cell? ⟨gb101, 1, none⟩ = some (.int .i64 a0_1) ∧ w'.cell? ⟨gb101, 2, none⟩ = some (.int .i64 a0_2) ∧ w'.cell? ⟨gb101, 3, none⟩ = some (.slice A0_3 l0_3.length c0_3)) [] (fun hHeld HT_ HW_ => ?_)
     generalize w16.drew = w17 at BK101 BK102 HB hHeld ⊢
     refine pA 0 25 HT_ ?_; refine pA 1 26 HT_ ?_; refine pA 2 27 HT_ ?_; refine tA 3 28 HT_ HW_ hHeld ?_; refine pA 4 29 HT_ ?_; refine pA 5 30 HT_ ?_; refine pA 6 31 HT_ ?_; refine uA 7 32 HT_ ?_; refine uA 8 33 HT_ ?_; refine uA 9 34 HT_ ?_; refine uA 10 35 HT_ ?_; refine uA 11 36 HT_ ?_; refine uA 12 37 HT_ ?_; refine uA 13 38 HT_ ?_; refine uA 14 39 HT_ ?_; refine uA 15 40 HT_ ?_; refine pA 16 41 HT_ ?_; refine pA 17 4 HT_ ?_; refine pA 18 5 HT_ ?_
     refine done_ (done_of HT_.out (by kernel_rfl)) ?_
     try go_wp2
     go_ret2
     exact ⟨z674d, zcb41⟩

end Go.Proofs.YtkgmoajdcibafaaDoor.P

-- written by a program of this session's (wip/pp)
namespace Go.Proofs.YtkgmoajdcibafaaDoor.P
open Go.RowKit Go.Proofs.YtkgmoajdcibafaaDoorW.PrintWords Go.Proofs.YtkgmoajdcibafaaDoorW.PrintLast Go.Proofs.YtkgmoajdcibafaaDoorW.PrintMore
attribute [local go_sem] max2_int min2_int max_two min_two max_three min_three max_four min_four str_geq str_gtr str_leq   -- for this text's walks alone
set_option linter.unusedVariables false
set_option linter.unusedSimpArgs false

/-! ### spec_l11OwnKey: function 63 -/
def spec_l11OwnKey.f (a0_0 : ByteArray) (l0_1 : List (S123)) (a0_2 : Int) : Option (ByteArray × (List (S123)) × Int) := (some (([] : List (S123)) : List (S123))).bind fun y103 => (if y103.length + l0_1.length < 4398046511104 then (some (a0_0, (y103 ++ l0_1), a0_2)) else (none))
set_option maxHeartbeats 8000000 in
set_option maxRecDepth 100000 in
theorem spec_l11OwnKey.calls (a0_0 : ByteArray) (A0_1 : Option Addr) (c0_1 : Nat) (l0_1 : List (S123)) (a0_2 : Int) (r1 : ByteArray) (r2 : List (S123)) (r3 : Int) (w : World) (hr0_1 : Kd.C k123 w A0_1 l0_1.length l0_1) (hc0_1 : l0_1.length ≤ c0_1) (h : spec_l11OwnKey.f a0_0 l0_1 a0_2 = some (r1, r2, r3)) :
 Calls Tryd.prog 63 #[.agg #[.string a0_0, .slice A0_1 l0_1.length c0_1, .int .i64 a0_2]] w fun e w' => ∃ v1_ : Value, e = .returned (.agg #[.string r1, v1_, .int .i64 r3]) ∧ Kd.R k123 123 w' w.heap.size (fun _ => True) v1_ r2 ∧ Below w.heap.size w w' := by
 have hu32 := Tryd.underlying32
 have HR0_1 := aM hr0_1
 have HC0_1 := aM hc0_1
 clear hr0_1 hc0_1
 have HB := aM (Below.refl w.heap.size w)
 have H : ((some (([] : List (S123)) : List (S123))).bind fun y103 => (if y103.length + l0_1.length < 4398046511104 then (some (a0_0, (y103 ++ l0_1), a0_2)) else (none))) = some (r1, r2, r3) := h
 clear h
 obtain ⟨y103, hy103⟩ : ∃ y_ : List (S123), y_ = (([] : List (S123))) := ⟨_, rfl⟩
 first | (replace H := bindS H; rw [← hy103] at H; try dsimp only at H) | rw [← hy103] at H
 have Ny103 := aM hy103
 clear hy103
 obtain ⟨LMc2, H⟩ := sM H
 obtain ⟨y106, hy106⟩ : ∃ y_ : List (S123), y_ = (y103 ++ l0_1) := ⟨_, rfl⟩
 first | (replace H := bindS H; rw [← hy106] at H; try dsimp only at H) | rw [← hy106] at H
 have Ny106 := aM hy106
 clear hy106
 simp only [Option.some.injEq, Prod.mk.injEq] at H
 obtain ⟨rfl, rfl, rfl⟩ := H
 go_enter Tryd.func63, Tryd.ntmps63
 go_wp2_with (first | ((with_reducible refine gate_dst (N := 1) rfl ?_); refine bX 1 32 #[.string a0_0, .slice A0_1 l0_1.length c0_1, .int .i64 a0_2] ?_; intro gb101 hg w3 hbox hb; have _ := aM (below_step hbZ hb); have _ := aM hbox; have _ := szZ hg; have _ := szZ hg; clear HB; rename_i HB BK101 GW101 GE101; clear hb hbox hg) | ((with_reducible refine gate_dst (N := 2) rfl ?_); refine bX 2 32 #[.string (⟨#[]⟩ : ByteArray), .slice none 0 0, .int .i64 0] ?_; intro gb102 hg w4 hbox hb; have _ := bB gb101 hb; have _ := aM (below_step hbZ hb); have _ := aM hbox; have _ := szZ hg; have _ := szZ hg; have ⟨_, _⟩ := nbB gb101 hg; clear BK101 HB; rename_i BK101 HB BK102 GW102 GE102 NB101_102 NB102_101; clear hb hbox hg) | ((with_reducible refine gate_dst (N := 3) rfl ?_); refine Kd.R_lit k123 _ 123 ?hg (N := 3) ?hd (xs := ([] : List (S123))) (inner := []) (ok := fun _ => True) (okp := fun _ => True) ?hr ?hp (fun _ hk => hk) trivial (Below.refl _ _) (Nat.le_refl _) (by simp) ?_; (case hd => rfl); (case hg => rfl); (case hr => first | (go_simp; done) | (go_simp; rfl)); (case hp => exact (Reps.none _ _)); intro v104 w5 ho6 hb hg_ hnew_; clear hg_ hnew_; (first | rw [← Ny103.out] at ho6 | (simp only [Int.reduceToNat] at ho6; rw [← Ny103.out] at ho6)); have _ := aM (Kd.R_lower ho6 (below_size hbZ)); have _ := bB gb101 hb; have _ := bB gb102 hb; have _ := aM (below_step hbZ hb); clear BK101 BK102 HB; rename_i HO105 BK101 BK102 HB; clear hb ho6; have hnb7 := NB101_102.out; have hnc7 := NB102_101.out; have hz8 := cellsZ3 BK101.out) | ((with_reducible refine gate_builtin (b := .append) (xs := #[.tmp 3, .tmp 5]) rfl ?_); at_builtin; refine Kd.R_append_rows k123 (w0 := w) w.heap.size rfl (.tmp 3) (.tmp 5) 30 123 (.agg #[(.string ⟨#[]⟩), (.string ⟨#[]⟩)]) 32 rfl Tryd.underlying30 info123 rfl (by decide) (by omega) v104 y103 l0_1 _ _ _ (fun _ => True) (fun _ => False) rfl rfl ?aO ?aR (fun _ _ h => h) (fun _ h => h.elim) ?aF ?aB ?aS ?aL ?_; (case aR => repeat (first | exact (Kd.C_below HR0_1.out HB.out) | (with_reducible refine Kd.C_alloc ?_ _) | (with_reducible refine Kd.C_drewN ?_ _) | (with_reducible refine Kd.C_drew ?_))); (case aB => exact hbZ); (case aF => exact (fun _ _ => trivial)); (case aO => exact (rZ HO105.out)); (case aS => exact (below_size hbZ)); (case aL => have := LMc2.out; omega); intro v107 w9 ho hb hg hat; rw [← Ny106.out] at ho; have _ := aM (blk_grown (g := gb101) bkZ hg (Kd.R_ne HO105.out BK101.out (by decide))); have _ := aM (blk_grown (g := gb102) bkZ hg (Kd.R_ne HO105.out BK102.out (by decide))); have _ := aM hb; have _ := aM ho; clear BK101 BK102 HB HO105; rename_i BK101 BK102 HB HO108; clear ho hb hg hat; obtain ⟨Ao10, co10, eo10⟩ := Kd.R_slice HO108.out; subst eo10; have hz11 := cellsZ3 BK101.out; have hz12 := cellsZ3 BK102.out))
 refine bodyPost_ret (results_cell_row rfl _ _ gb102 32 #[.string a0_0, .slice Ao10 y106.length co10, .int .i64 a0_2] (0, 0) _ rfl bkZ Tryd.underlying32 rfl (by kernel_rfl)) rfl ?_
 exact ⟨_, z674d, by (with_reducible repeat (first | apply Kd.R_alloc | apply Kd.R_drewN | apply Kd.R_drew)); exact Kd.R_mono (Kd.R_far (p := ⟨gb102, 2, none⟩) (Kd.R_far (p := ⟨gb102, 1, none⟩) (Kd.R_far (p := ⟨gb102, 0, none⟩) (Kd.R_far (p := ⟨gb101, 1, none⟩) (Kd.R_types (Kd.R_types HO108.out BK101.out (by decide)) BK102.out (by decide)) (fun _ hk => hk.1.2) (.slice Ao10 y106.length co10)) (fun _ hk => hk.2) (.string a0_0)) (fun _ hk => hk.2) (.slice Ao10 y106.length co10)) (fun _ hk => hk.2) (.int .i64 a0_2)) (fun _ hk => trivial), zcb41⟩
end Go.Proofs.YtkgmoajdcibafaaDoor.P

-- written by a program of this session's (wip/pp)
namespace Go.Proofs.YtkgmoajdcibafaaDoor.P
open Go.RowKit Go.Proofs.YtkgmoajdcibafaaDoorW.PrintWords Go.Proofs.YtkgmoajdcibafaaDoorW.PrintLast Go.Proofs.YtkgmoajdcibafaaDoorW.PrintMore
attribute [local go_sem] max2_int min2_int max_two min_two max_three min_three max_four min_four str_geq str_gtr str_leq   -- for this text's walks alone
set_option linter.unusedVariables false
set_option linter.unusedSimpArgs false

/-! ### spec_l4Own: function 79 -/
def spec_l4Own.f (a0_0 : Int) (a0_1 : Int) (a0_2 : Int) (a0_3 : Int) (l0_4 : List Int) (a0_5 : Bool) : Option (Int × Int × Int × Int × List Int × Bool) := (some (([] : List Int) : List Int)).bind fun y103 => (if y103.length + l0_4.length < 17592186044416 then (some (a0_0, a0_1, a0_2, a0_3, (y103 ++ l0_4), a0_5)) else (none))
set_option maxHeartbeats 8000000 in
set_option maxRecDepth 100000 in
theorem spec_l4Own.calls (a0_0 : Int) (a0_1 : Int) (a0_2 : Int) (a0_3 : Int) (A0_4 : Option Addr) (c0_4 : Nat) (l0_4 : List Int) (a0_5 : Bool) (r1 : Int) (r2 : Int) (r3 : Int) (r4 : Int) (r5 : List Int) (r6 : Bool) (w : World) (hr0_4 : Kd.C (Kd.int .i64) w A0_4 l0_4.length l0_4) (hc0_4 : l0_4.length ≤ c0_4) (h : spec_l4Own.f a0_0 a0_1 a0_2 a0_3 l0_4 a0_5 = some (r1, r2, r3, r4, r5, r6)) :
 Calls Tryd.prog 79 #[.agg #[.int .i64 a0_0, .int .i64 a0_1, .int .i64 a0_2, .int .i64 a0_3, .slice A0_4 l0_4.length c0_4, .bool a0_5]] w fun e w' => ∃ v4_ : Value, e = .returned (.agg #[.int .i64 r1, .int .i64 r2, .int .i64 r3, .int .i64 r4, v4_, .bool r6]) ∧ Kd.R (Kd.int .i64) 3 w' w.heap.size (fun _ => True) v4_ r5 ∧ Below w.heap.size w w' := by
 have hu35 := Tryd.underlying35
 have HR0_4 := aM hr0_4
 have HC0_4 := aM hc0_4
 clear hr0_4 hc0_4
 have HB := aM (Below.refl w.heap.size w)
 have H : ((some (([] : List Int) : List Int)).bind fun y103 => (if y103.length + l0_4.length < 17592186044416 then (some (a0_0, a0_1, a0_2, a0_3, (y103 ++ l0_4), a0_5)) else (none))) = some (r1, r2, r3, r4, r5, r6) := h
 clear h
 obtain ⟨y103, hy103⟩ : ∃ y_ : List Int, y_ = (([] : List Int)) := ⟨_, rfl⟩
 first | (replace H := bindS H; rw [← hy103] at H; try dsimp only at H) | rw [← hy103] at H
 have Ny103 := aM hy103
 clear hy103
 obtain ⟨LMc2, H⟩ := sM H
 obtain ⟨y106, hy106⟩ : ∃ y_ : List Int, y_ = (y103 ++ l0_4) := ⟨_, rfl⟩
 first | (replace H := bindS H; rw [← hy106] at H; try dsimp only at H) | rw [← hy106] at H
 have Ny106 := aM hy106
 clear hy106
 simp only [Option.some.injEq, Prod.mk.injEq] at H
 obtain ⟨rfl, rfl, rfl, rfl, rfl, rfl⟩ := H
 go_enter Tryd.func79, Tryd.ntmps79
 go_wp2_with (first | ((with_reducible refine gate_dst (N := 1) rfl ?_); refine bX 1 35 #[.int .i64 a0_0, .int .i64 a0_1, .int .i64 a0_2, .int .i64 a0_3, .slice A0_4 l0_4.length c0_4, .bool a0_5] ?_; intro gb101 hg w3 hbox hb; have _ := aM (below_step hbZ hb); have _ := aM hbox; have _ := szZ hg; have _ := szZ hg; clear HB; rename_i HB BK101 GW101 GE101; clear hb hbox hg) | ((with_reducible refine gate_dst (N := 2) rfl ?_); refine bX 2 35 #[.int .i64 0, .int .i64 0, .int .i64 0, .int .i64 0, .slice none 0 0, .bool false] ?_; intro gb102 hg w4 hbox hb; have _ := bB gb101 hb; have _ := aM (below_step hbZ hb); have _ := aM hbox; have _ := szZ hg; have _ := szZ hg; have ⟨_, _⟩ := nbB gb101 hg; clear BK101 HB; rename_i BK101 HB BK102 GW102 GE102 NB101_102 NB102_101; clear hb hbox hg) | ((with_reducible refine gate_dst (N := 3) rfl ?_); refine Kd.R_lit (Kd.int .i64) _ 3 ?hg (N := 3) ?hd (xs := ([] : List Int)) (inner := []) (ok := fun _ => True) (okp := fun _ => True) ?hr ?hp (fun _ hk => hk) trivial (Below.refl _ _) (Nat.le_refl _) (by simp) ?_; (case hd => rfl); (case hg => rfl); (case hr => first | (go_simp; done) | (go_simp; rfl)); (case hp => exact (Reps.none _ _)); intro v104 w5 ho6 hb hg_ hnew_; clear hg_ hnew_; (first | rw [← Ny103.out] at ho6 | (simp only [Int.reduceToNat] at ho6; rw [← Ny103.out] at ho6)); have _ := aM (Kd.R_lower ho6 (below_size hbZ)); have _ := bB gb101 hb; have _ := bB gb102 hb; have _ := aM (below_step hbZ hb); clear BK101 BK102 HB; rename_i HO105 BK101 BK102 HB; clear hb ho6; have hnb7 := NB101_102.out; have hnc7 := NB102_101.out; have hz8 := cellsZ6 BK101.out) | ((with_reducible refine gate_builtin (b := .append) (xs := #[.tmp 3, .tmp 5]) rfl ?_); at_builtin; refine Kd.R_append_rows (Kd.int .i64) (w0 := w) w.heap.size rfl (.tmp 3) (.tmp 5) 33 3 (.int .i64 0) 8 rfl Tryd.underlying33 info3 rfl (by decide) (by omega) v104 y103 l0_4 _ _ _ (fun _ => True) (fun _ => False) rfl rfl ?aO ?aR (fun _ _ h => h) (fun _ h => h.elim) ?aF ?aB ?aS ?aL ?_; (case aR => repeat (first | exact (Kd.C_below HR0_4.out HB.out) | (with_reducible refine Kd.C_alloc ?_ _) | (with_reducible refine Kd.C_drewN ?_ _) | (with_reducible refine Kd.C_drew ?_))); (case aB => exact hbZ); (case aF => exact (fun _ _ => trivial)); (case aO => exact (rZ HO105.out)); (case aS => exact (below_size hbZ)); (case aL => have := LMc2.out; omega); intro v107 w9 ho hb hg hat; rw [← Ny106.out] at ho; have _ := aM (blk_grown (g := gb101) bkZ hg (Kd.R_ne HO105.out BK101.out (by decide))); have _ := aM (blk_grown (g := gb102) bkZ hg (Kd.R_ne HO105.out BK102.out (by decide))); have _ := aM hb; have _ := aM ho; clear BK101 BK102 HB HO105; rename_i BK101 BK102 HB HO108; clear ho hb hg hat; obtain ⟨Ao10, co10, eo10⟩ := Kd.R_slice HO108.out; subst eo10; have hz11 := cellsZ6 BK101.out; have hz12 := cellsZ6 BK102.out))
 refine bodyPost_ret (results_cell_row rfl _ _ gb102 35 #[.int .i64 a0_0, .int .i64 a0_1, .int .i64 a0_2, .int .i64 a0_3, .slice Ao10 y106.length co10, .bool a0_5] (0, 0) _ rfl bkZ Tryd.underlying35 rfl (by kernel_rfl)) rfl ?_
 exact ⟨_, z674d, by (with_reducible repeat (first | apply Kd.R_alloc | apply Kd.R_drewN | apply Kd.R_drew)); exact Kd.R_mono (Kd.R_far (p := ⟨gb102, 5, none⟩) (Kd.R_far (p := ⟨gb102, 4, none⟩) (Kd.R_far (p := ⟨gb102, 3, none⟩) (Kd.R_far (p := ⟨gb102, 2, none⟩) (Kd.R_far (p := ⟨gb102, 1, none⟩) (Kd.R_far (p := ⟨gb102, 0, none⟩) (Kd.R_far (p := ⟨gb101, 4, none⟩) (Kd.R_types (Kd.R_types HO108.out BK101.out (by decide)) BK102.out (by decide)) (fun _ hk => hk.1.2) (.slice Ao10 y106.length co10)) (fun _ hk => hk.2) (.int .i64 a0_0)) (fun _ hk => hk.2) (.int .i64 a0_1)) (fun _ hk => hk.2) (.int .i64 a0_2)) (fun _ hk => hk.2) (.int .i64 a0_3)) (fun _ hk => hk.2) (.slice Ao10 y106.length co10)) (fun _ hk => hk.2) (.bool a0_5)) (fun _ hk => trivial), zcb41⟩
end Go.Proofs.YtkgmoajdcibafaaDoor.P

-- written by a program of this session's (wip/pp)
namespace Go.Proofs.YtkgmoajdcibafaaDoor.P
open Go.RowKit Go.Proofs.YtkgmoajdcibafaaDoorW.PrintWords Go.Proofs.YtkgmoajdcibafaaDoorW.PrintLast Go.Proofs.YtkgmoajdcibafaaDoorW.PrintMore
attribute [local go_sem] max2_int min2_int max_two min_two max_three min_three max_four min_four str_geq str_gtr str_leq   -- for this text's walks alone
set_option linter.unusedVariables false
set_option linter.unusedSimpArgs false

/-! ### spec_l11Own: function 43 -/
def spec_l11Own.l0 : Nat → List (S37) → List (S37) → Int → Int → Int → Int → Int → List (S37) → Option (Int × Int × Int × (List (S37)))
 | 0, _, _, _, _, _, _, _, _ => none
 | k + 1, x3, x7, x8, x9, x102000, x102001, x102002, x102003 => if x9 < x8 then (if 0 ≤ x9 then (if x9 < (x7.length : Int) then ((spec_l11OwnKey.f ((rd_T37 x7 x9).f0.f0) ((rd_T37 x7 x9).f0.f1) ((rd_T37 x7 x9).f0.f2)).bind fun bt105 => ((spec_l4Own.f ((rd_T37 x7 x9).f1.f0) ((rd_T37 x7 x9).f1.f1) ((rd_T37 x7 x9).f1.f2) ((rd_T37 x7 x9).f1.f3) ((rd_T37 x7 x9).f1.f4) ((rd_T37 x7 x9).f1.f5)).bind fun bt110 => (if x3.length < 1099511627776 then (spec_l11Own.l0 k (x3 ++ [(⟨(⟨bt105.1, bt105.2.1, bt105.2.2⟩ : S32), (⟨bt110.1, bt110.2.1, bt110.2.2.1, bt110.2.2.2.1, bt110.2.2.2.2.1, bt110.2.2.2.2.2⟩ : S35), (rd_T37 x7 x9).f2, (rd_T37 x7 x9).f3⟩ : S37)]) x7 x8 (wrap64 (x9 + 1)) x102000 x102001 x102002 x102003) else (none)))) else (none)) else (none)) else (some (x102000, x102001, x102002, x3))
def spec_l11Own.f (k : Nat) (a0_0 : Int) (a0_1 : Int) (a0_2 : Int) (l0_3 : List (S37)) : Option (Int × Int × Int × (List (S37))) := spec_l11Own.l0 k ([] : List (S37)) l0_3 (l0_3.length : Int) 0 a0_0 a0_1 a0_2 l0_3
theorem spec_l11Own.mono_l : ∀ k, (∀ y0 y1 y2 y3 y4 y5 y6 y7, LeO (spec_l11Own.l0 k y0 y1 y2 y3 y4 y5 y6 y7) (spec_l11Own.l0 (k + 1) y0 y1 y2 y3 y4 y5 y6 y7))
 | 0 => fun _ _ _ _ _ _ _ _ r h => by simp [spec_l11Own.l0] at h
 | k + 1 => by
  have ih0 := spec_l11Own.mono_l k
  · intro y0 y1 y2 y3 y4 y5 y6 y7
    unfold spec_l11Own.l0
    exact moZ
theorem spec_l11Own.mono : ∀ a0 a1 a2 a3 k, LeO (spec_l11Own.f k a0 a1 a2 a3) (spec_l11Own.f (k + 1) a0 a1 a2 a3) := by
 intro a0 a1 a2 a3 k
 have ih0 := spec_l11Own.mono_l k
 unfold spec_l11Own.f
 exact moZ
set_option maxHeartbeats 8000000 in
set_option maxRecDepth 100000 in
theorem spec_l11Own.calls (k : Nat) (a0_0 : Int) (a0_1 : Int) (a0_2 : Int) (A0_3 : Option Addr) (c0_3 : Nat) (l0_3 : List (S37)) (r1 : Int) (r2 : Int) (r3 : Int) (r4 : List (S37)) (w : World) (hr0_3 : Kd.C k37 w A0_3 l0_3.length l0_3) (hc0_3 : l0_3.length ≤ c0_3) (h : spec_l11Own.f k a0_0 a0_1 a0_2 l0_3 = some (r1, r2, r3, r4)) :
 Calls Tryd.prog 43 #[.agg #[.int .i64 a0_0, .int .i64 a0_1, .int .i64 a0_2, .slice A0_3 l0_3.length c0_3]] w fun e w' => ∃ v3_ : Value, e = .returned (.agg #[.int .i64 r1, .int .i64 r2, .int .i64 r3, v3_]) ∧ Kd.S k37 37 w' w.heap.size (fun _ => True) v3_ r4 ∧ Below w.heap.size w w' := by
 have hu42 := Tryd.underlying42
 have hu37 := Tryd.underlying37
 have hu32 := Tryd.underlying32
 have hu35 := Tryd.underlying35
 have HR0_3 := aM hr0_3
 have HC0_3 := aM hc0_3
 clear hr0_3 hc0_3
 have HB := aM (Below.refl w.heap.size w)
 have H : (spec_l11Own.l0 k ([] : List (S37)) l0_3 (l0_3.length : Int) 0 a0_0 a0_1 a0_2 l0_3) = some (r1, r2, r3, r4) := h
 clear h
 have H' := aM H
 clear H
 go_enter Tryd.func43, Tryd.ntmps43
 go_wp2_with (first | ((with_reducible refine gate_dst (N := 1) rfl ?_); refine bX 1 42 #[.int .i64 a0_0, .int .i64 a0_1, .int .i64 a0_2, .slice A0_3 l0_3.length c0_3] ?_; intro gb101 hg w2 hbox hb; have _ := aM (below_step hbZ hb); have _ := aM hbox; have _ := szZ hg; have _ := szZ hg; clear HB; rename_i HB BK101 GW101 GE101; clear hb hbox hg) | ((with_reducible refine gate_dst (N := 2) rfl ?_); refine bX 2 42 #[.int .i64 0, .int .i64 0, .int .i64 0, .slice none 0 0] ?_; intro gb102 hg w3 hbox hb; have _ := bB gb101 hb; have _ := aM (below_step hbZ hb); have _ := aM hbox; have _ := szZ hg; have _ := szZ hg; have ⟨_, _⟩ := nbB gb101 hg; clear BK101 HB; rename_i BK101 HB BK102 GW102 GE102 NB101_102 NB102_101; clear hb hbox hg; have hnb4 := NB101_102.out; have hnc4 := NB102_101.out; have hz5 := cellsZ4 BK101.out))
 go_loopg [3, 9] k (fun kq v3 v9 w' => ∃ (x3_1 : List (S37)) (x9_1 : Int), v9 = .int .i64 x9_1 ∧ Aside0 (spec_l11Own.l0 kq x3_1 l0_3 (l0_3.length : Int) x9_1 a0_0 a0_1 a0_2 l0_3 = some (r1, r2, r3, r4)) ∧ Aside0 (kq ≤ k) ∧ Aside0 (Kd.S k37 37 w' w.heap.size (fun _ => True) v3 x3_1) ∧ Aside0 (w'.heap[gb101]? = some (.cells #[.int .i64 a0_0, .int .i64 a0_1, .int .i64 a0_2, (.slice A0_3 l0_3.length c0_3)] 42 (0, 0))) ∧ Aside0 (w'.heap[gb102]? = some (.cells #[.int .i64 0, .int .i64 0, .int .i64 0, (.slice none 0 0)] 42 (0, 0))) ∧ Aside0 (Below w.heap.size w w'))
 case atStart => exact ⟨(([] : List (S37))), (0), z4458, H', ⟨Nat.le_refl _⟩, ⟨z2bfb⟩, ⟨bkZ⟩, ⟨bkZ⟩, ⟨zcb41⟩⟩
 case round =>
  clear H'
  (try clear hz5)
  obtain ⟨x3_1, x9_1, rfl, HA, HK1, HO_3, BK101, BK102, HB⟩ := hrel
  cases gk with
  | zero => exact absurd HA.out (by simp [spec_l11Own.l0])
  | succ k1 =>
   have H := HA.out
   clear HA
   simp only [spec_l11Own.l0] at H
   by_cases c6 : x9_1 < (l0_3.length : Int)
   · rw [if_pos c6] at H
     have c6b0 := dL c6
     clear c6
     obtain ⟨c7b0, H⟩ := sE H
     obtain ⟨c8b0, H⟩ := sL H
     obtain ⟨⟨t105, t106, t109⟩, A9, H⟩ := bS H; try dsimp only at H
     obtain ⟨⟨t110, t111, t112, t113, t114, t117⟩, A10, H⟩ := bS H; try dsimp only at H
     obtain ⟨LMc11, H⟩ := sM H
     obtain ⟨y118, hy118⟩ : ∃ y_ : List (S37), y_ = (x3_1 ++ [(⟨(⟨t105, t106, t109⟩ : S32), (⟨t110, t111, t112, t113, t114, t117⟩ : S35), (rd_T37 l0_3 x9_1).f2, (rd_T37 l0_3 x9_1).f3⟩ : S37)]) := ⟨_, rfl⟩
     first | (replace H := bindS H; rw [← hy118] at H; try dsimp only at H) | rw [← hy118] at H
     have Ny118 := aM hy118
     clear hy118
     have H' := aM H
     clear H
     have p103 : 0 ≤ (x9_1 : Int) := of_decide_eq_true z1200
     have q103 : x9_1 < (l0_3.length : Int) := of_decide_eq_true z1200
     obtain ⟨ad103, A103_1, c103_1, A103_7, c103_7, e103, hx103_0, hx103_1, hx103_2, hx103_3, hx103_4, hx103_5, hx103_6, hx103_7, hx103_8, hx103_9, hx103_10, hl103_1, hi103_1, hl103_7, hi103_7⟩ := at_T37 HR0_3.out x9_1 p103 q103
     cases e103
     have TW103_1 := aM hx103_1
     have TW103_7 := aM hx103_7
     replace hx103_0 := (HB.out.cell (World.block_lt_of_cell? w _ hx103_0)).trans hx103_0
     replace hx103_1 := (HB.out.cell (World.block_lt_of_cell? w _ hx103_1)).trans hx103_1
     replace hx103_2 := (HB.out.cell (World.block_lt_of_cell? w _ hx103_2)).trans hx103_2
     replace hx103_3 := (HB.out.cell (World.block_lt_of_cell? w _ hx103_3)).trans hx103_3
     replace hx103_4 := (HB.out.cell (World.block_lt_of_cell? w _ hx103_4)).trans hx103_4
     replace hx103_5 := (HB.out.cell (World.block_lt_of_cell? w _ hx103_5)).trans hx103_5
     replace hx103_6 := (HB.out.cell (World.block_lt_of_cell? w _ hx103_6)).trans hx103_6
     replace hx103_7 := (HB.out.cell (World.block_lt_of_cell? w _ hx103_7)).trans hx103_7
     replace hx103_8 := (HB.out.cell (World.block_lt_of_cell? w _ hx103_8)).trans hx103_8
     replace hx103_9 := (HB.out.cell (World.block_lt_of_cell? w _ hx103_9)).trans hx103_9
     replace hx103_10 := (HB.out.cell (World.block_lt_of_cell? w _ hx103_10)).trans hx103_10
     have HR103_1 := aM hi103_1
     have HC103_1 := aM hl103_1
     clear hi103_1 hl103_1
     have HR103_7 := aM hi103_7
     have HC103_7 := aM hl103_7
     clear hi103_7 hl103_7
     replace p103 := eq_true p103
     replace q103 := eq_true q103
     go_wp2_with (first | ((with_reducible refine gate_dst (N := 5) rfl ?_); refine bX 5 37 #[.string (⟨#[]⟩ : ByteArray), .slice none 0 0, .int .i64 0, .int .i64 0, .int .i64 0, .int .i64 0, .int .i64 0, .slice none 0 0, .bool false, .int .i64 0, .bool false] ?_; intro gb104 hg w12 hbox hb; have _ := aM (Kd.S_below (Kd.S_elderB zd74a gb104 (Nat.le_of_eq hg.symm)) hb); have _ := bB gb101 hb; have _ := bB gb102 hb; have _ := aM (below_step hbZ hb); have _ := aM hbox; have _ := szZ hg; have _ := szZ hg; have ⟨_, _⟩ := nbB gb101 hg; have ⟨_, _⟩ := nbB gb102 hg; clear HO_3 BK101 BK102 HB; rename_i HO_3 BK101 BK102 HB BK104 GW104 GE104 NB101_104 NB104_101 NB102_104 NB104_102; clear hb hbox hg; have hnb13 := NB104_101.out; have hnc13 := NB101_104.out; have hnb14 := NB104_102.out; have hnc14 := NB102_104.out; have hz15 := cellsZ11 BK104.out) | ((with_reducible refine gate_callee (f := 63) rfl ?_); refine gL 15 Tryd.func63 #[.agg #[.string ((rd_T37 l0_3 x9_1).f0.f0), .slice A103_1 ((rd_T37 l0_3 x9_1).f0.f1).length c103_1, .int .i64 ((rd_T37 l0_3 x9_1).f0.f2)]] ?_; (with_reducible refine (spec_l11OwnKey.calls ((rd_T37 l0_3 x9_1).f0.f0) _ _ ((rd_T37 l0_3 x9_1).f0.f1) ((rd_T37 l0_3 x9_1).f0.f2) t105 t106 t109 _ ?side1 ?side2 A9.out).mono ?_); (case side1 => exact Kd.C_below HR103_1.out hbZ); (case side2 => exact HC103_1.out); rintro e w16 ⟨v107, rfl, ho0, hb⟩; refine ⟨_, rfl, ?_⟩; have _ := aM (Kd.S_elder' (by (with_reducible repeat (first | apply Kd.S_alloc | apply Kd.S_drewN | apply Kd.S_drew)); exact (Kd.S_mono (Kd.S_far (p := ⟨gb104, 10, none⟩) (Kd.S_far (p := ⟨gb104, 9, none⟩) (Kd.S_far (p := ⟨gb104, 8, none⟩) (Kd.S_far (p := ⟨gb104, 7, none⟩) (Kd.S_far (p := ⟨gb104, 6, none⟩) (Kd.S_far (p := ⟨gb104, 5, none⟩) (Kd.S_far (p := ⟨gb104, 4, none⟩) (Kd.S_far (p := ⟨gb104, 3, none⟩) (Kd.S_far (p := ⟨gb104, 2, none⟩) (Kd.S_far (p := ⟨gb104, 1, none⟩) (Kd.S_far (p := ⟨gb104, 0, none⟩) (Kd.S_mono HO_3.out (fun k_ hk => (⟨hk, hk.2⟩ : _ ∧ k_ ≠ gb104))) (fun _ hk => hk.2) (.string ((rd_T37 l0_3 x9_1).f0.f0))) (fun _ hk => hk.2) (.slice A103_1 ((rd_T37 l0_3 x9_1).f0.f1).length c103_1)) (fun _ hk => hk.2) (.int .i64 ((rd_T37 l0_3 x9_1).f0.f2))) (fun _ hk => hk.2) (.int .i64 ((rd_T37 l0_3 x9_1).f1.f0))) (fun _ hk => hk.2) (.int .i64 ((rd_T37 l0_3 x9_1).f1.f1))) (fun _ hk => hk.2) (.int .i64 ((rd_T37 l0_3 x9_1).f1.f2))) (fun _ hk => hk.2) (.int .i64 ((rd_T37 l0_3 x9_1).f1.f3))) (fun _ hk => hk.2) (.slice A103_7 ((rd_T37 l0_3 x9_1).f1.f4).length c103_7)) (fun _ hk => hk.2) (.bool ((rd_T37 l0_3 x9_1).f1.f5))) (fun _ hk => hk.2) (.int .i64 ((rd_T37 l0_3 x9_1).f2))) (fun _ hk => hk.2) (.bool ((rd_T37 l0_3 x9_1).f3))) (fun _ h_ => h_.1))) (Kd.R_base ho0) hb); have _ := aM (Kd.R_lower ho0 (below_size hbZ)); have _ := bB gb101 hb; have _ := bB gb102 hb; have _ := aM (blk_below (g := gb104) (o := .cells #[.string ((rd_T37 l0_3 x9_1).f0.f0), .slice A103_1 ((rd_T37 l0_3 x9_1).f0.f1).length c103_1, .int .i64 ((rd_T37 l0_3 x9_1).f0.f2), .int .i64 ((rd_T37 l0_3 x9_1).f1.f0), .int .i64 ((rd_T37 l0_3 x9_1).f1.f1), .int .i64 ((rd_T37 l0_3 x9_1).f1.f2), .int .i64 ((rd_T37 l0_3 x9_1).f1.f3), .slice A103_7 ((rd_T37 l0_3 x9_1).f1.f4).length c103_7, .bool ((rd_T37 l0_3 x9_1).f1.f5), .int .i64 ((rd_T37 l0_3 x9_1).f2), .bool ((rd_T37 l0_3 x9_1).f3)] 37 (0, 0)) bkZ hb); have _ := aM (below_step hbZ hb); clear HO_3 BK101 BK102 BK104 HB; rename_i HO_3 HO108 BK101 BK102 BK104 HB; (try clear hb); (try clear ho0); have hz17 := cellsZ11 BK104.out; obtain ⟨Ao18, co18, eo18⟩ := Kd.R_slice HO108.out; subst eo18) | ((with_reducible refine gate_callee (f := 79) rfl ?_); refine gL 19 Tryd.func79 #[.agg #[.int .i64 ((rd_T37 l0_3 x9_1).f1.f0), .int .i64 ((rd_T37 l0_3 x9_1).f1.f1), .int .i64 ((rd_T37 l0_3 x9_1).f1.f2), .int .i64 ((rd_T37 l0_3 x9_1).f1.f3), .slice A103_7 ((rd_T37 l0_3 x9_1).f1.f4).length c103_7, .bool ((rd_T37 l0_3 x9_1).f1.f5)]] ?_; (with_reducible refine (spec_l4Own.calls ((rd_T37 l0_3 x9_1).f1.f0) ((rd_T37 l0_3 x9_1).f1.f1) ((rd_T37 l0_3 x9_1).f1.f2) ((rd_T37 l0_3 x9_1).f1.f3) _ _ ((rd_T37 l0_3 x9_1).f1.f4) ((rd_T37 l0_3 x9_1).f1.f5) t110 t111 t112 t113 t114 t117 _ ?side1 ?side2 A10.out).mono ?_); (case side1 => exact Kd.C_below HR103_7.out hbZ); (case side2 => exact HC103_7.out); rintro e w19 ⟨v115, rfl, ho0, hb⟩; refine ⟨_, rfl, ?_⟩; have _ := aM (Kd.S_elder' (by (with_reducible repeat (first | apply Kd.S_alloc | apply Kd.S_drewN | apply Kd.S_drew)); exact (Kd.S_mono (Kd.S_far (p := ⟨gb104, 2, none⟩) (Kd.S_far (p := ⟨gb104, 1, none⟩) (Kd.S_far (p := ⟨gb104, 0, none⟩) (Kd.S_mono HO_3.out (fun k_ hk => (⟨hk, hk.1.2⟩ : _ ∧ k_ ≠ gb104))) (fun _ hk => hk.2) (.string t105)) (fun _ hk => hk.2) (.slice Ao18 t106.length co18)) (fun _ hk => hk.2) (.int .i64 t109)) (fun _ h_ => h_.1))) (Kd.R_base ho0) hb); have _ := aM (Kd.R_below (rZ (rF3 HO108.out BK104.out)) hb); have _ := aM (Kd.R_lower ho0 (below_size hbZ)); have _ := bB gb101 hb; have _ := bB gb102 hb; have _ := aM (blk_below (g := gb104) (o := .cells #[.string t105, .slice Ao18 t106.length co18, .int .i64 t109, .int .i64 ((rd_T37 l0_3 x9_1).f1.f0), .int .i64 ((rd_T37 l0_3 x9_1).f1.f1), .int .i64 ((rd_T37 l0_3 x9_1).f1.f2), .int .i64 ((rd_T37 l0_3 x9_1).f1.f3), .slice A103_7 ((rd_T37 l0_3 x9_1).f1.f4).length c103_7, .bool ((rd_T37 l0_3 x9_1).f1.f5), .int .i64 ((rd_T37 l0_3 x9_1).f2), .bool ((rd_T37 l0_3 x9_1).f3)] 37 (0, 0)) bkZ hb); have _ := aM (below_step hbZ hb); clear HO_3 HO108 BK101 BK102 BK104 HB; rename_i HO_3 HO108 HO116 BK101 BK102 BK104 HB; (try clear hb); (try clear ho0); have hz20 := cellsZ11 BK104.out; obtain ⟨Ao21, co21, eo21⟩ := Kd.R_slice HO116.out; subst eo21) | ((with_reducible refine gate_store (t := 35) (p := 20) rfl ?_); refine store_event (t := 35) (p := 20) (v := ?vo_w22) (w1 := ((((((w19.setCell ⟨gb104, 3, none⟩ (.int .i64 t110)).setCell ⟨gb104, 4, none⟩ (.int .i64 t111)).setCell ⟨gb104, 5, none⟩ (.int .i64 t112)).setCell ⟨gb104, 6, none⟩ (.int .i64 t113)).setCell ⟨gb104, 7, none⟩ (.slice Ao21 t114.length co21)).setCell ⟨gb104, 8, none⟩ (.bool t117))) ?hg ?ho ?hn ?hr ?_; (case ho => rfl); (case hg => rfl); (case hn => rfl); (case hr => first | (go_simp; done) | (go_simp; rfl)); intro w22 hw; have _ : Aside0 (Kd.S k37 37 w22 w.heap.size (fun k_ => some k_ ≠ (.slice Ao18 t106.length co18 : Value).ownBlock ∧ some k_ ≠ (.slice Ao21 t114.length co21 : Value).ownBlock ∧ k_ ≠ gb104) u3 x3_1) := ⟨(by rw [hw]; exact (by (with_reducible repeat (first | apply Kd.S_alloc | apply Kd.S_drewN | apply Kd.S_drew)); exact Kd.S_mono (Kd.S_far (p := ⟨gb104, 8, none⟩) (Kd.S_far (p := ⟨gb104, 7, none⟩) (Kd.S_far (p := ⟨gb104, 6, none⟩) (Kd.S_far (p := ⟨gb104, 5, none⟩) (Kd.S_far (p := ⟨gb104, 4, none⟩) (Kd.S_far (p := ⟨gb104, 3, none⟩) (Kd.S_mono HO_3.out (fun k_ hk => (⟨hk, hk.1.1.2⟩ : _ ∧ k_ ≠ gb104))) (fun _ hk => hk.2) (.int .i64 t110)) (fun _ hk => hk.2) (.int .i64 t111)) (fun _ hk => hk.2) (.int .i64 t112)) (fun _ hk => hk.2) (.int .i64 t113)) (fun _ hk => hk.2) (.slice Ao21 t114.length co21)) (fun _ hk => hk.2) (.bool t117)) (fun _ hk => ⟨hk.1.1.2, ⟨hk.1.2, hk.1.1.1.2⟩⟩)))⟩; have _ : Aside0 (Kd.R k123 123 w22 w.heap.size (fun _ => True) (.slice Ao18 t106.length co18) t106) := ⟨(by rw [hw]; exact (by (with_reducible repeat (first | apply Kd.R_alloc | apply Kd.R_drewN | apply Kd.R_drew)); exact Kd.R_mono (Kd.R_far (p := ⟨gb104, 8, none⟩) (Kd.R_far (p := ⟨gb104, 7, none⟩) (Kd.R_far (p := ⟨gb104, 6, none⟩) (Kd.R_far (p := ⟨gb104, 5, none⟩) (Kd.R_far (p := ⟨gb104, 4, none⟩) (Kd.R_far (p := ⟨gb104, 3, none⟩) (Kd.R_types HO108.out BK104.out (by decide)) (fun _ hk => hk.2) (.int .i64 t110)) (fun _ hk => hk.2) (.int .i64 t111)) (fun _ hk => hk.2) (.int .i64 t112)) (fun _ hk => hk.2) (.int .i64 t113)) (fun _ hk => hk.2) (.slice Ao21 t114.length co21)) (fun _ hk => hk.2) (.bool t117)) (fun _ hk => trivial)))⟩; have _ : Aside0 (Kd.R (Kd.int .i64) 3 w22 w.heap.size (fun _ => True) (.slice Ao21 t114.length co21) t114) := ⟨(by rw [hw]; exact (by (with_reducible repeat (first | apply Kd.R_alloc | apply Kd.R_drewN | apply Kd.R_drew)); exact Kd.R_mono (Kd.R_far (p := ⟨gb104, 8, none⟩) (Kd.R_far (p := ⟨gb104, 7, none⟩) (Kd.R_far (p := ⟨gb104, 6, none⟩) (Kd.R_far (p := ⟨gb104, 5, none⟩) (Kd.R_far (p := ⟨gb104, 4, none⟩) (Kd.R_far (p := ⟨gb104, 3, none⟩) (Kd.R_types HO116.out BK104.out (by decide)) (fun _ hk => hk.2) (.int .i64 t110)) (fun _ hk => hk.2) (.int .i64 t111)) (fun _ hk => hk.2) (.int .i64 t112)) (fun _ hk => hk.2) (.int .i64 t113)) (fun _ hk => hk.2) (.slice Ao21 t114.length co21)) (fun _ hk => hk.2) (.bool t117)) (fun _ hk => trivial)))⟩; have _ : Aside0 (w22.heap[gb101]? = some (.cells #[.int .i64 a0_0, .int .i64 a0_1, .int .i64 a0_2, .slice (some ad103) l0_3.length c0_3] 42 (0, 0))) := ⟨(by rw [hw]; exact bkZ)⟩; have _ : Aside0 (w22.heap[gb102]? = some (.cells #[.int .i64 0, .int .i64 0, .int .i64 0, .slice none 0 0] 42 (0, 0))) := ⟨(by rw [hw]; exact bkZ)⟩; have _ : Aside0 (w22.heap[gb104]? = some (.cells #[.string t105, .slice Ao18 t106.length co18, .int .i64 t109, .int .i64 t110, .int .i64 t111, .int .i64 t112, .int .i64 t113, .slice Ao21 t114.length co21, .bool t117, .int .i64 ((rd_T37 l0_3 x9_1).f2), .bool ((rd_T37 l0_3 x9_1).f3)] 37 (0, 0))) := ⟨(by rw [hw]; exact bkZ)⟩; have _ : Aside0 (Below w.heap.size w w22) := ⟨(by rw [hw]; exact hbZ)⟩; clear hw HO_3 HO108 HO116 BK101 BK102 BK104 HB; rename_i HO_3 HO108 HO116 BK101 BK102 BK104 HB; have hz23 := cellsZ11 BK104.out) | ((with_reducible refine gate_builtin (b := .append) (xs := #[.tmp 21, .tmp 23]) rfl ?_); at_builtin; refine Kd.S_append k37 (w0 := w) w.heap.size rfl (.tmp 21) (.tmp 23) 40 37 (.agg #[(.string ⟨#[]⟩), (.slice none 0 0), (.int .i64 0), (.int .i64 0), (.int .i64 0), (.int .i64 0), (.int .i64 0), (.slice none 0 0), (.bool false), (.int .i64 0), (.bool false)]) 128 rfl Tryd.underlying40 info37 rfl (by decide) (by omega) u3 x3_1 (⟨(⟨t105, t106, t109⟩ : S32), (⟨t110, t111, t112, t113, t114, t117⟩ : S35), (rd_T37 l0_3 x9_1).f2, (rd_T37 l0_3 x9_1).f3⟩ : S37) [.string t105, .slice Ao18 t106.length co18, .int .i64 t109, .int .i64 t110, .int .i64 t111, .int .i64 t112, .int .i64 t113, .slice Ao21 t114.length co21, .bool t117, .int .i64 ((rd_T37 l0_3 x9_1).f2), .bool ((rd_T37 l0_3 x9_1).f3)] (fun k_ => k_ ≠ gb104) (fun k_ => some k_ = (.slice Ao18 t106.length co18 : Value).ownBlock ∨ some k_ = (.slice Ao21 t114.length co21 : Value).ownBlock) rfl rfl ?aP (fun k_ hk_ => hk_.elim (fun h_ => ((Kd.R_mono (ok' := fun k_ => ((fun k_ => k_ ≠ gb104)) k_ ∧ some k_ ≠ (u3 : Value).ownBlock) (Kd.R_types (Kd.R_apart' (HO108.out) (Kd.S_typed HO_3.out) (by decide)) BK104.out (by decide)) (fun k_ hk => ⟨hk.2, hk.1.2⟩))).1 k_ h_.symm) (fun h_ => ((Kd.R_mono (ok' := fun k_ => ((fun k_ => k_ ≠ gb104)) k_ ∧ some k_ ≠ (u3 : Value).ownBlock) (Kd.R_types (Kd.R_apart' (HO116.out) (Kd.S_typed HO_3.out) (by decide)) BK104.out (by decide)) (fun k_ hk => ⟨hk.2, hk.1.2⟩))).1 k_ h_.symm)) ?aF ?aO ?aB ?aS ?aL ?_; (case aP => exact k37_mkM _ _ _ (⟨(⟨t105, t106, t109⟩ : S32), (⟨t110, t111, t112, t113, t114, t117⟩ : S35), (rd_T37 l0_3 x9_1).f2, (rd_T37 l0_3 x9_1).f3⟩ : S37) (Kd.R_mono (Kd.R_tight rfl (Kd.R_mono (ok' := fun k_ => ((fun k_ => k_ ≠ gb104)) k_ ∧ some k_ ≠ (u3 : Value).ownBlock) (Kd.R_types (Kd.R_apart' (HO108.out) (Kd.S_typed HO_3.out) (by decide)) BK104.out (by decide)) (fun k_ hk => ⟨hk.2, hk.1.2⟩))) (fun _ h_ => Or.inl h_)) (Kd.R_mono (Kd.R_tight rfl (Kd.R_mono (ok' := fun k_ => ((fun k_ => k_ ≠ gb104)) k_ ∧ some k_ ≠ (u3 : Value).ownBlock) (Kd.R_types (Kd.R_apart' (HO116.out) (Kd.S_typed HO_3.out) (by decide)) BK104.out (by decide)) (fun k_ hk => ⟨hk.2, hk.1.2⟩))) (fun _ h_ => Or.inr (h_)))); (case aB => exact hbZ); (case aF => exact (fun k_ hk => Kd.freshB (g := gb104) bkZ k_ hk)); (case aO => exact (by (with_reducible repeat (first | apply Kd.S_alloc | apply Kd.S_drewN | apply Kd.S_drew)); exact Kd.S_mono HO_3.out (fun k_ hk => ⟨hk.2.2, fun e_ => e_.elim (fun h_ => hk.1 h_) (fun h_ => hk.2.1 h_)⟩))); (case aS => exact (below_size hbZ)); (case aL => have := LMc11.out; omega); intro v119 w24 ho hb hg hat; rw [← Ny118.out] at ho; have _ := aM (blk_grown (g := gb101) bkZ hg (Kd.S_ne HO_3.out BK101.out (by decide))); have _ := aM (blk_grown (g := gb102) bkZ hg (Kd.S_ne HO_3.out BK102.out (by decide))); have _ := aM (blk_grown (g := gb104) bkZ hg (Kd.S_away HO_3.out (fun _ hk => hk.2.2))); have _ := aM hb; have _ := aM ho; clear BK101 BK102 BK104 HB HO_3 HO108 HO116; rename_i BK101 BK102 BK104 HB HO120; clear ho hb hg hat))
     go_roundg k1
     case measure => have := HK1.out; omega
     case rel => exact ⟨(y118), (wrap64 (x9_1 + 1)), z4458, H', ⟨zfb39⟩, ⟨by (with_reducible repeat (first | apply Kd.S_alloc | apply Kd.S_drewN | apply Kd.S_drew)); exact Kd.S_mono HO120.out (fun _ hk => trivial)⟩, ⟨bkZ⟩, ⟨bkZ⟩, ⟨zcb41⟩⟩
   · rw [if_neg c6] at H
     have c6b0 := nL c6
     clear c6
     simp only [Option.some.injEq, Prod.mk.injEq] at H
     obtain ⟨rfl, rfl, rfl, rfl⟩ := H
     obtain ⟨Ao25, co25, eo25⟩ := Kd.S_slice HO_3.out
     subst eo25
     have hnb26 := NB101_102.out
     have hnc26 := NB102_101.out
     have hz27 := cellsZ4 BK101.out
     have hz28 := cellsZ4 BK102.out
     go_wp2
     refine bodyPost_ret (results_cell_row rfl _ _ gb102 42 #[.int .i64 a0_0, .int .i64 a0_1, .int .i64 a0_2, .slice Ao25 x3_1.length co25] (0, 0) _ rfl bkZ Tryd.underlying42 rfl (by kernel_rfl)) rfl ?_
     exact ⟨_, z674d, by (with_reducible repeat (first | apply Kd.S_alloc | apply Kd.S_drewN | apply Kd.S_drew)); exact Kd.S_mono (Kd.S_far (p := ⟨gb102, 3, none⟩) (Kd.S_far (p := ⟨gb102, 2, none⟩) (Kd.S_far (p := ⟨gb102, 1, none⟩) (Kd.S_far (p := ⟨gb102, 0, none⟩) (Kd.S_far (p := ⟨gb101, 3, none⟩) (Kd.S_types (Kd.S_types HO_3.out BK101.out (by decide)) BK102.out (by decide)) (fun _ hk => hk.1.2) (.slice Ao25 x3_1.length co25)) (fun _ hk => hk.2) (.int .i64 a0_0)) (fun _ hk => hk.2) (.int .i64 a0_1)) (fun _ hk => hk.2) (.int .i64 a0_2)) (fun _ hk => hk.2) (.slice Ao25 x3_1.length co25)) (fun _ hk => trivial), zcb41⟩

end Go.Proofs.YtkgmoajdcibafaaDoor.P

-- written by a program of this session's (wip/pp)
namespace Go.Proofs.YtkgmoajdcibafaaDoor.P
open Go.RowKit Go.Proofs.YtkgmoajdcibafaaDoorW.PrintWords Go.Proofs.YtkgmoajdcibafaaDoorW.PrintLast Go.Proofs.YtkgmoajdcibafaaDoorW.PrintMore
attribute [local go_sem] max2_int min2_int max_two min_two max_three min_three max_four min_four str_geq str_gtr str_leq   -- for this text's walks alone
set_option linter.unusedVariables false
set_option linter.unusedSimpArgs false

/-! ### spec_WinOf: function 10 -/
def spec_WinOf.j0 : Nat → Bool → Int → Int → Int → List (S37) → ByteArray → List (S123) → Int → Option (ByteArray × (List (S123)) × Int × Int × Int × Int × Int × List Int × Bool × Int × Bool × Bool)
 | 0, _, _, _, _, _, _, _, _ => none
 | k + 1, x15, x102000, x102001, x102002, x102003, x103000, x103001, x103002 => if x15 = true then (some ((⟨#[]⟩ : ByteArray), ([] : List (S123)), 0, 0, 0, 0, 0, ([] : List Int), false, 0, false, false)) else ((spec_l11At.f k x102000 x102001 x102002 x102003 x103000 x103001 x103002).bind fun bt106 => (if bt106.2 = true then ((spec_l11Own.f k x102000 x102001 x102002 x102003).bind fun bt108 => (if 0 ≤ bt106.1 then (if bt106.1 < (bt108.2.2.2.length : Int) then (some ((rd_T37 bt108.2.2.2 bt106.1).f0.f0, (rd_T37 bt108.2.2.2 bt106.1).f0.f1, (rd_T37 bt108.2.2.2 bt106.1).f0.f2, (rd_T37 bt108.2.2.2 bt106.1).f1.f0, (rd_T37 bt108.2.2.2 bt106.1).f1.f1, (rd_T37 bt108.2.2.2 bt106.1).f1.f2, (rd_T37 bt108.2.2.2 bt106.1).f1.f3, (rd_T37 bt108.2.2.2 bt106.1).f1.f4, (rd_T37 bt108.2.2.2 bt106.1).f1.f5, (rd_T37 bt108.2.2.2 bt106.1).f2, (rd_T37 bt108.2.2.2 bt106.1).f3, true)) else (none)) else (none))) else (some ((⟨#[]⟩ : ByteArray), ([] : List (S123)), 0, 0, 0, 0, 0, ([] : List Int), false, 0, false, false))))
def spec_WinOf.f (k : Nat) (a0_0 : Int) (a0_1 : Int) (a0_2 : Int) (l0_3 : List (S37)) (a1_0 : ByteArray) (l1_1 : List (S123)) (a1_2 : Int) : Option (ByteArray × (List (S123)) × Int × Int × Int × Int × Int × List Int × Bool × Int × Bool × Bool) := (spec_GoodBoard.f k a0_0 a0_1 a0_2 l0_3).bind fun t104 => (if t104 = true then ((spec_GoodKey.f k a1_0 l1_1 a1_2).bind fun t105 => (spec_WinOf.j0 k (!t105) a0_0 a0_1 a0_2 l0_3 a1_0 l1_1 a1_2)) else (spec_WinOf.j0 k true a0_0 a0_1 a0_2 l0_3 a1_0 l1_1 a1_2))
theorem spec_WinOf.mono_l : ∀ k, (∀ y0 y1 y2 y3 y4 y5 y6 y7, LeO (spec_WinOf.j0 k y0 y1 y2 y3 y4 y5 y6 y7) (spec_WinOf.j0 (k + 1) y0 y1 y2 y3 y4 y5 y6 y7))
 | 0 => fun _ _ _ _ _ _ _ _ r h => by simp [spec_WinOf.j0] at h
 | k + 1 => by
  have ih0 := spec_WinOf.mono_l k; have m0 := @spec_GoodBoard.mono; have m1 := @spec_GoodKey.mono; have m2 := @spec_l11At.mono; have m3 := @spec_l11Own.mono
  · intro y0 y1 y2 y3 y4 y5 y6 y7
    unfold spec_WinOf.j0
    exact moZ
theorem spec_WinOf.mono : ∀ a0 a1 a2 a3 a4 a5 a6 k, LeO (spec_WinOf.f k a0 a1 a2 a3 a4 a5 a6) (spec_WinOf.f (k + 1) a0 a1 a2 a3 a4 a5 a6) := by
 intro a0 a1 a2 a3 a4 a5 a6 k
 have ih0 := spec_WinOf.mono_l k
 have m0 := @spec_GoodBoard.mono; have m1 := @spec_GoodKey.mono; have m2 := @spec_l11At.mono; have m3 := @spec_l11Own.mono
 unfold spec_WinOf.f
 exact moZ
set_option maxHeartbeats 8000000 in
set_option maxRecDepth 100000 in
theorem spec_WinOf.calls (k : Nat) (a0_0 : Int) (a0_1 : Int) (a0_2 : Int) (A0_3 : Option Addr) (c0_3 : Nat) (l0_3 : List (S37)) (a1_0 : ByteArray) (A1_1 : Option Addr) (c1_1 : Nat) (l1_1 : List (S123)) (a1_2 : Int) (r1 : ByteArray) (r2 : List (S123)) (r3 : Int) (r4 : Int) (r5 : Int) (r6 : Int) (r7 : Int) (r8 : List Int) (r9 : Bool) (r10 : Int) (r11 : Bool) (r12 : Bool) (w : World) (hr0_3 : Kd.C k37 w A0_3 l0_3.length l0_3) (hc0_3 : l0_3.length ≤ c0_3) (hr1_1 : Kd.C k123 w A1_1 l1_1.length l1_1) (hc1_1 : l1_1.length ≤ c1_1) (h : spec_WinOf.f k a0_0 a0_1 a0_2 l0_3 a1_0 l1_1 a1_2 = some (r1, r2, r3, r4, r5, r6, r7, r8, r9, r10, r11, r12)) :
 Calls Tryd.prog 10 #[.agg #[.int .i64 a0_0, .int .i64 a0_1, .int .i64 a0_2, .slice A0_3 l0_3.length c0_3], .agg #[.string a1_0, .slice A1_1 l1_1.length c1_1, .int .i64 a1_2]] w fun e w' => ∃ v1_ v7_ : Value, e = .returned (.tuple #[.agg #[.string r1, v1_, .int .i64 r3, .int .i64 r4, .int .i64 r5, .int .i64 r6, .int .i64 r7, v7_, .bool r9, .int .i64 r10, .bool r11], .bool r12]) ∧ Kd.R k123 123 w' w.heap.size (fun _ => True) v1_ r2 ∧ Kd.R (Kd.int .i64) 3 w' w.heap.size (fun _ => True) v7_ r8 ∧ Below w.heap.size w w' := by
 have hu42 := Tryd.underlying42
 have hu32 := Tryd.underlying32
 have hu37 := Tryd.underlying37
 have HR0_3 := aM hr0_3
 have HC0_3 := aM hc0_3
 clear hr0_3 hc0_3
 have HR1_1 := aM hr1_1
 have HC1_1 := aM hc1_1
 clear hr1_1 hc1_1
 have HB := aM (Below.refl w.heap.size w)
 have H : ((spec_GoodBoard.f k a0_0 a0_1 a0_2 l0_3).bind fun t104 => (if t104 = true then ((spec_GoodKey.f k a1_0 l1_1 a1_2).bind fun t105 => (spec_WinOf.j0 k (!t105) a0_0 a0_1 a0_2 l0_3 a1_0 l1_1 a1_2)) else (spec_WinOf.j0 k true a0_0 a0_1 a0_2 l0_3 a1_0 l1_1 a1_2))) = some (r1, r2, r3, r4, r5, r6, r7, r8, r9, r10, r11, r12) := h
 clear h
 have HC3 := aM H
 clear H
 go_enter Tryd.func10, Tryd.ntmps10
 go_upto_region 1 with (first | ((with_reducible refine gate_dst (N := 2) rfl ?_); refine bX 2 42 #[.int .i64 a0_0, .int .i64 a0_1, .int .i64 a0_2, .slice A0_3 l0_3.length c0_3] ?_; intro gb101 hg w4 hbox hb; have _ := aM (below_step hbZ hb); have _ := aM hbox; have _ := szZ hg; have _ := szZ hg; clear HB; rename_i HB BK101 GW101 GE101; clear hb hbox hg) | ((with_reducible refine gate_dst (N := 3) rfl ?_); refine bX 3 32 #[.string a1_0, .slice A1_1 l1_1.length c1_1, .int .i64 a1_2] ?_; intro gb102 hg w5 hbox hb; have _ := bB gb101 hb; have _ := aM (below_step hbZ hb); have _ := aM hbox; have _ := szZ hg; have _ := szZ hg; have ⟨_, _⟩ := nbB gb101 hg; clear BK101 HB; rename_i BK101 HB BK102 GW102 GE102 NB101_102 NB102_101; clear hb hbox hg) | ((with_reducible refine gate_dst (N := 4) rfl ?_); refine bX 4 37 #[.string (⟨#[]⟩ : ByteArray), .slice none 0 0, .int .i64 0, .int .i64 0, .int .i64 0, .int .i64 0, .int .i64 0, .slice none 0 0, .bool false, .int .i64 0, .bool false] ?_; intro gb103 hg w6 hbox hb; have _ := bB gb101 hb; have _ := bB gb102 hb; have _ := aM (below_step hbZ hb); have _ := aM hbox; have _ := szZ hg; have _ := szZ hg; have ⟨_, _⟩ := nbB gb101 hg; have ⟨_, _⟩ := nbB gb102 hg; clear BK101 BK102 HB; rename_i BK101 BK102 HB BK103 GW103 GE103 NB101_103 NB103_101 NB102_103 NB103_102; clear hb hbox hg))
 (try simp only [Act.put, List.setIfInBounds_toArray, List.set_cons_zero, List.set_cons_succ])
 go_cut [15] (fun v15 wc => ∃ (kq : Nat) (x15_2 : Bool), v15 = .bool x15_2 ∧ Aside0 (spec_WinOf.j0 kq x15_2 a0_0 a0_1 a0_2 l0_3 a1_0 l1_1 a1_2 = some (r1, r2, r3, r4, r5, r6, r7, r8, r9, r10, r11, r12)) ∧ Aside0 (kq ≤ k) ∧ Aside0 (wc.heap[gb101]? = some (.cells #[.int .i64 a0_0, .int .i64 a0_1, .int .i64 a0_2, (.slice A0_3 l0_3.length c0_3)] 42 (0, 0))) ∧ Aside0 (wc.heap[gb102]? = some (.cells #[.string a1_0, (.slice A1_1 l1_1.length c1_1), .int .i64 a1_2] 32 (0, 0))) ∧ Aside0 (wc.heap[gb103]? = some (.cells #[.string (⟨#[]⟩ : ByteArray), (.slice none 0 0), .int .i64 0, .int .i64 0, .int .i64 0, .int .i64 0, .int .i64 0, (.slice none 0 0), .bool false, .int .i64 0, .bool false] 37 (0, 0))) ∧ Aside0 (Below w.heap.size w wc))
 case first =>
  have H := HC3.out
  clear HC3
  obtain ⟨t104, A7, H⟩ := bS H; try dsimp only at H
  by_cases c8 : t104 = true
  · subst c8
    rw [if_pos rfl] at H
    obtain ⟨t105, A9, H⟩ := bS H; try dsimp only at H
    have H' := aM H
    clear H
    have hnb10 := NB101_102.out
    have hnc10 := NB102_101.out
    have hnb11 := NB101_103.out
    have hnc11 := NB103_101.out
    have hz12 := cellsZ4 BK101.out
    go_wp2_with (first | ((with_reducible refine gate_callee (f := 40) rfl ?_); refine gL 9 Tryd.func40 #[.agg #[.int .i64 a0_0, .int .i64 a0_1, .int .i64 a0_2, .slice A0_3 l0_3.length c0_3]] ?_; (with_reducible refine (spec_GoodBoard.calls k a0_0 a0_1 a0_2 _ _ l0_3 true _ ?side1 ?side2 A7.out).mono ?_); (case side1 => exact (cZ (Kd.C_below HR0_3.out HB.out))); (case side2 => exact HC0_3.out); rintro e w13 ⟨rfl, hb⟩; refine ⟨_, rfl, ?_⟩; have _ := bB gb101 hb; have _ := bB gb102 hb; have _ := bB gb103 hb; have _ := aM (below_step hbZ hb); clear BK101 BK102 BK103 HB; rename_i BK101 BK102 BK103 HB; (try clear hb); have hnb14 := NB102_103.out; have hnc14 := NB103_102.out; have hz15 := cellsZ3 BK102.out) | (go_at_call 41; (with_reducible refine (spec_GoodKey.calls k a1_0 _ _ l1_1 a1_2 t105 _ ?side1 ?side2 A9.out).mono ?_); (case side1 => exact (cZ (Kd.C_below HR1_1.out HB.out))); (case side2 => exact HC1_1.out); rintro e w16 ⟨rfl, hb⟩; have _ := bB gb101 hb; have _ := bB gb102 hb; have _ := bB gb103 hb; have _ := aM (below_step hbZ hb); clear BK101 BK102 BK103 HB; rename_i BK101 BK102 BK103 HB; (try clear hb)))
    go_meet
    case rel => exact ⟨_, (!t105), z4458, H', ⟨zb79b⟩, ⟨bkZ⟩, ⟨bkZ⟩, ⟨bkZ⟩, ⟨zcb41⟩⟩
  · replace c8 := Bool.eq_false_iff.mpr c8
    subst c8
    rw [if_neg (show ¬ (false = true) by decide)] at H
    have H' := aM H
    clear H
    have hnb17 := NB101_102.out
    have hnc17 := NB102_101.out
    have hnb18 := NB101_103.out
    have hnc18 := NB103_101.out
    have hz19 := cellsZ4 BK101.out
    go_wp2_with (first | ((with_reducible refine gate_callee (f := 40) rfl ?_); refine gL 9 Tryd.func40 #[.agg #[.int .i64 a0_0, .int .i64 a0_1, .int .i64 a0_2, .slice A0_3 l0_3.length c0_3]] ?_; (with_reducible refine (spec_GoodBoard.calls k a0_0 a0_1 a0_2 _ _ l0_3 false _ ?side1 ?side2 A7.out).mono ?_); (case side1 => exact (cZ (Kd.C_below HR0_3.out HB.out))); (case side2 => exact HC0_3.out); rintro e w20 ⟨rfl, hb⟩; refine ⟨_, rfl, ?_⟩; have _ := bB gb101 hb; have _ := bB gb102 hb; have _ := bB gb103 hb; have _ := aM (below_step hbZ hb); clear BK101 BK102 BK103 HB; rename_i BK101 BK102 BK103 HB; (try clear hb)))
    go_meet
    case rel => exact ⟨_, (true), z4458, H', ⟨zb79b⟩, ⟨bkZ⟩, ⟨bkZ⟩, ⟨bkZ⟩, ⟨zcb41⟩⟩
 case rest =>
  clear HC3
  (try clear c1)
  obtain ⟨kq, x15_2, rfl, HA, HJ2, BK101, BK102, BK103, HB⟩ := hcut
  cases kq with
  | zero => exact absurd HA.out (by simp [spec_WinOf.j0])
  | succ kj2 =>
   have H := HA.out
   clear HA
   simp only [spec_WinOf.j0] at H
   by_cases c21 : x15_2 = true
   · subst c21
     rw [if_pos rfl] at H
     simp only [Option.some.injEq, Prod.mk.injEq] at H
     obtain ⟨rfl, rfl, rfl, rfl, rfl, rfl, rfl, rfl, rfl, rfl, rfl, rfl⟩ := H
     have hnb22 := NB103_101.out
     have hnc22 := NB101_103.out
     have hnb23 := NB103_102.out
     have hnc23 := NB102_103.out
     have hz24 := cellsZ11 BK103.out
     go_wp2
     refine bodyPost_ret (results_ct rfl _ _ gb103 37 #[.string (⟨#[]⟩ : ByteArray), .slice none 0 0, .int .i64 0, .int .i64 0, .int .i64 0, .int .i64 0, .int .i64 0, .slice none 0 0, .bool false, .int .i64 0, .bool false] (0, 0) _ rfl bkZ Tryd.underlying37 rfl (by kernel_rfl)) rfl ?_
     exact ⟨_, _, z674d, z02fa, z02fa, zcb41⟩
   · replace c21 := Bool.eq_false_iff.mpr c21
     subst c21
     rw [if_neg (show ¬ (false = true) by decide)] at H
     obtain ⟨⟨t106, t107⟩, A25, H⟩ := bS H; try dsimp only at H
     by_cases c26 : t107 = true
     · subst c26
       rw [if_pos rfl] at H
       obtain ⟨⟨t108, t109, t110, t111⟩, A27, H⟩ := bS H; try dsimp only at H
       obtain ⟨c28b0, H⟩ := sE H
       obtain ⟨c29b0, H⟩ := sL H
       simp only [Option.some.injEq, Prod.mk.injEq] at H
       obtain ⟨rfl, rfl, rfl, rfl, rfl, rfl, rfl, rfl, rfl, rfl, rfl, rfl⟩ := H
       have hnb30 := NB101_102.out
       have hnc30 := NB102_101.out
       have hnb31 := NB101_103.out
       have hnc31 := NB103_101.out
       have hz32 := cellsZ4 BK101.out
       have hnb33 := NB102_103.out
       have hnc33 := NB103_102.out
       have hz34 := cellsZ3 BK102.out
       go_wp2_with (first | ((with_reducible refine gate_callee (f := 42) rfl ?_); refine gL 20 Tryd.func42 #[.agg #[.int .i64 a0_0, .int .i64 a0_1, .int .i64 a0_2, .slice A0_3 l0_3.length c0_3], .agg #[.string a1_0, .slice A1_1 l1_1.length c1_1, .int .i64 a1_2]] ?_; (with_reducible refine (spec_l11At.calls kj2 a0_0 a0_1 a0_2 _ _ l0_3 a1_0 _ _ l1_1 a1_2 t106 true _ ?side1 ?side2 ?side3 ?side4 A25.out).mono ?_); (case side1 => exact (cZ (Kd.C_below HR0_3.out HB.out))); (case side2 => exact HC0_3.out); (case side3 => exact (cZ (Kd.C_below HR1_1.out HB.out))); (case side4 => exact HC1_1.out); rintro e w35 ⟨rfl, hb⟩; refine ⟨_, rfl, ?_⟩; have _ := bB gb101 hb; have _ := bB gb102 hb; have _ := bB gb103 hb; have _ := aM (below_step hbZ hb); clear BK101 BK102 BK103 HB; rename_i BK101 BK102 BK103 HB; (try clear hb); have hz36 := cellsZ4 BK101.out) | ((with_reducible refine gate_callee (f := 43) rfl ?_); refine gL 27 Tryd.func43 #[.agg #[.int .i64 a0_0, .int .i64 a0_1, .int .i64 a0_2, .slice A0_3 l0_3.length c0_3]] ?_; (with_reducible refine (spec_l11Own.calls kj2 a0_0 a0_1 a0_2 _ _ l0_3 t108 t109 t110 t111 _ ?side1 ?side2 A27.out).mono ?_); (case side1 => exact (cZ (Kd.C_below HR0_3.out HB.out))); (case side2 => exact HC0_3.out); rintro e w37 ⟨v112, rfl, ho0, hb⟩; refine ⟨_, rfl, ?_⟩; have _ := aM (Kd.S_lower (Kd.S_newB ho0 (g := gb103) bkZ) (below_size hbZ)); have _ := bB gb101 hb; have _ := bB gb102 hb; have _ := bB gb103 hb; have _ := aM (below_step hbZ hb); clear BK101 BK102 BK103 HB; rename_i HO113 BK101 BK102 BK103 HB; (try clear hb); (try clear ho0); obtain ⟨Ao38, co38, eo38⟩ := Kd.S_slice HO113.out; subst eo38; have p114 : 0 ≤ (t106 : Int) := of_decide_eq_true z1200; have q114 : t106 < (t111.length : Int) := of_decide_eq_true z1200; obtain ⟨ad114, A114_1, c114_1, A114_7, c114_7, e114, hx114_0, hx114_1, hx114_2, hx114_3, hx114_4, hx114_5, hx114_6, hx114_7, hx114_8, hx114_9, hx114_10, hl114_1, hi114_1, hl114_7, hi114_7⟩ := at_T37 (Kd.S_reads' HO113.out).2.2 t106 p114 q114; cases e114; obtain ⟨ce114, hce114, hMe114, hcc114⟩ := Kd.S_get HO113.out z37 t106 p114 (by first | exact q114 | exact of_decide_eq_true z1200 | (have e_ := (Kd.S_reads' HO113.out).1; omega)); obtain ⟨ve114_1, ve114_7, rfl, ge114_1, ge114_7⟩ := k37_openM hMe114; have hv114_1 := hcc114 1 _ rfl; rw [add_field _ _ 1 (by omega)] at hv114_1; replace hv114_1 := Option.some.inj (hv114_1.symm.trans hx114_1); rw [hv114_1] at ge114_1; have HL114_1 := aM (show Kd.R k123 123 _ _ _ _ ((rd_T37 t111 t106).f0.f1) from ge114_1); clear hv114_1 ge114_1; have hv114_7 := hcc114 7 _ rfl; rw [add_field _ _ 7 (by omega)] at hv114_7; replace hv114_7 := Option.some.inj (hv114_7.symm.trans hx114_7); rw [hv114_7] at ge114_7; have HL114_7 := aM (show Kd.R (Kd.int .i64) 3 _ _ _ _ ((rd_T37 t111 t106).f1.f4) from ge114_7); clear hv114_7 ge114_7; clear hcc114 hce114; have HR114_1 := aM hi114_1; have HC114_1 := aM hl114_1; clear hi114_1 hl114_1; have HR114_7 := aM hi114_7; have HC114_7 := aM hl114_7; clear hi114_7 hl114_7; replace p114 := eq_true p114; replace q114 := eq_true q114; have hz39 := cellsZ11 BK103.out))
       have hf_ : Sem.run Tryd.prog (Instr.field 42 (Value.agg #[Value.int .i64 t108, Value.int .i64 t109, Value.int .i64 t110, Value.slice (some ad114) t111.length co38]) 3) w37 = .ok (.slice (some ad114) t111.length co38) w37 := by kernel_rfl
       rw [hf_]
       clear hf_
       go_wp2
       refine bodyPost_ret (results_ct rfl _ _ gb103 37 #[.string ((rd_T37 t111 t106).f0.f0), .slice A114_1 ((rd_T37 t111 t106).f0.f1).length c114_1, .int .i64 ((rd_T37 t111 t106).f0.f2), .int .i64 ((rd_T37 t111 t106).f1.f0), .int .i64 ((rd_T37 t111 t106).f1.f1), .int .i64 ((rd_T37 t111 t106).f1.f2), .int .i64 ((rd_T37 t111 t106).f1.f3), .slice A114_7 ((rd_T37 t111 t106).f1.f4).length c114_7, .bool ((rd_T37 t111 t106).f1.f5), .int .i64 ((rd_T37 t111 t106).f2), .bool ((rd_T37 t111 t106).f3)] (0, 0) _ rfl (by with_reducible exact blk_put11 BK103.out) Tryd.underlying37 rfl (by kernel_rfl)) rfl ?_
       exact ⟨_, _, z674d, by (with_reducible repeat (first | apply Kd.R_alloc | apply Kd.R_drewN | apply Kd.R_drew)); exact Kd.R_mono (Kd.R_far (p := ⟨gb103, 10, none⟩) (Kd.R_far (p := ⟨gb103, 9, none⟩) (Kd.R_far (p := ⟨gb103, 8, none⟩) (Kd.R_far (p := ⟨gb103, 7, none⟩) (Kd.R_far (p := ⟨gb103, 6, none⟩) (Kd.R_far (p := ⟨gb103, 5, none⟩) (Kd.R_far (p := ⟨gb103, 4, none⟩) (Kd.R_far (p := ⟨gb103, 3, none⟩) (Kd.R_far (p := ⟨gb103, 2, none⟩) (Kd.R_far (p := ⟨gb103, 1, none⟩) (Kd.R_far (p := ⟨gb103, 0, none⟩) (Kd.R_types HL114_1.out BK103.out (by decide)) (fun _ hk => hk.2) (.string ((rd_T37 t111 t106).f0.f0))) (fun _ hk => hk.2) (.slice A114_1 ((rd_T37 t111 t106).f0.f1).length c114_1)) (fun _ hk => hk.2) (.int .i64 ((rd_T37 t111 t106).f0.f2))) (fun _ hk => hk.2) (.int .i64 ((rd_T37 t111 t106).f1.f0))) (fun _ hk => hk.2) (.int .i64 ((rd_T37 t111 t106).f1.f1))) (fun _ hk => hk.2) (.int .i64 ((rd_T37 t111 t106).f1.f2))) (fun _ hk => hk.2) (.int .i64 ((rd_T37 t111 t106).f1.f3))) (fun _ hk => hk.2) (.slice A114_7 ((rd_T37 t111 t106).f1.f4).length c114_7)) (fun _ hk => hk.2) (.bool ((rd_T37 t111 t106).f1.f5))) (fun _ hk => hk.2) (.int .i64 ((rd_T37 t111 t106).f2))) (fun _ hk => hk.2) (.bool ((rd_T37 t111 t106).f3))) (fun _ hk => trivial), by (with_reducible repeat (first | apply Kd.R_alloc | apply Kd.R_drewN | apply Kd.R_drew)); exact Kd.R_mono (Kd.R_far (p := ⟨gb103, 10, none⟩) (Kd.R_far (p := ⟨gb103, 9, none⟩) (Kd.R_far (p := ⟨gb103, 8, none⟩) (Kd.R_far (p := ⟨gb103, 7, none⟩) (Kd.R_far (p := ⟨gb103, 6, none⟩) (Kd.R_far (p := ⟨gb103, 5, none⟩) (Kd.R_far (p := ⟨gb103, 4, none⟩) (Kd.R_far (p := ⟨gb103, 3, none⟩) (Kd.R_far (p := ⟨gb103, 2, none⟩) (Kd.R_far (p := ⟨gb103, 1, none⟩) (Kd.R_far (p := ⟨gb103, 0, none⟩) (Kd.R_types HL114_7.out BK103.out (by decide)) (fun _ hk => hk.2) (.string ((rd_T37 t111 t106).f0.f0))) (fun _ hk => hk.2) (.slice A114_1 ((rd_T37 t111 t106).f0.f1).length c114_1)) (fun _ hk => hk.2) (.int .i64 ((rd_T37 t111 t106).f0.f2))) (fun _ hk => hk.2) (.int .i64 ((rd_T37 t111 t106).f1.f0))) (fun _ hk => hk.2) (.int .i64 ((rd_T37 t111 t106).f1.f1))) (fun _ hk => hk.2) (.int .i64 ((rd_T37 t111 t106).f1.f2))) (fun _ hk => hk.2) (.int .i64 ((rd_T37 t111 t106).f1.f3))) (fun _ hk => hk.2) (.slice A114_7 ((rd_T37 t111 t106).f1.f4).length c114_7)) (fun _ hk => hk.2) (.bool ((rd_T37 t111 t106).f1.f5))) (fun _ hk => hk.2) (.int .i64 ((rd_T37 t111 t106).f2))) (fun _ hk => hk.2) (.bool ((rd_T37 t111 t106).f3))) (fun _ hk => trivial), zcb41⟩
     · replace c26 := Bool.eq_false_iff.mpr c26
       subst c26
       rw [if_neg (show ¬ (false = true) by decide)] at H
       simp only [Option.some.injEq, Prod.mk.injEq] at H
       obtain ⟨rfl, rfl, rfl, rfl, rfl, rfl, rfl, rfl, rfl, rfl, rfl, rfl⟩ := H
       have hnb40 := NB101_102.out
       have hnc40 := NB102_101.out
       have hnb41 := NB101_103.out
       have hnc41 := NB103_101.out
       have hz42 := cellsZ4 BK101.out
       have hnb43 := NB102_103.out
       have hnc43 := NB103_102.out
       have hz44 := cellsZ3 BK102.out
       go_wp2_with (first | ((with_reducible refine gate_callee (f := 42) rfl ?_); refine gL 20 Tryd.func42 #[.agg #[.int .i64 a0_0, .int .i64 a0_1, .int .i64 a0_2, .slice A0_3 l0_3.length c0_3], .agg #[.string a1_0, .slice A1_1 l1_1.length c1_1, .int .i64 a1_2]] ?_; (with_reducible refine (spec_l11At.calls kj2 a0_0 a0_1 a0_2 _ _ l0_3 a1_0 _ _ l1_1 a1_2 t106 false _ ?side1 ?side2 ?side3 ?side4 A25.out).mono ?_); (case side1 => exact (cZ (Kd.C_below HR0_3.out HB.out))); (case side2 => exact HC0_3.out); (case side3 => exact (cZ (Kd.C_below HR1_1.out HB.out))); (case side4 => exact HC1_1.out); rintro e w45 ⟨rfl, hb⟩; refine ⟨_, rfl, ?_⟩; have _ := bB gb101 hb; have _ := bB gb102 hb; have _ := bB gb103 hb; have _ := aM (below_step hbZ hb); clear BK101 BK102 BK103 HB; rename_i BK101 BK102 BK103 HB; (try clear hb); have hz46 := cellsZ11 BK103.out))
       refine bodyPost_ret (results_ct rfl _ _ gb103 37 #[.string (⟨#[]⟩ : ByteArray), .slice none 0 0, .int .i64 0, .int .i64 0, .int .i64 0, .int .i64 0, .int .i64 0, .slice none 0 0, .bool false, .int .i64 0, .bool false] (0, 0) _ rfl bkZ Tryd.underlying37 rfl (by kernel_rfl)) rfl ?_
       exact ⟨_, _, z674d, z02fa, z02fa, zcb41⟩

end Go.Proofs.YtkgmoajdcibafaaDoor.P

-- written by a program of this session's (wip/pp)
namespace Go.Proofs.YtkgmoajdcibafaaDoor.P
open Go.RowKit Go.Proofs.YtkgmoajdcibafaaDoorW.PrintWords Go.Proofs.YtkgmoajdcibafaaDoorW.PrintLast Go.Proofs.YtkgmoajdcibafaaDoorW.PrintMore
attribute [local go_sem] max2_int min2_int max_two min_two max_three min_three max_four min_four str_geq str_gtr str_leq   -- for this text's walks alone
set_option linter.unusedVariables false
set_option linter.unusedSimpArgs false

/-! ### laws_toTag: function 88 -/
def laws_toTag.f (a0_0 : ByteArray) (a0_1 : ByteArray) : Option (ByteArray × ByteArray) := some (a0_0, a0_1)
set_option maxHeartbeats 8000000 in
set_option maxRecDepth 100000 in
theorem laws_toTag.calls (a0_0 : ByteArray) (a0_1 : ByteArray) (r1 : ByteArray) (r2 : ByteArray) (w : World) (h : laws_toTag.f a0_0 a0_1 = some (r1, r2)) :
 Calls Tryd.prog 88 #[.agg #[.string a0_0, .string a0_1]] w fun e w' => e = .returned (.agg #[.string r1, .string r2]) ∧ Below w.heap.size w w' := by
 have hu119 := Tryd.underlying119
 have hu123 := Tryd.underlying123
 have HB := aM (Below.refl w.heap.size w)
 have H : (some (a0_0, a0_1)) = some (r1, r2) := h
 clear h
 simp only [Option.some.injEq, Prod.mk.injEq] at H
 obtain ⟨rfl, rfl⟩ := H
 go_enter Tryd.func88, Tryd.ntmps88
 go_wp2_with (first | ((with_reducible refine gate_dst (N := 1) rfl ?_); refine bX 1 119 #[.string a0_0, .string a0_1] ?_; intro gb101 hg w2 hbox hb; have _ := aM (below_step hbZ hb); have _ := aM hbox; have _ := szZ hg; have _ := szZ hg; clear HB; rename_i HB BK101 GW101 GE101; clear hb hbox hg) | ((with_reducible refine gate_dst (N := 2) rfl ?_); refine bX 2 123 #[.string (⟨#[]⟩ : ByteArray), .string (⟨#[]⟩ : ByteArray)] ?_; intro gb102 hg w3 hbox hb; have _ := bB gb101 hb; have _ := aM (below_step hbZ hb); have _ := aM hbox; have _ := szZ hg; have _ := szZ hg; have ⟨_, _⟩ := nbB gb101 hg; clear BK101 HB; rename_i BK101 HB BK102 GW102 GE102 NB101_102 NB102_101; clear hb hbox hg) | ((with_reducible refine gate_dst (N := 3) rfl ?_); refine bX 3 123 #[.string (⟨#[]⟩ : ByteArray), .string (⟨#[]⟩ : ByteArray)] ?_; intro gb103 hg w4 hbox hb; have _ := bB gb101 hb; have _ := bB gb102 hb; have _ := aM (below_step hbZ hb); have _ := aM hbox; have _ := szZ hg; have _ := szZ hg; have ⟨_, _⟩ := nbB gb101 hg; have ⟨_, _⟩ := nbB gb102 hg; clear BK101 BK102 HB; rename_i BK101 BK102 HB BK103 GW103 GE103 NB101_103 NB103_101 NB102_103 NB103_102; clear hb hbox hg; have hnb5 := NB101_102.out; have hnc5 := NB102_101.out; have hnb6 := NB101_103.out; have hnc6 := NB103_101.out; have hz7 := cellsZ2 BK101.out; have hnb8 := NB103_102.out; have hnc8 := NB102_103.out; have hz9 := cellsZ2 BK103.out; have hz10 := cellsZ2 BK102.out))
 refine bodyPost_ret (results_cell_row rfl _ _ gb102 123 #[.string a0_0, .string a0_1] (0, 0) _ rfl bkZ Tryd.underlying123 rfl (by kernel_rfl)) rfl ?_
 exact ⟨z674d, zcb41⟩

end Go.Proofs.YtkgmoajdcibafaaDoor.P

-- written by a program of this session's (wip/pp)
namespace Go.Proofs.YtkgmoajdcibafaaDoor.P
open Go.RowKit Go.Proofs.YtkgmoajdcibafaaDoorW.PrintWords Go.Proofs.YtkgmoajdcibafaaDoorW.PrintLast Go.Proofs.YtkgmoajdcibafaaDoorW.PrintMore
attribute [local go_sem] max2_int min2_int max_two min_two max_three min_three max_four min_four str_geq str_gtr str_leq   -- for this text's walks alone
set_option linter.unusedVariables false
set_option linter.unusedSimpArgs false

/-! ### laws_toTagS: function 45 -/
def laws_toTagS.l0 : Nat → List (S119) → List (S123) → Int → Option ((List (S123)))
 | 0, _, _, _ => none
 | k + 1, x0, x3, x4 => if x4 < (x0.length : Int) then (if 0 ≤ x4 then ((laws_toTag.f ((rd_T119 x0 x4).f0) ((rd_T119 x0 x4).f1)).bind fun bt105 => (if x4 < (x3.length : Int) then (laws_toTagS.l0 k x0 (x3.set (x4 : Int).toNat (⟨bt105.1, bt105.2⟩ : S123)) (wrap64 (x4 + 1))) else (none))) else (none)) else (some x3)
def laws_toTagS.f (k : Nat) (l0 : List (S119)) : Option ((List (S123))) := if 0 ≤ (l0.length : Int) then (if ((l0.length : Int) : Int).toNat ≤ 8796093022208 then (laws_toTagS.l0 k l0 (List.replicate ((l0.length : Int) : Int).toNat z123) 0) else (none)) else (none)
theorem laws_toTagS.mono_l : ∀ k, (∀ y0 y1 y2, LeO (laws_toTagS.l0 k y0 y1 y2) (laws_toTagS.l0 (k + 1) y0 y1 y2))
 | 0 => fun _ _ _ r h => by simp [laws_toTagS.l0] at h
 | k + 1 => by
  have ih0 := laws_toTagS.mono_l k
  · intro y0 y1 y2
    unfold laws_toTagS.l0
    exact moZ
theorem laws_toTagS.mono : ∀ a0 k, LeO (laws_toTagS.f k a0) (laws_toTagS.f (k + 1) a0) := by
 intro a0 k
 have ih0 := laws_toTagS.mono_l k
 unfold laws_toTagS.f
 exact moZ
set_option maxHeartbeats 8000000 in
set_option maxRecDepth 100000 in
theorem laws_toTagS.calls (k : Nat) (A0 : Option Addr) (c0 : Nat) (l0 : List (S119)) (r : List (S123)) (w : World) (hr0 : Kd.C k119 w A0 l0.length l0) (hc0 : l0.length ≤ c0) (h : laws_toTagS.f k l0 = some r) :
 Calls Tryd.prog 45 #[.slice A0 l0.length c0] w fun e w' => ∃ v0_ : Value, e = .returned (v0_) ∧ Kd.R k123 123 w' w.heap.size (fun _ => True) v0_ r ∧ Below w.heap.size w w' := by
 have hu119 := Tryd.underlying119
 have hu123 := Tryd.underlying123
 have HR0 := aM hr0
 have HC0 := aM hc0
 clear hr0 hc0
 have HB := aM (Below.refl w.heap.size w)
 have H : (if 0 ≤ (l0.length : Int) then (if ((l0.length : Int) : Int).toNat ≤ 8796093022208 then (laws_toTagS.l0 k l0 (List.replicate ((l0.length : Int) : Int).toNat z123) 0) else (none)) else (none)) = some r := h
 clear h
 replace H := ifS H; obtain ⟨c2, H⟩ := H
 have c2b0 := eq_true c2
 have c2b1 : decide (0 ≤ (l0.length : Int)) = true := decide_eq_true c2
 clear c2
 replace H := ifS H; obtain ⟨c3, H⟩ := H
 have c3b0 := eq_true c3
 have c3b1 : decide (((l0.length : Int) : Int).toNat ≤ 8796093022208) = true := decide_eq_true c3
 clear c3
 obtain ⟨y101, hy101⟩ : ∃ y_ : List (S123), y_ = (List.replicate ((l0.length : Int) : Int).toNat z123) := ⟨_, rfl⟩
 first | (replace H := bindS H; rw [← hy101] at H; try dsimp only at H) | rw [← hy101] at H
 have Ny101 := aM hy101
 clear hy101
 have H' := aM H
 clear H
 go_enter Tryd.func45, Tryd.ntmps45
 go_wp2_with (first | ((with_reducible refine gate_dst (N := 7) rfl ?_); refine Kd.R_make k123 _ 123 rfl (N := 7) rfl 30 _ _ rfl (l0.length : Int) rfl rfl Tryd.underlying30 (.agg #[(.string ⟨#[]⟩), (.string ⟨#[]⟩)]) 32 info123 rfl (by decide) (by omega) z123 (ok := fun _ => True) (okp := fun _ => True) (k123_mkM _ _ _ z123 ) (fun _ hk => hk) trivial (of_decide_eq_true z1200) (Nat.le_trans (Nat.mul_le_mul_right _ (of_decide_eq_true z1200 : (l0.length : Int).toNat ≤ 8796093022208)) (by omega)) (Below.refl _ _) (Nat.le_refl _) ?_; intro v102 w4 ho5 hb hg_ hnew_; clear hg_ hnew_; (first | rw [← Ny101.out] at ho5 | (simp only [Int.reduceToNat] at ho5; rw [← Ny101.out] at ho5)); have _ := aM (Kd.R_lower ho5 (below_size hbZ)); have _ := aM (below_step hbZ hb); clear HB; rename_i HO103 HB; clear hb ho5))
 go_loopg [4] k (fun kq v4 w' => ∃ (x3_1 : List (S123)) (x4_1 : Int), v4 = .int .i64 x4_1 ∧ Aside0 (laws_toTagS.l0 kq l0 x3_1 x4_1 = some r) ∧ Aside0 (kq ≤ k) ∧ Aside0 (Kd.R k123 123 w' w.heap.size (fun _ => True) v102 x3_1) ∧ Aside0 (Below w.heap.size w w'))
 case atStart => exact ⟨(y101), (0), z4458, H', ⟨Nat.le_refl _⟩, ⟨rZ HO103.out⟩, ⟨z5acd⟩⟩
 case round =>
  clear H'
  (try clear c2b0); (try clear c2b1); (try clear c3b0); (try clear c3b1)
  obtain ⟨x3_1, x4_1, rfl, HA, HK1, HO_3, HB⟩ := hrel
  cases gk with
  | zero => exact absurd HA.out (by simp [laws_toTagS.l0])
  | succ k1 =>
   have H := HA.out
   clear HA
   simp only [laws_toTagS.l0] at H
   by_cases c6 : x4_1 < (l0.length : Int)
   · rw [if_pos c6] at H
     have c6b0 := dL c6
     clear c6
     obtain ⟨c7b0, H⟩ := sE H
     obtain ⟨⟨t105, t106⟩, A8, H⟩ := bS H; try dsimp only at H
     obtain ⟨c9b0, H⟩ := sL H
     obtain ⟨y107, hy107⟩ : ∃ y_ : List (S123), y_ = (x3_1.set (x4_1 : Int).toNat (⟨t105, t106⟩ : S123)) := ⟨_, rfl⟩
     first | (replace H := bindS H; rw [← hy107] at H; try dsimp only at H) | rw [← hy107] at H
     have Ny107 := aM hy107
     clear hy107
     have H' := aM H
     clear H
     have p104 : 0 ≤ (x4_1 : Int) := of_decide_eq_true z1200
     have q104 : x4_1 < (l0.length : Int) := of_decide_eq_true z1200
     obtain ⟨ad104, e104, hx104_0, hx104_1⟩ := at_T119 HR0.out x4_1 p104 q104
     cases e104
     replace hx104_0 := (HB.out.cell (World.block_lt_of_cell? w _ hx104_0)).trans hx104_0
     replace hx104_1 := (HB.out.cell (World.block_lt_of_cell? w _ hx104_1)).trans hx104_1
     replace p104 := eq_true p104
     replace q104 := eq_true q104
     go_wp2_with (first | ((with_reducible refine gate_callee (f := 88) rfl ?_); refine gL 20 Tryd.func88 #[.agg #[.string ((rd_T119 l0 x4_1).f0), .string ((rd_T119 l0 x4_1).f1)]] ?_; (with_reducible refine (laws_toTag.calls ((rd_T119 l0 x4_1).f0) ((rd_T119 l0 x4_1).f1) t105 t106 _ A8.out).mono ?_); rintro e w11 ⟨rfl, hb⟩; refine ⟨_, rfl, ?_⟩; have _ := aM (Kd.R_below (rZ HO_3.out) hb); have _ := aM (below_step hbZ hb); clear HO_3 HB; rename_i HO_3 HB; (try clear hb); have p10 : 0 ≤ (x4_1 : Int) := of_decide_eq_true z1200; have q10 : (x4_1 : Int) < ((x3_1.length : Int) : Int) := of_decide_eq_true z1200; obtain ⟨go10, co10, eo10, gb10, gl10, cl10, HG10⟩ := Kd.R_form HO_3.out (by omega); (first | cases eo10 | (injection eo10 with ea_ en_ ec_; (first | subst ea_ | (injection ea_ with ea_; subst ea_)); subst ec_; clear en_)); have GB10 := aM gb10; have GG10 := aM HG10; clear gb10 gl10 HG10; obtain ⟨ce10, hcl10, hM10, hcc10, hfr10⟩ := Kd.R_elem HO_3.out z123 (x4_1 : Int) p10 q10; obtain rfl := k123_openM hM10; have hx10_0 : w11.cell? ⟨go10, (x4_1 : Int).toNat * 2, none⟩ = some (.string ((rd_T123 x3_1 x4_1).f0)) := hcc10 0 _ rfl; have hx10_1 : w11.cell? ⟨go10, (x4_1 : Int).toNat * 2 + 1, none⟩ = some (.string ((rd_T123 x3_1 x4_1).f1)) := hcc10 1 _ rfl; have hf10_0 : w11.frozen? ⟨go10, (x4_1 : Int).toNat * 2, none⟩ = false := hfr10 0; have hf10_1 : w11.frozen? ⟨go10, (x4_1 : Int).toNat * 2 + 1, none⟩ = false := hfr10 1; clear hcl10 hcc10 hfr10 hM10; replace p10 := eq_true p10; replace q10 := eq_true q10; have HX12 := aM (show Kd.R k123 123 w11 w.heap.size (fun _ => True) (.slice (some ⟨go10, 0, none⟩) x3_1.length co10) x3_1 from (rZ HO_3.out)); obtain ⟨ce12, hcl12, hM12, hcc12, hfr12⟩ := Kd.R_elem HX12.out z123 (x4_1 : Int) (of_decide_eq_true z1200) (by have h_ : (x4_1 : Int) < ((x3_1.length : Int) : Int) := of_decide_eq_true z1200; first | exact h_ | (have e_ := (Kd.R_reads' HO_3.out).1; omega) | simpa using h_); obtain rfl := k123_openM hM12; have HP12 := Kd.R_seg HX12.out (x4_1 : Int) (of_decide_eq_true z1200) (by have h_ : (x4_1 : Int) < ((x3_1.length : Int) : Int) := of_decide_eq_true z1200; first | exact h_ | (have e_ := (Kd.R_reads' HO_3.out).1; omega) | simpa using h_) (seg := [.string t105, .string t106]) (j := 0) hcl12 hcc12 (show 2 ≤ 2 from by decide) (x' := (⟨t105, t106⟩ : S123)) (k123_mkM _ _ _ (⟨t105, t106⟩ : S123) ) (fun _ hk => hk); have hx12_0 := hcc12 0 _ rfl; (try simp only [show (k123).sz = 2 from rfl, Nat.mul_one, Nat.add_zero] at hx12_0); have hf12_0 := hfr12 0; (try simp only [show (k123).sz = 2 from rfl, Nat.mul_one, Nat.add_zero] at hf12_0); have hx12_1 := hcc12 1 _ rfl; (try simp only [show (k123).sz = 2 from rfl, Nat.mul_one, Nat.add_zero] at hx12_1); have hf12_1 := hfr12 1; (try simp only [show (k123).sz = 2 from rfl, Nat.mul_one, Nat.add_zero] at hf12_1); clear hcl12 hcc12 hfr12 hM12) | ((with_reducible refine gate_store (t := 123) (p := 21) rfl ?_); refine store_event (t := 123) (p := 21) (v := ?vo_w13) (w1 := ((w11.setCell ⟨go10, (x4_1 : Int).toNat * 2, none⟩ (.string t105)).setCell ⟨go10, (x4_1 : Int).toNat * 2 + 1, none⟩ (.string t106))) ?hg ?ho ?hn ?hr ?_; (case ho => rfl); (case hg => rfl); (case hn => rfl); (case hr => first | (go_simp; done) | (go_simp; rfl)); intro w13 hw; have hg : w11.grownBy w13 (some go10) := (by rw [hw]; exact HP12.2); have hp_ : Kd.R k123 123 w13 w.heap.size (fun _ => True) (.slice (some ⟨go10, 0, none⟩) x3_1.length co10) y107 := (by rw [hw, Ny107.out]; exact HP12.1); clear HP12; have _ := aM hp_; have _ := aM ((by rw [hw]; exact below_set (below_set (HB.out) GB10.out) GB10.out : Below w.heap.size w w13)); clear HO_3 HB; rename_i HO_3 HB; clear hg hw hp_))
     go_roundg k1
     case measure => have := HK1.out; omega
     case rel => exact ⟨(y107), (wrap64 (x4_1 + 1)), z4458, H', ⟨zfb39⟩, ⟨rZ HO_3.out⟩, ⟨z5acd⟩⟩
   · rw [if_neg c6] at H
     have c6b0 := nL c6
     clear c6
     obtain rfl := Option.some.inj H
     go_wp2
     go_ret
     exact ⟨_, z674d, rZ HO_3.out, z5acd⟩
end Go.Proofs.YtkgmoajdcibafaaDoor.P

-- written by a program of this session's (wip/pp)
namespace Go.Proofs.YtkgmoajdcibafaaDoor.P
open Go.RowKit Go.Proofs.YtkgmoajdcibafaaDoorW.PrintWords Go.Proofs.YtkgmoajdcibafaaDoorW.PrintLast Go.Proofs.YtkgmoajdcibafaaDoorW.PrintMore
attribute [local go_sem] max2_int min2_int max_two min_two max_three min_three max_four min_four str_geq str_gtr str_leq   -- for this text's walks alone
set_option linter.unusedVariables false
set_option linter.unusedSimpArgs false

/-! ### laws_toKey: function 12 -/
def laws_toKey.f (k : Nat) (a0_0 : ByteArray) (l0_1 : List (S119)) (a0_2 : Int) : Option (ByteArray × (List (S123)) × Int) := (laws_toTagS.f k l0_1).bind fun t104 => (some (a0_0, t104, a0_2))
theorem laws_toKey.mono : ∀ a0 a1 a2 k, LeO (laws_toKey.f k a0 a1 a2) (laws_toKey.f (k + 1) a0 a1 a2) := by
 intro a0 a1 a2 k
 have m0 := @laws_toTagS.mono
 unfold laws_toKey.f
 exact moZ
set_option maxHeartbeats 8000000 in
set_option maxRecDepth 100000 in
theorem laws_toKey.calls (k : Nat) (a0_0 : ByteArray) (A0_1 : Option Addr) (c0_1 : Nat) (l0_1 : List (S119)) (a0_2 : Int) (r1 : ByteArray) (r2 : List (S123)) (r3 : Int) (w : World) (hr0_1 : Kd.C k119 w A0_1 l0_1.length l0_1) (hc0_1 : l0_1.length ≤ c0_1) (h : laws_toKey.f k a0_0 l0_1 a0_2 = some (r1, r2, r3)) :
 Calls Tryd.prog 12 #[.agg #[.string a0_0, .slice A0_1 l0_1.length c0_1, .int .i64 a0_2]] w fun e w' => ∃ v1_ : Value, e = .returned (.agg #[.string r1, v1_, .int .i64 r3]) ∧ Kd.R k123 123 w' w.heap.size (fun _ => True) v1_ r2 ∧ Below w.heap.size w w' := by
 have hu27 := Tryd.underlying27
 have hu32 := Tryd.underlying32
 have HR0_1 := aM hr0_1
 have HC0_1 := aM hc0_1
 clear hr0_1 hc0_1
 have HB := aM (Below.refl w.heap.size w)
 have H : ((laws_toTagS.f k l0_1).bind fun t104 => (some (a0_0, t104, a0_2))) = some (r1, r2, r3) := h
 clear h
 obtain ⟨t104, A2, H⟩ := bS H; try dsimp only at H
 simp only [Option.some.injEq, Prod.mk.injEq] at H
 obtain ⟨rfl, rfl, rfl⟩ := H
 go_enter Tryd.func12, Tryd.ntmps12
 go_wp2_with (first | ((with_reducible refine gate_dst (N := 1) rfl ?_); refine bX 1 27 #[.string a0_0, .slice A0_1 l0_1.length c0_1, .int .i64 a0_2] ?_; intro gb101 hg w3 hbox hb; have _ := aM (below_step hbZ hb); have _ := aM hbox; have _ := szZ hg; have _ := szZ hg; clear HB; rename_i HB BK101 GW101 GE101; clear hb hbox hg) | ((with_reducible refine gate_dst (N := 2) rfl ?_); refine bX 2 32 #[.string (⟨#[]⟩ : ByteArray), .slice none 0 0, .int .i64 0] ?_; intro gb102 hg w4 hbox hb; have _ := bB gb101 hb; have _ := aM (below_step hbZ hb); have _ := aM hbox; have _ := szZ hg; have _ := szZ hg; have ⟨_, _⟩ := nbB gb101 hg; clear BK101 HB; rename_i BK101 HB BK102 GW102 GE102 NB101_102 NB102_101; clear hb hbox hg) | ((with_reducible refine gate_dst (N := 3) rfl ?_); refine bX 3 32 #[.string (⟨#[]⟩ : ByteArray), .slice none 0 0, .int .i64 0] ?_; intro gb103 hg w5 hbox hb; have _ := bB gb101 hb; have _ := bB gb102 hb; have _ := aM (below_step hbZ hb); have _ := aM hbox; have _ := szZ hg; have _ := szZ hg; have ⟨_, _⟩ := nbB gb101 hg; have ⟨_, _⟩ := nbB gb102 hg; clear BK101 BK102 HB; rename_i BK101 BK102 HB BK103 GW103 GE103 NB101_103 NB103_101 NB102_103 NB103_102; clear hb hbox hg; have hnb6 := NB101_102.out; have hnc6 := NB102_101.out; have hnb7 := NB101_103.out; have hnc7 := NB103_101.out; have hz8 := cellsZ3 BK101.out; have hnb9 := NB103_102.out; have hnc9 := NB102_103.out; have hz10 := cellsZ3 BK103.out) | ((with_reducible refine gate_callee (f := 45) rfl ?_); refine gL 9 Tryd.func45 #[.slice A0_1 l0_1.length c0_1] ?_; (with_reducible refine (laws_toTagS.calls k _ _ l0_1 t104 _ ?side1 ?side2 A2.out).mono ?_); (case side1 => exact Kd.C_below HR0_1.out hbZ); (case side2 => exact HC0_1.out); rintro e w11 ⟨v105, rfl, ho0, hb⟩; refine ⟨_, rfl, ?_⟩; have _ := aM (Kd.R_lower ho0 (below_size hbZ)); have _ := bB gb101 hb; have _ := bB gb102 hb; have _ := aM (blk_below (g := gb103) (o := .cells #[.string a0_0, .slice none 0 0, .int .i64 0] 32 (0, 0)) bkZ hb); have _ := aM (below_step hbZ hb); clear BK101 BK102 BK103 HB; rename_i HO106 BK101 BK102 BK103 HB; (try clear hb); (try clear ho0); obtain ⟨Ao12, co12, eo12⟩ := Kd.R_slice HO106.out; subst eo12; have hz13 := cellsZ3 BK103.out; have hz14 := cellsZ3 BK101.out; have hz15 := cellsZ3 BK102.out))
 refine bodyPost_ret (results_cell_row rfl _ _ gb102 32 #[.string a0_0, .slice Ao12 t104.length co12, .int .i64 a0_2] (0, 0) _ rfl bkZ Tryd.underlying32 rfl (by kernel_rfl)) rfl ?_
 exact ⟨_, z674d, by (with_reducible repeat (first | apply Kd.R_alloc | apply Kd.R_drewN | apply Kd.R_drew)); exact Kd.R_mono (Kd.R_far (p := ⟨gb102, 2, none⟩) (Kd.R_far (p := ⟨gb102, 1, none⟩) (Kd.R_far (p := ⟨gb102, 0, none⟩) (Kd.R_far (p := ⟨gb103, 2, none⟩) (Kd.R_far (p := ⟨gb103, 1, none⟩) (Kd.R_types (Kd.R_types HO106.out BK103.out (by decide)) BK102.out (by decide)) (fun _ hk => hk.1.2) (.slice Ao12 t104.length co12)) (fun _ hk => hk.1.2) (.int .i64 a0_2)) (fun _ hk => hk.2) (.string a0_0)) (fun _ hk => hk.2) (.slice Ao12 t104.length co12)) (fun _ hk => hk.2) (.int .i64 a0_2)) (fun _ hk => trivial), zcb41⟩

end Go.Proofs.YtkgmoajdcibafaaDoor.P

-- written by a program of this session's (wip/pp)
namespace Go.Proofs.YtkgmoajdcibafaaDoor.P
open Go.RowKit Go.Proofs.YtkgmoajdcibafaaDoorW.PrintWords Go.Proofs.YtkgmoajdcibafaaDoorW.PrintLast Go.Proofs.YtkgmoajdcibafaaDoorW.PrintMore
attribute [local go_sem] max2_int min2_int max_two min_two max_three min_three max_four min_four str_geq str_gtr str_leq   -- for this text's walks alone
set_option linter.unusedVariables false
set_option linter.unusedSimpArgs false

/-! ### laws_toIntS: function 114 -/
def laws_toIntS.l0 : Nat → List Int → List Int → Int → Option (List Int)
 | 0, _, _, _ => none
 | k + 1, x0, x3, x4 => if x4 < (x0.length : Int) then (if 0 ≤ x4 then (if x4 < (x3.length : Int) then (laws_toIntS.l0 k x0 (x3.set (x4 : Int).toNat (rd x0 x4)) (wrap64 (x4 + 1))) else (none)) else (none)) else (some x3)
def laws_toIntS.f (k : Nat) (l0 : List Int) : Option (List Int) := if 0 ≤ (l0.length : Int) then (if ((l0.length : Int) : Int).toNat ≤ 35184372088832 then (laws_toIntS.l0 k l0 (List.replicate ((l0.length : Int) : Int).toNat 0) 0) else (none)) else (none)
theorem laws_toIntS.mono_l : ∀ k, (∀ y0 y1 y2, LeO (laws_toIntS.l0 k y0 y1 y2) (laws_toIntS.l0 (k + 1) y0 y1 y2))
 | 0 => fun _ _ _ r h => by simp [laws_toIntS.l0] at h
 | k + 1 => by
  have ih0 := laws_toIntS.mono_l k
  · intro y0 y1 y2
    unfold laws_toIntS.l0
    exact moZ
theorem laws_toIntS.mono : ∀ a0 k, LeO (laws_toIntS.f k a0) (laws_toIntS.f (k + 1) a0) := by
 intro a0 k
 have ih0 := laws_toIntS.mono_l k
 unfold laws_toIntS.f
 exact moZ
set_option maxHeartbeats 8000000 in
set_option maxRecDepth 100000 in
theorem laws_toIntS.calls (k : Nat) (A0 : Option Addr) (c0 : Nat) (l0 : List Int) (r : List Int) (w : World) (hr0 : Kd.C (Kd.int .i64) w A0 l0.length l0) (hc0 : l0.length ≤ c0) (h : laws_toIntS.f k l0 = some r) :
 Calls Tryd.prog 114 #[.slice A0 l0.length c0] w fun e w' => ∃ v0_ : Value, e = .returned (v0_) ∧ Kd.R (Kd.int .i64) 3 w' w.heap.size (fun _ => True) v0_ r ∧ Below w.heap.size w w' := by
 have HR0 := aM hr0
 have HC0 := aM hc0
 clear hr0 hc0
 have HB := aM (Below.refl w.heap.size w)
 have H : (if 0 ≤ (l0.length : Int) then (if ((l0.length : Int) : Int).toNat ≤ 35184372088832 then (laws_toIntS.l0 k l0 (List.replicate ((l0.length : Int) : Int).toNat 0) 0) else (none)) else (none)) = some r := h
 clear h
 replace H := ifS H; obtain ⟨c2, H⟩ := H
 have c2b0 := eq_true c2
 have c2b1 : decide (0 ≤ (l0.length : Int)) = true := decide_eq_true c2
 clear c2
 replace H := ifS H; obtain ⟨c3, H⟩ := H
 have c3b0 := eq_true c3
 have c3b1 : decide (((l0.length : Int) : Int).toNat ≤ 35184372088832) = true := decide_eq_true c3
 clear c3
 obtain ⟨y101, hy101⟩ : ∃ y_ : List Int, y_ = (List.replicate ((l0.length : Int) : Int).toNat 0) := ⟨_, rfl⟩
 first | (replace H := bindS H; rw [← hy101] at H; try dsimp only at H) | rw [← hy101] at H
 have Ny101 := aM hy101
 clear hy101
 have H' := aM H
 clear H
 go_enter Tryd.func114, Tryd.ntmps114
 go_wp2_with (first | ((with_reducible refine gate_dst (N := 7) rfl ?_); refine Kd.R_make (Kd.int .i64) _ 3 rfl (N := 7) rfl 33 _ _ rfl (l0.length : Int) rfl rfl Tryd.underlying33 (.int .i64 0) 8 info3 rfl (by decide) (by omega) 0 (ok := fun _ => True) (okp := fun _ => True) rfl (fun _ hk => hk) trivial (of_decide_eq_true z1200) (Nat.le_trans (Nat.mul_le_mul_right _ (of_decide_eq_true z1200 : (l0.length : Int).toNat ≤ 35184372088832)) (by omega)) (Below.refl _ _) (Nat.le_refl _) ?_; intro v102 w4 ho5 hb hg_ hnew_; clear hg_ hnew_; (first | rw [← Ny101.out] at ho5 | (simp only [Int.reduceToNat] at ho5; rw [← Ny101.out] at ho5)); have _ := aM (Kd.R_lower ho5 (below_size hbZ)); have _ := aM (below_step hbZ hb); clear HB; rename_i HO103 HB; clear hb ho5))
 go_loopg [4] k (fun kq v4 w' => ∃ (x3_1 : List Int) (x4_1 : Int), v4 = .int .i64 x4_1 ∧ Aside0 (laws_toIntS.l0 kq l0 x3_1 x4_1 = some r) ∧ Aside0 (kq ≤ k) ∧ Aside0 (Kd.R (Kd.int .i64) 3 w' w.heap.size (fun _ => True) v102 x3_1) ∧ Aside0 (Below w.heap.size w w'))
 case atStart => exact ⟨(y101), (0), z4458, H', ⟨Nat.le_refl _⟩, ⟨rZ HO103.out⟩, ⟨z5acd⟩⟩
 case round =>
  clear H'
  (try clear c2b0); (try clear c2b1); (try clear c3b0); (try clear c3b1)
  obtain ⟨x3_1, x4_1, rfl, HA, HK1, HO_3, HB⟩ := hrel
  cases gk with
  | zero => exact absurd HA.out (by simp [laws_toIntS.l0])
  | succ k1 =>
   have H := HA.out
   clear HA
   simp only [laws_toIntS.l0] at H
   by_cases c6 : x4_1 < (l0.length : Int)
   · rw [if_pos c6] at H
     have c6b0 := dL c6
     clear c6
     obtain ⟨c7b0, H⟩ := sE H
     obtain ⟨c8b0, H⟩ := sL H
     obtain ⟨y105, hy105⟩ : ∃ y_ : List Int, y_ = (x3_1.set (x4_1 : Int).toNat (rd l0 x4_1)) := ⟨_, rfl⟩
     first | (replace H := bindS H; rw [← hy105] at H; try dsimp only at H) | rw [← hy105] at H
     have Ny105 := aM hy105
     clear hy105
     have H' := aM H
     clear H
     have p104 : 0 ≤ (x4_1 : Int) := of_decide_eq_true z1200
     have q104 : x4_1 < (l0.length : Int) := of_decide_eq_true z1200
     obtain ⟨ad104, e104, hx104_0⟩ := Kd.at_int HR0.out x4_1 p104 q104
     cases e104
     replace hx104_0 := (HB.out.cell (World.block_lt_of_cell? w _ hx104_0)).trans hx104_0
     replace p104 := eq_true p104
     replace q104 := eq_true q104
     have p9 : 0 ≤ (x4_1 : Int) := of_decide_eq_true z1200
     have q9 : (x4_1 : Int) < ((x3_1.length : Int) : Int) := of_decide_eq_true z1200
     obtain ⟨go9, co9, eo9, gb9, gl9, cl9, HG9⟩ := Kd.R_form HO_3.out (by omega)
     (first | cases eo9 | (injection eo9 with ea_ en_ ec_; (first | subst ea_ | (injection ea_ with ea_; subst ea_)); subst ec_; clear en_))
     have GB9 := aM gb9
     have GG9 := aM HG9
     clear gb9 gl9 HG9
     obtain ⟨hx9_0, hf9_0⟩ := Kd.R_celln 0 HO_3.out (x4_1 : Int) p9 q9
     replace p9 := eq_true p9
     replace q9 := eq_true q9
     have HP10 := Kd.R_putg HO_3.out (x4_1 : Int) (rd l0 x4_1)
     go_wp2_with (first | ((with_reducible refine gate_store (t := 3) (p := 20) rfl ?_); refine store_event (t := 3) (p := 20) (v := ?vo_w11) (w1 := (wr.setCell ⟨go9, (x4_1 : Int).toNat, none⟩ (.int .i64 (rd l0 x4_1)))) ?hg ?ho ?hn ?hr ?_; (case ho => rfl); (case hg => rfl); (case hn => rfl); (case hr => first | (go_simp; done) | (go_simp; rfl)); intro w11 hw; have hg : wr.grownBy w11 (some go9) := (by rw [hw]; exact HP10.2); have hp_ : Kd.R (Kd.int .i64) 3 w11 w.heap.size (fun _ => True) (.slice (some ⟨go9, 0, none⟩) x3_1.length co9) y105 := (by rw [hw, Ny105.out]; exact HP10.1); clear HP10; have _ := aM hp_; have _ := aM ((by rw [hw]; exact below_set (HB.out) GB9.out : Below w.heap.size w w11)); clear HO_3 HB; rename_i HO_3 HB; clear hg hw hp_))
     go_roundg k1
     case measure => have := HK1.out; omega
     case rel => exact ⟨(y105), (wrap64 (x4_1 + 1)), z4458, H', ⟨zfb39⟩, ⟨rZ HO_3.out⟩, ⟨z5acd⟩⟩
   · rw [if_neg c6] at H
     have c6b0 := nL c6
     clear c6
     obtain rfl := Option.some.inj H
     go_wp2
     go_ret
     exact ⟨_, z674d, rZ HO_3.out, z5acd⟩
end Go.Proofs.YtkgmoajdcibafaaDoor.P

-- written by a program of this session's (wip/pp)
namespace Go.Proofs.YtkgmoajdcibafaaDoor.P
open Go.RowKit Go.Proofs.YtkgmoajdcibafaaDoorW.PrintWords Go.Proofs.YtkgmoajdcibafaaDoorW.PrintLast Go.Proofs.YtkgmoajdcibafaaDoorW.PrintMore
attribute [local go_sem] max2_int min2_int max_two min_two max_three min_three max_four min_four str_geq str_gtr str_leq   -- for this text's walks alone
set_option linter.unusedVariables false
set_option linter.unusedSimpArgs false

/-! ### laws_toAgg: function 99 -/
def laws_toAgg.f (k : Nat) (a0_0 : Int) (a0_1 : Int) (a0_2 : Int) (a0_3 : Int) (l0_4 : List Int) (a0_5 : Bool) : Option (Int × Int × Int × Int × List Int × Bool) := (laws_toIntS.f k l0_4).bind fun t104 => (some (a0_0, a0_1, a0_2, a0_3, t104, a0_5))
theorem laws_toAgg.mono : ∀ a0 a1 a2 a3 a4 a5 k, LeO (laws_toAgg.f k a0 a1 a2 a3 a4 a5) (laws_toAgg.f (k + 1) a0 a1 a2 a3 a4 a5) := by
 intro a0 a1 a2 a3 a4 a5 k
 have m0 := @laws_toIntS.mono
 unfold laws_toAgg.f
 exact moZ
set_option maxHeartbeats 8000000 in
set_option maxRecDepth 100000 in
theorem laws_toAgg.calls (k : Nat) (a0_0 : Int) (a0_1 : Int) (a0_2 : Int) (a0_3 : Int) (A0_4 : Option Addr) (c0_4 : Nat) (l0_4 : List Int) (a0_5 : Bool) (r1 : Int) (r2 : Int) (r3 : Int) (r4 : Int) (r5 : List Int) (r6 : Bool) (w : World) (hr0_4 : Kd.C (Kd.int .i64) w A0_4 l0_4.length l0_4) (hc0_4 : l0_4.length ≤ c0_4) (h : laws_toAgg.f k a0_0 a0_1 a0_2 a0_3 l0_4 a0_5 = some (r1, r2, r3, r4, r5, r6)) :
 Calls Tryd.prog 99 #[.agg #[.int .i64 a0_0, .int .i64 a0_1, .int .i64 a0_2, .int .i64 a0_3, .slice A0_4 l0_4.length c0_4, .bool a0_5]] w fun e w' => ∃ v4_ : Value, e = .returned (.agg #[.int .i64 r1, .int .i64 r2, .int .i64 r3, .int .i64 r4, v4_, .bool r6]) ∧ Kd.R (Kd.int .i64) 3 w' w.heap.size (fun _ => True) v4_ r5 ∧ Below w.heap.size w w' := by
 have hu92 := Tryd.underlying92
 have hu35 := Tryd.underlying35
 have HR0_4 := aM hr0_4
 have HC0_4 := aM hc0_4
 clear hr0_4 hc0_4
 have HB := aM (Below.refl w.heap.size w)
 have H : ((laws_toIntS.f k l0_4).bind fun t104 => (some (a0_0, a0_1, a0_2, a0_3, t104, a0_5))) = some (r1, r2, r3, r4, r5, r6) := h
 clear h
 obtain ⟨t104, A2, H⟩ := bS H; try dsimp only at H
 simp only [Option.some.injEq, Prod.mk.injEq] at H
 obtain ⟨rfl, rfl, rfl, rfl, rfl, rfl⟩ := H
 go_enter Tryd.func99, Tryd.ntmps99
 go_wp2_with (first | ((with_reducible refine gate_dst (N := 1) rfl ?_); refine bX 1 92 #[.int .i64 a0_0, .int .i64 a0_1, .int .i64 a0_2, .int .i64 a0_3, .slice A0_4 l0_4.length c0_4, .bool a0_5] ?_; intro gb101 hg w3 hbox hb; have _ := aM (below_step hbZ hb); have _ := aM hbox; have _ := szZ hg; have _ := szZ hg; clear HB; rename_i HB BK101 GW101 GE101; clear hb hbox hg) | ((with_reducible refine gate_dst (N := 2) rfl ?_); refine bX 2 35 #[.int .i64 0, .int .i64 0, .int .i64 0, .int .i64 0, .slice none 0 0, .bool false] ?_; intro gb102 hg w4 hbox hb; have _ := bB gb101 hb; have _ := aM (below_step hbZ hb); have _ := aM hbox; have _ := szZ hg; have _ := szZ hg; have ⟨_, _⟩ := nbB gb101 hg; clear BK101 HB; rename_i BK101 HB BK102 GW102 GE102 NB101_102 NB102_101; clear hb hbox hg) | ((with_reducible refine gate_dst (N := 3) rfl ?_); refine bX 3 35 #[.int .i64 0, .int .i64 0, .int .i64 0, .int .i64 0, .slice none 0 0, .bool false] ?_; intro gb103 hg w5 hbox hb; have _ := bB gb101 hb; have _ := bB gb102 hb; have _ := aM (below_step hbZ hb); have _ := aM hbox; have _ := szZ hg; have _ := szZ hg; have ⟨_, _⟩ := nbB gb101 hg; have ⟨_, _⟩ := nbB gb102 hg; clear BK101 BK102 HB; rename_i BK101 BK102 HB BK103 GW103 GE103 NB101_103 NB103_101 NB102_103 NB103_102; clear hb hbox hg; have hnb6 := NB101_102.out; have hnc6 := NB102_101.out; have hnb7 := NB101_103.out; have hnc7 := NB103_101.out; have hz8 := cellsZ6 BK101.out; have hnb9 := NB103_102.out; have hnc9 := NB102_103.out; have hz10 := cellsZ6 BK103.out) | ((with_reducible refine gate_callee (f := 114) rfl ?_); refine gL 18 Tryd.func114 #[.slice A0_4 l0_4.length c0_4] ?_; (with_reducible refine (laws_toIntS.calls k _ _ l0_4 t104 _ ?side1 ?side2 A2.out).mono ?_); (case side1 => exact Kd.C_below HR0_4.out hbZ); (case side2 => exact HC0_4.out); rintro e w11 ⟨v105, rfl, ho0, hb⟩; refine ⟨_, rfl, ?_⟩; have _ := aM (Kd.R_lower ho0 (below_size hbZ)); have _ := bB gb101 hb; have _ := bB gb102 hb; have _ := aM (blk_below (g := gb103) (o := .cells #[.int .i64 a0_0, .int .i64 a0_1, .int .i64 a0_2, .int .i64 a0_3, .slice none 0 0, .bool false] 35 (0, 0)) bkZ hb); have _ := aM (below_step hbZ hb); clear BK101 BK102 BK103 HB; rename_i HO106 BK101 BK102 BK103 HB; (try clear hb); (try clear ho0); obtain ⟨Ao12, co12, eo12⟩ := Kd.R_slice HO106.out; subst eo12; have hz13 := cellsZ6 BK103.out; have hz14 := cellsZ6 BK101.out; have hz15 := cellsZ6 BK102.out))
 refine bodyPost_ret (results_cell_row rfl _ _ gb102 35 #[.int .i64 a0_0, .int .i64 a0_1, .int .i64 a0_2, .int .i64 a0_3, .slice Ao12 t104.length co12, .bool a0_5] (0, 0) _ rfl bkZ Tryd.underlying35 rfl (by kernel_rfl)) rfl ?_
 exact ⟨_, z674d, by (with_reducible repeat (first | apply Kd.R_alloc | apply Kd.R_drewN | apply Kd.R_drew)); exact Kd.R_mono (Kd.R_far (p := ⟨gb102, 5, none⟩) (Kd.R_far (p := ⟨gb102, 4, none⟩) (Kd.R_far (p := ⟨gb102, 3, none⟩) (Kd.R_far (p := ⟨gb102, 2, none⟩) (Kd.R_far (p := ⟨gb102, 1, none⟩) (Kd.R_far (p := ⟨gb102, 0, none⟩) (Kd.R_far (p := ⟨gb103, 5, none⟩) (Kd.R_far (p := ⟨gb103, 4, none⟩) (Kd.R_types (Kd.R_types HO106.out BK103.out (by decide)) BK102.out (by decide)) (fun _ hk => hk.1.2) (.slice Ao12 t104.length co12)) (fun _ hk => hk.1.2) (.bool a0_5)) (fun _ hk => hk.2) (.int .i64 a0_0)) (fun _ hk => hk.2) (.int .i64 a0_1)) (fun _ hk => hk.2) (.int .i64 a0_2)) (fun _ hk => hk.2) (.int .i64 a0_3)) (fun _ hk => hk.2) (.slice Ao12 t104.length co12)) (fun _ hk => hk.2) (.bool a0_5)) (fun _ hk => trivial), zcb41⟩

end Go.Proofs.YtkgmoajdcibafaaDoor.P

-- written by a program of this session's (wip/pp)
namespace Go.Proofs.YtkgmoajdcibafaaDoor.P
open Go.RowKit Go.Proofs.YtkgmoajdcibafaaDoorW.PrintWords Go.Proofs.YtkgmoajdcibafaaDoorW.PrintLast Go.Proofs.YtkgmoajdcibafaaDoorW.PrintMore
attribute [local go_sem] max2_int min2_int max_two min_two max_three min_three max_four min_four str_geq str_gtr str_leq   -- for this text's walks alone
set_option linter.unusedVariables false
set_option linter.unusedSimpArgs false

/-! ### laws_toWin: function 87 -/
def laws_toWin.f (k : Nat) (a0_0 : ByteArray) (l0_1 : List (S119)) (a0_2 : Int) (a0_3 : Int) (a0_4 : Int) (a0_5 : Int) (a0_6 : Int) (l0_7 : List Int) (a0_8 : Bool) (a0_9 : Int) (a0_10 : Bool) : Option (ByteArray × (List (S123)) × Int × Int × Int × Int × Int × List Int × Bool × Int × Bool) := (laws_toKey.f k a0_0 l0_1 a0_2).bind fun bt104 => ((laws_toAgg.f k a0_3 a0_4 a0_5 a0_6 l0_7 a0_8).bind fun bt109 => (some (bt104.1, bt104.2.1, bt104.2.2, bt109.1, bt109.2.1, bt109.2.2.1, bt109.2.2.2.1, bt109.2.2.2.2.1, bt109.2.2.2.2.2, a0_9, a0_10)))
theorem laws_toWin.mono : ∀ a0 a1 a2 a3 a4 a5 a6 a7 a8 a9 a10 k, LeO (laws_toWin.f k a0 a1 a2 a3 a4 a5 a6 a7 a8 a9 a10) (laws_toWin.f (k + 1) a0 a1 a2 a3 a4 a5 a6 a7 a8 a9 a10) := by
 intro a0 a1 a2 a3 a4 a5 a6 a7 a8 a9 a10 k
 have m0 := @laws_toAgg.mono; have m1 := @laws_toKey.mono
 unfold laws_toWin.f
 exact moZ
set_option maxHeartbeats 8000000 in
set_option maxRecDepth 100000 in
theorem laws_toWin.calls (k : Nat) (a0_0 : ByteArray) (A0_1 : Option Addr) (c0_1 : Nat) (l0_1 : List (S119)) (a0_2 : Int) (a0_3 : Int) (a0_4 : Int) (a0_5 : Int) (a0_6 : Int) (A0_7 : Option Addr) (c0_7 : Nat) (l0_7 : List Int) (a0_8 : Bool) (a0_9 : Int) (a0_10 : Bool) (r1 : ByteArray) (r2 : List (S123)) (r3 : Int) (r4 : Int) (r5 : Int) (r6 : Int) (r7 : Int) (r8 : List Int) (r9 : Bool) (r10 : Int) (r11 : Bool) (w : World) (hr0_1 : Kd.C k119 w A0_1 l0_1.length l0_1) (hc0_1 : l0_1.length ≤ c0_1) (hr0_7 : Kd.C (Kd.int .i64) w A0_7 l0_7.length l0_7) (hc0_7 : l0_7.length ≤ c0_7) (h : laws_toWin.f k a0_0 l0_1 a0_2 a0_3 a0_4 a0_5 a0_6 l0_7 a0_8 a0_9 a0_10 = some (r1, r2, r3, r4, r5, r6, r7, r8, r9, r10, r11)) :
 Calls Tryd.prog 87 #[.agg #[.string a0_0, .slice A0_1 l0_1.length c0_1, .int .i64 a0_2, .int .i64 a0_3, .int .i64 a0_4, .int .i64 a0_5, .int .i64 a0_6, .slice A0_7 l0_7.length c0_7, .bool a0_8, .int .i64 a0_9, .bool a0_10]] w fun e w' => ∃ v1_ v7_ : Value, e = .returned (.agg #[.string r1, v1_, .int .i64 r3, .int .i64 r4, .int .i64 r5, .int .i64 r6, .int .i64 r7, v7_, .bool r9, .int .i64 r10, .bool r11]) ∧ Kd.R k123 123 w' w.heap.size (fun _ => True) v1_ r2 ∧ Kd.R (Kd.int .i64) 3 w' w.heap.size (fun _ => True) v7_ r8 ∧ Below w.heap.size w w' := by
 have hu116 := Tryd.underlying116
 have hu37 := Tryd.underlying37
 have hu27 := Tryd.underlying27
 have hu32 := Tryd.underlying32
 have hu92 := Tryd.underlying92
 have hu35 := Tryd.underlying35
 have HR0_1 := aM hr0_1
 have HC0_1 := aM hc0_1
 clear hr0_1 hc0_1
 have HR0_7 := aM hr0_7
 have HC0_7 := aM hc0_7
 clear hr0_7 hc0_7
 have HB := aM (Below.refl w.heap.size w)
 have H : ((laws_toKey.f k a0_0 l0_1 a0_2).bind fun bt104 => ((laws_toAgg.f k a0_3 a0_4 a0_5 a0_6 l0_7 a0_8).bind fun bt109 => (some (bt104.1, bt104.2.1, bt104.2.2, bt109.1, bt109.2.1, bt109.2.2.1, bt109.2.2.2.1, bt109.2.2.2.2.1, bt109.2.2.2.2.2, a0_9, a0_10)))) = some (r1, r2, r3, r4, r5, r6, r7, r8, r9, r10, r11) := h
 clear h
 obtain ⟨⟨t104, t105, t108⟩, A2, H⟩ := bS H; try dsimp only at H
 obtain ⟨⟨t109, t110, t111, t112, t113, t116⟩, A3, H⟩ := bS H; try dsimp only at H
 simp only [Option.some.injEq, Prod.mk.injEq] at H
 obtain ⟨rfl, rfl, rfl, rfl, rfl, rfl, rfl, rfl, rfl, rfl, rfl⟩ := H
 go_enter Tryd.func87, Tryd.ntmps87
 go_wp2_with (first | ((with_reducible refine gate_dst (N := 1) rfl ?_); refine bX 1 116 #[.string a0_0, .slice A0_1 l0_1.length c0_1, .int .i64 a0_2, .int .i64 a0_3, .int .i64 a0_4, .int .i64 a0_5, .int .i64 a0_6, .slice A0_7 l0_7.length c0_7, .bool a0_8, .int .i64 a0_9, .bool a0_10] ?_; intro gb101 hg w4 hbox hb; have _ := aM (below_step hbZ hb); have _ := aM hbox; have _ := szZ hg; have _ := szZ hg; clear HB; rename_i HB BK101 GW101 GE101; clear hb hbox hg) | ((with_reducible refine gate_dst (N := 2) rfl ?_); refine bX 2 37 #[.string (⟨#[]⟩ : ByteArray), .slice none 0 0, .int .i64 0, .int .i64 0, .int .i64 0, .int .i64 0, .int .i64 0, .slice none 0 0, .bool false, .int .i64 0, .bool false] ?_; intro gb102 hg w5 hbox hb; have _ := bB gb101 hb; have _ := aM (below_step hbZ hb); have _ := aM hbox; have _ := szZ hg; have _ := szZ hg; have ⟨_, _⟩ := nbB gb101 hg; clear BK101 HB; rename_i BK101 HB BK102 GW102 GE102 NB101_102 NB102_101; clear hb hbox hg) | ((with_reducible refine gate_dst (N := 3) rfl ?_); refine bX 3 37 #[.string (⟨#[]⟩ : ByteArray), .slice none 0 0, .int .i64 0, .int .i64 0, .int .i64 0, .int .i64 0, .int .i64 0, .slice none 0 0, .bool false, .int .i64 0, .bool false] ?_; intro gb103 hg w6 hbox hb; have _ := bB gb101 hb; have _ := bB gb102 hb; have _ := aM (below_step hbZ hb); have _ := aM hbox; have _ := szZ hg; have _ := szZ hg; have ⟨_, _⟩ := nbB gb101 hg; have ⟨_, _⟩ := nbB gb102 hg; clear BK101 BK102 HB; rename_i BK101 BK102 HB BK103 GW103 GE103 NB101_103 NB103_101 NB102_103 NB103_102; clear hb hbox hg; have hnb7 := NB101_102.out; have hnc7 := NB102_101.out; have hnb8 := NB101_103.out; have hnc8 := NB103_101.out; have hz9 := cellsZ11 BK101.out) | ((with_reducible refine gate_callee (f := 12) rfl ?_); refine gL 6 Tryd.func12 #[.agg #[.string a0_0, .slice A0_1 l0_1.length c0_1, .int .i64 a0_2]] ?_; (with_reducible refine (laws_toKey.calls k a0_0 _ _ l0_1 a0_2 t104 t105 t108 _ ?side1 ?side2 A2.out).mono ?_); (case side1 => exact (cZ (Kd.C_below HR0_1.out HB.out))); (case side2 => exact HC0_1.out); rintro e w10 ⟨v106, rfl, ho0, hb⟩; refine ⟨_, rfl, ?_⟩; have _ := aM (Kd.R_lower ho0 (below_size hbZ)); have _ := bB gb101 hb; have _ := bB gb102 hb; have _ := bB gb103 hb; have _ := aM (below_step hbZ hb); clear BK101 BK102 BK103 HB; rename_i HO107 BK101 BK102 BK103 HB; (try clear hb); (try clear ho0); have hnb11 := NB103_102.out; have hnc11 := NB102_103.out; have hz12 := cellsZ11 BK103.out; obtain ⟨Ao13, co13, eo13⟩ := Kd.R_slice HO107.out; subst eo13; have hz14 := cellsZ11 BK101.out) | ((with_reducible refine gate_callee (f := 99) rfl ?_); refine gL 10 Tryd.func99 #[.agg #[.int .i64 a0_3, .int .i64 a0_4, .int .i64 a0_5, .int .i64 a0_6, .slice A0_7 l0_7.length c0_7, .bool a0_8]] ?_; (with_reducible refine (laws_toAgg.calls k a0_3 a0_4 a0_5 a0_6 _ _ l0_7 a0_8 t109 t110 t111 t112 t113 t116 _ ?side1 ?side2 A3.out).mono ?_); (case side1 => exact Kd.C_below HR0_7.out hbZ); (case side2 => exact HC0_7.out); rintro e w15 ⟨v114, rfl, ho0, hb⟩; refine ⟨_, rfl, ?_⟩; have _ := aM (Kd.R_below (rZ (rF3 HO107.out BK103.out)) hb); have _ := aM (Kd.R_lower ho0 (below_size hbZ)); have _ := bB gb101 hb; have _ := bB gb102 hb; have _ := aM (blk_below (g := gb103) (o := .cells #[.string t104, .slice Ao13 t105.length co13, .int .i64 t108, .int .i64 0, .int .i64 0, .int .i64 0, .int .i64 0, .slice none 0 0, .bool false, .int .i64 0, .bool false] 37 (0, 0)) bkZ hb); have _ := aM (below_step hbZ hb); clear HO107 BK101 BK102 BK103 HB; rename_i HO107 HO115 BK101 BK102 BK103 HB; (try clear hb); (try clear ho0); have hz16 := cellsZ11 BK103.out; obtain ⟨Ao17, co17, eo17⟩ := Kd.R_slice HO115.out; subst eo17; have hz18 := cellsZ11 BK101.out; have hz19 := cellsZ11 BK102.out))
 refine bodyPost_ret (results_cell_row rfl _ _ gb102 37 #[.string t104, .slice Ao13 t105.length co13, .int .i64 t108, .int .i64 t109, .int .i64 t110, .int .i64 t111, .int .i64 t112, .slice Ao17 t113.length co17, .bool t116, .int .i64 a0_9, .bool a0_10] (0, 0) _ rfl bkZ Tryd.underlying37 rfl (by kernel_rfl)) rfl ?_
 exact ⟨_, _, z674d, by (with_reducible repeat (first | apply Kd.R_alloc | apply Kd.R_drewN | apply Kd.R_drew)); exact Kd.R_mono (Kd.R_far (p := ⟨gb102, 10, none⟩) (Kd.R_far (p := ⟨gb102, 9, none⟩) (Kd.R_far (p := ⟨gb102, 8, none⟩) (Kd.R_far (p := ⟨gb102, 7, none⟩) (Kd.R_far (p := ⟨gb102, 6, none⟩) (Kd.R_far (p := ⟨gb102, 5, none⟩) (Kd.R_far (p := ⟨gb102, 4, none⟩) (Kd.R_far (p := ⟨gb102, 3, none⟩) (Kd.R_far (p := ⟨gb102, 2, none⟩) (Kd.R_far (p := ⟨gb102, 1, none⟩) (Kd.R_far (p := ⟨gb102, 0, none⟩) (Kd.R_far (p := ⟨gb103, 10, none⟩) (Kd.R_far (p := ⟨gb103, 9, none⟩) (Kd.R_far (p := ⟨gb103, 8, none⟩) (Kd.R_far (p := ⟨gb103, 7, none⟩) (Kd.R_far (p := ⟨gb103, 6, none⟩) (Kd.R_far (p := ⟨gb103, 5, none⟩) (Kd.R_far (p := ⟨gb103, 4, none⟩) (Kd.R_far (p := ⟨gb103, 3, none⟩) (Kd.R_types (Kd.R_types HO107.out BK103.out (by decide)) BK102.out (by decide)) (fun _ hk => hk.1.2) (.int .i64 t109)) (fun _ hk => hk.1.2) (.int .i64 t110)) (fun _ hk => hk.1.2) (.int .i64 t111)) (fun _ hk => hk.1.2) (.int .i64 t112)) (fun _ hk => hk.1.2) (.slice Ao17 t113.length co17)) (fun _ hk => hk.1.2) (.bool t116)) (fun _ hk => hk.1.2) (.int .i64 a0_9)) (fun _ hk => hk.1.2) (.bool a0_10)) (fun _ hk => hk.2) (.string t104)) (fun _ hk => hk.2) (.slice Ao13 t105.length co13)) (fun _ hk => hk.2) (.int .i64 t108)) (fun _ hk => hk.2) (.int .i64 t109)) (fun _ hk => hk.2) (.int .i64 t110)) (fun _ hk => hk.2) (.int .i64 t111)) (fun _ hk => hk.2) (.int .i64 t112)) (fun _ hk => hk.2) (.slice Ao17 t113.length co17)) (fun _ hk => hk.2) (.bool t116)) (fun _ hk => hk.2) (.int .i64 a0_9)) (fun _ hk => hk.2) (.bool a0_10)) (fun _ hk => trivial), by (with_reducible repeat (first | apply Kd.R_alloc | apply Kd.R_drewN | apply Kd.R_drew)); exact Kd.R_mono (Kd.R_far (p := ⟨gb102, 10, none⟩) (Kd.R_far (p := ⟨gb102, 9, none⟩) (Kd.R_far (p := ⟨gb102, 8, none⟩) (Kd.R_far (p := ⟨gb102, 7, none⟩) (Kd.R_far (p := ⟨gb102, 6, none⟩) (Kd.R_far (p := ⟨gb102, 5, none⟩) (Kd.R_far (p := ⟨gb102, 4, none⟩) (Kd.R_far (p := ⟨gb102, 3, none⟩) (Kd.R_far (p := ⟨gb102, 2, none⟩) (Kd.R_far (p := ⟨gb102, 1, none⟩) (Kd.R_far (p := ⟨gb102, 0, none⟩) (Kd.R_far (p := ⟨gb103, 10, none⟩) (Kd.R_far (p := ⟨gb103, 9, none⟩) (Kd.R_far (p := ⟨gb103, 8, none⟩) (Kd.R_far (p := ⟨gb103, 7, none⟩) (Kd.R_far (p := ⟨gb103, 6, none⟩) (Kd.R_far (p := ⟨gb103, 5, none⟩) (Kd.R_far (p := ⟨gb103, 4, none⟩) (Kd.R_far (p := ⟨gb103, 3, none⟩) (Kd.R_types (Kd.R_types HO115.out BK103.out (by decide)) BK102.out (by decide)) (fun _ hk => hk.1.2) (.int .i64 t109)) (fun _ hk => hk.1.2) (.int .i64 t110)) (fun _ hk => hk.1.2) (.int .i64 t111)) (fun _ hk => hk.1.2) (.int .i64 t112)) (fun _ hk => hk.1.2) (.slice Ao17 t113.length co17)) (fun _ hk => hk.1.2) (.bool t116)) (fun _ hk => hk.1.2) (.int .i64 a0_9)) (fun _ hk => hk.1.2) (.bool a0_10)) (fun _ hk => hk.2) (.string t104)) (fun _ hk => hk.2) (.slice Ao13 t105.length co13)) (fun _ hk => hk.2) (.int .i64 t108)) (fun _ hk => hk.2) (.int .i64 t109)) (fun _ hk => hk.2) (.int .i64 t110)) (fun _ hk => hk.2) (.int .i64 t111)) (fun _ hk => hk.2) (.int .i64 t112)) (fun _ hk => hk.2) (.slice Ao17 t113.length co17)) (fun _ hk => hk.2) (.bool t116)) (fun _ hk => hk.2) (.int .i64 a0_9)) (fun _ hk => hk.2) (.bool a0_10)) (fun _ hk => trivial), zcb41⟩

end Go.Proofs.YtkgmoajdcibafaaDoor.P

-- written by a program of this session's (wip/pp)
namespace Go.Proofs.YtkgmoajdcibafaaDoor.P
open Go.RowKit Go.Proofs.YtkgmoajdcibafaaDoorW.PrintWords Go.Proofs.YtkgmoajdcibafaaDoorW.PrintLast Go.Proofs.YtkgmoajdcibafaaDoorW.PrintMore
attribute [local go_sem] max2_int min2_int max_two min_two max_three min_three max_four min_four str_geq str_gtr str_leq   -- for this text's walks alone
set_option linter.unusedVariables false
set_option linter.unusedSimpArgs false

/-! ### laws_toWinS: function 44 -/
def laws_toWinS.l0 : Nat → List (S116) → List (S37) → Int → Option ((List (S37)))
 | 0, _, _, _ => none
 | k + 1, x0, x3, x4 => if x4 < (x0.length : Int) then (if 0 ≤ x4 then ((laws_toWin.f k ((rd_T116 x0 x4).f0.f0) ((rd_T116 x0 x4).f0.f1) ((rd_T116 x0 x4).f0.f2) ((rd_T116 x0 x4).f1.f0) ((rd_T116 x0 x4).f1.f1) ((rd_T116 x0 x4).f1.f2) ((rd_T116 x0 x4).f1.f3) ((rd_T116 x0 x4).f1.f4) ((rd_T116 x0 x4).f1.f5) ((rd_T116 x0 x4).f2) ((rd_T116 x0 x4).f3)).bind fun bt105 => (if x4 < (x3.length : Int) then (laws_toWinS.l0 k x0 (x3.set (x4 : Int).toNat (⟨(⟨bt105.1, bt105.2.1, bt105.2.2.1⟩ : S32), (⟨bt105.2.2.2.1, bt105.2.2.2.2.1, bt105.2.2.2.2.2.1, bt105.2.2.2.2.2.2.1, bt105.2.2.2.2.2.2.2.1, bt105.2.2.2.2.2.2.2.2.1⟩ : S35), bt105.2.2.2.2.2.2.2.2.2.1, bt105.2.2.2.2.2.2.2.2.2.2⟩ : S37)) (wrap64 (x4 + 1))) else (none))) else (none)) else (some x3)
def laws_toWinS.f (k : Nat) (l0 : List (S116)) : Option ((List (S37))) := if 0 ≤ (l0.length : Int) then (if ((l0.length : Int) : Int).toNat ≤ 2199023255552 then (laws_toWinS.l0 k l0 (List.replicate ((l0.length : Int) : Int).toNat z37) 0) else (none)) else (none)
theorem laws_toWinS.mono_l : ∀ k, (∀ y0 y1 y2, LeO (laws_toWinS.l0 k y0 y1 y2) (laws_toWinS.l0 (k + 1) y0 y1 y2))
 | 0 => fun _ _ _ r h => by simp [laws_toWinS.l0] at h
 | k + 1 => by
  have ih0 := laws_toWinS.mono_l k; have m0 := @laws_toWin.mono
  · intro y0 y1 y2
    unfold laws_toWinS.l0
    exact moZ
theorem laws_toWinS.mono : ∀ a0 k, LeO (laws_toWinS.f k a0) (laws_toWinS.f (k + 1) a0) := by
 intro a0 k
 have ih0 := laws_toWinS.mono_l k
 have m0 := @laws_toWin.mono
 unfold laws_toWinS.f
 exact moZ
set_option maxHeartbeats 8000000 in
set_option maxRecDepth 100000 in
theorem laws_toWinS.calls (k : Nat) (A0 : Option Addr) (c0 : Nat) (l0 : List (S116)) (r : List (S37)) (w : World) (hr0 : Kd.C k116 w A0 l0.length l0) (hc0 : l0.length ≤ c0) (h : laws_toWinS.f k l0 = some r) :
 Calls Tryd.prog 44 #[.slice A0 l0.length c0] w fun e w' => ∃ v0_ : Value, e = .returned (v0_) ∧ Kd.S k37 37 w' w.heap.size (fun _ => True) v0_ r ∧ Below w.heap.size w w' := by
 have hu116 := Tryd.underlying116
 have hu37 := Tryd.underlying37
 have HR0 := aM hr0
 have HC0 := aM hc0
 clear hr0 hc0
 have HB := aM (Below.refl w.heap.size w)
 have H : (if 0 ≤ (l0.length : Int) then (if ((l0.length : Int) : Int).toNat ≤ 2199023255552 then (laws_toWinS.l0 k l0 (List.replicate ((l0.length : Int) : Int).toNat z37) 0) else (none)) else (none)) = some r := h
 clear h
 replace H := ifS H; obtain ⟨c2, H⟩ := H
 have c2b0 := eq_true c2
 have c2b1 : decide (0 ≤ (l0.length : Int)) = true := decide_eq_true c2
 clear c2
 replace H := ifS H; obtain ⟨c3, H⟩ := H
 have c3b0 := eq_true c3
 have c3b1 : decide (((l0.length : Int) : Int).toNat ≤ 2199023255552) = true := decide_eq_true c3
 clear c3
 obtain ⟨y101, hy101⟩ : ∃ y_ : List (S37), y_ = (List.replicate ((l0.length : Int) : Int).toNat z37) := ⟨_, rfl⟩
 first | (replace H := bindS H; rw [← hy101] at H; try dsimp only at H) | rw [← hy101] at H
 have Ny101 := aM hy101
 clear hy101
 have H' := aM H
 clear H
 go_enter Tryd.func44, Tryd.ntmps44
 go_wp2_with (first | ((with_reducible refine gate_dst (N := 7) rfl ?_); refine Kd.S_make k37 _ 37 rfl (N := 7) rfl 40 _ _ rfl (l0.length : Int) rfl rfl Tryd.underlying40 (.agg #[(.string ⟨#[]⟩), (.slice none 0 0), (.int .i64 0), (.int .i64 0), (.int .i64 0), (.int .i64 0), (.int .i64 0), (.slice none 0 0), (.bool false), (.int .i64 0), (.bool false)]) 128 info37 rfl (by decide) (by omega) z37 (ok := fun _ => True) (okp := fun _ => True) (k37_mkM _ _ _ z37 (Kd.R_nil _ _ _ _ _) (Kd.R_nil _ _ _ _ _)) (fun _ hk => hk) trivial (of_decide_eq_true z1200) (Nat.le_trans (Nat.mul_le_mul_right _ (of_decide_eq_true z1200 : (l0.length : Int).toNat ≤ 2199023255552)) (by omega)) (Below.refl _ _) (Nat.le_refl _) ?_; intro v102 w4 ho5 hb hg_ hnew_; clear hg_ hnew_; (first | rw [← Ny101.out] at ho5 | (simp only [Int.reduceToNat] at ho5; rw [← Ny101.out] at ho5)); have _ := aM (Kd.S_lower ho5 (below_size hbZ)); have _ := aM (below_step hbZ hb); clear HB; rename_i HO103 HB; clear hb ho5))
 go_loopg [4] k (fun kq v4 w' => ∃ (x3_1 : List (S37)) (x4_1 : Int), v4 = .int .i64 x4_1 ∧ Aside0 (laws_toWinS.l0 kq l0 x3_1 x4_1 = some r) ∧ Aside0 (kq ≤ k) ∧ Aside0 (Kd.S k37 37 w' w.heap.size (fun _ => True) v102 x3_1) ∧ Aside0 (Below w.heap.size w w'))
 case atStart => exact ⟨(y101), (0), z4458, H', ⟨Nat.le_refl _⟩, ⟨z1bd3⟩, ⟨z5acd⟩⟩
 case round =>
  clear H'
  (try clear c2b0); (try clear c2b1); (try clear c3b0); (try clear c3b1)
  obtain ⟨x3_1, x4_1, rfl, HA, HK1, HO_3, HB⟩ := hrel
  cases gk with
  | zero => exact absurd HA.out (by simp [laws_toWinS.l0])
  | succ k1 =>
   have H := HA.out
   clear HA
   simp only [laws_toWinS.l0] at H
   by_cases c6 : x4_1 < (l0.length : Int)
   · rw [if_pos c6] at H
     have c6b0 := dL c6
     clear c6
     obtain ⟨c7b0, H⟩ := sE H
     obtain ⟨⟨t105, t106, t109, t110, t111, t112, t113, t114, t117, t118, t119⟩, A8, H⟩ := bS H; try dsimp only at H
     obtain ⟨c9b0, H⟩ := sL H
     obtain ⟨y120, hy120⟩ : ∃ y_ : List (S37), y_ = (x3_1.set (x4_1 : Int).toNat (⟨(⟨t105, t106, t109⟩ : S32), (⟨t110, t111, t112, t113, t114, t117⟩ : S35), t118, t119⟩ : S37)) := ⟨_, rfl⟩
     first | (replace H := bindS H; rw [← hy120] at H; try dsimp only at H) | rw [← hy120] at H
     have Ny120 := aM hy120
     clear hy120
     have H' := aM H
     clear H
     have p104 : 0 ≤ (x4_1 : Int) := of_decide_eq_true z1200
     have q104 : x4_1 < (l0.length : Int) := of_decide_eq_true z1200
     obtain ⟨ad104, A104_1, c104_1, A104_7, c104_7, e104, hx104_0, hx104_1, hx104_2, hx104_3, hx104_4, hx104_5, hx104_6, hx104_7, hx104_8, hx104_9, hx104_10, hl104_1, hi104_1, hl104_7, hi104_7⟩ := at_T116 HR0.out x4_1 p104 q104
     cases e104
     have TW104_1 := aM hx104_1
     have TW104_7 := aM hx104_7
     replace hx104_0 := (HB.out.cell (World.block_lt_of_cell? w _ hx104_0)).trans hx104_0
     replace hx104_1 := (HB.out.cell (World.block_lt_of_cell? w _ hx104_1)).trans hx104_1
     replace hx104_2 := (HB.out.cell (World.block_lt_of_cell? w _ hx104_2)).trans hx104_2
     replace hx104_3 := (HB.out.cell (World.block_lt_of_cell? w _ hx104_3)).trans hx104_3
     replace hx104_4 := (HB.out.cell (World.block_lt_of_cell? w _ hx104_4)).trans hx104_4
     replace hx104_5 := (HB.out.cell (World.block_lt_of_cell? w _ hx104_5)).trans hx104_5
     replace hx104_6 := (HB.out.cell (World.block_lt_of_cell? w _ hx104_6)).trans hx104_6
     replace hx104_7 := (HB.out.cell (World.block_lt_of_cell? w _ hx104_7)).trans hx104_7
     replace hx104_8 := (HB.out.cell (World.block_lt_of_cell? w _ hx104_8)).trans hx104_8
     replace hx104_9 := (HB.out.cell (World.block_lt_of_cell? w _ hx104_9)).trans hx104_9
     replace hx104_10 := (HB.out.cell (World.block_lt_of_cell? w _ hx104_10)).trans hx104_10
     have HR104_1 := aM hi104_1
     have HC104_1 := aM hl104_1
     clear hi104_1 hl104_1
     have HR104_7 := aM hi104_7
     have HC104_7 := aM hl104_7
     clear hi104_7 hl104_7
     replace p104 := eq_true p104
     replace q104 := eq_true q104
     go_wp2_with (first | ((with_reducible refine gate_callee (f := 87) rfl ?_); refine gL 20 Tryd.func87 #[.agg #[.string ((rd_T116 l0 x4_1).f0.f0), .slice A104_1 ((rd_T116 l0 x4_1).f0.f1).length c104_1, .int .i64 ((rd_T116 l0 x4_1).f0.f2), .int .i64 ((rd_T116 l0 x4_1).f1.f0), .int .i64 ((rd_T116 l0 x4_1).f1.f1), .int .i64 ((rd_T116 l0 x4_1).f1.f2), .int .i64 ((rd_T116 l0 x4_1).f1.f3), .slice A104_7 ((rd_T116 l0 x4_1).f1.f4).length c104_7, .bool ((rd_T116 l0 x4_1).f1.f5), .int .i64 ((rd_T116 l0 x4_1).f2), .bool ((rd_T116 l0 x4_1).f3)]] ?_; (with_reducible refine (laws_toWin.calls k1 ((rd_T116 l0 x4_1).f0.f0) _ _ ((rd_T116 l0 x4_1).f0.f1) ((rd_T116 l0 x4_1).f0.f2) ((rd_T116 l0 x4_1).f1.f0) ((rd_T116 l0 x4_1).f1.f1) ((rd_T116 l0 x4_1).f1.f2) ((rd_T116 l0 x4_1).f1.f3) _ _ ((rd_T116 l0 x4_1).f1.f4) ((rd_T116 l0 x4_1).f1.f5) ((rd_T116 l0 x4_1).f2) ((rd_T116 l0 x4_1).f3) t105 t106 t109 t110 t111 t112 t113 t114 t117 t118 t119 _ ?side1 ?side2 ?side3 ?side4 A8.out).mono ?_); (case side1 => exact (cZ (Kd.C_below HR104_1.out HB.out))); (case side2 => exact HC104_1.out); (case side3 => exact (cZ (Kd.C_below HR104_7.out HB.out))); (case side4 => exact HC104_7.out); rintro e w11 ⟨v107, v115, rfl, ho0, ho1, hb⟩; refine ⟨_, rfl, ?_⟩; have _ := aM (Kd.S_mono (Kd.S_told (Kd.S_told (Kd.S_old zd74a hb) (Kd.R_base ho0)) (Kd.R_base ho1)) (fun _ h_ => h_.1)); have _ := aM (Kd.R_lower ho0 (below_size hbZ)); have _ := aM (Kd.R_lower ho1 (below_size hbZ)); have _ := aM (below_step hbZ hb); clear HO_3 HB; rename_i HO_3 HO108 HO116 HB; (try clear hb); (try clear ho0); (try clear ho1); have p10 : 0 ≤ (x4_1 : Int) := of_decide_eq_true z1200; have q10 : (x4_1 : Int) < ((x3_1.length : Int) : Int) := of_decide_eq_true z1200; obtain ⟨go10, co10, eo10, gb10, gl10, cl10, HG10⟩ := Kd.S_form HO_3.out (by omega); (first | cases eo10 | (injection eo10 with ea_ en_ ec_; (first | subst ea_ | (injection ea_ with ea_; subst ea_)); subst ec_; clear en_)); have GB10 := aM gb10; have GG10 := aM HG10; clear gb10 gl10 HG10; obtain ⟨_, ce10, hcl10, hM10, hcc10, hfr10, _, _⟩ := Kd.S_elem HO_3.out z37 (x4_1 : Int) p10 q10; obtain ⟨ve10_1, ve10_7, rfl, ge10_1, ge10_7⟩ := k37_openM hM10; have hx10_0 : w11.cell? ⟨go10, (x4_1 : Int).toNat * 11, none⟩ = some (.string ((rd_T37 x3_1 x4_1).f0.f0)) := hcc10 0 _ rfl; have hx10_1 : w11.cell? ⟨go10, (x4_1 : Int).toNat * 11 + 1, none⟩ = some (ve10_1) := hcc10 1 _ rfl; have hx10_2 : w11.cell? ⟨go10, (x4_1 : Int).toNat * 11 + 2, none⟩ = some (.int .i64 ((rd_T37 x3_1 x4_1).f0.f2)) := hcc10 2 _ rfl; have hx10_3 : w11.cell? ⟨go10, (x4_1 : Int).toNat * 11 + 3, none⟩ = some (.int .i64 ((rd_T37 x3_1 x4_1).f1.f0)) := hcc10 3 _ rfl; have hx10_4 : w11.cell? ⟨go10, (x4_1 : Int).toNat * 11 + 4, none⟩ = some (.int .i64 ((rd_T37 x3_1 x4_1).f1.f1)) := hcc10 4 _ rfl; have hx10_5 : w11.cell? ⟨go10, (x4_1 : Int).toNat * 11 + 5, none⟩ = some (.int .i64 ((rd_T37 x3_1 x4_1).f1.f2)) := hcc10 5 _ rfl; have hx10_6 : w11.cell? ⟨go10, (x4_1 : Int).toNat * 11 + 6, none⟩ = some (.int .i64 ((rd_T37 x3_1 x4_1).f1.f3)) := hcc10 6 _ rfl; have hx10_7 : w11.cell? ⟨go10, (x4_1 : Int).toNat * 11 + 7, none⟩ = some (ve10_7) := hcc10 7 _ rfl; have hx10_8 : w11.cell? ⟨go10, (x4_1 : Int).toNat * 11 + 8, none⟩ = some (.bool ((rd_T37 x3_1 x4_1).f1.f5)) := hcc10 8 _ rfl; have hx10_9 : w11.cell? ⟨go10, (x4_1 : Int).toNat * 11 + 9, none⟩ = some (.int .i64 ((rd_T37 x3_1 x4_1).f2)) := hcc10 9 _ rfl; have hx10_10 : w11.cell? ⟨go10, (x4_1 : Int).toNat * 11 + 10, none⟩ = some (.bool ((rd_T37 x3_1 x4_1).f3)) := hcc10 10 _ rfl; have hf10_0 : w11.frozen? ⟨go10, (x4_1 : Int).toNat * 11, none⟩ = false := hfr10 0; have hf10_1 : w11.frozen? ⟨go10, (x4_1 : Int).toNat * 11 + 1, none⟩ = false := hfr10 1; have hf10_2 : w11.frozen? ⟨go10, (x4_1 : Int).toNat * 11 + 2, none⟩ = false := hfr10 2; have hf10_3 : w11.frozen? ⟨go10, (x4_1 : Int).toNat * 11 + 3, none⟩ = false := hfr10 3; have hf10_4 : w11.frozen? ⟨go10, (x4_1 : Int).toNat * 11 + 4, none⟩ = false := hfr10 4; have hf10_5 : w11.frozen? ⟨go10, (x4_1 : Int).toNat * 11 + 5, none⟩ = false := hfr10 5; have hf10_6 : w11.frozen? ⟨go10, (x4_1 : Int).toNat * 11 + 6, none⟩ = false := hfr10 6; have hf10_7 : w11.frozen? ⟨go10, (x4_1 : Int).toNat * 11 + 7, none⟩ = false := hfr10 7; have hf10_8 : w11.frozen? ⟨go10, (x4_1 : Int).toNat * 11 + 8, none⟩ = false := hfr10 8; have hf10_9 : w11.frozen? ⟨go10, (x4_1 : Int).toNat * 11 + 9, none⟩ = false := hfr10 9; have hf10_10 : w11.frozen? ⟨go10, (x4_1 : Int).toNat * 11 + 10, none⟩ = false := hfr10 10; clear hcl10 hcc10 hfr10 hM10; replace p10 := eq_true p10; replace q10 := eq_true q10; obtain ⟨Ao14, co14, eo14⟩ := Kd.R_slice HO108.out; subst eo14; obtain ⟨Ao15, co15, eo15⟩ := Kd.R_slice HO116.out; subst eo15; have n_ := aM (Kd.S_mono (ok' := (fun k_ => some k_ ≠ (.slice Ao14 t106.length co14 : Value).ownBlock ∧ some k_ ≠ (.slice Ao15 t114.length co15 : Value).ownBlock)) HO_3.out (fun k_ hk => ⟨hk.1.2, hk.2⟩)); clear HO_3; have HO_3 := n_; clear n_; have HX12 := aM (show Kd.S k37 37 w11 w.heap.size (fun k_ => ((fun _ => True)) k_ ∧ ¬ ((fun k_ => some k_ = (.slice Ao14 t106.length co14 : Value).ownBlock ∨ some k_ = (.slice Ao15 t114.length co15 : Value).ownBlock)) k_) (.slice (some ⟨go10, 0, none⟩) x3_1.length co10) x3_1 from (by (with_reducible repeat (first | apply Kd.S_alloc | apply Kd.S_drewN | apply Kd.S_drew)); exact Kd.S_mono HO_3.out (fun k_ hk => ⟨trivial, fun e_ => e_.elim (fun h_ => hk.1 h_) (fun h_ => hk.2 h_)⟩))); obtain ⟨oki12, ce12, hcl12, hM12, hcc12, hfr12, hoki12, hH12⟩ := Kd.S_elem HX12.out z37 (x4_1 : Int) (of_decide_eq_true z1200) (by have h_ : (x4_1 : Int) < ((x3_1.length : Int) : Int) := of_decide_eq_true z1200; first | exact h_ | (have e_ := (Kd.S_reads' HO_3.out).1; omega) | simpa using h_); obtain ⟨ve12_1, ve12_7, rfl, ge12_1, ge12_7⟩ := k37_openM hM12; have HP12 := Kd.S_seg hH12 (of_decide_eq_true z1200) (by have h_ : (x4_1 : Int) < ((x3_1.length : Int) : Int) := of_decide_eq_true z1200; first | exact h_ | (have e_ := (Kd.S_reads' HO_3.out).1; omega) | simpa using h_) (seg := [.string t105, .slice Ao14 t106.length co14, .int .i64 t109, .int .i64 t110, .int .i64 t111, .int .i64 t112, .int .i64 t113, .slice Ao15 t114.length co15, .bool t117, .int .i64 t118, .bool t119]) (j := 0) (show 11 ≤ 11 from by decide) (x' := (⟨(⟨t105, t106, t109⟩ : S32), (⟨t110, t111, t112, t113, t114, t117⟩ : S35), t118, t119⟩ : S37)) (k37_mkM _ _ _ (⟨(⟨t105, t106, t109⟩ : S32), (⟨t110, t111, t112, t113, t114, t117⟩ : S35), t118, t119⟩ : S37) (Kd.R_mono (Kd.R_tight rfl (Kd.R_mono (ok' := fun k_ => ((fun _ => True)) k_ ∧ k_ ≠ go10) (Kd.R_apart' (HO108.out) (Kd.S_typed HO_3.out) (by decide)) (fun k_ hk => ⟨trivial, fun e_ => (hk.2) (by rw [e_]; rfl)⟩))) (fun _ h_ => Or.inr (Or.inl h_))) (Kd.R_mono (Kd.R_tight rfl (Kd.R_mono (ok' := fun k_ => ((fun _ => True)) k_ ∧ k_ ≠ go10) (Kd.R_apart' (HO116.out) (Kd.S_typed HO_3.out) (by decide)) (fun k_ hk => ⟨trivial, fun e_ => (hk.2) (by rw [e_]; rfl)⟩))) (fun _ h_ => Or.inr (Or.inr (h_))))) (fun _ hk => hk) (fun k_ hk_ => hk_.elim (fun h_ => ((Kd.R_mono (ok' := fun k_ => ((fun _ => True)) k_ ∧ k_ ≠ go10) (Kd.R_apart' (HO108.out) (Kd.S_typed HO_3.out) (by decide)) (fun k_ hk => ⟨trivial, fun e_ => (hk.2) (by rw [e_]; rfl)⟩))).1 k_ h_.symm) (fun h_ => ((Kd.R_mono (ok' := fun k_ => ((fun _ => True)) k_ ∧ k_ ≠ go10) (Kd.R_apart' (HO116.out) (Kd.S_typed HO_3.out) (by decide)) (fun k_ hk => ⟨trivial, fun e_ => (hk.2) (by rw [e_]; rfl)⟩))).1 k_ h_.symm)); have hx12_0 := hcc12 0 _ rfl; (try simp only [show (k37).sz = 11 from rfl, Nat.mul_one, Nat.add_zero] at hx12_0); have hf12_0 := hfr12 0; (try simp only [show (k37).sz = 11 from rfl, Nat.mul_one, Nat.add_zero] at hf12_0); have hx12_1 := hcc12 1 _ rfl; (try simp only [show (k37).sz = 11 from rfl, Nat.mul_one, Nat.add_zero] at hx12_1); have hf12_1 := hfr12 1; (try simp only [show (k37).sz = 11 from rfl, Nat.mul_one, Nat.add_zero] at hf12_1); have hx12_2 := hcc12 2 _ rfl; (try simp only [show (k37).sz = 11 from rfl, Nat.mul_one, Nat.add_zero] at hx12_2); have hf12_2 := hfr12 2; (try simp only [show (k37).sz = 11 from rfl, Nat.mul_one, Nat.add_zero] at hf12_2); have hx12_3 := hcc12 3 _ rfl; (try simp only [show (k37).sz = 11 from rfl, Nat.mul_one, Nat.add_zero] at hx12_3); have hf12_3 := hfr12 3; (try simp only [show (k37).sz = 11 from rfl, Nat.mul_one, Nat.add_zero] at hf12_3); have hx12_4 := hcc12 4 _ rfl; (try simp only [show (k37).sz = 11 from rfl, Nat.mul_one, Nat.add_zero] at hx12_4); have hf12_4 := hfr12 4; (try simp only [show (k37).sz = 11 from rfl, Nat.mul_one, Nat.add_zero] at hf12_4); have hx12_5 := hcc12 5 _ rfl; (try simp only [show (k37).sz = 11 from rfl, Nat.mul_one, Nat.add_zero] at hx12_5); have hf12_5 := hfr12 5; (try simp only [show (k37).sz = 11 from rfl, Nat.mul_one, Nat.add_zero] at hf12_5); have hx12_6 := hcc12 6 _ rfl; (try simp only [show (k37).sz = 11 from rfl, Nat.mul_one, Nat.add_zero] at hx12_6); have hf12_6 := hfr12 6; (try simp only [show (k37).sz = 11 from rfl, Nat.mul_one, Nat.add_zero] at hf12_6); have hx12_7 := hcc12 7 _ rfl; (try simp only [show (k37).sz = 11 from rfl, Nat.mul_one, Nat.add_zero] at hx12_7); have hf12_7 := hfr12 7; (try simp only [show (k37).sz = 11 from rfl, Nat.mul_one, Nat.add_zero] at hf12_7); have hx12_8 := hcc12 8 _ rfl; (try simp only [show (k37).sz = 11 from rfl, Nat.mul_one, Nat.add_zero] at hx12_8); have hf12_8 := hfr12 8; (try simp only [show (k37).sz = 11 from rfl, Nat.mul_one, Nat.add_zero] at hf12_8); have hx12_9 := hcc12 9 _ rfl; (try simp only [show (k37).sz = 11 from rfl, Nat.mul_one, Nat.add_zero] at hx12_9); have hf12_9 := hfr12 9; (try simp only [show (k37).sz = 11 from rfl, Nat.mul_one, Nat.add_zero] at hf12_9); have hx12_10 := hcc12 10 _ rfl; (try simp only [show (k37).sz = 11 from rfl, Nat.mul_one, Nat.add_zero] at hx12_10); have hf12_10 := hfr12 10; (try simp only [show (k37).sz = 11 from rfl, Nat.mul_one, Nat.add_zero] at hf12_10); clear hcl12 hcc12 hfr12 hM12 hoki12 hH12) | ((with_reducible refine gate_store (t := 37) (p := 21) rfl ?_); refine store_event (t := 37) (p := 21) (v := ?vo_w13) (w1 := (((((((((((w11.setCell ⟨go10, (x4_1 : Int).toNat * 11, none⟩ (.string t105)).setCell ⟨go10, (x4_1 : Int).toNat * 11 + 1, none⟩ (.slice Ao14 t106.length co14)).setCell ⟨go10, (x4_1 : Int).toNat * 11 + 2, none⟩ (.int .i64 t109)).setCell ⟨go10, (x4_1 : Int).toNat * 11 + 3, none⟩ (.int .i64 t110)).setCell ⟨go10, (x4_1 : Int).toNat * 11 + 4, none⟩ (.int .i64 t111)).setCell ⟨go10, (x4_1 : Int).toNat * 11 + 5, none⟩ (.int .i64 t112)).setCell ⟨go10, (x4_1 : Int).toNat * 11 + 6, none⟩ (.int .i64 t113)).setCell ⟨go10, (x4_1 : Int).toNat * 11 + 7, none⟩ (.slice Ao15 t114.length co15)).setCell ⟨go10, (x4_1 : Int).toNat * 11 + 8, none⟩ (.bool t117)).setCell ⟨go10, (x4_1 : Int).toNat * 11 + 9, none⟩ (.int .i64 t118)).setCell ⟨go10, (x4_1 : Int).toNat * 11 + 10, none⟩ (.bool t119))) ?hg ?ho ?hn ?hr ?_; (case ho => rfl); (case hg => rfl); (case hn => rfl); (case hr => first | (go_simp; done) | (go_simp; rfl)); intro w13 hw; have hg : w11.grownBy w13 (some go10) := (by rw [hw]; exact HP12.2); have hp_ : Kd.S k37 37 w13 w.heap.size (fun _ => True) (.slice (some ⟨go10, 0, none⟩) x3_1.length co10) y120 := (by rw [hw, Ny120.out]; exact HP12.1); clear HP12; have _ := aM hp_; have _ := aM ((by rw [hw]; exact below_set (below_set (below_set (below_set (below_set (below_set (below_set (below_set (below_set (below_set (below_set (HB.out) GB10.out) GB10.out) GB10.out) GB10.out) GB10.out) GB10.out) GB10.out) GB10.out) GB10.out) GB10.out) GB10.out : Below w.heap.size w w13)); clear HO_3 HB HO108 HO116; rename_i HO_3 HB; clear hg hw hp_))
     go_roundg k1
     case measure => have := HK1.out; omega
     case rel => exact ⟨(y120), (wrap64 (x4_1 + 1)), z4458, H', ⟨zfb39⟩, ⟨zd74a⟩, ⟨z5acd⟩⟩
   · rw [if_neg c6] at H
     have c6b0 := nL c6
     clear c6
     obtain rfl := Option.some.inj H
     go_wp2
     go_ret
     exact ⟨_, z674d, zd74a, z5acd⟩
end Go.Proofs.YtkgmoajdcibafaaDoor.P

-- written by a program of this session's (wip/pp)
namespace Go.Proofs.YtkgmoajdcibafaaDoor.P
open Go.RowKit Go.Proofs.YtkgmoajdcibafaaDoorW.PrintWords Go.Proofs.YtkgmoajdcibafaaDoorW.PrintLast Go.Proofs.YtkgmoajdcibafaaDoorW.PrintMore
attribute [local go_sem] max2_int min2_int max_two min_two max_three min_three max_four min_four str_geq str_gtr str_leq   -- for this text's walks alone
set_option linter.unusedVariables false
set_option linter.unusedSimpArgs false

/-! ### laws_toBoard: function 11 -/
def laws_toBoard.f (k : Nat) (a0_0 : Int) (a0_1 : Int) (a0_2 : Int) (l0_3 : List (S116)) : Option (Int × Int × Int × (List (S37))) := (laws_toWinS.f k l0_3).bind fun t104 => (some (a0_0, a0_1, a0_2, t104))
theorem laws_toBoard.mono : ∀ a0 a1 a2 a3 k, LeO (laws_toBoard.f k a0 a1 a2 a3) (laws_toBoard.f (k + 1) a0 a1 a2 a3) := by
 intro a0 a1 a2 a3 k
 have m0 := @laws_toWinS.mono
 unfold laws_toBoard.f
 exact moZ
set_option maxHeartbeats 8000000 in
set_option maxRecDepth 100000 in
theorem laws_toBoard.calls (k : Nat) (a0_0 : Int) (a0_1 : Int) (a0_2 : Int) (A0_3 : Option Addr) (c0_3 : Nat) (l0_3 : List (S116)) (r1 : Int) (r2 : Int) (r3 : Int) (r4 : List (S37)) (w : World) (hr0_3 : Kd.C k116 w A0_3 l0_3.length l0_3) (hc0_3 : l0_3.length ≤ c0_3) (h : laws_toBoard.f k a0_0 a0_1 a0_2 l0_3 = some (r1, r2, r3, r4)) :
 Calls Tryd.prog 11 #[.agg #[.int .i64 a0_0, .int .i64 a0_1, .int .i64 a0_2, .slice A0_3 l0_3.length c0_3]] w fun e w' => ∃ v3_ : Value, e = .returned (.agg #[.int .i64 r1, .int .i64 r2, .int .i64 r3, v3_]) ∧ Kd.S k37 37 w' w.heap.size (fun _ => True) v3_ r4 ∧ Below w.heap.size w w' := by
 have hu24 := Tryd.underlying24
 have hu42 := Tryd.underlying42
 have HR0_3 := aM hr0_3
 have HC0_3 := aM hc0_3
 clear hr0_3 hc0_3
 have HB := aM (Below.refl w.heap.size w)
 have H : ((laws_toWinS.f k l0_3).bind fun t104 => (some (a0_0, a0_1, a0_2, t104))) = some (r1, r2, r3, r4) := h
 clear h
 obtain ⟨t104, A2, H⟩ := bS H; try dsimp only at H
 simp only [Option.some.injEq, Prod.mk.injEq] at H
 obtain ⟨rfl, rfl, rfl, rfl⟩ := H
 go_enter Tryd.func11, Tryd.ntmps11
 go_wp2_with (first | ((with_reducible refine gate_dst (N := 1) rfl ?_); refine bX 1 24 #[.int .i64 a0_0, .int .i64 a0_1, .int .i64 a0_2, .slice A0_3 l0_3.length c0_3] ?_; intro gb101 hg w3 hbox hb; have _ := aM (below_step hbZ hb); have _ := aM hbox; have _ := szZ hg; have _ := szZ hg; clear HB; rename_i HB BK101 GW101 GE101; clear hb hbox hg) | ((with_reducible refine gate_dst (N := 2) rfl ?_); refine bX 2 42 #[.int .i64 0, .int .i64 0, .int .i64 0, .slice none 0 0] ?_; intro gb102 hg w4 hbox hb; have _ := bB gb101 hb; have _ := aM (below_step hbZ hb); have _ := aM hbox; have _ := szZ hg; have _ := szZ hg; have ⟨_, _⟩ := nbB gb101 hg; clear BK101 HB; rename_i BK101 HB BK102 GW102 GE102 NB101_102 NB102_101; clear hb hbox hg) | ((with_reducible refine gate_dst (N := 3) rfl ?_); refine bX 3 42 #[.int .i64 0, .int .i64 0, .int .i64 0, .slice none 0 0] ?_; intro gb103 hg w5 hbox hb; have _ := bB gb101 hb; have _ := bB gb102 hb; have _ := aM (below_step hbZ hb); have _ := aM hbox; have _ := szZ hg; have _ := szZ hg; have ⟨_, _⟩ := nbB gb101 hg; have ⟨_, _⟩ := nbB gb102 hg; clear BK101 BK102 HB; rename_i BK101 BK102 HB BK103 GW103 GE103 NB101_103 NB103_101 NB102_103 NB103_102; clear hb hbox hg; have hnb6 := NB101_102.out; have hnc6 := NB102_101.out; have hnb7 := NB101_103.out; have hnc7 := NB103_101.out; have hz8 := cellsZ4 BK101.out; have hnb9 := NB103_102.out; have hnc9 := NB102_103.out; have hz10 := cellsZ4 BK103.out) | ((with_reducible refine gate_callee (f := 44) rfl ?_); refine gL 15 Tryd.func44 #[.slice A0_3 l0_3.length c0_3] ?_; (with_reducible refine (laws_toWinS.calls k _ _ l0_3 t104 _ ?side1 ?side2 A2.out).mono ?_); (case side1 => exact Kd.C_below HR0_3.out hbZ); (case side2 => exact HC0_3.out); rintro e w11 ⟨v105, rfl, ho0, hb⟩; refine ⟨_, rfl, ?_⟩; have _ := aM (Kd.S_lower ho0 (below_size hbZ)); have _ := bB gb101 hb; have _ := bB gb102 hb; have _ := aM (blk_below (g := gb103) (o := .cells #[.int .i64 a0_0, .int .i64 a0_1, .int .i64 a0_2, .slice none 0 0] 42 (0, 0)) bkZ hb); have _ := aM (below_step hbZ hb); clear BK101 BK102 BK103 HB; rename_i HO106 BK101 BK102 BK103 HB; (try clear hb); (try clear ho0); obtain ⟨Ao12, co12, eo12⟩ := Kd.S_slice HO106.out; subst eo12; have hz13 := cellsZ4 BK103.out; have hz14 := cellsZ4 BK102.out))
 refine bodyPost_ret (results_cell_row rfl _ _ gb102 42 #[.int .i64 a0_0, .int .i64 a0_1, .int .i64 a0_2, .slice Ao12 t104.length co12] (0, 0) _ rfl bkZ Tryd.underlying42 rfl (by kernel_rfl)) rfl ?_
 exact ⟨_, z674d, by (with_reducible repeat (first | apply Kd.S_alloc | apply Kd.S_drewN | apply Kd.S_drew)); exact Kd.S_mono (Kd.S_far (p := ⟨gb102, 3, none⟩) (Kd.S_far (p := ⟨gb102, 2, none⟩) (Kd.S_far (p := ⟨gb102, 1, none⟩) (Kd.S_far (p := ⟨gb102, 0, none⟩) (Kd.S_far (p := ⟨gb103, 3, none⟩) (Kd.S_types (Kd.S_types HO106.out BK103.out (by decide)) BK102.out (by decide)) (fun _ hk => hk.1.2) (.slice Ao12 t104.length co12)) (fun _ hk => hk.2) (.int .i64 a0_0)) (fun _ hk => hk.2) (.int .i64 a0_1)) (fun _ hk => hk.2) (.int .i64 a0_2)) (fun _ hk => hk.2) (.slice Ao12 t104.length co12)) (fun _ hk => trivial), zcb41⟩

end Go.Proofs.YtkgmoajdcibafaaDoor.P

-- written by a program of this session's (wip/pp)
namespace Go.Proofs.YtkgmoajdcibafaaDoor.P
open Go.RowKit Go.Proofs.YtkgmoajdcibafaaDoorW.PrintWords Go.Proofs.YtkgmoajdcibafaaDoorW.PrintLast Go.Proofs.YtkgmoajdcibafaaDoorW.PrintMore
attribute [local go_sem] max2_int min2_int max_two min_two max_three min_three max_four min_four str_geq str_gtr str_leq   -- for this text's walks alone
set_option linter.unusedVariables false
set_option linter.unusedSimpArgs false

/-! ### impl_within: function 90 -/
def impl_within.f (a0 : Int) (a1 : Int) (a2 : Int) : Option (Bool) := if a0 ≥ a1 then (some (decide (a0 ≤ a2))) else (some false)
set_option maxHeartbeats 8000000 in
set_option maxRecDepth 100000 in
theorem impl_within.calls (a0 : Int) (a1 : Int) (a2 : Int) (r : Bool) (w : World) (h : impl_within.f a0 a1 a2 = some r) :
 Calls Tryd.prog 90 #[.int .i64 a0, .int .i64 a1, .int .i64 a2] w fun e w' => e = .returned (.bool r) ∧ Drawn0 w w' := by
 have H : (if a0 ≥ a1 then (some (decide (a0 ≤ a2))) else (some false)) = some r := h
 clear h
 by_cases c4 : a0 ≥ a1
 · rw [if_pos c4] at H
   have c4b0 := dE c4
   clear c4
   obtain rfl := Option.some.inj H
   go_enter Tryd.func90, Tryd.ntmps90
   go_wp2
   go_ret
   exact ⟨z4458, za9de⟩
 · rw [if_neg c4] at H
   have c4b0 := nE c4
   clear c4
   obtain rfl := Option.some.inj H
   go_enter Tryd.func90, Tryd.ntmps90
   go_wp2
   go_ret
   exact ⟨z4458, za9de⟩

end Go.Proofs.YtkgmoajdcibafaaDoor.P

/-
  DERIVED: THE SHELF's CONTRACTS AT THIS DUMP, IN PLAIN WORDS (tools/lay-plain.mjs out of 'TrydShelf.lean', which tools/lay-shelf.mjs wrote): THE SAME DECLARATIONS UNDER THE SAME NAMES: 'import', 'namespace', 'open', 'def', 'theorem' AND NOTHING ELSE: no command of the shelf's: FOR A HAND-IN. Each laying: the table of numbers ('.._ren') and one theorem, a field a fact of the dump's own or the kernel's comparison; each contract: ONE APPLICATION.
-/
namespace Go.Proofs
open Go.Shelf
def Tryd.lays160_ren : Go.Shelf.Ren := ⟨fun | 160 => 112 | 232 => 119 | 231 => 118 | 227 => 120 | 234 => 122 | 233 => 121 | 236 => 124 | 235 => 123 | 228 => 126 | 271 => 129 | 151 => 128 | 197 => 127 | 120 => 132 | 152 => 131 | 260 => 130 | 137 => 133 | 119 => 134 | 224 => 135 | 225 => 136 | 217 => 137 | 266 => 138 | n => n, fun | 9 => 9 | 4 => 4 | 3 => 3 | 5 => 5 | 117 => 147 | 116 => 146 | 0 => 0 | 124 => 150 | 21 => 21 | 105 => 153 | 46 => 135 | 119 => 157 | 139 => 160 | 138 => 159 | n => n, fun | 3 => 0 | 4 => 1 | n => n⟩
theorem Tryd.lays160 : Go.Proofs.Lays.n160 Tryd.prog Tryd.lays160_ren := {
  mixed := by kernel_rfl
  f119 := Tryd.func134.trans (congrArg some (by kernel_rfl))
  f120 := Tryd.func132.trans (congrArg some (by kernel_rfl))
  f137 := Tryd.func133.trans (congrArg some (by kernel_rfl))
  f151 := Tryd.func128.trans (congrArg some (by kernel_rfl))
  f152 := Tryd.func131.trans (congrArg some (by kernel_rfl))
  f160 := Tryd.func112.trans (congrArg some (by kernel_rfl))
  f197 := Tryd.func127.trans (congrArg some (by kernel_rfl))
  f217 := Tryd.func137.trans (congrArg some (by kernel_rfl))
  f224 := Tryd.func135.trans (congrArg some (by kernel_rfl))
  f225 := Tryd.func136.trans (congrArg some (by kernel_rfl))
  f227 := Tryd.func120.trans (congrArg some (by kernel_rfl))
  f228 := Tryd.func126.trans (congrArg some (by kernel_rfl))
  f231 := Tryd.func118.trans (congrArg some (by kernel_rfl))
  f232 := Tryd.func119.trans (congrArg some (by kernel_rfl))
  f233 := Tryd.func121.trans (congrArg some (by kernel_rfl))
  f234 := Tryd.func122.trans (congrArg some (by kernel_rfl))
  f235 := Tryd.func123.trans (congrArg some (by kernel_rfl))
  f236 := Tryd.func124.trans (congrArg some (by kernel_rfl))
  f260 := Tryd.func130.trans (congrArg some (by kernel_rfl))
  f266 := Tryd.func138.trans (congrArg some (by kernel_rfl))
  f271 := Tryd.func129.trans (congrArg some (by kernel_rfl))
  t0 := Tryd.underlying0
  a0 := Tryd.isAgg0
  z0 := Tryd.sizeOf0
  v0 := Tryd.zeroValue0
  t3 := Tryd.underlying3
  a3 := Tryd.isAgg3
  z3 := Tryd.sizeOf3
  v3 := Tryd.zeroValue3
  t4 := Tryd.underlying4
  a4 := Tryd.isAgg4
  z4 := Tryd.sizeOf4
  v4 := Tryd.zeroValue4
  t5 := Tryd.underlying5
  a5 := Tryd.isAgg5
  z5 := Tryd.sizeOf5
  v5 := Tryd.zeroValue5
  t9 := Tryd.underlying9
  a9 := Tryd.isAgg9
  z9 := Tryd.sizeOf9
  v9 := Tryd.zeroValue9
  t21 := Tryd.underlying21
  a21 := Tryd.isAgg21
  z21 := Tryd.sizeOf21
  v21 := Tryd.zeroValue21
  t46 := Tryd.underlying135
  a46 := Tryd.isAgg135
  z46 := Tryd.sizeOf135
  v46 := Tryd.zeroValue135
  t105 := Tryd.underlying153
  a105 := Tryd.isAgg153
  z105 := Tryd.sizeOf153
  v105 := Tryd.zeroValue153
  t116 := Tryd.underlying146
  a116 := Tryd.isAgg146
  z116 := Tryd.sizeOf146
  t117 := Tryd.underlying147
  a117 := Tryd.isAgg147
  z117 := Tryd.sizeOf147
  v117 := Tryd.zeroValue147
  t119 := Tryd.underlying157
  a119 := Tryd.isAgg157
  z119 := Tryd.sizeOf157
  t124 := Tryd.underlying150
  a124 := Tryd.isAgg150
  z124 := Tryd.sizeOf150
  v124 := Tryd.zeroValue150
  t138 := Tryd.underlying159
  a138 := Tryd.isAgg159
  z138 := Tryd.sizeOf159
  v138 := Tryd.zeroValue159
  t139 := Tryd.underlying160
  a139 := Tryd.isAgg160
  z139 := Tryd.sizeOf160
  v139 := Tryd.zeroValue160
  g3 := by kernel_rfl
  g4 := by kernel_rfl }
open Go.RowKit Go.Lib in
theorem Tryd.strings_Trim (s cutset : ByteArray) (w : World) (hs : s.size ≤ 9223372036854775807) (hcs : cutset.size < 4294967281) (hascii : ∀ (j : Nat) b, cutset.data.toList[j]? = some b → b.toNat < 128) :
    Calls Tryd.prog 112 #[.string s, .string cutset] w fun e w' => e = .returned (.string ⟨(Lib.trimS s.data.toList cutset.data.toList).toArray⟩) ∧ Below w.heap.size w w' := Any.strings_Trim_laid Tryd.lays160 (by kernel_rfl) s cutset w hs hcs hascii
end Go.Proofs

-- written by a program of this session's (wip/pp)
namespace Go.Proofs.YtkgmoajdcibafaaDoor.P
open Go.RowKit Go.Proofs.YtkgmoajdcibafaaDoorW.PrintWords Go.Proofs.YtkgmoajdcibafaaDoorW.PrintLast Go.Proofs.YtkgmoajdcibafaaDoorW.PrintMore
attribute [local go_sem] max2_int min2_int max_two min_two max_three min_three max_four min_four str_geq str_gtr str_leq   -- for this text's walks alone
set_option linter.unusedVariables false
set_option linter.unusedSimpArgs false

/-! ### strings_Trim: function 112 -/
def strings_Trim.f (a0 a1 : ByteArray) : Option ByteArray := if a0.size ≤ 9223372036854775807 ∧ a1.size < 4294967281 ∧ (a1.data.toList.all fun b => decide (b.toNat < 128)) = true then some ⟨(Go.Lib.trimS a0.data.toList a1.data.toList).toArray⟩ else none
theorem strings_Trim.calls (a0 a1 : ByteArray) (r : ByteArray) (w : World) (h : strings_Trim.f a0 a1 = some r) :
 Calls Tryd.prog 112 #[.string a0, .string a1] w fun e w' => e = .returned (.string r) ∧ Below w.heap.size w w' := by
 unfold strings_Trim.f at h
 split at h
 · rename_i hb
   injection h with h
   subst h
   refine (Tryd.strings_Trim a0 a1 w hb.1 hb.2.1 (fun j b hj => ?_)).mono ?_
   · exact of_decide_eq_true (List.all_eq_true.1 hb.2.2 b (List.mem_of_getElem? hj))
   · rintro e w' ⟨rfl, hB⟩
     exact ⟨rfl, hB⟩
 · cases h

end Go.Proofs.YtkgmoajdcibafaaDoor.P

-- written by a program of this session's (wip/pp)
namespace Go.Proofs.YtkgmoajdcibafaaDoor.P
open Go.RowKit Go.Proofs.YtkgmoajdcibafaaDoorW.PrintWords Go.Proofs.YtkgmoajdcibafaaDoorW.PrintLast Go.Proofs.YtkgmoajdcibafaaDoorW.PrintMore
attribute [local go_sem] max2_int min2_int max_two min_two max_three min_three max_four min_four str_geq str_gtr str_leq   -- for this text's walks alone
set_option linter.unusedVariables false
set_option linter.unusedSimpArgs false

/-! ### impl_isName: function 92 -/
def impl_isName.f (a0 : ByteArray) : Option (Bool) := (impl_within.f (a0.size : Int) 1 12).bind fun t101 => (if t101 = true then ((strings_Trim.f a0 (⟨#[97, 98, 99, 100, 101, 102, 103, 104, 105, 106, 107, 108, 109, 110, 111, 112, 113, 114, 115, 116, 117, 118, 119, 120, 121, 122, 65, 66, 67, 68, 69, 70, 71, 72, 73, 74, 75, 76, 77, 78, 79, 80, 81, 82, 83, 84, 85, 86, 87, 88, 89, 90]⟩ : ByteArray)).bind fun t102 => (some (t102.toList == ([] : List UInt8)))) else (some false))
set_option maxHeartbeats 8000000 in
set_option maxRecDepth 100000 in
theorem impl_isName.calls (a0 : ByteArray) (r : Bool) (w : World) (h : impl_isName.f a0 = some r) :
 Calls Tryd.prog 92 #[.string a0] w fun e w' => e = .returned (.bool r) ∧ Below w.heap.size w w' := by
 have HB := aM (Below.refl w.heap.size w)
 have H : ((impl_within.f (a0.size : Int) 1 12).bind fun t101 => (if t101 = true then ((strings_Trim.f a0 (⟨#[97, 98, 99, 100, 101, 102, 103, 104, 105, 106, 107, 108, 109, 110, 111, 112, 113, 114, 115, 116, 117, 118, 119, 120, 121, 122, 65, 66, 67, 68, 69, 70, 71, 72, 73, 74, 75, 76, 77, 78, 79, 80, 81, 82, 83, 84, 85, 86, 87, 88, 89, 90]⟩ : ByteArray)).bind fun t102 => (some (t102.toList == ([] : List UInt8)))) else (some false))) = some r := h
 clear h
 obtain ⟨t101, A2, H⟩ := bS H; try dsimp only at H
 by_cases c3 : t101 = true
 · subst c3
   rw [if_pos rfl] at H
   obtain ⟨t102, A4, H⟩ := bS H; try dsimp only at H
   obtain rfl := Option.some.inj H
   go_enter Tryd.func92, Tryd.ntmps92
   go_wp2_with (first | ((with_reducible refine gate_callee (f := 90) rfl ?_); refine gL 5 Tryd.func90 #[.int .i64 (a0.size : Int), .int .i64 1, .int .i64 12] ?_; (with_reducible refine (impl_within.calls (a0.size : Int) 1 12 true _ A2.out).mono ?_); rintro e w' ⟨rfl, ⟨nd, rfl⟩⟩; refine ⟨_, rfl, ?_⟩) | (go_at_call 112; (with_reducible refine (strings_Trim.calls a0 (⟨#[97, 98, 99, 100, 101, 102, 103, 104, 105, 106, 107, 108, 109, 110, 111, 112, 113, 114, 115, 116, 117, 118, 119, 120, 121, 122, 65, 66, 67, 68, 69, 70, 71, 72, 73, 74, 75, 76, 77, 78, 79, 80, 81, 82, 83, 84, 85, 86, 87, 88, 89, 90]⟩ : ByteArray) t102 _ A4.out).mono ?_); rintro e w5 ⟨rfl, hb⟩; have _ := aM (below_step hbZ hb); clear HB; rename_i HB; (try clear hb)))
   go_ret
   exact ⟨z674d, z5acd⟩
 · replace c3 := Bool.eq_false_iff.mpr c3
   subst c3
   rw [if_neg (show ¬ (false = true) by decide)] at H
   obtain rfl := Option.some.inj H
   go_enter Tryd.func92, Tryd.ntmps92
   go_wp2_with (first | ((with_reducible refine gate_callee (f := 90) rfl ?_); refine gL 5 Tryd.func90 #[.int .i64 (a0.size : Int), .int .i64 1, .int .i64 12] ?_; (with_reducible refine (impl_within.calls (a0.size : Int) 1 12 false _ A2.out).mono ?_); rintro e w' ⟨rfl, ⟨nd, rfl⟩⟩; refine ⟨_, rfl, ?_⟩))
   go_ret
   exact ⟨z674d, z5acd⟩

end Go.Proofs.YtkgmoajdcibafaaDoor.P

-- written by a program of this session's (wip/pp)
namespace Go.Proofs.YtkgmoajdcibafaaDoor.P
open Go.RowKit Go.Proofs.YtkgmoajdcibafaaDoorW.PrintWords Go.Proofs.YtkgmoajdcibafaaDoorW.PrintLast Go.Proofs.YtkgmoajdcibafaaDoorW.PrintMore
attribute [local go_sem] max2_int min2_int max_two min_two max_three min_three max_four min_four str_geq str_gtr str_leq   -- for this text's walks alone
set_option linter.unusedVariables false
set_option linter.unusedSimpArgs false

/-! ### impl_GoodKey: function 47 -/
mutual
def impl_GoodKey.j0 : Nat → Bool → ByteArray → List (S123) → Int → Option (Bool)
 | 0, _, _, _, _ => none
 | k + 1, x20, x102000, x102001, x102002 => if x20 = true then (some false) else (impl_GoodKey.l0 k x102001 (x102001.length : Int) 0 x102000 x102001 x102002)
def impl_GoodKey.l0 : Nat → List (S123) → Int → Int → ByteArray → List (S123) → Int → Option (Bool)
 | 0, _, _, _, _, _, _ => none
 | k + 1, x22, x23, x24, x102000, x102001, x102002 => if x24 < x23 then (if 0 ≤ x24 then (if x24 < (x22.length : Int) then ((impl_isName.f ((rd_T123 x22 x24).f0)).bind fun t106 => (if t106 = true then ((impl_isName.f ((rd_T123 x22 x24).f1)).bind fun t107 => (if t107 = true then (if x24 > 0 then (if 0 ≤ (wrap64 (x24 - 1)) then (if (wrap64 (x24 - 1)) < (x102001.length : Int) then (if ((Op.bytesLess (((rd_T123 x102001 (wrap64 (x24 - 1))).f0).toList) (((rd_T123 x22 x24).f0).toList)) = true) then (impl_GoodKey.l0 k x22 x23 (wrap64 (x24 + 1)) x102000 x102001 x102002) else (some false)) else (none)) else (none)) else (impl_GoodKey.l0 k x22 x23 (wrap64 (x24 + 1)) x102000 x102001 x102002)) else (some false))) else (some false))) else (none)) else (none)) else (some true)
end
def impl_GoodKey.f (k : Nat) (a0_0 : ByteArray) (l0_1 : List (S123)) (a0_2 : Int) : Option (Bool) := (impl_isName.f a0_0).bind fun t102 => (if t102 = true then (if (l0_1.length : Int) > 4 then (impl_GoodKey.j0 k true a0_0 l0_1 a0_2) else ((impl_within.f a0_2 0 1000000000).bind fun t103 => (impl_GoodKey.j0 k (!t103) a0_0 l0_1 a0_2))) else (impl_GoodKey.j0 k true a0_0 l0_1 a0_2))
theorem impl_GoodKey.mono_l : ∀ k, (∀ y0 y1 y2 y3, LeO (impl_GoodKey.j0 k y0 y1 y2 y3) (impl_GoodKey.j0 (k + 1) y0 y1 y2 y3)) ∧ (∀ y0 y1 y2 y3 y4 y5, LeO (impl_GoodKey.l0 k y0 y1 y2 y3 y4 y5) (impl_GoodKey.l0 (k + 1) y0 y1 y2 y3 y4 y5))
 | 0 => ⟨fun _ _ _ _ r h => by simp [impl_GoodKey.j0] at h, fun _ _ _ _ _ _ r h => by simp [impl_GoodKey.l0] at h⟩
 | k + 1 => by
  obtain ⟨ih0, ih1⟩ := impl_GoodKey.mono_l k
  refine ⟨?_, ?_⟩
  · intro y0 y1 y2 y3
    unfold impl_GoodKey.j0
    exact moZ
  · intro y0 y1 y2 y3 y4 y5
    unfold impl_GoodKey.l0
    exact moZ
theorem impl_GoodKey.mono : ∀ a0 a1 a2 k, LeO (impl_GoodKey.f k a0 a1 a2) (impl_GoodKey.f (k + 1) a0 a1 a2) := by
 intro a0 a1 a2 k
 obtain ⟨ih0, ih1⟩ := impl_GoodKey.mono_l k
 unfold impl_GoodKey.f
 exact moZ
def impl_GoodKey.T6 : Bool × List (List Nat × List Nat) := (true, [([], []), ([0], [0]), ([1], [1]), ([2], [2]), ([3, 2], [3]), ([4], [4]), ([5, 4], [4, 5]), ([6, 4, 4], [4, 6]), ([7, 4], [4, 7]), ([4, 8], [4, 8]), ([9, 7], [9]), ([10], [10]), ([11, 10], [10, 11]), ([12, 10, 10], [10, 12]), ([13], [13]), ([14, 13], [13, 14]), ([13], [13]), ([16, 13], [13, 16]), ([15, 17, 13], [13, 15, 17]), ([18, 13], [13, 18]), ([19, 13], [13, 19]), ([13], [13]), ([21, 13], [13, 21]), ([20, 22, 13], [13, 20, 22]), ([13, 23, 10], [10, 13, 23]), ([10, 24], [10, 24])])
def impl_GoodKey.B6 : List Nat := [0, 1, 3, 7, 15, 31, 63, 127, 255, 511, 1023, 2047, 4095, 8191, 16383, 32767, 16383, 81919, 262143, 524287, 1048575, 16383, 2113535, 8388607, 16777215, 33554431]
theorem impl_GoodKey.tab6 : rtab .any (opsOf Tryd.f47 6) = impl_GoodKey.T6 := by kernel_rfl
theorem impl_GoodKey.bits6 : waitsOk impl_GoodKey.T6.2 impl_GoodKey.B6 = true := by kernel_rfl
set_option maxHeartbeats 8000000 in
set_option maxRecDepth 100000 in
theorem impl_GoodKey.calls (k : Nat) (a0_0 : ByteArray) (A0_1 : Option Addr) (c0_1 : Nat) (l0_1 : List (S123)) (a0_2 : Int) (r : Bool) (w : World) (hr0_1 : Kd.C k123 w A0_1 l0_1.length l0_1) (hc0_1 : l0_1.length ≤ c0_1) (h : impl_GoodKey.f k a0_0 l0_1 a0_2 = some r) :
 Calls Tryd.prog 47 #[.agg #[.string a0_0, .slice A0_1 l0_1.length c0_1, .int .i64 a0_2]] w fun e w' => e = .returned (.bool r) ∧ Below w.heap.size w w' := by
 have hu32 := Tryd.underlying32
 have hu123 := Tryd.underlying123
 have HR0_1 := aM hr0_1
 have HC0_1 := aM hc0_1
 clear hr0_1 hc0_1
 have HB := aM (Below.refl w.heap.size w)
 have H : ((impl_isName.f a0_0).bind fun t102 => (if t102 = true then (if (l0_1.length : Int) > 4 then (impl_GoodKey.j0 k true a0_0 l0_1 a0_2) else ((impl_within.f a0_2 0 1000000000).bind fun t103 => (impl_GoodKey.j0 k (!t103) a0_0 l0_1 a0_2))) else (impl_GoodKey.j0 k true a0_0 l0_1 a0_2))) = some r := h
 clear h
 have HC2 := aM H
 clear H
 go_enter Tryd.func47, Tryd.ntmps47
 go_upto_region 1 with (first | ((with_reducible refine gate_dst (N := 1) rfl ?_); (try (refine gate_guard (by rfl) ?_; dsimp only)); refine bX 1 32 #[.string a0_0, .slice A0_1 l0_1.length c0_1, .int .i64 a0_2] ?_; intro gb101 hg w3 hbox hb; have _ := aM (below_step hbZ hb); have _ := aM hbox; have _ := szZ hg; have _ := szZ hg; clear HB; rename_i HB BK101 GW101 GE101; clear hb hbox hg))
 (try simp only [Act.put, List.setIfInBounds_toArray, List.set_cons_zero, List.set_cons_succ])
 go_cut [20] (fun v20 wc => ∃ (kq : Nat) (x20_1 : Bool), v20 = .bool x20_1 ∧ Aside0 (impl_GoodKey.j0 kq x20_1 a0_0 l0_1 a0_2 = some r) ∧ Aside0 (kq ≤ k) ∧ Aside0 (wc.heap[gb101]? = some (.cells #[.string a0_0, (.slice A0_1 l0_1.length c0_1), .int .i64 a0_2] 32 (0, 0))) ∧ Aside0 (Below w.heap.size w wc))
 case first =>
  have H := HC2.out
  clear HC2
  obtain ⟨t102, A4, H⟩ := bS H; try dsimp only at H
  by_cases c5 : t102 = true
  · subst c5
    rw [if_pos rfl] at H
    by_cases c6 : (l0_1.length : Int) > 4
    · rw [if_pos c6] at H
      have c6b0 : decide (4 < (l0_1.length : Int)) = true := decide_eq_true c6
      have c6b1 : decide (4 < l0_1.length) = true := decide_eq_true (by omega)
      clear c6
      (first | rw [c6b0] | (simp only [i64_w, i32_w]; rw [c6b0]) | skip)
      have H' := aM H
      clear H
      have hz7 := cellsZ3 BK101.out
      go_wp2_with (first | ((with_reducible refine gate_callee (f := 92) rfl ?_); refine gL 7 Tryd.func92 #[.string a0_0] ?_; (with_reducible refine (impl_isName.calls a0_0 true _ A4.out).mono ?_); rintro e w8 ⟨rfl, hb⟩; refine ⟨_, rfl, ?_⟩; have _ := bB gb101 hb; have _ := aM (below_step hbZ hb); clear BK101 HB; rename_i BK101 HB; (try clear hb); have hz9 := cellsZ3 BK101.out))
      go_meet
      case rel => exact ⟨_, (true), z4458, H', ⟨zb79b⟩, ⟨bkZ⟩, ⟨zcb41⟩⟩
    · rw [if_neg c6] at H
      have c6b0 : decide (4 < (l0_1.length : Int)) = false := decide_eq_false c6
      have c6b1 : decide (4 < l0_1.length) = false := decide_eq_false (by omega)
      clear c6
      (first | rw [c6b0] | (simp only [i64_w, i32_w]; rw [c6b0]) | skip)
      obtain ⟨t103, A10, H⟩ := bS H; try dsimp only at H
      have H' := aM H
      clear H
      have hz11 := cellsZ3 BK101.out
      go_wp2_with (first | ((with_reducible refine gate_callee (f := 92) rfl ?_); refine gL 7 Tryd.func92 #[.string a0_0] ?_; (with_reducible refine (impl_isName.calls a0_0 true _ A4.out).mono ?_); rintro e w12 ⟨rfl, hb⟩; refine ⟨_, rfl, ?_⟩; have _ := bB gb101 hb; have _ := aM (below_step hbZ hb); clear BK101 HB; rename_i BK101 HB; (try clear hb); have hz13 := cellsZ3 BK101.out) | (go_at_call 90; (with_reducible refine (impl_within.calls a0_2 0 1000000000 t103 _ A10.out).mono ?_); rintro e w' ⟨rfl, ⟨nd, rfl⟩⟩))
      go_meet
      case rel => exact ⟨_, (!t103), z4458, H', ⟨zb79b⟩, ⟨bkZ⟩, ⟨zcb41⟩⟩
  · replace c5 := Bool.eq_false_iff.mpr c5
    subst c5
    rw [if_neg (show ¬ (false = true) by decide)] at H
    have H' := aM H
    clear H
    have hz14 := cellsZ3 BK101.out
    go_wp2_with (first | ((with_reducible refine gate_callee (f := 92) rfl ?_); refine gL 7 Tryd.func92 #[.string a0_0] ?_; (with_reducible refine (impl_isName.calls a0_0 false _ A4.out).mono ?_); rintro e w15 ⟨rfl, hb⟩; refine ⟨_, rfl, ?_⟩; have _ := bB gb101 hb; have _ := aM (below_step hbZ hb); clear BK101 HB; rename_i BK101 HB; (try clear hb)))
    go_meet
    case rel => exact ⟨_, (true), z4458, H', ⟨zb79b⟩, ⟨bkZ⟩, ⟨zcb41⟩⟩
 case rest =>
  clear HC2
  obtain ⟨kq, x20_1, rfl, HA, HJ1, BK101, HB⟩ := hcut
  cases kq with
  | zero => exact absurd HA.out (by simp [impl_GoodKey.j0])
  | succ kj1 =>
   have H := HA.out
   clear HA
   simp only [impl_GoodKey.j0] at H
   by_cases c16 : x20_1 = true
   · subst c16
     rw [if_pos rfl] at H
     obtain rfl := Option.some.inj H
     go_wp2
     go_ret
     exact ⟨z674d, zcb41⟩
   · replace c16 := Bool.eq_false_iff.mpr c16
     subst c16
     rw [if_neg (show ¬ (false = true) by decide)] at H
     have H' := aM H
     clear H
     have hz17 := cellsZ3 BK101.out
     go_wp2
     go_loopg [24] kj1 (fun kq v24 w' => ∃ (x24_2 : Int), v24 = .int .i64 x24_2 ∧ Aside0 (impl_GoodKey.l0 kq l0_1 (l0_1.length : Int) x24_2 a0_0 l0_1 a0_2 = some r) ∧ Aside0 (kq ≤ kj1) ∧ Aside0 (w'.heap[gb101]? = some (.cells #[.string a0_0, (.slice A0_1 l0_1.length c0_1), .int .i64 a0_2] 32 (0, 0))) ∧ Aside0 (Below w.heap.size w w'))
     case atStart => exact ⟨(0), z4458, H', ⟨Nat.le_refl _⟩, ⟨bkZ⟩, ⟨zcb41⟩⟩
     case round =>
      clear H'
      (try clear c16); (try clear hz17)
      obtain ⟨x24_2, rfl, HA, HK2, BK101, HB⟩ := hrel
      cases gk with
      | zero => exact absurd HA.out (by simp [impl_GoodKey.l0])
      | succ k2 =>
       have H := HA.out
       clear HA
       simp only [impl_GoodKey.l0] at H
       by_cases c18 : x24_2 < (l0_1.length : Int)
       · rw [if_pos c18] at H
         have c18b0 := dL c18
         clear c18
         obtain ⟨c19b0, H⟩ := sE H
         obtain ⟨c20b0, H⟩ := sL H
         obtain ⟨t106, A21, H⟩ := bS H; try dsimp only at H
         by_cases c22 : t106 = true
         · subst c22
           rw [if_pos rfl] at H
           obtain ⟨t107, A23, H⟩ := bS H; try dsimp only at H
           by_cases c24 : t107 = true
           · subst c24
             rw [if_pos rfl] at H
             by_cases c25 : x24_2 > 0
             · rw [if_pos c25] at H
               have c25b0 := dL c25
               clear c25
               obtain ⟨ji26, hji26⟩ : ∃ j_ : Int, (wrap64 (x24_2 - 1)) = j_ := ⟨_, rfl⟩
               replace H : (if 0 ≤ (ji26) then (if (ji26) < (l0_1.length : Int) then (if ((Op.bytesLess (((rd_T123 l0_1 (ji26)).f0).toList) (((rd_T123 l0_1 x24_2).f0).toList)) = true) then (impl_GoodKey.l0 k2 l0_1 (l0_1.length : Int) (wrap64 (x24_2 + 1)) a0_0 l0_1 a0_2) else (some false)) else (none)) else (none)) = some r := by first | (rw [hji26] at H; exact H) | (simp only [hji26] at H ⊢; exact H)
               (try rw [hji26] at A21)
               (try rw [hji26] at A23)
               have hji26w : (IntKind.i64.wrap (x24_2 - 1)) = ji26 := (i64_w _).trans hji26
               obtain ⟨c27b0, H⟩ := sE H
               obtain ⟨c28b0, H⟩ := sL H
               by_cases c29 : ((Op.bytesLess (((rd_T123 l0_1 (ji26)).f0).toList) (((rd_T123 l0_1 x24_2).f0).toList)) = true)
               · rw [if_pos c29] at H
                 have c29b0 : (Op.bytesLess (((rd_T123 l0_1 (ji26)).f0).toList) (((rd_T123 l0_1 x24_2).f0).toList)) = true := c29
                 clear c29
                 have H' := aM H
                 clear H
                 have p104 : 0 ≤ (x24_2 : Int) := of_decide_eq_true z1200
                 have q104 : x24_2 < (l0_1.length : Int) := of_decide_eq_true z1200
                 obtain ⟨ad104, e104, hx104_0, hx104_1⟩ := at_T123 HR0_1.out x24_2 p104 q104
                 cases e104
                 replace hx104_0 := (HB.out.cell (World.block_lt_of_cell? w _ hx104_0)).trans hx104_0
                 replace hx104_1 := (HB.out.cell (World.block_lt_of_cell? w _ hx104_1)).trans hx104_1
                 replace p104 := eq_true p104
                 replace q104 := eq_true q104
                 try go_wp2_with (first | ((with_reducible refine gate_dst (N := 4) rfl ?_); (try (refine gate_guard (by rfl) ?_; dsimp only)); refine bX 4 123 #[.string (⟨#[]⟩ : ByteArray), .string (⟨#[]⟩ : ByteArray)] ?_; intro gb105 hg w30 hbox hb; have _ := bB gb101 hb; have _ := aM (below_step hbZ hb); have _ := aM hbox; have _ := szZ hg; have _ := szZ hg; have ⟨_, _⟩ := nbB gb101 hg; clear BK101 HB; rename_i BK101 HB BK105 GW105 GE105 NB101_105 NB105_101; clear hb hbox hg; have hnb31 := NB105_101.out; have hnc31 := NB101_105.out; have hz32 := cellsZ2 BK105.out))
                 have n0_ : Aside0 (((w30.setCell ⟨gb105, 0, none⟩ (.string ((rd_T123 l0_1 x24_2).f0))).setCell ⟨gb105, 1, none⟩ (.string ((rd_T123 l0_1 x24_2).f1))).heap[gb101]? = some (.cells #[.string a0_0, .slice (some ad104) l0_1.length c0_1, .int .i64 a0_2] 32 (0, 0))) := ⟨bkZ⟩
                 have n1_ : Aside0 (((w30.setCell ⟨gb105, 0, none⟩ (.string ((rd_T123 l0_1 x24_2).f0))).setCell ⟨gb105, 1, none⟩ (.string ((rd_T123 l0_1 x24_2).f1))).heap[gb105]? = some (.cells #[.string ((rd_T123 l0_1 x24_2).f0), .string ((rd_T123 l0_1 x24_2).f1)] 123 (0, 0))) := ⟨bkZ⟩
                 have n2_ : Aside0 (Below w.heap.size w ((w30.setCell ⟨gb105, 0, none⟩ (.string ((rd_T123 l0_1 x24_2).f0))).setCell ⟨gb105, 1, none⟩ (.string ((rd_T123 l0_1 x24_2).f1)))) := ⟨zcb41⟩
                 (try clear BK101); (try clear BK105); (try clear HB)
                 generalize ((w30.setCell ⟨gb105, 0, none⟩ (.string ((rd_T123 l0_1 x24_2).f0))).setCell ⟨gb105, 1, none⟩ (.string ((rd_T123 l0_1 x24_2).f1))) = w33 at n0_ n1_ n2_ ⊢
                 have BK101 := n0_
                 have BK105 := n1_
                 have HB := n2_
                 clear n0_ n1_ n2_
                 have _ := aM (blk_drew BK101.out)
                 have _ := aM (blk_drew BK105.out)
                 have _ := aM (below_drew1 HB.out)
                 clear BK101
                 clear BK105
                 clear HB
                 rename_i BK101 BK105 HB
                 have p108 : 0 ≤ ((ji26) : Int) := of_decide_eq_true z1200
                 have q108 : (ji26) < (l0_1.length : Int) := of_decide_eq_true z1200
                 obtain ⟨ad108, e108, hx108_0, hx108_1⟩ := at_T123 HR0_1.out (ji26) p108 q108
                 have hw108_1 := hx108_1
                 have hw108_0 := hx108_0
                 obtain rfl : ad104 = ad108 := (by injection e108)
                 replace hx108_0 := (HB.out.cell (World.block_lt_of_cell? w _ hx108_0)).trans hx108_0
                 replace hx108_1 := (HB.out.cell (World.block_lt_of_cell? w _ hx108_1)).trans hx108_1
                 replace p108 := eq_true p108
                 replace q108 := eq_true q108
                 refine sA 26 impl_GoodKey.tab6 impl_GoodKey.bits6 (fun w' => w'.cell? ⟨gb105, 0, none⟩ = some (.string ((rd_T123 l0_1 x24_2).f0)) ∧ w'.cell? ⟨gb105, 1, none⟩ = some (.string ((rd_T123 l0_1 x24_2).f1)) ∧ w'.cell? ⟨gb101, 0, none⟩ = some (.string a0_0) ∧ w'.cell? ⟨gb101, 1, none⟩ = some (.slice (some ad104) l0_1.length c0_1) ∧ w'.cell? ⟨gb101, 2, none⟩ = some (.int .i64 a0_2) ∧ w'.cell? (ad104.add (((ji26)).toNat * 2)) = some (.string ((rd_T123 l0_1 (ji26)).f0)) ∧ w'.cell? ⟨(ad104.add (((ji26)).toNat * 2)).block, (ad104.add (((ji26)).toNat * 2)).off + 1, none⟩ = some (.string ((rd_T123 l0_1 (ji26)).f1))) [] (fun hHeld HT_ HW_ => ?_)
                 generalize w33.drew = w34 at BK101 BK105 HB hx108_0 hx108_1 hHeld ⊢
                 refine pA 0 29 HT_ ?_; refine tA 1 30 HT_ HW_ hHeld ?_; refine oA 2 31 HT_ (fun K hK => ?_)
                 refine goes_ Tryd.func92 (by kernel_rfl) rfl #[.string ((rd_T123 l0_1 x24_2).f0)] (by rfl) rfl rfl zee81 ?_
                 with_reducible refine (impl_isName.calls ((rd_T123 l0_1 x24_2).f0) true _ A21.out).mono ?_
                 rintro e w35 ⟨rfl, hb⟩
                 refine ⟨_, rfl, ?_⟩
                 have _ := bB gb101 hb
                 have _ := bB gb105 hb
                 have _ := aM (below_step hbZ hb)
                 clear BK101
                 clear BK105
                 clear HB
                 rename_i BK101 BK105 HB
                 (try clear hb)
                 refine hK.out _ _ sZ (fun hHeld => ?_)
                 clear hK K
                 refine nA 31 ?_; refine pA 3 32 HT_ ?_; refine pA 4 33 HT_ ?_; refine pA 5 34 HT_ ?_; refine tA 6 35 HT_ HW_ hHeld ?_; refine oA 7 36 HT_ (fun K hK => ?_)
                 refine goes_ Tryd.func92 (by kernel_rfl) rfl #[.string ((rd_T123 l0_1 x24_2).f1)] (by rfl) rfl rfl zee81 ?_
                 with_reducible refine (impl_isName.calls ((rd_T123 l0_1 x24_2).f1) true _ A23.out).mono ?_
                 rintro e w36 ⟨rfl, hb⟩
                 refine ⟨_, rfl, ?_⟩
                 have _ := bB gb101 hb
                 have _ := bB gb105 hb
                 have _ := aM (below_step hbZ hb)
                 clear BK101
                 clear BK105
                 clear HB
                 rename_i BK101 BK105 HB
                 (try clear hb)
                 refine hK.out _ _ sZ (fun hHeld => ?_)
                 clear hK K
                 refine nA 36 ?_; refine pA 8 37 HT_ ?_; refine pA 9 38 HT_ ?_; refine pA 10 39 HT_ ?_; refine pA 11 40 HT_ ?_; refine pA 12 41 HT_ ?_; refine pA 13 42 HT_ ?_; refine pA 14 43 HT_ ?_; refine pA 16 45 HT_ ?_; refine pA 17 46 HT_ ?_; refine pA 21 50 HT_ ?_; refine tA 15 44 HT_ HW_ hHeld ?_; refine pA 18 47 HT_ ?_; refine pA 19 48 HT_ ?_; refine tA 20 49 HT_ HW_ hHeld ?_; refine tA 22 51 HT_ HW_ hHeld ?_; refine pA 23 52 HT_ ?_; refine pA 24 53 HT_ ?_; refine pA 25 54 HT_ ?_
                 refine done_ (done_of HT_.out (by kernel_rfl)) ?_
                 try go_wp2
                 go_roundg k2
                 case measure => have := HJ1.out; have := HK2.out; omega
                 case rel => exact ⟨(wrap64 (x24_2 + 1)), z4458, H', ⟨by have := HJ1.out; have := HK2.out; omega⟩, ⟨bkZ⟩, ⟨zcb41⟩⟩
               · rw [if_neg c29] at H
                 have c29b0 : (Op.bytesLess (((rd_T123 l0_1 (ji26)).f0).toList) (((rd_T123 l0_1 x24_2).f0).toList)) = false := by simpa using c29
                 clear c29
                 obtain rfl := Option.some.inj H
                 have p104 : 0 ≤ (x24_2 : Int) := of_decide_eq_true z1200
                 have q104 : x24_2 < (l0_1.length : Int) := of_decide_eq_true z1200
                 obtain ⟨ad104, e104, hx104_0, hx104_1⟩ := at_T123 HR0_1.out x24_2 p104 q104
                 cases e104
                 replace hx104_0 := (HB.out.cell (World.block_lt_of_cell? w _ hx104_0)).trans hx104_0
                 replace hx104_1 := (HB.out.cell (World.block_lt_of_cell? w _ hx104_1)).trans hx104_1
                 replace p104 := eq_true p104
                 replace q104 := eq_true q104
                 try go_wp2_with (first | ((with_reducible refine gate_dst (N := 4) rfl ?_); (try (refine gate_guard (by rfl) ?_; dsimp only)); refine bX 4 123 #[.string (⟨#[]⟩ : ByteArray), .string (⟨#[]⟩ : ByteArray)] ?_; intro gb105 hg w37 hbox hb; have _ := bB gb101 hb; have _ := aM (below_step hbZ hb); have _ := aM hbox; have _ := szZ hg; have _ := szZ hg; have ⟨_, _⟩ := nbB gb101 hg; clear BK101 HB; rename_i BK101 HB BK105 GW105 GE105 NB101_105 NB105_101; clear hb hbox hg; have hnb38 := NB105_101.out; have hnc38 := NB101_105.out; have hz39 := cellsZ2 BK105.out))
                 have n0_ : Aside0 (((w37.setCell ⟨gb105, 0, none⟩ (.string ((rd_T123 l0_1 x24_2).f0))).setCell ⟨gb105, 1, none⟩ (.string ((rd_T123 l0_1 x24_2).f1))).heap[gb101]? = some (.cells #[.string a0_0, .slice (some ad104) l0_1.length c0_1, .int .i64 a0_2] 32 (0, 0))) := ⟨bkZ⟩
                 have n1_ : Aside0 (((w37.setCell ⟨gb105, 0, none⟩ (.string ((rd_T123 l0_1 x24_2).f0))).setCell ⟨gb105, 1, none⟩ (.string ((rd_T123 l0_1 x24_2).f1))).heap[gb105]? = some (.cells #[.string ((rd_T123 l0_1 x24_2).f0), .string ((rd_T123 l0_1 x24_2).f1)] 123 (0, 0))) := ⟨bkZ⟩
                 have n2_ : Aside0 (Below w.heap.size w ((w37.setCell ⟨gb105, 0, none⟩ (.string ((rd_T123 l0_1 x24_2).f0))).setCell ⟨gb105, 1, none⟩ (.string ((rd_T123 l0_1 x24_2).f1)))) := ⟨zcb41⟩
                 (try clear BK101); (try clear BK105); (try clear HB)
                 generalize ((w37.setCell ⟨gb105, 0, none⟩ (.string ((rd_T123 l0_1 x24_2).f0))).setCell ⟨gb105, 1, none⟩ (.string ((rd_T123 l0_1 x24_2).f1))) = w40 at n0_ n1_ n2_ ⊢
                 have BK101 := n0_
                 have BK105 := n1_
                 have HB := n2_
                 clear n0_ n1_ n2_
                 have _ := aM (blk_drew BK101.out)
                 have _ := aM (blk_drew BK105.out)
                 have _ := aM (below_drew1 HB.out)
                 clear BK101
                 clear BK105
                 clear HB
                 rename_i BK101 BK105 HB
                 have p108 : 0 ≤ ((ji26) : Int) := of_decide_eq_true z1200
                 have q108 : (ji26) < (l0_1.length : Int) := of_decide_eq_true z1200
                 obtain ⟨ad108, e108, hx108_0, hx108_1⟩ := at_T123 HR0_1.out (ji26) p108 q108
                 have hw108_1 := hx108_1
                 have hw108_0 := hx108_0
                 obtain rfl : ad104 = ad108 := (by injection e108)
                 replace hx108_0 := (HB.out.cell (World.block_lt_of_cell? w _ hx108_0)).trans hx108_0
                 replace hx108_1 := (HB.out.cell (World.block_lt_of_cell? w _ hx108_1)).trans hx108_1
                 replace p108 := eq_true p108
                 replace q108 := eq_true q108
                 refine sA 26 impl_GoodKey.tab6 impl_GoodKey.bits6 (fun w' => w'.cell? ⟨gb105, 0, none⟩ = some (.string ((rd_T123 l0_1 x24_2).f0)) ∧ w'.cell? ⟨gb105, 1, none⟩ = some (.string ((rd_T123 l0_1 x24_2).f1)) ∧ w'.cell? ⟨gb101, 0, none⟩ = some (.string a0_0) ∧ w'.cell? ⟨gb101, 1, none⟩ = some (.slice (some ad104) l0_1.length c0_1) ∧ w'.cell? ⟨gb101, 2, none⟩ = some (.int .i64 a0_2) ∧ w'.cell? (ad104.add (((ji26)).toNat * 2)) = some (.string ((rd_T123 l0_1 (ji26)).f0)) ∧ w'.cell? ⟨(ad104.add (((ji26)).toNat * 2)).block, (ad104.add (((ji26)).toNat * 2)).off + 1, none⟩ = some (.string ((rd_T123 l0_1 (ji26)).f1))) [] (fun hHeld HT_ HW_ => ?_)
                 generalize w40.drew = w41 at BK101 BK105 HB hx108_0 hx108_1 hHeld ⊢
                 refine pA 0 29 HT_ ?_; refine tA 1 30 HT_ HW_ hHeld ?_; refine oA 2 31 HT_ (fun K hK => ?_)
                 refine goes_ Tryd.func92 (by kernel_rfl) rfl #[.string ((rd_T123 l0_1 x24_2).f0)] (by rfl) rfl rfl zee81 ?_
                 with_reducible refine (impl_isName.calls ((rd_T123 l0_1 x24_2).f0) true _ A21.out).mono ?_
                 rintro e w42 ⟨rfl, hb⟩
                 refine ⟨_, rfl, ?_⟩
                 have _ := bB gb101 hb
                 have _ := bB gb105 hb
                 have _ := aM (below_step hbZ hb)
                 clear BK101
                 clear BK105
                 clear HB
                 rename_i BK101 BK105 HB
                 (try clear hb)
                 refine hK.out _ _ sZ (fun hHeld => ?_)
                 clear hK K
                 refine nA 31 ?_; refine pA 3 32 HT_ ?_; refine pA 4 33 HT_ ?_; refine pA 5 34 HT_ ?_; refine tA 6 35 HT_ HW_ hHeld ?_; refine oA 7 36 HT_ (fun K hK => ?_)
                 refine goes_ Tryd.func92 (by kernel_rfl) rfl #[.string ((rd_T123 l0_1 x24_2).f1)] (by rfl) rfl rfl zee81 ?_
                 with_reducible refine (impl_isName.calls ((rd_T123 l0_1 x24_2).f1) true _ A23.out).mono ?_
                 rintro e w43 ⟨rfl, hb⟩
                 refine ⟨_, rfl, ?_⟩
                 have _ := bB gb101 hb
                 have _ := bB gb105 hb
                 have _ := aM (below_step hbZ hb)
                 clear BK101
                 clear BK105
                 clear HB
                 rename_i BK101 BK105 HB
                 (try clear hb)
                 refine hK.out _ _ sZ (fun hHeld => ?_)
                 clear hK K
                 refine nA 36 ?_; refine pA 8 37 HT_ ?_; refine pA 9 38 HT_ ?_; refine pA 10 39 HT_ ?_; refine pA 11 40 HT_ ?_; refine pA 12 41 HT_ ?_; refine pA 13 42 HT_ ?_; refine pA 14 43 HT_ ?_; refine pA 16 45 HT_ ?_; refine pA 17 46 HT_ ?_; refine pA 21 50 HT_ ?_; refine tA 15 44 HT_ HW_ hHeld ?_; refine pA 18 47 HT_ ?_; refine pA 19 48 HT_ ?_; refine tA 20 49 HT_ HW_ hHeld ?_; refine tA 22 51 HT_ HW_ hHeld ?_; refine pA 23 52 HT_ ?_; refine pA 24 53 HT_ ?_; refine pA 25 54 HT_ ?_
                 refine done_ (done_of HT_.out (by kernel_rfl)) ?_
                 try go_wp2
                 go_ret
                 exact ⟨by first | rfl | (simp [errW_none, errW_some] <;> rfl) | (simp only [← hji26]; first | rfl | (simp [errW_none, errW_some] <;> rfl)) | (simp [*, errW_none, errW_some] <;> rfl), zcb41⟩
             · rw [if_neg c25] at H
               have c25b0 := nL c25
               clear c25
               have H' := aM H
               clear H
               have p104 : 0 ≤ (x24_2 : Int) := of_decide_eq_true z1200
               have q104 : x24_2 < (l0_1.length : Int) := of_decide_eq_true z1200
               obtain ⟨ad104, e104, hx104_0, hx104_1⟩ := at_T123 HR0_1.out x24_2 p104 q104
               cases e104
               replace hx104_0 := (HB.out.cell (World.block_lt_of_cell? w _ hx104_0)).trans hx104_0
               replace hx104_1 := (HB.out.cell (World.block_lt_of_cell? w _ hx104_1)).trans hx104_1
               replace p104 := eq_true p104
               replace q104 := eq_true q104
               try go_wp2_with (first | ((with_reducible refine gate_dst (N := 4) rfl ?_); (try (refine gate_guard (by rfl) ?_; dsimp only)); refine bX 4 123 #[.string (⟨#[]⟩ : ByteArray), .string (⟨#[]⟩ : ByteArray)] ?_; intro gb105 hg w44 hbox hb; have _ := bB gb101 hb; have _ := aM (below_step hbZ hb); have _ := aM hbox; have _ := szZ hg; have _ := szZ hg; have ⟨_, _⟩ := nbB gb101 hg; clear BK101 HB; rename_i BK101 HB BK105 GW105 GE105 NB101_105 NB105_101; clear hb hbox hg; have hnb45 := NB105_101.out; have hnc45 := NB101_105.out; have hz46 := cellsZ2 BK105.out))
               have n0_ : Aside0 (((w44.setCell ⟨gb105, 0, none⟩ (.string ((rd_T123 l0_1 x24_2).f0))).setCell ⟨gb105, 1, none⟩ (.string ((rd_T123 l0_1 x24_2).f1))).heap[gb101]? = some (.cells #[.string a0_0, .slice (some ad104) l0_1.length c0_1, .int .i64 a0_2] 32 (0, 0))) := ⟨bkZ⟩
               have n1_ : Aside0 (((w44.setCell ⟨gb105, 0, none⟩ (.string ((rd_T123 l0_1 x24_2).f0))).setCell ⟨gb105, 1, none⟩ (.string ((rd_T123 l0_1 x24_2).f1))).heap[gb105]? = some (.cells #[.string ((rd_T123 l0_1 x24_2).f0), .string ((rd_T123 l0_1 x24_2).f1)] 123 (0, 0))) := ⟨bkZ⟩
               have n2_ : Aside0 (Below w.heap.size w ((w44.setCell ⟨gb105, 0, none⟩ (.string ((rd_T123 l0_1 x24_2).f0))).setCell ⟨gb105, 1, none⟩ (.string ((rd_T123 l0_1 x24_2).f1)))) := ⟨zcb41⟩
               (try clear BK101); (try clear BK105); (try clear HB)
               generalize ((w44.setCell ⟨gb105, 0, none⟩ (.string ((rd_T123 l0_1 x24_2).f0))).setCell ⟨gb105, 1, none⟩ (.string ((rd_T123 l0_1 x24_2).f1))) = w47 at n0_ n1_ n2_ ⊢
               have BK101 := n0_
               have BK105 := n1_
               have HB := n2_
               clear n0_ n1_ n2_
               have _ := aM (blk_drew BK101.out)
               have _ := aM (blk_drew BK105.out)
               have _ := aM (below_drew1 HB.out)
               clear BK101
               clear BK105
               clear HB
               rename_i BK101 BK105 HB
               refine sA 26 impl_GoodKey.tab6 impl_GoodKey.bits6 (fun w' => w'.cell? ⟨gb105, 0, none⟩ = some (.string ((rd_T123 l0_1 x24_2).f0)) ∧ w'.cell? ⟨gb105, 1, none⟩ = some (.string ((rd_T123 l0_1 x24_2).f1))) [] (fun hHeld HT_ HW_ => ?_)
               generalize w47.drew = w48 at BK101 BK105 HB hHeld ⊢
               refine pA 0 29 HT_ ?_; refine tA 1 30 HT_ HW_ hHeld ?_; refine oA 2 31 HT_ (fun K hK => ?_)
               refine goes_ Tryd.func92 (by kernel_rfl) rfl #[.string ((rd_T123 l0_1 x24_2).f0)] (by rfl) rfl rfl zee81 ?_
               with_reducible refine (impl_isName.calls ((rd_T123 l0_1 x24_2).f0) true _ A21.out).mono ?_
               rintro e w49 ⟨rfl, hb⟩
               refine ⟨_, rfl, ?_⟩
               have _ := bB gb101 hb
               have _ := bB gb105 hb
               have _ := aM (below_step hbZ hb)
               clear BK101
               clear BK105
               clear HB
               rename_i BK101 BK105 HB
               (try clear hb)
               refine hK.out _ _ sZ (fun hHeld => ?_)
               clear hK K
               refine nA 31 ?_; refine pA 3 32 HT_ ?_; refine pA 4 33 HT_ ?_; refine pA 5 34 HT_ ?_; refine tA 6 35 HT_ HW_ hHeld ?_; refine oA 7 36 HT_ (fun K hK => ?_)
               refine goes_ Tryd.func92 (by kernel_rfl) rfl #[.string ((rd_T123 l0_1 x24_2).f1)] (by rfl) rfl rfl zee81 ?_
               with_reducible refine (impl_isName.calls ((rd_T123 l0_1 x24_2).f1) true _ A23.out).mono ?_
               rintro e w50 ⟨rfl, hb⟩
               refine ⟨_, rfl, ?_⟩
               have _ := bB gb101 hb
               have _ := bB gb105 hb
               have _ := aM (below_step hbZ hb)
               clear BK101
               clear BK105
               clear HB
               rename_i BK101 BK105 HB
               (try clear hb)
               refine hK.out _ _ sZ (fun hHeld => ?_)
               clear hK K
               refine nA 36 ?_; refine pA 8 37 HT_ ?_; refine pA 9 38 HT_ ?_; refine pA 10 39 HT_ ?_; refine pA 11 40 HT_ ?_; refine pA 12 41 HT_ ?_; refine pA 13 42 HT_ ?_; refine uA 14 43 HT_ ?_; refine uA 15 44 HT_ ?_; refine uA 16 45 HT_ ?_; refine uA 17 46 HT_ ?_; refine uA 18 47 HT_ ?_; refine uA 19 48 HT_ ?_; refine uA 20 49 HT_ ?_; refine uA 21 50 HT_ ?_; refine uA 22 51 HT_ ?_; refine uA 23 52 HT_ ?_; refine pA 24 53 HT_ ?_; refine pA 25 54 HT_ ?_
               refine done_ (done_of HT_.out (by kernel_rfl)) ?_
               try go_wp2
               go_roundg k2
               case measure => have := HJ1.out; have := HK2.out; omega
               case rel => exact ⟨(wrap64 (x24_2 + 1)), z4458, H', ⟨by have := HJ1.out; have := HK2.out; omega⟩, ⟨bkZ⟩, ⟨zcb41⟩⟩
           · replace c24 := Bool.eq_false_iff.mpr c24
             subst c24
             rw [if_neg (show ¬ (false = true) by decide)] at H
             obtain rfl := Option.some.inj H
             have p104 : 0 ≤ (x24_2 : Int) := of_decide_eq_true z1200
             have q104 : x24_2 < (l0_1.length : Int) := of_decide_eq_true z1200
             obtain ⟨ad104, e104, hx104_0, hx104_1⟩ := at_T123 HR0_1.out x24_2 p104 q104
             cases e104
             replace hx104_0 := (HB.out.cell (World.block_lt_of_cell? w _ hx104_0)).trans hx104_0
             replace hx104_1 := (HB.out.cell (World.block_lt_of_cell? w _ hx104_1)).trans hx104_1
             replace p104 := eq_true p104
             replace q104 := eq_true q104
             try go_wp2_with (first | ((with_reducible refine gate_dst (N := 4) rfl ?_); (try (refine gate_guard (by rfl) ?_; dsimp only)); refine bX 4 123 #[.string (⟨#[]⟩ : ByteArray), .string (⟨#[]⟩ : ByteArray)] ?_; intro gb105 hg w51 hbox hb; have _ := bB gb101 hb; have _ := aM (below_step hbZ hb); have _ := aM hbox; have _ := szZ hg; have _ := szZ hg; have ⟨_, _⟩ := nbB gb101 hg; clear BK101 HB; rename_i BK101 HB BK105 GW105 GE105 NB101_105 NB105_101; clear hb hbox hg; have hnb52 := NB105_101.out; have hnc52 := NB101_105.out; have hz53 := cellsZ2 BK105.out))
             have n0_ : Aside0 (((w51.setCell ⟨gb105, 0, none⟩ (.string ((rd_T123 l0_1 x24_2).f0))).setCell ⟨gb105, 1, none⟩ (.string ((rd_T123 l0_1 x24_2).f1))).heap[gb101]? = some (.cells #[.string a0_0, .slice (some ad104) l0_1.length c0_1, .int .i64 a0_2] 32 (0, 0))) := ⟨bkZ⟩
             have n1_ : Aside0 (((w51.setCell ⟨gb105, 0, none⟩ (.string ((rd_T123 l0_1 x24_2).f0))).setCell ⟨gb105, 1, none⟩ (.string ((rd_T123 l0_1 x24_2).f1))).heap[gb105]? = some (.cells #[.string ((rd_T123 l0_1 x24_2).f0), .string ((rd_T123 l0_1 x24_2).f1)] 123 (0, 0))) := ⟨bkZ⟩
             have n2_ : Aside0 (Below w.heap.size w ((w51.setCell ⟨gb105, 0, none⟩ (.string ((rd_T123 l0_1 x24_2).f0))).setCell ⟨gb105, 1, none⟩ (.string ((rd_T123 l0_1 x24_2).f1)))) := ⟨zcb41⟩
             (try clear BK101); (try clear BK105); (try clear HB)
             generalize ((w51.setCell ⟨gb105, 0, none⟩ (.string ((rd_T123 l0_1 x24_2).f0))).setCell ⟨gb105, 1, none⟩ (.string ((rd_T123 l0_1 x24_2).f1))) = w54 at n0_ n1_ n2_ ⊢
             have BK101 := n0_
             have BK105 := n1_
             have HB := n2_
             clear n0_ n1_ n2_
             have _ := aM (blk_drew BK101.out)
             have _ := aM (blk_drew BK105.out)
             have _ := aM (below_drew1 HB.out)
             clear BK101
             clear BK105
             clear HB
             rename_i BK101 BK105 HB
             refine sA 26 impl_GoodKey.tab6 impl_GoodKey.bits6 (fun w' => w'.cell? ⟨gb105, 0, none⟩ = some (.string ((rd_T123 l0_1 x24_2).f0)) ∧ w'.cell? ⟨gb105, 1, none⟩ = some (.string ((rd_T123 l0_1 x24_2).f1))) [] (fun hHeld HT_ HW_ => ?_)
             generalize w54.drew = w55 at BK101 BK105 HB hHeld ⊢
             refine pA 0 29 HT_ ?_; refine tA 1 30 HT_ HW_ hHeld ?_; refine oA 2 31 HT_ (fun K hK => ?_)
             refine goes_ Tryd.func92 (by kernel_rfl) rfl #[.string ((rd_T123 l0_1 x24_2).f0)] (by rfl) rfl rfl zee81 ?_
             with_reducible refine (impl_isName.calls ((rd_T123 l0_1 x24_2).f0) true _ A21.out).mono ?_
             rintro e w56 ⟨rfl, hb⟩
             refine ⟨_, rfl, ?_⟩
             have _ := bB gb101 hb
             have _ := bB gb105 hb
             have _ := aM (below_step hbZ hb)
             clear BK101
             clear BK105
             clear HB
             rename_i BK101 BK105 HB
             (try clear hb)
             refine hK.out _ _ sZ (fun hHeld => ?_)
             clear hK K
             refine nA 31 ?_; refine pA 3 32 HT_ ?_; refine pA 4 33 HT_ ?_; refine pA 5 34 HT_ ?_; refine tA 6 35 HT_ HW_ hHeld ?_; refine oA 7 36 HT_ (fun K hK => ?_)
             refine goes_ Tryd.func92 (by kernel_rfl) rfl #[.string ((rd_T123 l0_1 x24_2).f1)] (by rfl) rfl rfl zee81 ?_
             with_reducible refine (impl_isName.calls ((rd_T123 l0_1 x24_2).f1) false _ A23.out).mono ?_
             rintro e w57 ⟨rfl, hb⟩
             refine ⟨_, rfl, ?_⟩
             have _ := bB gb101 hb
             have _ := bB gb105 hb
             have _ := aM (below_step hbZ hb)
             clear BK101
             clear BK105
             clear HB
             rename_i BK101 BK105 HB
             (try clear hb)
             refine hK.out _ _ sZ (fun hHeld => ?_)
             clear hK K
             refine nA 36 ?_; refine pA 8 37 HT_ ?_; refine pA 9 38 HT_ ?_; refine pA 10 39 HT_ ?_; refine uA 11 40 HT_ ?_; refine uA 12 41 HT_ ?_; refine uA 13 42 HT_ ?_; refine uA 14 43 HT_ ?_; refine uA 15 44 HT_ ?_; refine uA 16 45 HT_ ?_; refine uA 17 46 HT_ ?_; refine uA 18 47 HT_ ?_; refine uA 19 48 HT_ ?_; refine uA 20 49 HT_ ?_; refine uA 21 50 HT_ ?_; refine uA 22 51 HT_ ?_; refine uA 23 52 HT_ ?_; refine uA 24 53 HT_ ?_; refine pA 25 54 HT_ ?_
             refine done_ (done_of HT_.out (by kernel_rfl)) ?_
             try go_wp2
             go_ret
             exact ⟨z674d, zcb41⟩
         · replace c22 := Bool.eq_false_iff.mpr c22
           subst c22
           rw [if_neg (show ¬ (false = true) by decide)] at H
           obtain rfl := Option.some.inj H
           have p104 : 0 ≤ (x24_2 : Int) := of_decide_eq_true z1200
           have q104 : x24_2 < (l0_1.length : Int) := of_decide_eq_true z1200
           obtain ⟨ad104, e104, hx104_0, hx104_1⟩ := at_T123 HR0_1.out x24_2 p104 q104
           cases e104
           replace hx104_0 := (HB.out.cell (World.block_lt_of_cell? w _ hx104_0)).trans hx104_0
           replace hx104_1 := (HB.out.cell (World.block_lt_of_cell? w _ hx104_1)).trans hx104_1
           replace p104 := eq_true p104
           replace q104 := eq_true q104
           try go_wp2_with (first | ((with_reducible refine gate_dst (N := 4) rfl ?_); (try (refine gate_guard (by rfl) ?_; dsimp only)); refine bX 4 123 #[.string (⟨#[]⟩ : ByteArray), .string (⟨#[]⟩ : ByteArray)] ?_; intro gb105 hg w58 hbox hb; have _ := bB gb101 hb; have _ := aM (below_step hbZ hb); have _ := aM hbox; have _ := szZ hg; have _ := szZ hg; have ⟨_, _⟩ := nbB gb101 hg; clear BK101 HB; rename_i BK101 HB BK105 GW105 GE105 NB101_105 NB105_101; clear hb hbox hg; have hnb59 := NB105_101.out; have hnc59 := NB101_105.out; have hz60 := cellsZ2 BK105.out))
           have n0_ : Aside0 (((w58.setCell ⟨gb105, 0, none⟩ (.string ((rd_T123 l0_1 x24_2).f0))).setCell ⟨gb105, 1, none⟩ (.string ((rd_T123 l0_1 x24_2).f1))).heap[gb101]? = some (.cells #[.string a0_0, .slice (some ad104) l0_1.length c0_1, .int .i64 a0_2] 32 (0, 0))) := ⟨bkZ⟩
           have n1_ : Aside0 (((w58.setCell ⟨gb105, 0, none⟩ (.string ((rd_T123 l0_1 x24_2).f0))).setCell ⟨gb105, 1, none⟩ (.string ((rd_T123 l0_1 x24_2).f1))).heap[gb105]? = some (.cells #[.string ((rd_T123 l0_1 x24_2).f0), .string ((rd_T123 l0_1 x24_2).f1)] 123 (0, 0))) := ⟨bkZ⟩
           have n2_ : Aside0 (Below w.heap.size w ((w58.setCell ⟨gb105, 0, none⟩ (.string ((rd_T123 l0_1 x24_2).f0))).setCell ⟨gb105, 1, none⟩ (.string ((rd_T123 l0_1 x24_2).f1)))) := ⟨zcb41⟩
           (try clear BK101); (try clear BK105); (try clear HB)
           generalize ((w58.setCell ⟨gb105, 0, none⟩ (.string ((rd_T123 l0_1 x24_2).f0))).setCell ⟨gb105, 1, none⟩ (.string ((rd_T123 l0_1 x24_2).f1))) = w61 at n0_ n1_ n2_ ⊢
           have BK101 := n0_
           have BK105 := n1_
           have HB := n2_
           clear n0_ n1_ n2_
           have _ := aM (blk_drew BK101.out)
           have _ := aM (blk_drew BK105.out)
           have _ := aM (below_drew1 HB.out)
           clear BK101
           clear BK105
           clear HB
           rename_i BK101 BK105 HB
           refine sA 26 impl_GoodKey.tab6 impl_GoodKey.bits6 (fun w' => w'.cell? ⟨gb105, 0, none⟩ = some (.string ((rd_T123 l0_1 x24_2).f0)) ∧ w'.cell? ⟨gb105, 1, none⟩ = some (.string ((rd_T123 l0_1 x24_2).f1))) [] (fun hHeld HT_ HW_ => ?_)
           generalize w61.drew = w62 at BK101 BK105 HB hHeld ⊢
           refine pA 0 29 HT_ ?_; refine tA 1 30 HT_ HW_ hHeld ?_; refine oA 2 31 HT_ (fun K hK => ?_)
           refine goes_ Tryd.func92 (by kernel_rfl) rfl #[.string ((rd_T123 l0_1 x24_2).f0)] (by rfl) rfl rfl zee81 ?_
           with_reducible refine (impl_isName.calls ((rd_T123 l0_1 x24_2).f0) false _ A21.out).mono ?_
           rintro e w63 ⟨rfl, hb⟩
           refine ⟨_, rfl, ?_⟩
           have _ := bB gb101 hb
           have _ := bB gb105 hb
           have _ := aM (below_step hbZ hb)
           clear BK101
           clear BK105
           clear HB
           rename_i BK101 BK105 HB
           (try clear hb)
           refine hK.out _ _ sZ (fun hHeld => ?_)
           clear hK K
           refine nA 31 ?_; refine pA 3 32 HT_ ?_; refine pA 4 33 HT_ ?_; refine uA 5 34 HT_ ?_; refine uA 6 35 HT_ ?_; refine uA 7 36 HT_ ?_; refine uA 8 37 HT_ ?_; refine pA 9 38 HT_ ?_; refine pA 10 39 HT_ ?_; refine uA 11 40 HT_ ?_; refine uA 12 41 HT_ ?_; refine uA 13 42 HT_ ?_; refine uA 14 43 HT_ ?_; refine uA 15 44 HT_ ?_; refine uA 16 45 HT_ ?_; refine uA 17 46 HT_ ?_; refine uA 18 47 HT_ ?_; refine uA 19 48 HT_ ?_; refine uA 20 49 HT_ ?_; refine uA 21 50 HT_ ?_; refine uA 22 51 HT_ ?_; refine uA 23 52 HT_ ?_; refine uA 24 53 HT_ ?_; refine pA 25 54 HT_ ?_
           refine done_ (done_of HT_.out (by kernel_rfl)) ?_
           try go_wp2
           go_ret
           exact ⟨z674d, zcb41⟩
       · rw [if_neg c18] at H
         have c18b0 := nL c18
         clear c18
         obtain rfl := Option.some.inj H
         go_wp2
         go_ret
         exact ⟨z674d, zcb41⟩

end Go.Proofs.YtkgmoajdcibafaaDoor.P

-- written by a program of this session's (wip/pp)
namespace Go.Proofs.YtkgmoajdcibafaaDoor.P
open Go.RowKit Go.Proofs.YtkgmoajdcibafaaDoorW.PrintWords Go.Proofs.YtkgmoajdcibafaaDoorW.PrintLast Go.Proofs.YtkgmoajdcibafaaDoorW.PrintMore
attribute [local go_sem] max2_int min2_int max_two min_two max_three min_three max_four min_four str_geq str_gtr str_leq   -- for this text's walks alone
set_option linter.unusedVariables false
set_option linter.unusedSimpArgs false

/-! ### impl_isTime: function 60 -/
def impl_isTime.f (a0 : Int) : Option (Bool) := (impl_within.f a0 0 1000000000).bind fun t101 => (some t101)
set_option maxHeartbeats 8000000 in
set_option maxRecDepth 100000 in
theorem impl_isTime.calls (a0 : Int) (r : Bool) (w : World) (h : impl_isTime.f a0 = some r) :
 Calls Tryd.prog 60 #[.int .i64 a0] w fun e w' => e = .returned (.bool r) ∧ Drawn0 w w' := by
 have H : ((impl_within.f a0 0 1000000000).bind fun t101 => (some t101)) = some r := h
 clear h
 obtain ⟨t101, A2, H⟩ := bS H; try dsimp only at H
 obtain rfl := Option.some.inj H
 go_enter Tryd.func60, Tryd.ntmps60
 go_wp2_with (first | ((with_reducible refine gate_callee (f := 90) rfl ?_); refine gL 4 Tryd.func90 #[.int .i64 a0, .int .i64 0, .int .i64 1000000000] ?_; (with_reducible refine (impl_within.calls a0 0 1000000000 t101 _ A2.out).mono ?_); rintro e w' ⟨rfl, ⟨nd, rfl⟩⟩; refine ⟨_, rfl, ?_⟩))
 go_ret
 exact ⟨z4458, za9de⟩

end Go.Proofs.YtkgmoajdcibafaaDoor.P

-- written by a program of this session's (wip/pp)
namespace Go.Proofs.YtkgmoajdcibafaaDoor.P
open Go.RowKit Go.Proofs.YtkgmoajdcibafaaDoorW.PrintWords Go.Proofs.YtkgmoajdcibafaaDoorW.PrintLast Go.Proofs.YtkgmoajdcibafaaDoorW.PrintMore
attribute [local go_sem] max2_int min2_int max_two min_two max_three min_three max_four min_four str_geq str_gtr str_leq   -- for this text's walks alone
set_option linter.unusedVariables false
set_option linter.unusedSimpArgs false

/-! ### cmp_Or_int: function 104 -/
def cmp_Or_int.l0 : Nat → Int → List Int → Int → Int → Option (Int)
 | 0, _, _, _, _ => none
 | k + 1, x3, x6, x7, x8 => if x8 < x7 then (if 0 ≤ x8 then (if x8 < (x6.length : Int) then (if (rd x6 x8) = x3 then (cmp_Or_int.l0 k x3 x6 x7 (wrap64 (x8 + 1))) else (some (rd x6 x8))) else (none)) else (none)) else (some x3)
def cmp_Or_int.f (k : Nat) (l0 : List Int) : Option (Int) := cmp_Or_int.l0 k 0 l0 (l0.length : Int) 0
theorem cmp_Or_int.mono_l : ∀ k, (∀ y0 y1 y2 y3, LeO (cmp_Or_int.l0 k y0 y1 y2 y3) (cmp_Or_int.l0 (k + 1) y0 y1 y2 y3))
 | 0 => fun _ _ _ _ r h => by simp [cmp_Or_int.l0] at h
 | k + 1 => by
  have ih0 := cmp_Or_int.mono_l k
  · intro y0 y1 y2 y3
    unfold cmp_Or_int.l0
    exact moZ
theorem cmp_Or_int.mono : ∀ a0 k, LeO (cmp_Or_int.f k a0) (cmp_Or_int.f (k + 1) a0) := by
 intro a0 k
 have ih0 := cmp_Or_int.mono_l k
 unfold cmp_Or_int.f
 exact moZ
set_option maxHeartbeats 8000000 in
set_option maxRecDepth 100000 in
theorem cmp_Or_int.calls (k : Nat) (A0 : Option Addr) (c0 : Nat) (l0 : List Int) (r : Int) (w : World) (hr0 : Kd.C (Kd.int .i64) w A0 l0.length l0) (hc0 : l0.length ≤ c0) (h : cmp_Or_int.f k l0 = some r) :
 Calls Tryd.prog 104 #[.slice A0 l0.length c0] w fun e w' => e = .returned (.int .i64 r) ∧ Drawn0 w w' := by
 have HR0 := aM hr0
 have HC0 := aM hc0
 clear hr0 hc0
 have H : (cmp_Or_int.l0 k 0 l0 (l0.length : Int) 0) = some r := h
 clear h
 have H' := aM H
 clear H
 go_enter Tryd.func104, Tryd.ntmps104
 go_wp2
 go_loopg [8] k (fun kq v8 w' => ∃ (x8_1 : Int), v8 = .int .i64 x8_1 ∧ Aside0 (cmp_Or_int.l0 kq 0 l0 (l0.length : Int) x8_1 = some r) ∧ Aside0 (kq ≤ k) ∧ Drawn0 w w')
 case atStart => exact ⟨(0), z4458, H', ⟨Nat.le_refl _⟩, za9de⟩
 case round =>
  clear H'
  obtain ⟨x8_1, rfl, HA, HK1, ⟨m1, rfl⟩⟩ := hrel
  cases gk with
  | zero => exact absurd HA.out (by simp [cmp_Or_int.l0])
  | succ k1 =>
   have H := HA.out
   clear HA
   simp only [cmp_Or_int.l0] at H
   by_cases c2 : x8_1 < (l0.length : Int)
   · rw [if_pos c2] at H
     have c2b0 := dL c2
     clear c2
     obtain ⟨c3b0, H⟩ := sE H
     obtain ⟨c4b0, H⟩ := sL H
     by_cases c5 : (rd l0 x8_1) = 0
     · rw [if_pos c5] at H
       have c5b0 : ((rd l0 x8_1) == 0) = true := beq_iff_eq.mpr c5
       have c5b1 : ((rd l0 x8_1) != 0) = false := bne_eq_false_iff_eq.mpr c5
       clear c5
       have H' := aM H
       clear H
       have p101 : 0 ≤ (x8_1 : Int) := of_decide_eq_true z1200
       have q101 : x8_1 < (l0.length : Int) := of_decide_eq_true z1200
       obtain ⟨ad101, e101, hx101_0⟩ := Kd.at_int HR0.out x8_1 p101 q101
       cases e101
       replace p101 := eq_true p101
       replace q101 := eq_true q101
       go_wp2
       go_roundg k1
       case measure => have := HK1.out; omega
       case rel => exact ⟨(wrap64 (x8_1 + 1)), z4458, H', ⟨zfb39⟩, za9de⟩
     · rw [if_neg c5] at H
       have c5b0 := eqN c5
       obtain rfl := Option.some.inj H
       have p101 : 0 ≤ (x8_1 : Int) := of_decide_eq_true z1200
       have q101 : x8_1 < (l0.length : Int) := of_decide_eq_true z1200
       obtain ⟨ad101, e101, hx101_0⟩ := Kd.at_int HR0.out x8_1 p101 q101
       cases e101
       replace p101 := eq_true p101
       replace q101 := eq_true q101
       go_wp2
       go_ret
       exact ⟨z4458, za9de⟩
   · rw [if_neg c2] at H
     have c2b0 := nL c2
     clear c2
     obtain rfl := Option.some.inj H
     go_wp2
     go_ret
     exact ⟨z4458, za9de⟩

end Go.Proofs.YtkgmoajdcibafaaDoor.P

-- written by a program of this session's (wip/pp)
namespace Go.Proofs.YtkgmoajdcibafaaDoor.P
open Go.RowKit Go.Proofs.YtkgmoajdcibafaaDoorW.PrintWords Go.Proofs.YtkgmoajdcibafaaDoorW.PrintLast Go.Proofs.YtkgmoajdcibafaaDoorW.PrintMore
attribute [local go_sem] max2_int min2_int max_two min_two max_three min_three max_four min_four str_geq str_gtr str_leq   -- for this text's walks alone
set_option linter.unusedVariables false
set_option linter.unusedSimpArgs false

/-! ### cmp_isNaN_string: function 115 -/
def cmp_isNaN_string.f (a0 : ByteArray) : Option (Bool) := some (a0.toList != a0.toList)
set_option maxHeartbeats 8000000 in
set_option maxRecDepth 100000 in
theorem cmp_isNaN_string.calls (a0 : ByteArray) (r : Bool) (w : World) (h : cmp_isNaN_string.f a0 = some r) :
 Calls Tryd.prog 115 #[.string a0] w fun e w' => e = .returned (.bool r) ∧ Drawn0 w w' := by
 have H : (some (a0.toList != a0.toList)) = some r := h
 clear h
 obtain rfl := Option.some.inj H
 go_enter Tryd.func115, Tryd.ntmps115
 go_wp2
 go_ret
 exact ⟨z4458, za9de⟩

end Go.Proofs.YtkgmoajdcibafaaDoor.P

-- written by a program of this session's (wip/pp)
namespace Go.Proofs.YtkgmoajdcibafaaDoor.P
open Go.RowKit Go.Proofs.YtkgmoajdcibafaaDoorW.PrintWords Go.Proofs.YtkgmoajdcibafaaDoorW.PrintLast Go.Proofs.YtkgmoajdcibafaaDoorW.PrintMore
attribute [local go_sem] max2_int min2_int max_two min_two max_three min_three max_four min_four str_geq str_gtr str_leq   -- for this text's walks alone
set_option linter.unusedVariables false
set_option linter.unusedSimpArgs false

/-! ### cmp_Compare_string: function 105 -/
def cmp_Compare_string.f (a0 : ByteArray) (a1 : ByteArray) : Option (Int) := (cmp_isNaN_string.f a0).bind fun t101 => ((cmp_isNaN_string.f a1).bind fun t102 => (if t101 = true then (if t102 = true then (some 0) else (some (-1))) else (if t102 = true then (some 1) else (if (Op.bytesLess a0.toList a1.toList) = true then (some (-1)) else (if (Op.bytesLess a1.toList a0.toList) = true then (some 1) else (some 0))))))
set_option maxHeartbeats 8000000 in
set_option maxRecDepth 100000 in
theorem cmp_Compare_string.calls (a0 : ByteArray) (a1 : ByteArray) (r : Int) (w : World) (h : cmp_Compare_string.f a0 a1 = some r) :
 Calls Tryd.prog 105 #[.string a0, .string a1] w fun e w' => e = .returned (.int .i64 r) ∧ Drawn0 w w' := by
 have H : ((cmp_isNaN_string.f a0).bind fun t101 => ((cmp_isNaN_string.f a1).bind fun t102 => (if t101 = true then (if t102 = true then (some 0) else (some (-1))) else (if t102 = true then (some 1) else (if (Op.bytesLess a0.toList a1.toList) = true then (some (-1)) else (if (Op.bytesLess a1.toList a0.toList) = true then (some 1) else (some 0))))))) = some r := h
 clear h
 obtain ⟨t101, A3, H⟩ := bS H; try dsimp only at H
 obtain ⟨t102, A4, H⟩ := bS H; try dsimp only at H
 by_cases c5 : t101 = true
 · subst c5
   rw [if_pos rfl] at H
   by_cases c6 : t102 = true
   · subst c6
     rw [if_pos rfl] at H
     obtain rfl := Option.some.inj H
     go_enter Tryd.func105, Tryd.ntmps105
     go_wp2_with (first | ((with_reducible refine gate_callee (f := 115) rfl ?_); refine gL 8 Tryd.func115 #[.string a0] ?_; (with_reducible refine (cmp_isNaN_string.calls a0 true _ A3.out).mono ?_); rintro e w' ⟨rfl, ⟨nd, rfl⟩⟩; refine ⟨_, rfl, ?_⟩) | ((with_reducible refine gate_callee (f := 115) rfl ?_); refine gL 10 Tryd.func115 #[.string a1] ?_; (with_reducible refine (cmp_isNaN_string.calls a1 true _ A4.out).mono ?_); rintro e w' ⟨rfl, ⟨nd, rfl⟩⟩; refine ⟨_, rfl, ?_⟩))
     go_ret
     exact ⟨z4458, za9de⟩
   · replace c6 := Bool.eq_false_iff.mpr c6
     subst c6
     rw [if_neg (show ¬ (false = true) by decide)] at H
     obtain rfl := Option.some.inj H
     go_enter Tryd.func105, Tryd.ntmps105
     go_wp2_with (first | ((with_reducible refine gate_callee (f := 115) rfl ?_); refine gL 8 Tryd.func115 #[.string a0] ?_; (with_reducible refine (cmp_isNaN_string.calls a0 true _ A3.out).mono ?_); rintro e w' ⟨rfl, ⟨nd, rfl⟩⟩; refine ⟨_, rfl, ?_⟩) | ((with_reducible refine gate_callee (f := 115) rfl ?_); refine gL 10 Tryd.func115 #[.string a1] ?_; (with_reducible refine (cmp_isNaN_string.calls a1 false _ A4.out).mono ?_); rintro e w' ⟨rfl, ⟨nd, rfl⟩⟩; refine ⟨_, rfl, ?_⟩))
     go_ret
     exact ⟨z4458, za9de⟩
 · replace c5 := Bool.eq_false_iff.mpr c5
   subst c5
   rw [if_neg (show ¬ (false = true) by decide)] at H
   by_cases c7 : t102 = true
   · subst c7
     rw [if_pos rfl] at H
     obtain rfl := Option.some.inj H
     go_enter Tryd.func105, Tryd.ntmps105
     go_wp2_with (first | ((with_reducible refine gate_callee (f := 115) rfl ?_); refine gL 8 Tryd.func115 #[.string a0] ?_; (with_reducible refine (cmp_isNaN_string.calls a0 false _ A3.out).mono ?_); rintro e w' ⟨rfl, ⟨nd, rfl⟩⟩; refine ⟨_, rfl, ?_⟩) | ((with_reducible refine gate_callee (f := 115) rfl ?_); refine gL 10 Tryd.func115 #[.string a1] ?_; (with_reducible refine (cmp_isNaN_string.calls a1 true _ A4.out).mono ?_); rintro e w' ⟨rfl, ⟨nd, rfl⟩⟩; refine ⟨_, rfl, ?_⟩))
     go_ret
     exact ⟨z4458, za9de⟩
   · replace c7 := Bool.eq_false_iff.mpr c7
     subst c7
     rw [if_neg (show ¬ (false = true) by decide)] at H
     by_cases c8 : (Op.bytesLess a0.toList a1.toList) = true
     · rw [if_pos c8] at H
       have c8b0 : (Op.bytesLess a0.toList a1.toList) = true := c8
       clear c8
       obtain rfl := Option.some.inj H
       go_enter Tryd.func105, Tryd.ntmps105
       go_wp2_with (first | ((with_reducible refine gate_callee (f := 115) rfl ?_); refine gL 8 Tryd.func115 #[.string a0] ?_; (with_reducible refine (cmp_isNaN_string.calls a0 false _ A3.out).mono ?_); rintro e w' ⟨rfl, ⟨nd, rfl⟩⟩; refine ⟨_, rfl, ?_⟩) | ((with_reducible refine gate_callee (f := 115) rfl ?_); refine gL 10 Tryd.func115 #[.string a1] ?_; (with_reducible refine (cmp_isNaN_string.calls a1 false _ A4.out).mono ?_); rintro e w' ⟨rfl, ⟨nd, rfl⟩⟩; refine ⟨_, rfl, ?_⟩))
       go_ret
       exact ⟨z4458, za9de⟩
     · rw [if_neg c8] at H
       have c8b0 : (Op.bytesLess a0.toList a1.toList) = false := by simpa using c8
       clear c8
       by_cases c9 : (Op.bytesLess a1.toList a0.toList) = true
       · rw [if_pos c9] at H
         have c9b0 : (Op.bytesLess a1.toList a0.toList) = true := c9
         clear c9
         obtain rfl := Option.some.inj H
         go_enter Tryd.func105, Tryd.ntmps105
         go_wp2_with (first | ((with_reducible refine gate_callee (f := 115) rfl ?_); refine gL 8 Tryd.func115 #[.string a0] ?_; (with_reducible refine (cmp_isNaN_string.calls a0 false _ A3.out).mono ?_); rintro e w' ⟨rfl, ⟨nd, rfl⟩⟩; refine ⟨_, rfl, ?_⟩) | ((with_reducible refine gate_callee (f := 115) rfl ?_); refine gL 10 Tryd.func115 #[.string a1] ?_; (with_reducible refine (cmp_isNaN_string.calls a1 false _ A4.out).mono ?_); rintro e w' ⟨rfl, ⟨nd, rfl⟩⟩; refine ⟨_, rfl, ?_⟩))
         go_ret
         exact ⟨z4458, za9de⟩
       · rw [if_neg c9] at H
         have c9b0 : (Op.bytesLess a1.toList a0.toList) = false := by simpa using c9
         clear c9
         obtain rfl := Option.some.inj H
         go_enter Tryd.func105, Tryd.ntmps105
         go_wp2_with (first | ((with_reducible refine gate_callee (f := 115) rfl ?_); refine gL 8 Tryd.func115 #[.string a0] ?_; (with_reducible refine (cmp_isNaN_string.calls a0 false _ A3.out).mono ?_); rintro e w' ⟨rfl, ⟨nd, rfl⟩⟩; refine ⟨_, rfl, ?_⟩) | ((with_reducible refine gate_callee (f := 115) rfl ?_); refine gL 10 Tryd.func115 #[.string a1] ?_; (with_reducible refine (cmp_isNaN_string.calls a1 false _ A4.out).mono ?_); rintro e w' ⟨rfl, ⟨nd, rfl⟩⟩; refine ⟨_, rfl, ?_⟩))
         go_ret
         exact ⟨z4458, za9de⟩

end Go.Proofs.YtkgmoajdcibafaaDoor.P

-- written by a program of this session's (wip/pp)
namespace Go.Proofs.YtkgmoajdcibafaaDoor.P
open Go.RowKit Go.Proofs.YtkgmoajdcibafaaDoorW.PrintWords Go.Proofs.YtkgmoajdcibafaaDoorW.PrintLast Go.Proofs.YtkgmoajdcibafaaDoorW.PrintMore
attribute [local go_sem] max2_int min2_int max_two min_two max_three min_three max_four min_four str_geq str_gtr str_leq   -- for this text's walks alone
set_option linter.unusedVariables false
set_option linter.unusedSimpArgs false

/-! ### cmp_isNaN_int: function 116 -/
def cmp_isNaN_int.f (a0 : Int) : Option (Bool) := some (a0 != a0)
set_option maxHeartbeats 8000000 in
set_option maxRecDepth 100000 in
theorem cmp_isNaN_int.calls (a0 : Int) (r : Bool) (w : World) (h : cmp_isNaN_int.f a0 = some r) :
 Calls Tryd.prog 116 #[.int .i64 a0] w fun e w' => e = .returned (.bool r) ∧ Drawn0 w w' := by
 have H : (some (a0 != a0)) = some r := h
 clear h
 obtain rfl := Option.some.inj H
 go_enter Tryd.func116, Tryd.ntmps116
 go_wp2
 go_ret
 exact ⟨z4458, za9de⟩

end Go.Proofs.YtkgmoajdcibafaaDoor.P
