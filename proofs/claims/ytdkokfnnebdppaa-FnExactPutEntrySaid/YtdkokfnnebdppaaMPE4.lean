/- Part 4 of the walks and words that PE uses. No conditions of its own. -/
import Derived.Shelf.Small.Bits
import Derived.Shelf.Small.Wraps
import Derived.Shelf.Strconv.Itoa0
import Derived.Shelf.Sort.Plain
import Derived.Ground.Names2Prog
import Derived.Shelf.Slices.Clone
import Derived.Shelf.Slices.CompactI
import Derived.Shelf.Slices.SearchI
import Derived.Shelf.Slices.Cells
import Derived.Shelf.Slices.In.SortNone
import Derived.Test.YtdkokfnnebdppaaProg
import Derived.Sort.OwnSortedInts
import Derived.Lib.OwnBridge
import Derived.Shelf.RegionOpenPlain
import Derived.Lib.AppendZeros
import Derived.Lib.AppendZerosOnto
import Derived.Lib.Overlaps
import Derived.Laws.Externs
import Derived.Laws.IdiomCopy
import Derived.Laws.CopyRow
import Derived.Test.YtdkokfnnebdppaaMPE3

-- written by a program of this session's (wip/pp)
namespace Go.Proofs.Ytdkokfnnebdppaa.P
open Go.RowKit Go.Proofs.YtdkokfnnebdppaaW.PrintWords Go.Proofs.YtdkokfnnebdppaaW.PrintLast Go.Proofs.YtdkokfnnebdppaaW.PrintMore
attribute [local go_sem] max2_int min2_int max_two min_two max_three min_three max_four min_four str_geq str_gtr str_leq   -- for this text's walks alone
set_option linter.unusedVariables false
set_option linter.unusedSimpArgs false

/-! ### cmp_Compare_int: function 89 -/
def cmp_Compare_int.f (a0 : Int) (a1 : Int) : Option (Int) := (cmp_isNaN_int.f a0).bind fun t101 => ((cmp_isNaN_int.f a1).bind fun t102 => (if t101 = true then (if t102 = true then (some 0) else (some (-1))) else (if t102 = true then (some 1) else (if a0 < a1 then (some (-1)) else (if a0 > a1 then (some 1) else (some 0))))))
set_option maxHeartbeats 8000000 in
set_option maxRecDepth 100000 in
theorem cmp_Compare_int.calls (a0 : Int) (a1 : Int) (r : Int) (w : World) (h : cmp_Compare_int.f a0 a1 = some r) :
 Calls Try.prog 89 #[.int .i64 a0, .int .i64 a1] w fun e w' => e = .returned (.int .i64 r) ∧ Drawn0 w w' := by
 have H : ((cmp_isNaN_int.f a0).bind fun t101 => ((cmp_isNaN_int.f a1).bind fun t102 => (if t101 = true then (if t102 = true then (some 0) else (some (-1))) else (if t102 = true then (some 1) else (if a0 < a1 then (some (-1)) else (if a0 > a1 then (some 1) else (some 0))))))) = some r := h
 clear h
 replace H := Option.bind_eq_some_iff.mp H
 obtain ⟨t101, A30, H⟩ := H
 try dsimp only at H
 have A3 := aM A30
 clear A30
 replace H := Option.bind_eq_some_iff.mp H
 obtain ⟨t102, A40, H⟩ := H
 try dsimp only at H
 have A4 := aM A40
 clear A40
 by_cases c5 : t101 = true
 · subst c5
   rw [if_pos rfl] at H
   by_cases c6 : t102 = true
   · subst c6
     rw [if_pos rfl] at H
     obtain rfl := Option.some.inj H
     go_enter Try.func89, Try.ntmps89
     go_wp2_with (first | ((with_reducible refine gate_callee (f := 101) rfl ?_); refine goesL_ (some 8) rfl rfl Try.func101 (by kernel_rfl) rfl #[.int .i64 a0] rfl zee81 ?_; (with_reducible refine (cmp_isNaN_int.calls a0 true _ A3.out).mono ?_); rintro e w' ⟨rfl, ⟨nd, rfl⟩⟩; refine ⟨_, rfl, ?_⟩) | ((with_reducible refine gate_callee (f := 101) rfl ?_); refine goesL_ (some 10) rfl rfl Try.func101 (by kernel_rfl) rfl #[.int .i64 a1] rfl zee81 ?_; (with_reducible refine (cmp_isNaN_int.calls a1 true _ A4.out).mono ?_); rintro e w' ⟨rfl, ⟨nd, rfl⟩⟩; refine ⟨_, rfl, ?_⟩))
     go_ret
     exact ⟨z4458, za9de⟩
   · replace c6 := Bool.eq_false_iff.mpr c6
     subst c6
     rw [if_neg (show ¬ (false = true) by decide)] at H
     obtain rfl := Option.some.inj H
     go_enter Try.func89, Try.ntmps89
     go_wp2_with (first | ((with_reducible refine gate_callee (f := 101) rfl ?_); refine goesL_ (some 8) rfl rfl Try.func101 (by kernel_rfl) rfl #[.int .i64 a0] rfl zee81 ?_; (with_reducible refine (cmp_isNaN_int.calls a0 true _ A3.out).mono ?_); rintro e w' ⟨rfl, ⟨nd, rfl⟩⟩; refine ⟨_, rfl, ?_⟩) | ((with_reducible refine gate_callee (f := 101) rfl ?_); refine goesL_ (some 10) rfl rfl Try.func101 (by kernel_rfl) rfl #[.int .i64 a1] rfl zee81 ?_; (with_reducible refine (cmp_isNaN_int.calls a1 false _ A4.out).mono ?_); rintro e w' ⟨rfl, ⟨nd, rfl⟩⟩; refine ⟨_, rfl, ?_⟩))
     go_ret
     exact ⟨z4458, za9de⟩
 · replace c5 := Bool.eq_false_iff.mpr c5
   subst c5
   rw [if_neg (show ¬ (false = true) by decide)] at H
   by_cases c7 : t102 = true
   · subst c7
     rw [if_pos rfl] at H
     obtain rfl := Option.some.inj H
     go_enter Try.func89, Try.ntmps89
     go_wp2_with (first | ((with_reducible refine gate_callee (f := 101) rfl ?_); refine goesL_ (some 8) rfl rfl Try.func101 (by kernel_rfl) rfl #[.int .i64 a0] rfl zee81 ?_; (with_reducible refine (cmp_isNaN_int.calls a0 false _ A3.out).mono ?_); rintro e w' ⟨rfl, ⟨nd, rfl⟩⟩; refine ⟨_, rfl, ?_⟩) | ((with_reducible refine gate_callee (f := 101) rfl ?_); refine goesL_ (some 10) rfl rfl Try.func101 (by kernel_rfl) rfl #[.int .i64 a1] rfl zee81 ?_; (with_reducible refine (cmp_isNaN_int.calls a1 true _ A4.out).mono ?_); rintro e w' ⟨rfl, ⟨nd, rfl⟩⟩; refine ⟨_, rfl, ?_⟩))
     go_ret
     exact ⟨z4458, za9de⟩
   · replace c7 := Bool.eq_false_iff.mpr c7
     subst c7
     rw [if_neg (show ¬ (false = true) by decide)] at H
     by_cases c8 : a0 < a1
     · rw [if_pos c8] at H
       have c8b0 : decide (a0 < a1) = true := decide_eq_true c8
       clear c8
       obtain rfl := Option.some.inj H
       go_enter Try.func89, Try.ntmps89
       go_wp2_with (first | ((with_reducible refine gate_callee (f := 101) rfl ?_); refine goesL_ (some 8) rfl rfl Try.func101 (by kernel_rfl) rfl #[.int .i64 a0] rfl zee81 ?_; (with_reducible refine (cmp_isNaN_int.calls a0 false _ A3.out).mono ?_); rintro e w' ⟨rfl, ⟨nd, rfl⟩⟩; refine ⟨_, rfl, ?_⟩) | ((with_reducible refine gate_callee (f := 101) rfl ?_); refine goesL_ (some 10) rfl rfl Try.func101 (by kernel_rfl) rfl #[.int .i64 a1] rfl zee81 ?_; (with_reducible refine (cmp_isNaN_int.calls a1 false _ A4.out).mono ?_); rintro e w' ⟨rfl, ⟨nd, rfl⟩⟩; refine ⟨_, rfl, ?_⟩))
       go_ret
       exact ⟨z4458, za9de⟩
     · rw [if_neg c8] at H
       have c8b0 : decide (a0 < a1) = false := decide_eq_false c8
       clear c8
       by_cases c9 : a0 > a1
       · rw [if_pos c9] at H
         have c9b0 : decide (a1 < a0) = true := decide_eq_true c9
         clear c9
         obtain rfl := Option.some.inj H
         go_enter Try.func89, Try.ntmps89
         go_wp2_with (first | ((with_reducible refine gate_callee (f := 101) rfl ?_); refine goesL_ (some 8) rfl rfl Try.func101 (by kernel_rfl) rfl #[.int .i64 a0] rfl zee81 ?_; (with_reducible refine (cmp_isNaN_int.calls a0 false _ A3.out).mono ?_); rintro e w' ⟨rfl, ⟨nd, rfl⟩⟩; refine ⟨_, rfl, ?_⟩) | ((with_reducible refine gate_callee (f := 101) rfl ?_); refine goesL_ (some 10) rfl rfl Try.func101 (by kernel_rfl) rfl #[.int .i64 a1] rfl zee81 ?_; (with_reducible refine (cmp_isNaN_int.calls a1 false _ A4.out).mono ?_); rintro e w' ⟨rfl, ⟨nd, rfl⟩⟩; refine ⟨_, rfl, ?_⟩))
         go_ret
         exact ⟨z4458, za9de⟩
       · rw [if_neg c9] at H
         have c9b0 : decide (a1 < a0) = false := decide_eq_false c9
         clear c9
         obtain rfl := Option.some.inj H
         go_enter Try.func89, Try.ntmps89
         go_wp2_with (first | ((with_reducible refine gate_callee (f := 101) rfl ?_); refine goesL_ (some 8) rfl rfl Try.func101 (by kernel_rfl) rfl #[.int .i64 a0] rfl zee81 ?_; (with_reducible refine (cmp_isNaN_int.calls a0 false _ A3.out).mono ?_); rintro e w' ⟨rfl, ⟨nd, rfl⟩⟩; refine ⟨_, rfl, ?_⟩) | ((with_reducible refine gate_callee (f := 101) rfl ?_); refine goesL_ (some 10) rfl rfl Try.func101 (by kernel_rfl) rfl #[.int .i64 a1] rfl zee81 ?_; (with_reducible refine (cmp_isNaN_int.calls a1 false _ A4.out).mono ?_); rintro e w' ⟨rfl, ⟨nd, rfl⟩⟩; refine ⟨_, rfl, ?_⟩))
         go_ret
         exact ⟨z4458, za9de⟩

end Go.Proofs.Ytdkokfnnebdppaa.P

-- written by a program of this session's (wip/pp)
namespace Go.Proofs.Ytdkokfnnebdppaa.P
open Go.RowKit Go.Proofs.YtdkokfnnebdppaaW.PrintWords Go.Proofs.YtdkokfnnebdppaaW.PrintLast Go.Proofs.YtdkokfnnebdppaaW.PrintMore
attribute [local go_sem] max2_int min2_int max_two min_two max_three min_three max_four min_four str_geq str_gtr str_leq   -- for this text's walks alone
set_option linter.unusedVariables false
set_option linter.unusedSimpArgs false

/-! ### impl_compareEntries: function 57 -/
def impl_compareEntries.f (k : Nat) (a0_0 : ByteArray) (a0_1 : Int) (a0_2 : Int) (a0_3 : Int) (a0_4 : Int) (a0_5 : Int) (a0_6 : Int) (l0_7 : List Int) (a0_8 : Bool) (a1_0 : ByteArray) (a1_1 : Int) (a1_2 : Int) (a1_3 : Int) (a1_4 : Int) (a1_5 : Int) (a1_6 : Int) (l1_7 : List Int) (a1_8 : Bool) : Option (Int) := (cmp_Compare_string.f a0_0 a1_0).bind fun t103 => ((cmp_Compare_int.f a1_1 a0_1).bind fun t104 => ((cmp_Or_int.f k (([t103, t104] : List Int))).bind fun t108 => (some t108)))
theorem impl_compareEntries.mono : ∀ a0 a1 a2 a3 a4 a5 a6 a7 a8 a9 a10 a11 a12 a13 a14 a15 a16 a17 k, LeO (impl_compareEntries.f k a0 a1 a2 a3 a4 a5 a6 a7 a8 a9 a10 a11 a12 a13 a14 a15 a16 a17) (impl_compareEntries.f (k + 1) a0 a1 a2 a3 a4 a5 a6 a7 a8 a9 a10 a11 a12 a13 a14 a15 a16 a17) := by
 intro a0 a1 a2 a3 a4 a5 a6 a7 a8 a9 a10 a11 a12 a13 a14 a15 a16 a17 k
 unfold impl_compareEntries.f
 repeat' first
  | (with_reducible first | exact cmp_Or_int.mono .. | exact LeO.refl _ | exact LeO.none _ | refine LeO.ite ?_ ?_ | refine LeO.bind ?_ (fun _ => ?_))
  | exact LeO.none _
  | refine LeO.ite ?_ ?_
  | refine LeO.bind ?_ (fun _ => ?_)
def impl_compareEntries.T1 : Bool × List (List Nat × List Nat) := (true, [([], []), ([0], [0]), ([], []), ([2], [2]), ([1, 3], [1, 3]), ([], []), ([5], [5]), ([], []), ([7], [7]), ([6, 8, 4], [6, 8]), ([4, 9], [4, 9]), ([10, 9], [10]), ([11, 11, 0, 1, 2, 3, 4, 5, 6, 7, 8, 9, 10, 11], [11])])
def impl_compareEntries.B1 : List Nat := [0, 1, 0, 4, 15, 0, 32, 0, 128, 511, 1023, 2047, 4095]
theorem impl_compareEntries.tab1 : rtab .any (opsOf Try.f57 1) = impl_compareEntries.T1 := by kernel_rfl
theorem impl_compareEntries.bits1 : waitsOk impl_compareEntries.T1.2 impl_compareEntries.B1 = true := by kernel_rfl
set_option maxHeartbeats 8000000 in
set_option maxRecDepth 100000 in
theorem impl_compareEntries.calls (k : Nat) (a0_0 : ByteArray) (a0_1 : Int) (a0_2 : Int) (a0_3 : Int) (a0_4 : Int) (a0_5 : Int) (a0_6 : Int) (A0_7 : Option Addr) (c0_7 : Nat) (l0_7 : List Int) (a0_8 : Bool) (a1_0 : ByteArray) (a1_1 : Int) (a1_2 : Int) (a1_3 : Int) (a1_4 : Int) (a1_5 : Int) (a1_6 : Int) (A1_7 : Option Addr) (c1_7 : Nat) (l1_7 : List Int) (a1_8 : Bool) (r : Int) (w : World) (hr0_7 : Kd.C (Kd.int .i64) w A0_7 l0_7.length l0_7) (hc0_7 : l0_7.length ≤ c0_7) (hr1_7 : Kd.C (Kd.int .i64) w A1_7 l1_7.length l1_7) (hc1_7 : l1_7.length ≤ c1_7) (h : impl_compareEntries.f k a0_0 a0_1 a0_2 a0_3 a0_4 a0_5 a0_6 l0_7 a0_8 a1_0 a1_1 a1_2 a1_3 a1_4 a1_5 a1_6 l1_7 a1_8 = some r) :
 Calls Try.prog 57 #[.agg #[.string a0_0, .int .i64 a0_1, .int .i64 a0_2, .int .i64 a0_3, .int .i64 a0_4, .int .i64 a0_5, .int .i64 a0_6, .slice A0_7 l0_7.length c0_7, .bool a0_8], .agg #[.string a1_0, .int .i64 a1_1, .int .i64 a1_2, .int .i64 a1_3, .int .i64 a1_4, .int .i64 a1_5, .int .i64 a1_6, .slice A1_7 l1_7.length c1_7, .bool a1_8]] w fun e w' => e = .returned (.int .i64 r) ∧ Below w.heap.size w w' := by
 have hu45 := Try.underlying45
 have HR0_7 := aM hr0_7
 have HC0_7 := aM hc0_7
 clear hr0_7 hc0_7
 have HR1_7 := aM hr1_7
 have HC1_7 := aM hc1_7
 clear hr1_7 hc1_7
 have HB := aM (Below.refl w.heap.size w)
 have H : ((cmp_Compare_string.f a0_0 a1_0).bind fun t103 => ((cmp_Compare_int.f a1_1 a0_1).bind fun t104 => ((cmp_Or_int.f k (([t103, t104] : List Int))).bind fun t108 => (some t108)))) = some r := h
 clear h
 replace H := Option.bind_eq_some_iff.mp H
 obtain ⟨t103, A30, H⟩ := H
 try dsimp only at H
 have A3 := aM A30
 clear A30
 replace H := Option.bind_eq_some_iff.mp H
 obtain ⟨t104, A40, H⟩ := H
 try dsimp only at H
 have A4 := aM A40
 clear A40
 obtain ⟨y105, hy105⟩ : ∃ y_ : List Int, y_ = (([t103, t104] : List Int)) := ⟨_, rfl⟩
 first | (replace H := bindS H; rw [← hy105] at H; try dsimp only at H) | rw [← hy105] at H
 have Ny105 := aM hy105
 clear hy105
 replace H := Option.bind_eq_some_iff.mp H
 obtain ⟨t108, A50, H⟩ := H
 try dsimp only at H
 have A5 := aM A50
 clear A50
 obtain rfl := Option.some.inj H
 go_enter Try.func57, Try.ntmps57
 try go_wp2_with (first | ((with_reducible refine gate_dst (N := 2) rfl ?_); refine box_event ?hg (N := 2) ?hd (cs := #[.string a0_0, .int .i64 a0_1, .int .i64 a0_2, .int .i64 a0_3, .int .i64 a0_4, .int .i64 a0_5, .int .i64 a0_6, .slice A0_7 l0_7.length c0_7, .bool a0_8]) (t := 45) ?hr ?_; (case hd => rfl); (case hg => rfl); (case hr => first | (go_simp; done) | (go_simp; rfl)); intro gb101 hg w6 hbox hb; have _ := aM (below_step hbZ hb); have _ := aM hbox; have _ := szZ hg; have _ := szZ hg; clear HB; rename_i HB BK101 GW101 GE101; clear hb hbox hg) | ((with_reducible refine gate_dst (N := 3) rfl ?_); refine box_event ?hg (N := 3) ?hd (cs := #[.string a1_0, .int .i64 a1_1, .int .i64 a1_2, .int .i64 a1_3, .int .i64 a1_4, .int .i64 a1_5, .int .i64 a1_6, .slice A1_7 l1_7.length c1_7, .bool a1_8]) (t := 45) ?hr ?_; (case hd => rfl); (case hg => rfl); (case hr => first | (go_simp; done) | (go_simp; rfl)); intro gb102 hg w7 hbox hb; have _ := bB gb101 hb; have _ := aM (below_step hbZ hb); have _ := aM hbox; have _ := szZ hg; have _ := szZ hg; have ⟨_, _⟩ := nbB gb101 hg; clear BK101 HB; rename_i BK101 HB BK102 GW102 GE102 NB101_102 NB102_101; clear hb hbox hg))
 have _ := aM (blk_drew BK101.out)
 have _ := aM (blk_drew BK102.out)
 have _ := aM (below_drew1 HB.out)
 clear BK101
 clear BK102
 clear HB
 rename_i BK101 BK102 HB
 refine sA 13 impl_compareEntries.tab1 impl_compareEntries.bits1 (fun w' => w'.cell? ⟨gb101, 0, none⟩ = some (.string a0_0) ∧ w'.cell? ⟨gb101, 1, none⟩ = some (.int .i64 a0_1) ∧ w'.cell? ⟨gb101, 2, none⟩ = some (.int .i64 a0_2) ∧ w'.cell? ⟨gb101, 3, none⟩ = some (.int .i64 a0_3) ∧ w'.cell? ⟨gb101, 4, none⟩ = some (.int .i64 a0_4) ∧ w'.cell? ⟨gb101, 5, none⟩ = some (.int .i64 a0_5) ∧ w'.cell? ⟨gb101, 6, none⟩ = some (.int .i64 a0_6) ∧ w'.cell? ⟨gb101, 7, none⟩ = some (.slice A0_7 l0_7.length c0_7) ∧ w'.cell? ⟨gb101, 8, none⟩ = some (.bool a0_8) ∧ w'.cell? ⟨gb102, 0, none⟩ = some (.string a1_0) ∧ w'.cell? ⟨gb102, 1, none⟩ = some (.int .i64 a1_1) ∧ w'.cell? ⟨gb102, 2, none⟩ = some (.int .i64 a1_2) ∧ w'.cell? ⟨gb102, 3, none⟩ = some (.int .i64 a1_3) ∧ w'.cell? ⟨gb102, 4, none⟩ = some (.int .i64 a1_4) ∧ w'.cell? ⟨gb102, 5, none⟩ = some (.int .i64 a1_5) ∧ w'.cell? ⟨gb102, 6, none⟩ = some (.int .i64 a1_6) ∧ w'.cell? ⟨gb102, 7, none⟩ = some (.slice A1_7 l1_7.length c1_7) ∧ w'.cell? ⟨gb102, 8, none⟩ = some (.bool a1_8)) [] (fun hHeld HT_ HW_ => ?_)
 generalize w7.drew = w8 at BK101 BK102 HB hHeld ⊢
 refine pA 0 5 HT_ ?_; refine pA 2 7 HT_ ?_; refine pA 5 10 HT_ ?_; refine pA 7 12 HT_ ?_; refine tA 1 6 HT_ HW_ hHeld ?_; refine tA 3 8 HT_ HW_ hHeld ?_; refine tA 6 11 HT_ HW_ hHeld ?_; refine tA 8 13 HT_ HW_ hHeld ?_; refine oA 4 9 HT_ (fun K hK => ?_)
 refine goes_ Try.func88 (by kernel_rfl) rfl #[.string a0_0, .string a1_0] (by rfl) rfl rfl zee81 ?_
 with_reducible refine (cmp_Compare_string.calls a0_0 a1_0 t103 _ A3.out).mono ?_
 rintro e w' ⟨rfl, ⟨nd, rfl⟩⟩
 refine ⟨_, rfl, ?_⟩
 refine hK.out _ _ sZ (fun hHeld => ?_)
 clear hK K
 refine nA 9 ?_; refine oA 9 14 HT_ (fun K hK => ?_)
 refine goes_ Try.func89 (by kernel_rfl) rfl #[.int .i64 a1_1, .int .i64 a0_1] (by rfl) rfl rfl zee81 ?_
 with_reducible refine (cmp_Compare_int.calls a1_1 a0_1 t104 _ A4.out).mono ?_
 rintro e w' ⟨rfl, ⟨nd, rfl⟩⟩
 refine ⟨_, rfl, ?_⟩
 refine hK.out _ _ sZ (fun hHeld => ?_)
 clear hK K
 refine nA 14 ?_; refine oA 10 15 HT_ (fun K hK => ?_)
 refine Kd.R_lit_step (Kd.int .i64) _ 3 ?hg (N := 15) ?hd (xs := ([t103, t104] : List Int)) (inner := [.int .i64 t103, .int .i64 t104]) (ok := fun _ => True) (okp := fun _ => True) ?hr ?hp (fun _ hk => hk) trivial (Below.refl _ _) (Nat.le_refl _) (by simp) ?_; (case hd => rfl); (case hg => rfl); (case hr => first | (go_simp; done) | (go_simp; rfl)); (case hp => exact (Reps.one (show Kd.M (Kd.int .i64) _ _ _ t103 [.int .i64 t103] from rfl) (Reps.one (show Kd.M (Kd.int .i64) _ _ _ t104 [.int .i64 t104] from rfl) (Reps.none _ _))))
 intro v106 w9 ho10 hb hg_ hnew_
 clear hg_ hnew_
 (first | rw [← Ny105.out] at ho10 | (simp only [Int.reduceToNat] at ho10; rw [← Ny105.out] at ho10))
 have _ := aM (Kd.R_lower ho10 (below_size hbZ))
 have _ := bB gb101 hb
 have _ := bB gb102 hb
 have _ := aM (below_step hbZ hb)
 clear BK101
 clear BK102
 clear HB
 rename_i HO107 BK101 BK102 HB
 clear hb ho10
 obtain ⟨Ao11, co11, eo11⟩ := Kd.R_slice HO107.out
 (first | subst eo11 | (injection eo11 with f1_ f2_ f3_; have f4_ := f1_.symm; have f5_ := f3_.symm; clear f1_ f2_ f3_; subst f4_; subst f5_))
 refine hK.out _ _ sZ (fun hHeld => ?_)
 clear hK K
 refine nA 15 ?_; refine oA 11 16 HT_ (fun K hK => ?_)
 refine goes_ Try.func87 (by kernel_rfl) rfl #[.slice Ao11 y105.length co11] (by rfl) rfl rfl zee81 ?_
 with_reducible refine (cmp_Or_int.calls k _ _ y105 t108 _ ?side1 ?side2 A5.out).mono ?_
 (case side1 => exact (by repeat (first | exact (Kd.R_reads' HO107.out).2.2 | (with_reducible refine Kd.C_alloc ?_ _) | (with_reducible refine Kd.C_drewN ?_ _) | (with_reducible refine Kd.C_drew ?_))))
 (case side2 => exact (Kd.R_reads' HO107.out).2.1)
 rintro e w' ⟨rfl, ⟨nd, rfl⟩⟩
 refine ⟨_, rfl, ?_⟩
 refine hK.out _ _ sZ (fun hHeld => ?_)
 clear hK K
 refine nA 16 ?_; refine pA 12 4 HT_ ?_
 refine done_ (done_of HT_.out (by kernel_rfl)) ?_
 try go_wp2
 go_ret
 exact ⟨z674d, zcb41⟩

end Go.Proofs.Ytdkokfnnebdppaa.P

/-
  DERIVED: THE SHELF's CONTRACTS AT THIS DUMP, IN PLAIN WORDS (tools/lay-plain.mjs out of 'TryShelf.lean', which tools/lay-shelf.mjs wrote): THE SAME DECLARATIONS UNDER THE SAME NAMES: 'import', 'namespace', 'open', 'def', 'theorem' AND NOTHING ELSE: no command of the shelf's: FOR A HAND-IN. Each laying: the table of numbers ('.._ren') and one theorem, a field a fact of the dump's own or the kernel's comparison; each contract: ONE APPLICATION.
-/
namespace Go.Proofs
open Go.Shelf
def Try.lays215_ren : Go.Shelf.Ren := ⟨fun | 215 => 101 | n => n, fun | 3 => 3 | 4 => 4 | n => n, fun | n => n⟩
theorem Try.lays215 : Go.Proofs.Lays.n215 Try.prog Try.lays215_ren := {
  mixed := by kernel_rfl
  f215 := Try.func101.trans (congrArg some (by kernel_rfl))
  t3 := Try.underlying3
  a3 := Try.isAgg3
  z3 := Try.sizeOf3
  v3 := Try.zeroValue3
  t4 := Try.underlying4
  a4 := Try.isAgg4
  z4 := Try.sizeOf4
  v4 := Try.zeroValue4 }
open Go.RowKit in
/-- cmp.isNaN at int: 'x != x': false. (LAID: no walk: one application.) -/
theorem Try.cmp_isNaN_int (x : Int) (w : World) :
    Calls Try.prog 101 #[.int .i64 x] w fun e w' => e = .returned (.bool false) ∧ w' = w := Any.cmp_isNaN_int Try.lays215 x w
def Try.lays122_ren : Go.Shelf.Ren := ⟨fun | 122 => 89 | 215 => 101 | n => n, fun | 3 => 3 | 4 => 4 | n => n, fun | n => n⟩
theorem Try.lays122 : Go.Proofs.Lays.n122 Try.prog Try.lays122_ren := {
  mixed := by kernel_rfl
  f122 := Try.func89.trans (congrArg some (by kernel_rfl))
  f215 := Try.func101.trans (congrArg some (by kernel_rfl))
  t3 := Try.underlying3
  a3 := Try.isAgg3
  z3 := Try.sizeOf3
  v3 := Try.zeroValue3
  t4 := Try.underlying4
  a4 := Try.isAgg4
  z4 := Try.sizeOf4
  v4 := Try.zeroValue4 }
open Go.RowKit in
/-- cmp.Compare at int: "Compare returns -1 if x is less than y, 0 if x equals y, +1 if x is greater than y.": IT RETURNS 'Lib.compareInt x y'; the world is as it was. (LAID: no walk: one application.) -/
theorem Try.cmp_Compare_int (x y : Int) (w : World) :
    Calls Try.prog 89 #[.int .i64 x, .int .i64 y] w fun e w' => e = .returned (.int .i64 (Lib.compareInt x y)) ∧ w' = w := Any.cmp_Compare_int Try.lays122 x y w
def Try.lays189_ren : Go.Shelf.Ren := ⟨fun | 189 => 58 | 125 => 91 | 257 => 90 | 128 => 111 | 129 => 112 | 294 => 102 | 295 => 103 | 296 => 104 | 297 => 105 | 298 => 106 | 299 => 107 | 216 => 108 | 300 => 109 | 301 => 110 | 328 => 115 | 329 => 116 | 330 => 117 | 331 => 118 | 332 => 119 | 215 => 101 | 343 => 121 | n => n, fun | 28 => 24 | 3 => 3 | 46 => 105 | 0 => 0 | 51 => 117 | 53 => 74 | 4 => 4 | 183 => 110 | 182 => 109 | 131 => 95 | 5 => 5 | 9 => 9 | 218 => 119 | 222 => 123 | 228 => 126 | 229 => 127 | n => n, fun | n => n⟩
theorem Try.lays189 : Go.Proofs.Lays.n189 Try.prog Try.lays189_ren := {
  mixed := by kernel_rfl
  f125 := Try.func91.trans (congrArg some (by kernel_rfl))
  f128 := Try.func111.trans (congrArg some (by kernel_rfl))
  f129 := Try.func112.trans (congrArg some (by kernel_rfl))
  f189 := Try.func58.trans (congrArg some (by kernel_rfl))
  f215 := Try.func101.trans (congrArg some (by kernel_rfl))
  f216 := Try.func108.trans (congrArg some (by kernel_rfl))
  f257 := Try.func90.trans (congrArg some (by kernel_rfl))
  f294 := Try.func102.trans (congrArg some (by kernel_rfl))
  f295 := Try.func103.trans (congrArg some (by kernel_rfl))
  f296 := Try.func104.trans (congrArg some (by kernel_rfl))
  f297 := Try.func105.trans (congrArg some (by kernel_rfl))
  f298 := Try.func106.trans (congrArg some (by kernel_rfl))
  f299 := Try.func107.trans (congrArg some (by kernel_rfl))
  f300 := Try.func109.trans (congrArg some (by kernel_rfl))
  f301 := Try.func110.trans (congrArg some (by kernel_rfl))
  f328 := Try.func115.trans (congrArg some (by kernel_rfl))
  f329 := Try.func116.trans (congrArg some (by kernel_rfl))
  f330 := Try.func117.trans (congrArg some (by kernel_rfl))
  f331 := Try.func118.trans (congrArg some (by kernel_rfl))
  f332 := Try.func119.trans (congrArg some (by kernel_rfl))
  f343 := Try.func121.trans (congrArg some (by kernel_rfl))
  t0 := Try.underlying0
  a0 := Try.isAgg0
  z0 := Try.sizeOf0
  v0 := Try.zeroValue0
  t3 := Try.underlying3
  a3 := Try.isAgg3
  z3 := Try.sizeOf3
  v3 := Try.zeroValue3
  t4 := Try.underlying4
  a4 := Try.isAgg4
  z4 := Try.sizeOf4
  v4 := Try.zeroValue4
  t5 := Try.underlying5
  a5 := Try.isAgg5
  z5 := Try.sizeOf5
  v5 := Try.zeroValue5
  t9 := Try.underlying9
  a9 := Try.isAgg9
  z9 := Try.sizeOf9
  v9 := Try.zeroValue9
  t28 := Try.underlying24
  a28 := Try.isAgg24
  z28 := Try.sizeOf24
  v28 := Try.zeroValue24
  t46 := Try.underlying105
  a46 := Try.isAgg105
  z46 := Try.sizeOf105
  v46 := Try.zeroValue105
  t51 := Try.underlying117
  a51 := Try.isAgg117
  z51 := Try.sizeOf117
  v51 := Try.zeroValue117
  t53 := Try.underlying74
  a53 := Try.isAgg74
  z53 := Try.sizeOf74
  v53 := Try.zeroValue74
  t131 := Try.underlying95
  a131 := Try.isAgg95
  z131 := Try.sizeOf95
  v131 := Try.zeroValue95
  t182 := Try.underlying109
  a182 := Try.isAgg109
  z182 := Try.sizeOf109
  v182 := Try.zeroValue109
  t183 := Try.underlying110
  a183 := Try.isAgg110
  z183 := Try.sizeOf110
  v183 := Try.zeroValue110
  t218 := Try.underlying119
  a218 := Try.isAgg119
  z218 := Try.sizeOf119
  v218 := Try.zeroValue119
  t222 := Try.underlying123
  a222 := Try.isAgg123
  z222 := Try.sizeOf123
  v222 := Try.zeroValue123
  t228 := Try.underlying126
  a228 := Try.isAgg126
  z228 := Try.sizeOf126
  v228 := Try.zeroValue126
  t229 := Try.underlying127
  a229 := Try.isAgg127
  z229 := Try.sizeOf127
  v229 := Try.zeroValue127 }
open Go.Sort Go.RowKit in
theorem Try.slices_Sort_int (blk off cap : Nat) (zs : List Int) (w : World) (hH : Holds (Value.int .i64) w blk off zs.toArray) (hblk : blk < w.heap.size) (hsz : zs.length < 4611686018427387904) :
    Calls Try.prog 58 #[.slice (some ⟨blk, off, none⟩) zs.length cap] w fun e w' =>
      e = .returned (.tuple #[]) ∧ ∃ n os, w' = grow (putRow (Value.int .i64) (Sort.ahead w n) blk off (zs.mergeSort fun x y => decide (x ≤ y)).toArray) os := Any.slices_Sort_int Try.lays189 blk off cap zs w hH hblk hsz
def Try.laysNm220_ren : Go.Shelf.Ren := ⟨fun | 20 => 59 | n => n, fun | 22 => 24 | 3 => 3 | 4 => 4 | 0 => 0 | n => n, fun | n => n⟩
theorem Try.laysNm220 : Go.Proofs.Lays2.n20 Try.prog Try.laysNm220_ren := {
  mixed := by kernel_rfl
  f20 := Try.func59.trans (congrArg some (by kernel_rfl))
  t0 := Try.underlying0
  a0 := Try.isAgg0
  z0 := Try.sizeOf0
  v0 := Try.zeroValue0
  t3 := Try.underlying3
  a3 := Try.isAgg3
  z3 := Try.sizeOf3
  v3 := Try.zeroValue3
  t4 := Try.underlying4
  a4 := Try.isAgg4
  z4 := Try.sizeOf4
  v4 := Try.zeroValue4
  t22 := Try.underlying24
  a22 := Try.isAgg24
  z22 := Try.sizeOf24
  v22 := Try.zeroValue24
  i3 := by kernel_rfl }
open Go.RowKit Go.Lib Go.Sort in
/-- slices.Compact at []int: "Compact replaces consecutive runs of equal elements with a single copy. This is like the uniq command found on Unix. Compact modifies the contents of the slice s and returns the modified slice, which may have a smaller length. Compact zeroes the elements between the new length and the original length. The result preserves the nilness of s.": IT RETURNS THE SLICE CUT TO 'Lib.compact zs'; ITS CELLS HOLD 'Lib.compact zs', THEN ZERO VALUES up to the old length; all else is as it was, but for the count of draws. IN THE WORDS OF slices.Sort's CONTRACT ('Holds', 'putRow'): so the everyday 'slices.Sort(xs); xs = slices.Compact(xs)' goes from the one contract to the other. It asks 'zs.length ≤ cap' (every slice's: the reslicing 's[:k]' looks at it). Length 0, nil: '.._empty'. (LAID: no walk: one application.) -/
theorem Try.slices_Compact_int (blk off cap : Nat) (zs : List Int) (w : World) (hH : Holds (Value.int .i64) w blk off zs.toArray) (hsz : zs.length ≤ 9223372036854775807) (hcap : zs.length ≤ cap) :
    Calls Try.prog 59 #[.slice (some ⟨blk, off, none⟩) zs.length cap] w fun e w' => e = .returned (.slice (some ⟨blk, off, none⟩) (Lib.compact zs).length cap) ∧ ∃ q, w' = putRow (Value.int .i64) (Sort.ahead w q) blk off (Lib.compact zs ++ List.replicate (zs.length - (Lib.compact zs).length) 0).toArray := Any.slices_Compact_int Try.laysNm220 blk off cap zs w hH hsz hcap
open Go.RowKit Go.Lib Go.Sort in
/-- The same at a slice of length 0, a nil one too: it comes back as it is. (LAID: no walk: one application.) -/
theorem Try.slices_Compact_int_empty (a : Option Addr) (cap : Nat) (w : World) :
    Calls Try.prog 59 #[.slice a 0 cap] w fun e w' => e = .returned (.slice a 0 cap) ∧ w' = w := Any.slices_Compact_int_empty Try.laysNm220 a cap w
open Go.RowKit Go.Sort in
/-- .. and plain. (LAID: no walk: one application.) -/
theorem Try.slices_Sort_int_none (p : Option Addr) (cap : Nat) (w : World) :
    Calls Try.prog 58 #[.slice p 0 cap] w fun e w' => e = .returned (.tuple #[]) ∧ w' = w := Any.slices_Sort_int_none Try.lays189 p cap w
end Go.Proofs

-- written by a program of this session's (wip/pp)
namespace Go.Proofs.Ytdkokfnnebdppaa.P
open Go.RowKit Go.Proofs.YtdkokfnnebdppaaW.PrintWords Go.Proofs.YtdkokfnnebdppaaW.PrintLast Go.Proofs.YtdkokfnnebdppaaW.PrintMore
attribute [local go_sem] max2_int min2_int max_two min_two max_three min_three max_four min_four str_geq str_gtr str_leq   -- for this text's walks alone
set_option linter.unusedVariables false
set_option linter.unusedSimpArgs false

/-! ### slices_Sort_int_int: function 58 -/
def slices_Sort_int_int.f (l0 : List Int) : Option (List Int) := if l0.length < 4611686018427387904 then some (l0.mergeSort fun x y => decide (x ≤ y)) else none
theorem slices_Sort_int_int.calls (P0_ : Nat → Prop) (u9000_ : Value) (l0 : List Int) (r : List Int) (w0 w : World) (hB : Below w0.heap.size w0 w) (ho0 : Kd.R (Kd.int .i64) 3 w w0.heap.size P0_ u9000_ l0) (h : slices_Sort_int_int.f l0 = some r) :
 Calls Try.prog 58 #[u9000_] w fun e w' => e = .returned (.tuple #[]) ∧ Kd.R (Kd.int .i64) 3 w' w0.heap.size (fun k_ => (P0_ k_ ∨ w.heap.size ≤ k_)) u9000_ r ∧ Below w0.heap.size w0 w' ∧ Kept w w' (fun k_ => P0_ k_) := by
 unfold slices_Sort_int_int.f at h
 split at h
 · rename_i hlen
   obtain rfl := Option.some.inj h
   have ho : w.ownsRow w0.heap.size 3 1 u9000_ l0.length (l0.map (Value.int .i64)) := Kd.own_of_R ho0
   by_cases h0 : l0 = []
   · subst h0
     obtain ⟨A, c, rfl⟩ := Kd.R_slice ho0
     refine (Try.slices_Sort_int_none A c w).mono ?_
     rintro e w' ⟨rfl, rfl⟩
     rw [List.mergeSort_nil]
     exact ⟨rfl, Kd.R_mono ho0 (fun k hk => .inl hk), hB, Kept.refl _ _⟩
   · skip
     have hne : u9000_ ≠ .slice none 0 0 := by
      rintro rfl
      rcases ho.2 with ⟨_, hn⟩ | ⟨_, _, _, hv, _⟩
      · exact h0 (List.length_eq_zero_iff.1 hn)
      · cases hv
     obtain ⟨g', cap', e1, _, hlt, _, _, _, hH⟩ := Go.Lib.holds_of_ownsRow ho hne
     rcases ho.2 with ⟨hv, _⟩ | ⟨g, cap, cur, rfl, hbase, hgc, hn, hm, hs, ht⟩
     · exact absurd hv hne
     · obtain ⟨rfl, rfl⟩ : g = g' ∧ cap = cap' := by simpa using e1
       refine (Try.slices_Sort_int g 0 cap l0 w hH hlt hlen).mono ?_
       rintro e w' ⟨rfl, n, os, rfl⟩
       have hg := grownBy_sortedI (w := w) (g := g) (n := n) (os := os) (l0.mergeSort fun x y => decide (x ≤ y)).toArray
       have hl : (l0.mergeSort fun x y => decide (x ≤ y)).length = l0.length := List.length_mergeSort ..
       have hR := ownsRow_sortedI (n := n) (os := os) hl hbase hgc hn hm hs
       refine ⟨rfl, Kd.R_of_own (h1 := fun _ => rfl) ?_ (fun k hk => .inl (ho0.1 k hk)), hB.grown hg hB.size (fun k hk => by injection hk with hk; omega), ⟨hg.size, fun i hi hn => hg.block i hi (fun e => hn (ho0.1 i (by injection e with e; rw [e]; rfl)))⟩⟩
       rw [hl]
       exact hR
 · cases h

end Go.Proofs.Ytdkokfnnebdppaa.P

-- written by a program of this session's (wip/pp)
namespace Go.Proofs.Ytdkokfnnebdppaa.P
open Go.RowKit Go.Proofs.YtdkokfnnebdppaaW.PrintWords Go.Proofs.YtdkokfnnebdppaaW.PrintLast Go.Proofs.YtdkokfnnebdppaaW.PrintMore
attribute [local go_sem] max2_int min2_int max_two min_two max_three min_three max_four min_four str_geq str_gtr str_leq   -- for this text's walks alone
set_option linter.unusedVariables false
set_option linter.unusedSimpArgs false

/-! ### slices_Compact_int_int: function 59 -/
def slices_Compact_int_int.f (l0 : List Int) : Option (List Int) := if l0.length ≤ 9223372036854775807 then some (Go.Lib.compact l0) else none
theorem slices_Compact_int_int.calls (P0_ : Nat → Prop) (u9000_ : Value) (l0 : List Int) (r : List Int) (w0 w : World) (hB : Below w0.heap.size w0 w) (ho0 : Kd.R (Kd.int .i64) 3 w w0.heap.size P0_ u9000_ l0) (h : slices_Compact_int_int.f l0 = some r) :
 Calls Try.prog 59 #[u9000_] w fun e w' => ∃ v0_ : Value, e = .returned (v0_) ∧ Kd.R (Kd.int .i64) 3 w' w0.heap.size (fun k_ => (P0_ k_ ∨ w.heap.size ≤ k_)) v0_ r ∧ Below w0.heap.size w0 w' ∧ Kept w w' (fun k_ => P0_ k_) := by
 unfold slices_Compact_int_int.f at h
 split at h
 · rename_i hlen
   obtain rfl := Option.some.inj h
   have ho : w.ownsRow w0.heap.size 3 1 u9000_ l0.length (l0.map (Value.int .i64)) := Kd.own_of_R ho0
   by_cases h0 : l0 = []
   · subst h0
     obtain ⟨A, c, rfl⟩ := Kd.R_slice ho0
     refine (Try.slices_Compact_int_empty A c w).mono ?_
     rintro e w' ⟨rfl, rfl⟩
     exact ⟨_, rfl, Kd.R_mono ho0 (fun k hk => .inl hk), hB, Kept.refl _ _⟩
   · skip
     have hne : u9000_ ≠ .slice none 0 0 := by
      rintro rfl
      rcases ho.2 with ⟨_, hn⟩ | ⟨_, _, _, hv, _⟩
      · exact h0 (List.length_eq_zero_iff.1 hn)
      · cases hv
     obtain ⟨g, cap, rfl, hbase, hlt, hn, hm, _, hH⟩ := Go.Lib.holds_of_ownsRow ho hne
     refine (Try.slices_Compact_int g 0 cap l0 w hH hlen hn).mono ?_
     rintro e w' ⟨rfl, q, rfl⟩
     have hle : (Go.Lib.compact l0).length ≤ l0.length := Go.Lib.compact_length_le l0
     have hy : (Go.Lib.compact l0 ++ List.replicate (l0.length - (Go.Lib.compact l0).length) 0).length = l0.length := by rw [List.length_append, List.length_replicate]; omega
     have hR := Go.Lib.ownsRow_putRow (q := q) ho hy hle
     rw [List.take_left] at hR
     have hg' : w.grownBy (Go.Sort.putRow (Value.int .i64) (Go.Sort.ahead w q) g 0 (Go.Lib.compact l0 ++ List.replicate (l0.length - (Go.Lib.compact l0).length) 0).toArray) (some g) := by
      refine ⟨rfl, rfl, rfl, by simp, fun k hk hne => ?_⟩
      have : g ≠ k := fun e => hne (by rw [e])
      simp [Go.Sort.putRow, Go.Sort.mapBlock, Go.Sort.ahead, Array.getElem?_modify, this]
     exact ⟨_, rfl, Kd.R_of_own (h1 := fun _ => rfl) hR (fun k hk => .inl (ho0.1 k (by simpa [Value.ownBlock] using hk))), hB.grown hg' hB.size (fun k hk => by injection hk with hk; omega), ⟨hg'.size, fun i hi hn => hg'.block i hi (fun e => hn (ho0.1 i (by injection e with e; rw [e]; rfl)))⟩⟩
 · cases h

end Go.Proofs.Ytdkokfnnebdppaa.P

-- written by a program of this session's (wip/pp)
namespace Go.Proofs.Ytdkokfnnebdppaa.P
open Go.RowKit Go.Proofs.YtdkokfnnebdppaaW.PrintWords Go.Proofs.YtdkokfnnebdppaaW.PrintLast Go.Proofs.YtdkokfnnebdppaaW.PrintMore
attribute [local go_sem] max2_int min2_int max_two min_two max_three min_three max_four min_four str_geq str_gtr str_leq   -- for this text's walks alone
set_option linter.unusedVariables false
set_option linter.unusedSimpArgs false

/-! ### impl_GoodEntries: function 28 -/
def impl_GoodEntries.l0 : Nat → List (S45) → List Int → List (S45) → Int → Int → Option (Bool)
 | 0, _, _, _, _, _ => none
 | k + 1, x0, x3, x7, x8, x9 => if x9 < x8 then (if 0 ≤ x9 then (if x9 < (x7.length : Int) then ((impl_GoodEntry.f k ((rd_T45 x7 x9).f0) ((rd_T45 x7 x9).f1) ((rd_T45 x7 x9).f2) ((rd_T45 x7 x9).f3.f0) ((rd_T45 x7 x9).f3.f1) ((rd_T45 x7 x9).f3.f2) ((rd_T45 x7 x9).f3.f3) ((rd_T45 x7 x9).f3.f4) ((rd_T45 x7 x9).f3.f5)).bind fun t110 => (if t110 = true then (if x9 > 0 then (if 0 ≤ (wrap64 (x9 - 1)) then (if (wrap64 (x9 - 1)) < (x0.length : Int) then ((impl_compareEntries.f k ((rd_T45 x0 (wrap64 (x9 - 1))).f0) ((rd_T45 x0 (wrap64 (x9 - 1))).f1) ((rd_T45 x0 (wrap64 (x9 - 1))).f2) ((rd_T45 x0 (wrap64 (x9 - 1))).f3.f0) ((rd_T45 x0 (wrap64 (x9 - 1))).f3.f1) ((rd_T45 x0 (wrap64 (x9 - 1))).f3.f2) ((rd_T45 x0 (wrap64 (x9 - 1))).f3.f3) ((rd_T45 x0 (wrap64 (x9 - 1))).f3.f4) ((rd_T45 x0 (wrap64 (x9 - 1))).f3.f5) ((rd_T45 x7 x9).f0) ((rd_T45 x7 x9).f1) ((rd_T45 x7 x9).f2) ((rd_T45 x7 x9).f3.f0) ((rd_T45 x7 x9).f3.f1) ((rd_T45 x7 x9).f3.f2) ((rd_T45 x7 x9).f3.f3) ((rd_T45 x7 x9).f3.f4) ((rd_T45 x7 x9).f3.f5)).bind fun t112 => (if t112 ≥ 0 then (some false) else (if x3.length < 17592186044416 then (impl_GoodEntries.l0 k x0 (x3 ++ [(rd_T45 x7 x9).f1]) x7 x8 (wrap64 (x9 + 1))) else (none)))) else (none)) else (none)) else (if x3.length < 17592186044416 then (impl_GoodEntries.l0 k x0 (x3 ++ [(rd_T45 x7 x9).f1]) x7 x8 (wrap64 (x9 + 1))) else (none))) else (some false))) else (none)) else (none)) else ((slices_Sort_int_int.f x3).bind fun t104 => ((slices_Compact_int_int.f t104).bind fun t105 => (some ((t105.length : Int) == (x0.length : Int)))))
def impl_GoodEntries.f (k : Nat) (l0 : List (S45)) : Option (Bool) := impl_GoodEntries.l0 k l0 (([] : List Int)) l0 (l0.length : Int) 0
theorem impl_GoodEntries.mono_l : ∀ k, (∀ y0 y1 y2 y3 y4, LeO (impl_GoodEntries.l0 k y0 y1 y2 y3 y4) (impl_GoodEntries.l0 (k + 1) y0 y1 y2 y3 y4))
 | 0 => fun _ _ _ _ _ r h => by simp [impl_GoodEntries.l0] at h
 | k + 1 => by
  have ih0 := impl_GoodEntries.mono_l k
  · intro y0 y1 y2 y3 y4
    unfold impl_GoodEntries.l0
    repeat' first
     | (with_reducible first | exact ih0 .. | exact impl_GoodEntry.mono .. | exact impl_compareEntries.mono .. | exact LeO.refl _ | exact LeO.none _ | refine LeO.ite ?_ ?_ | refine LeO.bind ?_ (fun _ => ?_))
     | exact LeO.none _
     | refine LeO.ite ?_ ?_
     | refine LeO.bind ?_ (fun _ => ?_)
theorem impl_GoodEntries.mono : ∀ a0 k, LeO (impl_GoodEntries.f k a0) (impl_GoodEntries.f (k + 1) a0) := by
 intro a0 k
 have ih0 := impl_GoodEntries.mono_l k
 unfold impl_GoodEntries.f
 repeat' first
  | (with_reducible first | exact ih0 .. | exact impl_GoodEntry.mono .. | exact impl_compareEntries.mono .. | exact LeO.refl _ | exact LeO.none _ | refine LeO.ite ?_ ?_ | refine LeO.bind ?_ (fun _ => ?_))
  | exact LeO.none _
  | refine LeO.ite ?_ ?_
  | refine LeO.bind ?_ (fun _ => ?_)
def impl_GoodEntries.T5 : Bool × List (List Nat × List Nat) := (true, [([], []), ([0], [0]), ([1], [1]), ([2, 1], [2]), ([3], [3]), ([4, 3], [3, 4]), ([5, 3, 3], [3, 5]), ([6], [6]), ([6], [6]), ([8, 6], [6, 8]), ([7, 9, 6], [6, 7, 9]), ([10, 6], [6, 10]), ([6], [6]), ([11, 12, 6, 6], [6, 11, 12]), ([13, 6], [6, 13]), ([6, 14, 3], [3, 6, 14]), ([3, 15], [3, 15])])
def impl_GoodEntries.B5 : List Nat := [0, 1, 3, 7, 15, 31, 63, 127, 127, 383, 1023, 2047, 127, 8191, 16383, 32767, 65535]
theorem impl_GoodEntries.tab5 : rtab .any (opsOf Try.f28 5) = impl_GoodEntries.T5 := by kernel_rfl
theorem impl_GoodEntries.bits5 : waitsOk impl_GoodEntries.T5.2 impl_GoodEntries.B5 = true := by kernel_rfl
set_option maxHeartbeats 8000000 in
set_option maxRecDepth 100000 in
theorem impl_GoodEntries.calls (k : Nat) (A0 : Option Addr) (c0 : Nat) (l0 : List (S45)) (r : Bool) (w : World) (hr0 : Kd.C k45 w A0 l0.length l0) (hc0 : l0.length ≤ c0) (h : impl_GoodEntries.f k l0 = some r) :
 Calls Try.prog 28 #[.slice A0 l0.length c0] w fun e w' => e = .returned (.bool r) ∧ Below w.heap.size w w' := by
 have hu45 := Try.underlying45
 have HR0 := aM hr0
 have HC0 := aM hc0
 clear hr0 hc0
 have HB := aM (Below.refl w.heap.size w)
 have H : (impl_GoodEntries.l0 k l0 (([] : List Int)) l0 (l0.length : Int) 0) = some r := h
 clear h
 obtain ⟨y101, hy101⟩ : ∃ y_ : List Int, y_ = (([] : List Int)) := ⟨_, rfl⟩
 first | (replace H := bindS H; rw [← hy101] at H; try dsimp only at H) | rw [← hy101] at H
 have Ny101 := aM hy101
 clear hy101
 have H' := aM H
 clear H
 go_enter Try.func28, Try.ntmps28
 go_wp2_with (first | ((with_reducible refine gate_dst (N := 6) rfl ?_); refine Kd.R_lit (Kd.int .i64) _ 3 ?hg (N := 6) ?hd (xs := ([] : List Int)) (inner := []) (ok := fun _ => True) (okp := fun _ => True) ?hr ?hp (fun _ hk => hk) trivial (Below.refl _ _) (Nat.le_refl _) (by simp) ?_; (case hd => rfl); (case hg => rfl); (case hr => first | (go_simp; done) | (go_simp; rfl)); (case hp => exact (Reps.none _ _)); intro v102 w2 ho3 hb hg_ hnew_; clear hg_ hnew_; (first | rw [← Ny101.out] at ho3 | (simp only [Int.reduceToNat] at ho3; rw [← Ny101.out] at ho3)); have _ := aM (Kd.R_lower ho3 (below_size hbZ)); have _ := aM (below_step hbZ hb); clear HB; rename_i HO103 HB; clear hb ho3))
 go_loopg [3, 9] k (fun kq v3 v9 w' => ∃ (x3_1 : List Int) (x9_1 : Int), v9 = .int .i64 x9_1 ∧ Aside0 (impl_GoodEntries.l0 kq l0 x3_1 l0 (l0.length : Int) x9_1 = some r) ∧ Aside0 (kq ≤ k) ∧ Aside0 (Kd.R (Kd.int .i64) 3 w' w.heap.size (fun _ => True) v3 x3_1) ∧ Aside0 (Below w.heap.size w w'))
 case atStart => exact ⟨(y101), (0), z4458, H', ⟨Nat.le_refl _⟩, ⟨rZ HO103.out⟩, ⟨z5acd⟩⟩
 case round =>
  clear H'
  try clear c2
  try clear p2
  obtain ⟨x3_1, x9_1, rfl, HA, HK1, HO_3, HB⟩ := hrel
  cases gk with
  | zero => exact absurd HA.out (by simp [impl_GoodEntries.l0])
  | succ k1 =>
   have H := HA.out
   clear HA
   simp only [impl_GoodEntries.l0] at H
   by_cases c4 : x9_1 < (l0.length : Int)
   · rw [if_pos c4] at H
     have c4b0 : decide (x9_1 < (l0.length : Int)) = true := decide_eq_true c4
     clear c4
     replace H := ifS H; obtain ⟨c5, H⟩ := H
     have c5b0 : decide (0 ≤ x9_1) = true := decide_eq_true c5
     clear c5
     replace H := ifS H; obtain ⟨c6, H⟩ := H
     have c6b0 : decide (x9_1 < (l0.length : Int)) = true := decide_eq_true c6
     clear c6
     replace H := Option.bind_eq_some_iff.mp H
     obtain ⟨t110, A70, H⟩ := H
     try dsimp only at H
     have A7 := aM A70
     clear A70
     by_cases c8 : t110 = true
     · subst c8
       rw [if_pos rfl] at H
       by_cases c9 : x9_1 > 0
       · rw [if_pos c9] at H
         have c9b0 : decide (0 < x9_1) = true := decide_eq_true c9
         clear c9
         obtain ⟨ji10, hji10⟩ : ∃ j_ : Int, (wrap64 (x9_1 - 1)) = j_ := ⟨_, rfl⟩
         replace H : (if 0 ≤ (ji10) then (if (ji10) < (l0.length : Int) then ((impl_compareEntries.f k1 ((rd_T45 l0 (ji10)).f0) ((rd_T45 l0 (ji10)).f1) ((rd_T45 l0 (ji10)).f2) ((rd_T45 l0 (ji10)).f3.f0) ((rd_T45 l0 (ji10)).f3.f1) ((rd_T45 l0 (ji10)).f3.f2) ((rd_T45 l0 (ji10)).f3.f3) ((rd_T45 l0 (ji10)).f3.f4) ((rd_T45 l0 (ji10)).f3.f5) ((rd_T45 l0 x9_1).f0) ((rd_T45 l0 x9_1).f1) ((rd_T45 l0 x9_1).f2) ((rd_T45 l0 x9_1).f3.f0) ((rd_T45 l0 x9_1).f3.f1) ((rd_T45 l0 x9_1).f3.f2) ((rd_T45 l0 x9_1).f3.f3) ((rd_T45 l0 x9_1).f3.f4) ((rd_T45 l0 x9_1).f3.f5)).bind fun t112 => (if t112 ≥ 0 then (some false) else (if x3_1.length < 17592186044416 then (impl_GoodEntries.l0 k1 l0 (x3_1 ++ [(rd_T45 l0 x9_1).f1]) l0 (l0.length : Int) (wrap64 (x9_1 + 1))) else (none)))) else (none)) else (none)) = some r := by first | (rw [hji10] at H; exact H) | (simp only [hji10] at H ⊢; exact H)
         (try rw [hji10] at A7)
         have hji10w : (IntKind.i64.wrap (x9_1 - 1)) = ji10 := (i64_w _).trans hji10
         replace H := ifS H; obtain ⟨c11, H⟩ := H
         have c11b0 : decide (0 ≤ (ji10)) = true := decide_eq_true c11
         clear c11
         replace H := ifS H; obtain ⟨c12, H⟩ := H
         have c12b0 : decide ((ji10) < (l0.length : Int)) = true := decide_eq_true c12
         clear c12
         replace H := Option.bind_eq_some_iff.mp H
         obtain ⟨t112, A130, H⟩ := H
         try dsimp only at H
         have A13 := aM A130
         clear A130
         by_cases c14 : t112 ≥ 0
         · rw [if_pos c14] at H
           have c14b0 : decide (0 ≤ t112) = true := decide_eq_true c14
           clear c14
           obtain rfl := Option.some.inj H
           have p108 : 0 ≤ (x9_1 : Int) := of_decide_eq_true z1200
           have q108 : x9_1 < (l0.length : Int) := of_decide_eq_true z1200
           obtain ⟨ad108, A108_7, c108_7, e108, hx108_0, hx108_1, hx108_2, hx108_3, hx108_4, hx108_5, hx108_6, hx108_7, hx108_8, hl108_7, hi108_7⟩ := at_T45 HR0.out x9_1 p108 q108
           cases e108
           have TW108_7 := aM hx108_7
           replace hx108_0 := (HB.out.cell (World.block_lt_of_cell? w _ hx108_0)).trans hx108_0
           replace hx108_1 := (HB.out.cell (World.block_lt_of_cell? w _ hx108_1)).trans hx108_1
           replace hx108_2 := (HB.out.cell (World.block_lt_of_cell? w _ hx108_2)).trans hx108_2
           replace hx108_3 := (HB.out.cell (World.block_lt_of_cell? w _ hx108_3)).trans hx108_3
           replace hx108_4 := (HB.out.cell (World.block_lt_of_cell? w _ hx108_4)).trans hx108_4
           replace hx108_5 := (HB.out.cell (World.block_lt_of_cell? w _ hx108_5)).trans hx108_5
           replace hx108_6 := (HB.out.cell (World.block_lt_of_cell? w _ hx108_6)).trans hx108_6
           replace hx108_7 := (HB.out.cell (World.block_lt_of_cell? w _ hx108_7)).trans hx108_7
           replace hx108_8 := (HB.out.cell (World.block_lt_of_cell? w _ hx108_8)).trans hx108_8
           have HR108_7 := aM hi108_7
           have HC108_7 := aM hl108_7
           clear hi108_7 hl108_7
           replace p108 := eq_true p108
           replace q108 := eq_true q108
           try go_wp2_with (first | ((with_reducible refine gate_dst (N := 5) rfl ?_); refine box_event ?hg (N := 5) ?hd (cs := #[.string (⟨#[]⟩ : ByteArray), .int .i64 0, .int .i64 0, .int .i64 0, .int .i64 0, .int .i64 0, .int .i64 0, .slice none 0 0, .bool false]) (t := 45) ?hr ?_; (case hd => rfl); (case hg => rfl); (case hr => first | (go_simp; done) | (go_simp; rfl)); intro gb109 hg w15 hbox hb; have _ := aM (Kd.R_below (rZ HO_3.out) hb); have _ := aM (below_step hbZ hb); have _ := aM hbox; have _ := szZ hg; have _ := szZ hg; clear HO_3 HB; rename_i HO_3 HB BK109 GW109 GE109; clear hb hbox hg; obtain ⟨hcz16_0, hcz16_1, hcz16_2, hcz16_3, hcz16_4, hcz16_5, hcz16_6, hcz16_7, hcz16_8, hfz16_0, hfz16_1, hfz16_2, hfz16_3, hfz16_4, hfz16_5, hfz16_6, hfz16_7, hfz16_8⟩ := cellsZ9 BK109.out))
           have n0_ : Aside0 (Kd.R (Kd.int .i64) 3 (((((((((w15.setCell ⟨gb109, 0, none⟩ (.string ((rd_T45 l0 x9_1).f0))).setCell ⟨gb109, 1, none⟩ (.int .i64 ((rd_T45 l0 x9_1).f1))).setCell ⟨gb109, 2, none⟩ (.int .i64 ((rd_T45 l0 x9_1).f2))).setCell ⟨gb109, 3, none⟩ (.int .i64 ((rd_T45 l0 x9_1).f3.f0))).setCell ⟨gb109, 4, none⟩ (.int .i64 ((rd_T45 l0 x9_1).f3.f1))).setCell ⟨gb109, 5, none⟩ (.int .i64 ((rd_T45 l0 x9_1).f3.f2))).setCell ⟨gb109, 6, none⟩ (.int .i64 ((rd_T45 l0 x9_1).f3.f3))).setCell ⟨gb109, 7, none⟩ (.slice A108_7 ((rd_T45 l0 x9_1).f3.f4).length c108_7)).setCell ⟨gb109, 8, none⟩ (.bool ((rd_T45 l0 x9_1).f3.f5))) w.heap.size (fun _ => True) u3 x3_1) := ⟨by (with_reducible repeat (first | apply Kd.R_alloc | apply Kd.R_drewN | apply Kd.R_drew)); exact Kd.R_mono (Kd.R_far (p := ⟨gb109, 8, none⟩) (Kd.R_far (p := ⟨gb109, 7, none⟩) (Kd.R_far (p := ⟨gb109, 6, none⟩) (Kd.R_far (p := ⟨gb109, 5, none⟩) (Kd.R_far (p := ⟨gb109, 4, none⟩) (Kd.R_far (p := ⟨gb109, 3, none⟩) (Kd.R_far (p := ⟨gb109, 2, none⟩) (Kd.R_far (p := ⟨gb109, 1, none⟩) (Kd.R_far (p := ⟨gb109, 0, none⟩) (Kd.R_types HO_3.out BK109.out (by decide)) (fun _ hk => hk.2) (.string ((rd_T45 l0 x9_1).f0))) (fun _ hk => hk.2) (.int .i64 ((rd_T45 l0 x9_1).f1))) (fun _ hk => hk.2) (.int .i64 ((rd_T45 l0 x9_1).f2))) (fun _ hk => hk.2) (.int .i64 ((rd_T45 l0 x9_1).f3.f0))) (fun _ hk => hk.2) (.int .i64 ((rd_T45 l0 x9_1).f3.f1))) (fun _ hk => hk.2) (.int .i64 ((rd_T45 l0 x9_1).f3.f2))) (fun _ hk => hk.2) (.int .i64 ((rd_T45 l0 x9_1).f3.f3))) (fun _ hk => hk.2) (.slice A108_7 ((rd_T45 l0 x9_1).f3.f4).length c108_7)) (fun _ hk => hk.2) (.bool ((rd_T45 l0 x9_1).f3.f5))) (fun _ hk => trivial)⟩
           have n1_ : Aside0 ((((((((((w15.setCell ⟨gb109, 0, none⟩ (.string ((rd_T45 l0 x9_1).f0))).setCell ⟨gb109, 1, none⟩ (.int .i64 ((rd_T45 l0 x9_1).f1))).setCell ⟨gb109, 2, none⟩ (.int .i64 ((rd_T45 l0 x9_1).f2))).setCell ⟨gb109, 3, none⟩ (.int .i64 ((rd_T45 l0 x9_1).f3.f0))).setCell ⟨gb109, 4, none⟩ (.int .i64 ((rd_T45 l0 x9_1).f3.f1))).setCell ⟨gb109, 5, none⟩ (.int .i64 ((rd_T45 l0 x9_1).f3.f2))).setCell ⟨gb109, 6, none⟩ (.int .i64 ((rd_T45 l0 x9_1).f3.f3))).setCell ⟨gb109, 7, none⟩ (.slice A108_7 ((rd_T45 l0 x9_1).f3.f4).length c108_7)).setCell ⟨gb109, 8, none⟩ (.bool ((rd_T45 l0 x9_1).f3.f5))).heap[gb109]? = some (.cells #[.string ((rd_T45 l0 x9_1).f0), .int .i64 ((rd_T45 l0 x9_1).f1), .int .i64 ((rd_T45 l0 x9_1).f2), .int .i64 ((rd_T45 l0 x9_1).f3.f0), .int .i64 ((rd_T45 l0 x9_1).f3.f1), .int .i64 ((rd_T45 l0 x9_1).f3.f2), .int .i64 ((rd_T45 l0 x9_1).f3.f3), .slice A108_7 ((rd_T45 l0 x9_1).f3.f4).length c108_7, .bool ((rd_T45 l0 x9_1).f3.f5)] 45 (0, 0))) := ⟨bkZ⟩
           have n2_ : Aside0 (Below w.heap.size w (((((((((w15.setCell ⟨gb109, 0, none⟩ (.string ((rd_T45 l0 x9_1).f0))).setCell ⟨gb109, 1, none⟩ (.int .i64 ((rd_T45 l0 x9_1).f1))).setCell ⟨gb109, 2, none⟩ (.int .i64 ((rd_T45 l0 x9_1).f2))).setCell ⟨gb109, 3, none⟩ (.int .i64 ((rd_T45 l0 x9_1).f3.f0))).setCell ⟨gb109, 4, none⟩ (.int .i64 ((rd_T45 l0 x9_1).f3.f1))).setCell ⟨gb109, 5, none⟩ (.int .i64 ((rd_T45 l0 x9_1).f3.f2))).setCell ⟨gb109, 6, none⟩ (.int .i64 ((rd_T45 l0 x9_1).f3.f3))).setCell ⟨gb109, 7, none⟩ (.slice A108_7 ((rd_T45 l0 x9_1).f3.f4).length c108_7)).setCell ⟨gb109, 8, none⟩ (.bool ((rd_T45 l0 x9_1).f3.f5)))) := ⟨zcb41⟩
           (try clear HO_3)
           (try clear BK109)
           (try clear HB)
           generalize (((((((((w15.setCell ⟨gb109, 0, none⟩ (.string ((rd_T45 l0 x9_1).f0))).setCell ⟨gb109, 1, none⟩ (.int .i64 ((rd_T45 l0 x9_1).f1))).setCell ⟨gb109, 2, none⟩ (.int .i64 ((rd_T45 l0 x9_1).f2))).setCell ⟨gb109, 3, none⟩ (.int .i64 ((rd_T45 l0 x9_1).f3.f0))).setCell ⟨gb109, 4, none⟩ (.int .i64 ((rd_T45 l0 x9_1).f3.f1))).setCell ⟨gb109, 5, none⟩ (.int .i64 ((rd_T45 l0 x9_1).f3.f2))).setCell ⟨gb109, 6, none⟩ (.int .i64 ((rd_T45 l0 x9_1).f3.f3))).setCell ⟨gb109, 7, none⟩ (.slice A108_7 ((rd_T45 l0 x9_1).f3.f4).length c108_7)).setCell ⟨gb109, 8, none⟩ (.bool ((rd_T45 l0 x9_1).f3.f5))) = w17 at n0_ n1_ n2_ ⊢
           have HO_3 := n0_
           have BK109 := n1_
           have HB := n2_
           clear n0_ n1_ n2_
           have _ := aM (Kd.R_drew HO_3.out)
           have _ := aM (blk_drew BK109.out)
           have _ := aM (below_drew1 HB.out)
           clear HO_3
           clear BK109
           clear HB
           rename_i HO_3 BK109 HB
           have p111 : 0 ≤ ((ji10) : Int) := of_decide_eq_true z1200
           have q111 : (ji10) < (l0.length : Int) := of_decide_eq_true z1200
           obtain ⟨ad111, A111_7, c111_7, e111, hx111_0, hx111_1, hx111_2, hx111_3, hx111_4, hx111_5, hx111_6, hx111_7, hx111_8, hl111_7, hi111_7⟩ := at_T45 HR0.out (ji10) p111 q111
           have hw111_8 := hx111_8
           have hw111_7 := hx111_7
           have hw111_6 := hx111_6
           have hw111_5 := hx111_5
           have hw111_4 := hx111_4
           have hw111_3 := hx111_3
           have hw111_2 := hx111_2
           have hw111_1 := hx111_1
           have hw111_0 := hx111_0
           obtain rfl : ad108 = ad111 := (by injection e111)
           have TW111_7 := aM hx111_7
           replace hx111_0 := (HB.out.cell (World.block_lt_of_cell? w _ hx111_0)).trans hx111_0
           replace hx111_1 := (HB.out.cell (World.block_lt_of_cell? w _ hx111_1)).trans hx111_1
           replace hx111_2 := (HB.out.cell (World.block_lt_of_cell? w _ hx111_2)).trans hx111_2
           replace hx111_3 := (HB.out.cell (World.block_lt_of_cell? w _ hx111_3)).trans hx111_3
           replace hx111_4 := (HB.out.cell (World.block_lt_of_cell? w _ hx111_4)).trans hx111_4
           replace hx111_5 := (HB.out.cell (World.block_lt_of_cell? w _ hx111_5)).trans hx111_5
           replace hx111_6 := (HB.out.cell (World.block_lt_of_cell? w _ hx111_6)).trans hx111_6
           replace hx111_7 := (HB.out.cell (World.block_lt_of_cell? w _ hx111_7)).trans hx111_7
           replace hx111_8 := (HB.out.cell (World.block_lt_of_cell? w _ hx111_8)).trans hx111_8
           have HR111_7 := aM hi111_7
           have HC111_7 := aM hl111_7
           clear hi111_7 hl111_7
           replace p111 := eq_true p111
           replace q111 := eq_true q111
           refine sA 17 impl_GoodEntries.tab5 impl_GoodEntries.bits5 (fun w' => w'.cell? ⟨gb109, 0, none⟩ = some (.string ((rd_T45 l0 x9_1).f0)) ∧ w'.cell? ⟨gb109, 1, none⟩ = some (.int .i64 ((rd_T45 l0 x9_1).f1)) ∧ w'.cell? ⟨gb109, 2, none⟩ = some (.int .i64 ((rd_T45 l0 x9_1).f2)) ∧ w'.cell? ⟨gb109, 3, none⟩ = some (.int .i64 ((rd_T45 l0 x9_1).f3.f0)) ∧ w'.cell? ⟨gb109, 4, none⟩ = some (.int .i64 ((rd_T45 l0 x9_1).f3.f1)) ∧ w'.cell? ⟨gb109, 5, none⟩ = some (.int .i64 ((rd_T45 l0 x9_1).f3.f2)) ∧ w'.cell? ⟨gb109, 6, none⟩ = some (.int .i64 ((rd_T45 l0 x9_1).f3.f3)) ∧ w'.cell? ⟨gb109, 7, none⟩ = some (.slice A108_7 ((rd_T45 l0 x9_1).f3.f4).length c108_7) ∧ w'.cell? ⟨gb109, 8, none⟩ = some (.bool ((rd_T45 l0 x9_1).f3.f5)) ∧ w'.cell? (ad108.add (((ji10)).toNat * 9)) = some (.string ((rd_T45 l0 (ji10)).f0)) ∧ w'.cell? ⟨(ad108.add (((ji10)).toNat * 9)).block, (ad108.add (((ji10)).toNat * 9)).off + 1, none⟩ = some (.int .i64 ((rd_T45 l0 (ji10)).f1)) ∧ w'.cell? ⟨(ad108.add (((ji10)).toNat * 9)).block, (ad108.add (((ji10)).toNat * 9)).off + 2, none⟩ = some (.int .i64 ((rd_T45 l0 (ji10)).f2)) ∧ w'.cell? ⟨(ad108.add (((ji10)).toNat * 9)).block, (ad108.add (((ji10)).toNat * 9)).off + 3, none⟩ = some (.int .i64 ((rd_T45 l0 (ji10)).f3.f0)) ∧ w'.cell? ⟨(ad108.add (((ji10)).toNat * 9)).block, (ad108.add (((ji10)).toNat * 9)).off + 4, none⟩ = some (.int .i64 ((rd_T45 l0 (ji10)).f3.f1)) ∧ w'.cell? ⟨(ad108.add (((ji10)).toNat * 9)).block, (ad108.add (((ji10)).toNat * 9)).off + 5, none⟩ = some (.int .i64 ((rd_T45 l0 (ji10)).f3.f2)) ∧ w'.cell? ⟨(ad108.add (((ji10)).toNat * 9)).block, (ad108.add (((ji10)).toNat * 9)).off + 6, none⟩ = some (.int .i64 ((rd_T45 l0 (ji10)).f3.f3)) ∧ w'.cell? ⟨(ad108.add (((ji10)).toNat * 9)).block, (ad108.add (((ji10)).toNat * 9)).off + 7, none⟩ = some (.slice A111_7 ((rd_T45 l0 (ji10)).f3.f4).length c111_7) ∧ w'.cell? ⟨(ad108.add (((ji10)).toNat * 9)).block, (ad108.add (((ji10)).toNat * 9)).off + 8, none⟩ = some (.bool ((rd_T45 l0 (ji10)).f3.f5))) [] (fun hHeld HT_ HW_ => ?_)
           generalize w17.drew = w18 at HO_3 BK109 HB HR111_7 hx111_0 hx111_1 hx111_2 hx111_3 hx111_4 hx111_5 hx111_6 hx111_7 hx111_8 hHeld ⊢
           refine tA 0 14 HT_ HW_ hHeld ?_; refine oA 1 15 HT_ (fun K hK => ?_)
           refine goes_ Try.func47 (by kernel_rfl) rfl #[.agg #[.string ((rd_T45 l0 x9_1).f0), .int .i64 ((rd_T45 l0 x9_1).f1), .int .i64 ((rd_T45 l0 x9_1).f2), .int .i64 ((rd_T45 l0 x9_1).f3.f0), .int .i64 ((rd_T45 l0 x9_1).f3.f1), .int .i64 ((rd_T45 l0 x9_1).f3.f2), .int .i64 ((rd_T45 l0 x9_1).f3.f3), .slice A108_7 ((rd_T45 l0 x9_1).f3.f4).length c108_7, .bool ((rd_T45 l0 x9_1).f3.f5)]] (by rfl) rfl rfl zee81 ?_
           with_reducible refine (impl_GoodEntry.calls k1 ((rd_T45 l0 x9_1).f0) ((rd_T45 l0 x9_1).f1) ((rd_T45 l0 x9_1).f2) ((rd_T45 l0 x9_1).f3.f0) ((rd_T45 l0 x9_1).f3.f1) ((rd_T45 l0 x9_1).f3.f2) ((rd_T45 l0 x9_1).f3.f3) _ _ ((rd_T45 l0 x9_1).f3.f4) ((rd_T45 l0 x9_1).f3.f5) true _ ?side1 ?side2 A7.out).mono ?_
           (case side1 => exact (cZ (Kd.C_below HR108_7.out HB.out)))
           (case side2 => exact HC108_7.out)
           rintro e w19 ⟨rfl, hb⟩
           refine ⟨_, rfl, ?_⟩
           have _ := aM (Kd.R_below (rZ HO_3.out) hb)
           have _ := bB gb109 hb
           have _ := aM (below_step hbZ hb)
           clear HO_3
           clear BK109
           clear HB
           rename_i HO_3 BK109 HB
           (try clear hb)
           (try clear hb2)
           (try clear hk)
           (try clear hi)
           refine hK.out _ _ sZ (fun hHeld => ?_)
           clear hK K
           refine nA 15 ?_; refine pA 2 16 HT_ ?_; refine pA 3 17 HT_ ?_; refine pA 4 18 HT_ ?_; refine pA 5 19 HT_ ?_; refine pA 6 20 HT_ ?_; refine pA 7 21 HT_ ?_; refine pA 8 22 HT_ ?_; refine pA 9 23 HT_ ?_; refine pA 10 24 HT_ ?_; refine tA 11 25 HT_ HW_ hHeld ?_; refine tA 12 26 HT_ HW_ hHeld ?_; refine oA 13 27 HT_ (fun K hK => ?_)
           refine goes_ Try.func57 (by kernel_rfl) rfl #[.agg #[.string ((rd_T45 l0 (ji10)).f0), .int .i64 ((rd_T45 l0 (ji10)).f1), .int .i64 ((rd_T45 l0 (ji10)).f2), .int .i64 ((rd_T45 l0 (ji10)).f3.f0), .int .i64 ((rd_T45 l0 (ji10)).f3.f1), .int .i64 ((rd_T45 l0 (ji10)).f3.f2), .int .i64 ((rd_T45 l0 (ji10)).f3.f3), .slice A111_7 ((rd_T45 l0 (ji10)).f3.f4).length c111_7, .bool ((rd_T45 l0 (ji10)).f3.f5)], .agg #[.string ((rd_T45 l0 x9_1).f0), .int .i64 ((rd_T45 l0 x9_1).f1), .int .i64 ((rd_T45 l0 x9_1).f2), .int .i64 ((rd_T45 l0 x9_1).f3.f0), .int .i64 ((rd_T45 l0 x9_1).f3.f1), .int .i64 ((rd_T45 l0 x9_1).f3.f2), .int .i64 ((rd_T45 l0 x9_1).f3.f3), .slice A108_7 ((rd_T45 l0 x9_1).f3.f4).length c108_7, .bool ((rd_T45 l0 x9_1).f3.f5)]] (by rfl) rfl rfl (by (try simp only [List.map_toArray, List.map_cons, List.map_nil]); first | done | (simp only [hji10]; rfl) | rfl | (simp only [List.length_drop, List.length_take]; rfl)) ?_
           with_reducible refine (impl_compareEntries.calls k1 ((rd_T45 l0 (ji10)).f0) ((rd_T45 l0 (ji10)).f1) ((rd_T45 l0 (ji10)).f2) ((rd_T45 l0 (ji10)).f3.f0) ((rd_T45 l0 (ji10)).f3.f1) ((rd_T45 l0 (ji10)).f3.f2) ((rd_T45 l0 (ji10)).f3.f3) _ _ ((rd_T45 l0 (ji10)).f3.f4) ((rd_T45 l0 (ji10)).f3.f5) ((rd_T45 l0 x9_1).f0) ((rd_T45 l0 x9_1).f1) ((rd_T45 l0 x9_1).f2) ((rd_T45 l0 x9_1).f3.f0) ((rd_T45 l0 x9_1).f3.f1) ((rd_T45 l0 x9_1).f3.f2) ((rd_T45 l0 x9_1).f3.f3) _ _ ((rd_T45 l0 x9_1).f3.f4) ((rd_T45 l0 x9_1).f3.f5) t112 _ ?side1 ?side2 ?side3 ?side4 A13.out).mono ?_
           (case side1 => exact (cZ (Kd.C_below HR111_7.out HB.out)))
           (case side2 => exact HC111_7.out)
           (case side3 => exact (cZ (Kd.C_below HR108_7.out HB.out)))
           (case side4 => exact HC108_7.out)
           rintro e w20 ⟨rfl, hb⟩
           refine ⟨_, rfl, ?_⟩
           have _ := aM (Kd.R_below (rZ HO_3.out) hb)
           have _ := bB gb109 hb
           have _ := aM (below_step hbZ hb)
           clear HO_3
           clear BK109
           clear HB
           rename_i HO_3 BK109 HB
           (try clear hb)
           (try clear hb2)
           (try clear hk)
           (try clear hi)
           refine hK.out _ _ sZ (fun hHeld => ?_)
           clear hK K
           refine nA 27 ?_; refine pA 14 28 HT_ ?_; refine pA 15 29 HT_ ?_; refine pA 16 30 HT_ ?_
           refine done_ (done_of HT_.out (by kernel_rfl)) ?_
           try go_wp2
           go_ret
           exact ⟨by first | rfl | (simp [errW_none, errW_some] <;> rfl) | (simp only [← hji10]; first | rfl | (simp [errW_none, errW_some] <;> rfl)) | (simp [*, errW_none, errW_some] <;> rfl), zcb41⟩
         · rw [if_neg c14] at H
           have c14b0 : decide (0 ≤ t112) = false := decide_eq_false c14
           clear c14
           replace H := ifS H; obtain ⟨c21, H⟩ := H
           have LMc21 := aM c21
           clear c21
           obtain ⟨y113, hy113⟩ : ∃ y_ : List Int, y_ = (x3_1 ++ [(rd_T45 l0 x9_1).f1]) := ⟨_, rfl⟩
           first | (replace H := bindS H; rw [← hy113] at H; try dsimp only at H) | rw [← hy113] at H
           have Ny113 := aM hy113
           clear hy113
           have H' := aM H
           clear H
           have p108 : 0 ≤ (x9_1 : Int) := of_decide_eq_true z1200
           have q108 : x9_1 < (l0.length : Int) := of_decide_eq_true z1200
           obtain ⟨ad108, A108_7, c108_7, e108, hx108_0, hx108_1, hx108_2, hx108_3, hx108_4, hx108_5, hx108_6, hx108_7, hx108_8, hl108_7, hi108_7⟩ := at_T45 HR0.out x9_1 p108 q108
           cases e108
           have TW108_7 := aM hx108_7
           replace hx108_0 := (HB.out.cell (World.block_lt_of_cell? w _ hx108_0)).trans hx108_0
           replace hx108_1 := (HB.out.cell (World.block_lt_of_cell? w _ hx108_1)).trans hx108_1
           replace hx108_2 := (HB.out.cell (World.block_lt_of_cell? w _ hx108_2)).trans hx108_2
           replace hx108_3 := (HB.out.cell (World.block_lt_of_cell? w _ hx108_3)).trans hx108_3
           replace hx108_4 := (HB.out.cell (World.block_lt_of_cell? w _ hx108_4)).trans hx108_4
           replace hx108_5 := (HB.out.cell (World.block_lt_of_cell? w _ hx108_5)).trans hx108_5
           replace hx108_6 := (HB.out.cell (World.block_lt_of_cell? w _ hx108_6)).trans hx108_6
           replace hx108_7 := (HB.out.cell (World.block_lt_of_cell? w _ hx108_7)).trans hx108_7
           replace hx108_8 := (HB.out.cell (World.block_lt_of_cell? w _ hx108_8)).trans hx108_8
           have HR108_7 := aM hi108_7
           have HC108_7 := aM hl108_7
           clear hi108_7 hl108_7
           replace p108 := eq_true p108
           replace q108 := eq_true q108
           try go_wp2_with (first | ((with_reducible refine gate_dst (N := 5) rfl ?_); refine box_event ?hg (N := 5) ?hd (cs := #[.string (⟨#[]⟩ : ByteArray), .int .i64 0, .int .i64 0, .int .i64 0, .int .i64 0, .int .i64 0, .int .i64 0, .slice none 0 0, .bool false]) (t := 45) ?hr ?_; (case hd => rfl); (case hg => rfl); (case hr => first | (go_simp; done) | (go_simp; rfl)); intro gb109 hg w22 hbox hb; have _ := aM (Kd.R_below (rZ HO_3.out) hb); have _ := aM (below_step hbZ hb); have _ := aM hbox; have _ := szZ hg; have _ := szZ hg; clear HO_3 HB; rename_i HO_3 HB BK109 GW109 GE109; clear hb hbox hg; obtain ⟨hcz23_0, hcz23_1, hcz23_2, hcz23_3, hcz23_4, hcz23_5, hcz23_6, hcz23_7, hcz23_8, hfz23_0, hfz23_1, hfz23_2, hfz23_3, hfz23_4, hfz23_5, hfz23_6, hfz23_7, hfz23_8⟩ := cellsZ9 BK109.out))
           have n0_ : Aside0 (Kd.R (Kd.int .i64) 3 (((((((((w22.setCell ⟨gb109, 0, none⟩ (.string ((rd_T45 l0 x9_1).f0))).setCell ⟨gb109, 1, none⟩ (.int .i64 ((rd_T45 l0 x9_1).f1))).setCell ⟨gb109, 2, none⟩ (.int .i64 ((rd_T45 l0 x9_1).f2))).setCell ⟨gb109, 3, none⟩ (.int .i64 ((rd_T45 l0 x9_1).f3.f0))).setCell ⟨gb109, 4, none⟩ (.int .i64 ((rd_T45 l0 x9_1).f3.f1))).setCell ⟨gb109, 5, none⟩ (.int .i64 ((rd_T45 l0 x9_1).f3.f2))).setCell ⟨gb109, 6, none⟩ (.int .i64 ((rd_T45 l0 x9_1).f3.f3))).setCell ⟨gb109, 7, none⟩ (.slice A108_7 ((rd_T45 l0 x9_1).f3.f4).length c108_7)).setCell ⟨gb109, 8, none⟩ (.bool ((rd_T45 l0 x9_1).f3.f5))) w.heap.size (fun _ => True) u3 x3_1) := ⟨by (with_reducible repeat (first | apply Kd.R_alloc | apply Kd.R_drewN | apply Kd.R_drew)); exact Kd.R_mono (Kd.R_far (p := ⟨gb109, 8, none⟩) (Kd.R_far (p := ⟨gb109, 7, none⟩) (Kd.R_far (p := ⟨gb109, 6, none⟩) (Kd.R_far (p := ⟨gb109, 5, none⟩) (Kd.R_far (p := ⟨gb109, 4, none⟩) (Kd.R_far (p := ⟨gb109, 3, none⟩) (Kd.R_far (p := ⟨gb109, 2, none⟩) (Kd.R_far (p := ⟨gb109, 1, none⟩) (Kd.R_far (p := ⟨gb109, 0, none⟩) (Kd.R_types HO_3.out BK109.out (by decide)) (fun _ hk => hk.2) (.string ((rd_T45 l0 x9_1).f0))) (fun _ hk => hk.2) (.int .i64 ((rd_T45 l0 x9_1).f1))) (fun _ hk => hk.2) (.int .i64 ((rd_T45 l0 x9_1).f2))) (fun _ hk => hk.2) (.int .i64 ((rd_T45 l0 x9_1).f3.f0))) (fun _ hk => hk.2) (.int .i64 ((rd_T45 l0 x9_1).f3.f1))) (fun _ hk => hk.2) (.int .i64 ((rd_T45 l0 x9_1).f3.f2))) (fun _ hk => hk.2) (.int .i64 ((rd_T45 l0 x9_1).f3.f3))) (fun _ hk => hk.2) (.slice A108_7 ((rd_T45 l0 x9_1).f3.f4).length c108_7)) (fun _ hk => hk.2) (.bool ((rd_T45 l0 x9_1).f3.f5))) (fun _ hk => trivial)⟩
           have n1_ : Aside0 ((((((((((w22.setCell ⟨gb109, 0, none⟩ (.string ((rd_T45 l0 x9_1).f0))).setCell ⟨gb109, 1, none⟩ (.int .i64 ((rd_T45 l0 x9_1).f1))).setCell ⟨gb109, 2, none⟩ (.int .i64 ((rd_T45 l0 x9_1).f2))).setCell ⟨gb109, 3, none⟩ (.int .i64 ((rd_T45 l0 x9_1).f3.f0))).setCell ⟨gb109, 4, none⟩ (.int .i64 ((rd_T45 l0 x9_1).f3.f1))).setCell ⟨gb109, 5, none⟩ (.int .i64 ((rd_T45 l0 x9_1).f3.f2))).setCell ⟨gb109, 6, none⟩ (.int .i64 ((rd_T45 l0 x9_1).f3.f3))).setCell ⟨gb109, 7, none⟩ (.slice A108_7 ((rd_T45 l0 x9_1).f3.f4).length c108_7)).setCell ⟨gb109, 8, none⟩ (.bool ((rd_T45 l0 x9_1).f3.f5))).heap[gb109]? = some (.cells #[.string ((rd_T45 l0 x9_1).f0), .int .i64 ((rd_T45 l0 x9_1).f1), .int .i64 ((rd_T45 l0 x9_1).f2), .int .i64 ((rd_T45 l0 x9_1).f3.f0), .int .i64 ((rd_T45 l0 x9_1).f3.f1), .int .i64 ((rd_T45 l0 x9_1).f3.f2), .int .i64 ((rd_T45 l0 x9_1).f3.f3), .slice A108_7 ((rd_T45 l0 x9_1).f3.f4).length c108_7, .bool ((rd_T45 l0 x9_1).f3.f5)] 45 (0, 0))) := ⟨bkZ⟩
           have n2_ : Aside0 (Below w.heap.size w (((((((((w22.setCell ⟨gb109, 0, none⟩ (.string ((rd_T45 l0 x9_1).f0))).setCell ⟨gb109, 1, none⟩ (.int .i64 ((rd_T45 l0 x9_1).f1))).setCell ⟨gb109, 2, none⟩ (.int .i64 ((rd_T45 l0 x9_1).f2))).setCell ⟨gb109, 3, none⟩ (.int .i64 ((rd_T45 l0 x9_1).f3.f0))).setCell ⟨gb109, 4, none⟩ (.int .i64 ((rd_T45 l0 x9_1).f3.f1))).setCell ⟨gb109, 5, none⟩ (.int .i64 ((rd_T45 l0 x9_1).f3.f2))).setCell ⟨gb109, 6, none⟩ (.int .i64 ((rd_T45 l0 x9_1).f3.f3))).setCell ⟨gb109, 7, none⟩ (.slice A108_7 ((rd_T45 l0 x9_1).f3.f4).length c108_7)).setCell ⟨gb109, 8, none⟩ (.bool ((rd_T45 l0 x9_1).f3.f5)))) := ⟨zcb41⟩
           (try clear HO_3)
           (try clear BK109)
           (try clear HB)
           generalize (((((((((w22.setCell ⟨gb109, 0, none⟩ (.string ((rd_T45 l0 x9_1).f0))).setCell ⟨gb109, 1, none⟩ (.int .i64 ((rd_T45 l0 x9_1).f1))).setCell ⟨gb109, 2, none⟩ (.int .i64 ((rd_T45 l0 x9_1).f2))).setCell ⟨gb109, 3, none⟩ (.int .i64 ((rd_T45 l0 x9_1).f3.f0))).setCell ⟨gb109, 4, none⟩ (.int .i64 ((rd_T45 l0 x9_1).f3.f1))).setCell ⟨gb109, 5, none⟩ (.int .i64 ((rd_T45 l0 x9_1).f3.f2))).setCell ⟨gb109, 6, none⟩ (.int .i64 ((rd_T45 l0 x9_1).f3.f3))).setCell ⟨gb109, 7, none⟩ (.slice A108_7 ((rd_T45 l0 x9_1).f3.f4).length c108_7)).setCell ⟨gb109, 8, none⟩ (.bool ((rd_T45 l0 x9_1).f3.f5))) = w24 at n0_ n1_ n2_ ⊢
           have HO_3 := n0_
           have BK109 := n1_
           have HB := n2_
           clear n0_ n1_ n2_
           have _ := aM (Kd.R_drew HO_3.out)
           have _ := aM (blk_drew BK109.out)
           have _ := aM (below_drew1 HB.out)
           clear HO_3
           clear BK109
           clear HB
           rename_i HO_3 BK109 HB
           have p111 : 0 ≤ ((ji10) : Int) := of_decide_eq_true z1200
           have q111 : (ji10) < (l0.length : Int) := of_decide_eq_true z1200
           obtain ⟨ad111, A111_7, c111_7, e111, hx111_0, hx111_1, hx111_2, hx111_3, hx111_4, hx111_5, hx111_6, hx111_7, hx111_8, hl111_7, hi111_7⟩ := at_T45 HR0.out (ji10) p111 q111
           have hw111_8 := hx111_8
           have hw111_7 := hx111_7
           have hw111_6 := hx111_6
           have hw111_5 := hx111_5
           have hw111_4 := hx111_4
           have hw111_3 := hx111_3
           have hw111_2 := hx111_2
           have hw111_1 := hx111_1
           have hw111_0 := hx111_0
           obtain rfl : ad108 = ad111 := (by injection e111)
           have TW111_7 := aM hx111_7
           replace hx111_0 := (HB.out.cell (World.block_lt_of_cell? w _ hx111_0)).trans hx111_0
           replace hx111_1 := (HB.out.cell (World.block_lt_of_cell? w _ hx111_1)).trans hx111_1
           replace hx111_2 := (HB.out.cell (World.block_lt_of_cell? w _ hx111_2)).trans hx111_2
           replace hx111_3 := (HB.out.cell (World.block_lt_of_cell? w _ hx111_3)).trans hx111_3
           replace hx111_4 := (HB.out.cell (World.block_lt_of_cell? w _ hx111_4)).trans hx111_4
           replace hx111_5 := (HB.out.cell (World.block_lt_of_cell? w _ hx111_5)).trans hx111_5
           replace hx111_6 := (HB.out.cell (World.block_lt_of_cell? w _ hx111_6)).trans hx111_6
           replace hx111_7 := (HB.out.cell (World.block_lt_of_cell? w _ hx111_7)).trans hx111_7
           replace hx111_8 := (HB.out.cell (World.block_lt_of_cell? w _ hx111_8)).trans hx111_8
           have HR111_7 := aM hi111_7
           have HC111_7 := aM hl111_7
           clear hi111_7 hl111_7
           replace p111 := eq_true p111
           replace q111 := eq_true q111
           refine sA 17 impl_GoodEntries.tab5 impl_GoodEntries.bits5 (fun w' => w'.cell? ⟨gb109, 0, none⟩ = some (.string ((rd_T45 l0 x9_1).f0)) ∧ w'.cell? ⟨gb109, 1, none⟩ = some (.int .i64 ((rd_T45 l0 x9_1).f1)) ∧ w'.cell? ⟨gb109, 2, none⟩ = some (.int .i64 ((rd_T45 l0 x9_1).f2)) ∧ w'.cell? ⟨gb109, 3, none⟩ = some (.int .i64 ((rd_T45 l0 x9_1).f3.f0)) ∧ w'.cell? ⟨gb109, 4, none⟩ = some (.int .i64 ((rd_T45 l0 x9_1).f3.f1)) ∧ w'.cell? ⟨gb109, 5, none⟩ = some (.int .i64 ((rd_T45 l0 x9_1).f3.f2)) ∧ w'.cell? ⟨gb109, 6, none⟩ = some (.int .i64 ((rd_T45 l0 x9_1).f3.f3)) ∧ w'.cell? ⟨gb109, 7, none⟩ = some (.slice A108_7 ((rd_T45 l0 x9_1).f3.f4).length c108_7) ∧ w'.cell? ⟨gb109, 8, none⟩ = some (.bool ((rd_T45 l0 x9_1).f3.f5)) ∧ w'.cell? (ad108.add (((ji10)).toNat * 9)) = some (.string ((rd_T45 l0 (ji10)).f0)) ∧ w'.cell? ⟨(ad108.add (((ji10)).toNat * 9)).block, (ad108.add (((ji10)).toNat * 9)).off + 1, none⟩ = some (.int .i64 ((rd_T45 l0 (ji10)).f1)) ∧ w'.cell? ⟨(ad108.add (((ji10)).toNat * 9)).block, (ad108.add (((ji10)).toNat * 9)).off + 2, none⟩ = some (.int .i64 ((rd_T45 l0 (ji10)).f2)) ∧ w'.cell? ⟨(ad108.add (((ji10)).toNat * 9)).block, (ad108.add (((ji10)).toNat * 9)).off + 3, none⟩ = some (.int .i64 ((rd_T45 l0 (ji10)).f3.f0)) ∧ w'.cell? ⟨(ad108.add (((ji10)).toNat * 9)).block, (ad108.add (((ji10)).toNat * 9)).off + 4, none⟩ = some (.int .i64 ((rd_T45 l0 (ji10)).f3.f1)) ∧ w'.cell? ⟨(ad108.add (((ji10)).toNat * 9)).block, (ad108.add (((ji10)).toNat * 9)).off + 5, none⟩ = some (.int .i64 ((rd_T45 l0 (ji10)).f3.f2)) ∧ w'.cell? ⟨(ad108.add (((ji10)).toNat * 9)).block, (ad108.add (((ji10)).toNat * 9)).off + 6, none⟩ = some (.int .i64 ((rd_T45 l0 (ji10)).f3.f3)) ∧ w'.cell? ⟨(ad108.add (((ji10)).toNat * 9)).block, (ad108.add (((ji10)).toNat * 9)).off + 7, none⟩ = some (.slice A111_7 ((rd_T45 l0 (ji10)).f3.f4).length c111_7) ∧ w'.cell? ⟨(ad108.add (((ji10)).toNat * 9)).block, (ad108.add (((ji10)).toNat * 9)).off + 8, none⟩ = some (.bool ((rd_T45 l0 (ji10)).f3.f5))) [] (fun hHeld HT_ HW_ => ?_)
           generalize w24.drew = w25 at HO_3 BK109 HB HR111_7 hx111_0 hx111_1 hx111_2 hx111_3 hx111_4 hx111_5 hx111_6 hx111_7 hx111_8 hHeld ⊢
           refine tA 0 14 HT_ HW_ hHeld ?_; refine oA 1 15 HT_ (fun K hK => ?_)
           refine goes_ Try.func47 (by kernel_rfl) rfl #[.agg #[.string ((rd_T45 l0 x9_1).f0), .int .i64 ((rd_T45 l0 x9_1).f1), .int .i64 ((rd_T45 l0 x9_1).f2), .int .i64 ((rd_T45 l0 x9_1).f3.f0), .int .i64 ((rd_T45 l0 x9_1).f3.f1), .int .i64 ((rd_T45 l0 x9_1).f3.f2), .int .i64 ((rd_T45 l0 x9_1).f3.f3), .slice A108_7 ((rd_T45 l0 x9_1).f3.f4).length c108_7, .bool ((rd_T45 l0 x9_1).f3.f5)]] (by rfl) rfl rfl zee81 ?_
           with_reducible refine (impl_GoodEntry.calls k1 ((rd_T45 l0 x9_1).f0) ((rd_T45 l0 x9_1).f1) ((rd_T45 l0 x9_1).f2) ((rd_T45 l0 x9_1).f3.f0) ((rd_T45 l0 x9_1).f3.f1) ((rd_T45 l0 x9_1).f3.f2) ((rd_T45 l0 x9_1).f3.f3) _ _ ((rd_T45 l0 x9_1).f3.f4) ((rd_T45 l0 x9_1).f3.f5) true _ ?side1 ?side2 A7.out).mono ?_
           (case side1 => exact (cZ (Kd.C_below HR108_7.out HB.out)))
           (case side2 => exact HC108_7.out)
           rintro e w26 ⟨rfl, hb⟩
           refine ⟨_, rfl, ?_⟩
           have _ := aM (Kd.R_below (rZ HO_3.out) hb)
           have _ := bB gb109 hb
           have _ := aM (below_step hbZ hb)
           clear HO_3
           clear BK109
           clear HB
           rename_i HO_3 BK109 HB
           (try clear hb)
           (try clear hb2)
           (try clear hk)
           (try clear hi)
           refine hK.out _ _ sZ (fun hHeld => ?_)
           clear hK K
           refine nA 15 ?_; refine pA 2 16 HT_ ?_; refine pA 3 17 HT_ ?_; refine pA 4 18 HT_ ?_; refine pA 5 19 HT_ ?_; refine pA 6 20 HT_ ?_; refine pA 7 21 HT_ ?_; refine pA 8 22 HT_ ?_; refine pA 9 23 HT_ ?_; refine pA 10 24 HT_ ?_; refine tA 11 25 HT_ HW_ hHeld ?_; refine tA 12 26 HT_ HW_ hHeld ?_; refine oA 13 27 HT_ (fun K hK => ?_)
           refine goes_ Try.func57 (by kernel_rfl) rfl #[.agg #[.string ((rd_T45 l0 (ji10)).f0), .int .i64 ((rd_T45 l0 (ji10)).f1), .int .i64 ((rd_T45 l0 (ji10)).f2), .int .i64 ((rd_T45 l0 (ji10)).f3.f0), .int .i64 ((rd_T45 l0 (ji10)).f3.f1), .int .i64 ((rd_T45 l0 (ji10)).f3.f2), .int .i64 ((rd_T45 l0 (ji10)).f3.f3), .slice A111_7 ((rd_T45 l0 (ji10)).f3.f4).length c111_7, .bool ((rd_T45 l0 (ji10)).f3.f5)], .agg #[.string ((rd_T45 l0 x9_1).f0), .int .i64 ((rd_T45 l0 x9_1).f1), .int .i64 ((rd_T45 l0 x9_1).f2), .int .i64 ((rd_T45 l0 x9_1).f3.f0), .int .i64 ((rd_T45 l0 x9_1).f3.f1), .int .i64 ((rd_T45 l0 x9_1).f3.f2), .int .i64 ((rd_T45 l0 x9_1).f3.f3), .slice A108_7 ((rd_T45 l0 x9_1).f3.f4).length c108_7, .bool ((rd_T45 l0 x9_1).f3.f5)]] (by rfl) rfl rfl (by (try simp only [List.map_toArray, List.map_cons, List.map_nil]); first | done | (simp only [hji10]; rfl) | rfl | (simp only [List.length_drop, List.length_take]; rfl)) ?_
           with_reducible refine (impl_compareEntries.calls k1 ((rd_T45 l0 (ji10)).f0) ((rd_T45 l0 (ji10)).f1) ((rd_T45 l0 (ji10)).f2) ((rd_T45 l0 (ji10)).f3.f0) ((rd_T45 l0 (ji10)).f3.f1) ((rd_T45 l0 (ji10)).f3.f2) ((rd_T45 l0 (ji10)).f3.f3) _ _ ((rd_T45 l0 (ji10)).f3.f4) ((rd_T45 l0 (ji10)).f3.f5) ((rd_T45 l0 x9_1).f0) ((rd_T45 l0 x9_1).f1) ((rd_T45 l0 x9_1).f2) ((rd_T45 l0 x9_1).f3.f0) ((rd_T45 l0 x9_1).f3.f1) ((rd_T45 l0 x9_1).f3.f2) ((rd_T45 l0 x9_1).f3.f3) _ _ ((rd_T45 l0 x9_1).f3.f4) ((rd_T45 l0 x9_1).f3.f5) t112 _ ?side1 ?side2 ?side3 ?side4 A13.out).mono ?_
           (case side1 => exact (cZ (Kd.C_below HR111_7.out HB.out)))
           (case side2 => exact HC111_7.out)
           (case side3 => exact (cZ (Kd.C_below HR108_7.out HB.out)))
           (case side4 => exact HC108_7.out)
           rintro e w27 ⟨rfl, hb⟩
           refine ⟨_, rfl, ?_⟩
           have _ := aM (Kd.R_below (rZ HO_3.out) hb)
           have _ := bB gb109 hb
           have _ := aM (below_step hbZ hb)
           clear HO_3
           clear BK109
           clear HB
           rename_i HO_3 BK109 HB
           (try clear hb)
           (try clear hb2)
           (try clear hk)
           (try clear hi)
           refine hK.out _ _ sZ (fun hHeld => ?_)
           clear hK K
           refine nA 27 ?_; refine pA 14 28 HT_ ?_; refine pA 15 29 HT_ ?_; refine pA 16 30 HT_ ?_
           refine done_ (done_of HT_.out (by kernel_rfl)) ?_
           obtain ⟨hcz28_0, hcz28_1, hcz28_2, hcz28_3, hcz28_4, hcz28_5, hcz28_6, hcz28_7, hcz28_8, hfz28_0, hfz28_1, hfz28_2, hfz28_3, hfz28_4, hfz28_5, hfz28_6, hfz28_7, hfz28_8⟩ := cellsZ9 BK109.out
           try go_wp2_with (first | ((with_reducible refine gate_builtin (b := .append) (xs := #[.tmp 31, .tmp 34]) rfl ?_); at_builtin; refine Kd.R_append (Kd.int .i64) (w0 := w) w.heap.size rfl (.tmp 31) (.tmp 34) 24 3 (.int .i64 0) 8 rfl Try.underlying24 info3 rfl (by decide) (by omega) u3 x3_1 ((rd_T45 l0 x9_1).f1) [.int .i64 ((rd_T45 l0 x9_1).f1)] (fun _ => True) (fun _ => False) rfl rfl ?aP (fun _ hk => hk.elim) ?aF ?aO ?aB ?aS ?aL ?_; (case aP => exact rfl); (case aB => exact hbZ); (case aF => exact (fun _ _ => trivial)); (case aO => exact (rZ HO_3.out)); (case aS => exact (below_size hbZ)); (case aL => have := LMc21.out; omega); intro v114 w29 ho hb hg hat; rw [← Ny113.out] at ho; have _ := aM (blk_grown (g := gb109) bkZ hg (Kd.R_ne HO_3.out BK109.out (by decide))); have _ := aM hb; have _ := aM ho; clear BK109 HB HO_3; rename_i BK109 HB HO115; clear ho hb hg hat))
           go_roundg k1
           case measure => have := HK1.out; omega
           case rel => exact ⟨(y113), (wrap64 (x9_1 + 1)), z4458, H', ⟨zfb39⟩, ⟨rZ HO115.out⟩, ⟨zcb41⟩⟩
       · rw [if_neg c9] at H
         have c9b0 : decide (0 < x9_1) = false := decide_eq_false c9
         clear c9
         replace H := ifS H; obtain ⟨c30, H⟩ := H
         have LMc30 := aM c30
         clear c30
         obtain ⟨y116, hy116⟩ : ∃ y_ : List Int, y_ = (x3_1 ++ [(rd_T45 l0 x9_1).f1]) := ⟨_, rfl⟩
         first | (replace H := bindS H; rw [← hy116] at H; try dsimp only at H) | rw [← hy116] at H
         have Ny116 := aM hy116
         clear hy116
         have H' := aM H
         clear H
         have p108 : 0 ≤ (x9_1 : Int) := of_decide_eq_true z1200
         have q108 : x9_1 < (l0.length : Int) := of_decide_eq_true z1200
         obtain ⟨ad108, A108_7, c108_7, e108, hx108_0, hx108_1, hx108_2, hx108_3, hx108_4, hx108_5, hx108_6, hx108_7, hx108_8, hl108_7, hi108_7⟩ := at_T45 HR0.out x9_1 p108 q108
         cases e108
         have TW108_7 := aM hx108_7
         replace hx108_0 := (HB.out.cell (World.block_lt_of_cell? w _ hx108_0)).trans hx108_0
         replace hx108_1 := (HB.out.cell (World.block_lt_of_cell? w _ hx108_1)).trans hx108_1
         replace hx108_2 := (HB.out.cell (World.block_lt_of_cell? w _ hx108_2)).trans hx108_2
         replace hx108_3 := (HB.out.cell (World.block_lt_of_cell? w _ hx108_3)).trans hx108_3
         replace hx108_4 := (HB.out.cell (World.block_lt_of_cell? w _ hx108_4)).trans hx108_4
         replace hx108_5 := (HB.out.cell (World.block_lt_of_cell? w _ hx108_5)).trans hx108_5
         replace hx108_6 := (HB.out.cell (World.block_lt_of_cell? w _ hx108_6)).trans hx108_6
         replace hx108_7 := (HB.out.cell (World.block_lt_of_cell? w _ hx108_7)).trans hx108_7
         replace hx108_8 := (HB.out.cell (World.block_lt_of_cell? w _ hx108_8)).trans hx108_8
         have HR108_7 := aM hi108_7
         have HC108_7 := aM hl108_7
         clear hi108_7 hl108_7
         replace p108 := eq_true p108
         replace q108 := eq_true q108
         try go_wp2_with (first | ((with_reducible refine gate_dst (N := 5) rfl ?_); refine box_event ?hg (N := 5) ?hd (cs := #[.string (⟨#[]⟩ : ByteArray), .int .i64 0, .int .i64 0, .int .i64 0, .int .i64 0, .int .i64 0, .int .i64 0, .slice none 0 0, .bool false]) (t := 45) ?hr ?_; (case hd => rfl); (case hg => rfl); (case hr => first | (go_simp; done) | (go_simp; rfl)); intro gb109 hg w31 hbox hb; have _ := aM (Kd.R_below (rZ HO_3.out) hb); have _ := aM (below_step hbZ hb); have _ := aM hbox; have _ := szZ hg; have _ := szZ hg; clear HO_3 HB; rename_i HO_3 HB BK109 GW109 GE109; clear hb hbox hg; obtain ⟨hcz32_0, hcz32_1, hcz32_2, hcz32_3, hcz32_4, hcz32_5, hcz32_6, hcz32_7, hcz32_8, hfz32_0, hfz32_1, hfz32_2, hfz32_3, hfz32_4, hfz32_5, hfz32_6, hfz32_7, hfz32_8⟩ := cellsZ9 BK109.out))
         have n0_ : Aside0 (Kd.R (Kd.int .i64) 3 (((((((((w31.setCell ⟨gb109, 0, none⟩ (.string ((rd_T45 l0 x9_1).f0))).setCell ⟨gb109, 1, none⟩ (.int .i64 ((rd_T45 l0 x9_1).f1))).setCell ⟨gb109, 2, none⟩ (.int .i64 ((rd_T45 l0 x9_1).f2))).setCell ⟨gb109, 3, none⟩ (.int .i64 ((rd_T45 l0 x9_1).f3.f0))).setCell ⟨gb109, 4, none⟩ (.int .i64 ((rd_T45 l0 x9_1).f3.f1))).setCell ⟨gb109, 5, none⟩ (.int .i64 ((rd_T45 l0 x9_1).f3.f2))).setCell ⟨gb109, 6, none⟩ (.int .i64 ((rd_T45 l0 x9_1).f3.f3))).setCell ⟨gb109, 7, none⟩ (.slice A108_7 ((rd_T45 l0 x9_1).f3.f4).length c108_7)).setCell ⟨gb109, 8, none⟩ (.bool ((rd_T45 l0 x9_1).f3.f5))) w.heap.size (fun _ => True) u3 x3_1) := ⟨by (with_reducible repeat (first | apply Kd.R_alloc | apply Kd.R_drewN | apply Kd.R_drew)); exact Kd.R_mono (Kd.R_far (p := ⟨gb109, 8, none⟩) (Kd.R_far (p := ⟨gb109, 7, none⟩) (Kd.R_far (p := ⟨gb109, 6, none⟩) (Kd.R_far (p := ⟨gb109, 5, none⟩) (Kd.R_far (p := ⟨gb109, 4, none⟩) (Kd.R_far (p := ⟨gb109, 3, none⟩) (Kd.R_far (p := ⟨gb109, 2, none⟩) (Kd.R_far (p := ⟨gb109, 1, none⟩) (Kd.R_far (p := ⟨gb109, 0, none⟩) (Kd.R_types HO_3.out BK109.out (by decide)) (fun _ hk => hk.2) (.string ((rd_T45 l0 x9_1).f0))) (fun _ hk => hk.2) (.int .i64 ((rd_T45 l0 x9_1).f1))) (fun _ hk => hk.2) (.int .i64 ((rd_T45 l0 x9_1).f2))) (fun _ hk => hk.2) (.int .i64 ((rd_T45 l0 x9_1).f3.f0))) (fun _ hk => hk.2) (.int .i64 ((rd_T45 l0 x9_1).f3.f1))) (fun _ hk => hk.2) (.int .i64 ((rd_T45 l0 x9_1).f3.f2))) (fun _ hk => hk.2) (.int .i64 ((rd_T45 l0 x9_1).f3.f3))) (fun _ hk => hk.2) (.slice A108_7 ((rd_T45 l0 x9_1).f3.f4).length c108_7)) (fun _ hk => hk.2) (.bool ((rd_T45 l0 x9_1).f3.f5))) (fun _ hk => trivial)⟩
         have n1_ : Aside0 ((((((((((w31.setCell ⟨gb109, 0, none⟩ (.string ((rd_T45 l0 x9_1).f0))).setCell ⟨gb109, 1, none⟩ (.int .i64 ((rd_T45 l0 x9_1).f1))).setCell ⟨gb109, 2, none⟩ (.int .i64 ((rd_T45 l0 x9_1).f2))).setCell ⟨gb109, 3, none⟩ (.int .i64 ((rd_T45 l0 x9_1).f3.f0))).setCell ⟨gb109, 4, none⟩ (.int .i64 ((rd_T45 l0 x9_1).f3.f1))).setCell ⟨gb109, 5, none⟩ (.int .i64 ((rd_T45 l0 x9_1).f3.f2))).setCell ⟨gb109, 6, none⟩ (.int .i64 ((rd_T45 l0 x9_1).f3.f3))).setCell ⟨gb109, 7, none⟩ (.slice A108_7 ((rd_T45 l0 x9_1).f3.f4).length c108_7)).setCell ⟨gb109, 8, none⟩ (.bool ((rd_T45 l0 x9_1).f3.f5))).heap[gb109]? = some (.cells #[.string ((rd_T45 l0 x9_1).f0), .int .i64 ((rd_T45 l0 x9_1).f1), .int .i64 ((rd_T45 l0 x9_1).f2), .int .i64 ((rd_T45 l0 x9_1).f3.f0), .int .i64 ((rd_T45 l0 x9_1).f3.f1), .int .i64 ((rd_T45 l0 x9_1).f3.f2), .int .i64 ((rd_T45 l0 x9_1).f3.f3), .slice A108_7 ((rd_T45 l0 x9_1).f3.f4).length c108_7, .bool ((rd_T45 l0 x9_1).f3.f5)] 45 (0, 0))) := ⟨bkZ⟩
         have n2_ : Aside0 (Below w.heap.size w (((((((((w31.setCell ⟨gb109, 0, none⟩ (.string ((rd_T45 l0 x9_1).f0))).setCell ⟨gb109, 1, none⟩ (.int .i64 ((rd_T45 l0 x9_1).f1))).setCell ⟨gb109, 2, none⟩ (.int .i64 ((rd_T45 l0 x9_1).f2))).setCell ⟨gb109, 3, none⟩ (.int .i64 ((rd_T45 l0 x9_1).f3.f0))).setCell ⟨gb109, 4, none⟩ (.int .i64 ((rd_T45 l0 x9_1).f3.f1))).setCell ⟨gb109, 5, none⟩ (.int .i64 ((rd_T45 l0 x9_1).f3.f2))).setCell ⟨gb109, 6, none⟩ (.int .i64 ((rd_T45 l0 x9_1).f3.f3))).setCell ⟨gb109, 7, none⟩ (.slice A108_7 ((rd_T45 l0 x9_1).f3.f4).length c108_7)).setCell ⟨gb109, 8, none⟩ (.bool ((rd_T45 l0 x9_1).f3.f5)))) := ⟨zcb41⟩
         (try clear HO_3)
         (try clear BK109)
         (try clear HB)
         generalize (((((((((w31.setCell ⟨gb109, 0, none⟩ (.string ((rd_T45 l0 x9_1).f0))).setCell ⟨gb109, 1, none⟩ (.int .i64 ((rd_T45 l0 x9_1).f1))).setCell ⟨gb109, 2, none⟩ (.int .i64 ((rd_T45 l0 x9_1).f2))).setCell ⟨gb109, 3, none⟩ (.int .i64 ((rd_T45 l0 x9_1).f3.f0))).setCell ⟨gb109, 4, none⟩ (.int .i64 ((rd_T45 l0 x9_1).f3.f1))).setCell ⟨gb109, 5, none⟩ (.int .i64 ((rd_T45 l0 x9_1).f3.f2))).setCell ⟨gb109, 6, none⟩ (.int .i64 ((rd_T45 l0 x9_1).f3.f3))).setCell ⟨gb109, 7, none⟩ (.slice A108_7 ((rd_T45 l0 x9_1).f3.f4).length c108_7)).setCell ⟨gb109, 8, none⟩ (.bool ((rd_T45 l0 x9_1).f3.f5))) = w33 at n0_ n1_ n2_ ⊢
         have HO_3 := n0_
         have BK109 := n1_
         have HB := n2_
         clear n0_ n1_ n2_
         have _ := aM (Kd.R_drew HO_3.out)
         have _ := aM (blk_drew BK109.out)
         have _ := aM (below_drew1 HB.out)
         clear HO_3
         clear BK109
         clear HB
         rename_i HO_3 BK109 HB
         refine sA 17 impl_GoodEntries.tab5 impl_GoodEntries.bits5 (fun w' => w'.cell? ⟨gb109, 0, none⟩ = some (.string ((rd_T45 l0 x9_1).f0)) ∧ w'.cell? ⟨gb109, 1, none⟩ = some (.int .i64 ((rd_T45 l0 x9_1).f1)) ∧ w'.cell? ⟨gb109, 2, none⟩ = some (.int .i64 ((rd_T45 l0 x9_1).f2)) ∧ w'.cell? ⟨gb109, 3, none⟩ = some (.int .i64 ((rd_T45 l0 x9_1).f3.f0)) ∧ w'.cell? ⟨gb109, 4, none⟩ = some (.int .i64 ((rd_T45 l0 x9_1).f3.f1)) ∧ w'.cell? ⟨gb109, 5, none⟩ = some (.int .i64 ((rd_T45 l0 x9_1).f3.f2)) ∧ w'.cell? ⟨gb109, 6, none⟩ = some (.int .i64 ((rd_T45 l0 x9_1).f3.f3)) ∧ w'.cell? ⟨gb109, 7, none⟩ = some (.slice A108_7 ((rd_T45 l0 x9_1).f3.f4).length c108_7) ∧ w'.cell? ⟨gb109, 8, none⟩ = some (.bool ((rd_T45 l0 x9_1).f3.f5))) [] (fun hHeld HT_ HW_ => ?_)
         generalize w33.drew = w34 at HO_3 BK109 HB hHeld ⊢
         refine tA 0 14 HT_ HW_ hHeld ?_; refine oA 1 15 HT_ (fun K hK => ?_)
         refine goes_ Try.func47 (by kernel_rfl) rfl #[.agg #[.string ((rd_T45 l0 x9_1).f0), .int .i64 ((rd_T45 l0 x9_1).f1), .int .i64 ((rd_T45 l0 x9_1).f2), .int .i64 ((rd_T45 l0 x9_1).f3.f0), .int .i64 ((rd_T45 l0 x9_1).f3.f1), .int .i64 ((rd_T45 l0 x9_1).f3.f2), .int .i64 ((rd_T45 l0 x9_1).f3.f3), .slice A108_7 ((rd_T45 l0 x9_1).f3.f4).length c108_7, .bool ((rd_T45 l0 x9_1).f3.f5)]] (by rfl) rfl rfl zee81 ?_
         with_reducible refine (impl_GoodEntry.calls k1 ((rd_T45 l0 x9_1).f0) ((rd_T45 l0 x9_1).f1) ((rd_T45 l0 x9_1).f2) ((rd_T45 l0 x9_1).f3.f0) ((rd_T45 l0 x9_1).f3.f1) ((rd_T45 l0 x9_1).f3.f2) ((rd_T45 l0 x9_1).f3.f3) _ _ ((rd_T45 l0 x9_1).f3.f4) ((rd_T45 l0 x9_1).f3.f5) true _ ?side1 ?side2 A7.out).mono ?_
         (case side1 => exact (cZ (Kd.C_below HR108_7.out HB.out)))
         (case side2 => exact HC108_7.out)
         rintro e w35 ⟨rfl, hb⟩
         refine ⟨_, rfl, ?_⟩
         have _ := aM (Kd.R_below (rZ HO_3.out) hb)
         have _ := bB gb109 hb
         have _ := aM (below_step hbZ hb)
         clear HO_3
         clear BK109
         clear HB
         rename_i HO_3 BK109 HB
         (try clear hb)
         (try clear hb2)
         (try clear hk)
         (try clear hi)
         refine hK.out _ _ sZ (fun hHeld => ?_)
         clear hK K
         refine nA 15 ?_; refine pA 2 16 HT_ ?_; refine pA 3 17 HT_ ?_; refine pA 4 18 HT_ ?_; refine pA 5 19 HT_ ?_; refine pA 6 20 HT_ ?_; refine uA 7 21 HT_ ?_; refine uA 8 22 HT_ ?_; refine uA 9 23 HT_ ?_; refine uA 10 24 HT_ ?_; refine uA 11 25 HT_ ?_; refine uA 12 26 HT_ ?_; refine uA 13 27 HT_ ?_; refine uA 14 28 HT_ ?_; refine pA 15 29 HT_ ?_; refine pA 16 30 HT_ ?_
         refine done_ (done_of HT_.out (by kernel_rfl)) ?_
         obtain ⟨hcz36_0, hcz36_1, hcz36_2, hcz36_3, hcz36_4, hcz36_5, hcz36_6, hcz36_7, hcz36_8, hfz36_0, hfz36_1, hfz36_2, hfz36_3, hfz36_4, hfz36_5, hfz36_6, hfz36_7, hfz36_8⟩ := cellsZ9 BK109.out
         try go_wp2_with (first | ((with_reducible refine gate_builtin (b := .append) (xs := #[.tmp 31, .tmp 34]) rfl ?_); at_builtin; refine Kd.R_append (Kd.int .i64) (w0 := w) w.heap.size rfl (.tmp 31) (.tmp 34) 24 3 (.int .i64 0) 8 rfl Try.underlying24 info3 rfl (by decide) (by omega) u3 x3_1 ((rd_T45 l0 x9_1).f1) [.int .i64 ((rd_T45 l0 x9_1).f1)] (fun _ => True) (fun _ => False) rfl rfl ?aP (fun _ hk => hk.elim) ?aF ?aO ?aB ?aS ?aL ?_; (case aP => exact rfl); (case aB => exact hbZ); (case aF => exact (fun _ _ => trivial)); (case aO => exact (rZ HO_3.out)); (case aS => exact (below_size hbZ)); (case aL => have := LMc30.out; omega); intro v117 w37 ho hb hg hat; rw [← Ny116.out] at ho; have _ := aM (blk_grown (g := gb109) bkZ hg (Kd.R_ne HO_3.out BK109.out (by decide))); have _ := aM hb; have _ := aM ho; clear BK109 HB HO_3; rename_i BK109 HB HO118; clear ho hb hg hat))
         go_roundg k1
         case measure => have := HK1.out; omega
         case rel => exact ⟨(y116), (wrap64 (x9_1 + 1)), z4458, H', ⟨zfb39⟩, ⟨rZ HO118.out⟩, ⟨zcb41⟩⟩
     · replace c8 := Bool.eq_false_iff.mpr c8
       subst c8
       rw [if_neg (show ¬ (false = true) by decide)] at H
       obtain rfl := Option.some.inj H
       have p108 : 0 ≤ (x9_1 : Int) := of_decide_eq_true z1200
       have q108 : x9_1 < (l0.length : Int) := of_decide_eq_true z1200
       obtain ⟨ad108, A108_7, c108_7, e108, hx108_0, hx108_1, hx108_2, hx108_3, hx108_4, hx108_5, hx108_6, hx108_7, hx108_8, hl108_7, hi108_7⟩ := at_T45 HR0.out x9_1 p108 q108
       cases e108
       have TW108_7 := aM hx108_7
       replace hx108_0 := (HB.out.cell (World.block_lt_of_cell? w _ hx108_0)).trans hx108_0
       replace hx108_1 := (HB.out.cell (World.block_lt_of_cell? w _ hx108_1)).trans hx108_1
       replace hx108_2 := (HB.out.cell (World.block_lt_of_cell? w _ hx108_2)).trans hx108_2
       replace hx108_3 := (HB.out.cell (World.block_lt_of_cell? w _ hx108_3)).trans hx108_3
       replace hx108_4 := (HB.out.cell (World.block_lt_of_cell? w _ hx108_4)).trans hx108_4
       replace hx108_5 := (HB.out.cell (World.block_lt_of_cell? w _ hx108_5)).trans hx108_5
       replace hx108_6 := (HB.out.cell (World.block_lt_of_cell? w _ hx108_6)).trans hx108_6
       replace hx108_7 := (HB.out.cell (World.block_lt_of_cell? w _ hx108_7)).trans hx108_7
       replace hx108_8 := (HB.out.cell (World.block_lt_of_cell? w _ hx108_8)).trans hx108_8
       have HR108_7 := aM hi108_7
       have HC108_7 := aM hl108_7
       clear hi108_7 hl108_7
       replace p108 := eq_true p108
       replace q108 := eq_true q108
       try go_wp2_with (first | ((with_reducible refine gate_dst (N := 5) rfl ?_); refine box_event ?hg (N := 5) ?hd (cs := #[.string (⟨#[]⟩ : ByteArray), .int .i64 0, .int .i64 0, .int .i64 0, .int .i64 0, .int .i64 0, .int .i64 0, .slice none 0 0, .bool false]) (t := 45) ?hr ?_; (case hd => rfl); (case hg => rfl); (case hr => first | (go_simp; done) | (go_simp; rfl)); intro gb109 hg w38 hbox hb; have _ := aM (Kd.R_below (rZ HO_3.out) hb); have _ := aM (below_step hbZ hb); have _ := aM hbox; have _ := szZ hg; have _ := szZ hg; clear HO_3 HB; rename_i HO_3 HB BK109 GW109 GE109; clear hb hbox hg; obtain ⟨hcz39_0, hcz39_1, hcz39_2, hcz39_3, hcz39_4, hcz39_5, hcz39_6, hcz39_7, hcz39_8, hfz39_0, hfz39_1, hfz39_2, hfz39_3, hfz39_4, hfz39_5, hfz39_6, hfz39_7, hfz39_8⟩ := cellsZ9 BK109.out))
       have n0_ : Aside0 (Kd.R (Kd.int .i64) 3 (((((((((w38.setCell ⟨gb109, 0, none⟩ (.string ((rd_T45 l0 x9_1).f0))).setCell ⟨gb109, 1, none⟩ (.int .i64 ((rd_T45 l0 x9_1).f1))).setCell ⟨gb109, 2, none⟩ (.int .i64 ((rd_T45 l0 x9_1).f2))).setCell ⟨gb109, 3, none⟩ (.int .i64 ((rd_T45 l0 x9_1).f3.f0))).setCell ⟨gb109, 4, none⟩ (.int .i64 ((rd_T45 l0 x9_1).f3.f1))).setCell ⟨gb109, 5, none⟩ (.int .i64 ((rd_T45 l0 x9_1).f3.f2))).setCell ⟨gb109, 6, none⟩ (.int .i64 ((rd_T45 l0 x9_1).f3.f3))).setCell ⟨gb109, 7, none⟩ (.slice A108_7 ((rd_T45 l0 x9_1).f3.f4).length c108_7)).setCell ⟨gb109, 8, none⟩ (.bool ((rd_T45 l0 x9_1).f3.f5))) w.heap.size (fun _ => True) u3 x3_1) := ⟨by (with_reducible repeat (first | apply Kd.R_alloc | apply Kd.R_drewN | apply Kd.R_drew)); exact Kd.R_mono (Kd.R_far (p := ⟨gb109, 8, none⟩) (Kd.R_far (p := ⟨gb109, 7, none⟩) (Kd.R_far (p := ⟨gb109, 6, none⟩) (Kd.R_far (p := ⟨gb109, 5, none⟩) (Kd.R_far (p := ⟨gb109, 4, none⟩) (Kd.R_far (p := ⟨gb109, 3, none⟩) (Kd.R_far (p := ⟨gb109, 2, none⟩) (Kd.R_far (p := ⟨gb109, 1, none⟩) (Kd.R_far (p := ⟨gb109, 0, none⟩) (Kd.R_types HO_3.out BK109.out (by decide)) (fun _ hk => hk.2) (.string ((rd_T45 l0 x9_1).f0))) (fun _ hk => hk.2) (.int .i64 ((rd_T45 l0 x9_1).f1))) (fun _ hk => hk.2) (.int .i64 ((rd_T45 l0 x9_1).f2))) (fun _ hk => hk.2) (.int .i64 ((rd_T45 l0 x9_1).f3.f0))) (fun _ hk => hk.2) (.int .i64 ((rd_T45 l0 x9_1).f3.f1))) (fun _ hk => hk.2) (.int .i64 ((rd_T45 l0 x9_1).f3.f2))) (fun _ hk => hk.2) (.int .i64 ((rd_T45 l0 x9_1).f3.f3))) (fun _ hk => hk.2) (.slice A108_7 ((rd_T45 l0 x9_1).f3.f4).length c108_7)) (fun _ hk => hk.2) (.bool ((rd_T45 l0 x9_1).f3.f5))) (fun _ hk => trivial)⟩
       have n1_ : Aside0 ((((((((((w38.setCell ⟨gb109, 0, none⟩ (.string ((rd_T45 l0 x9_1).f0))).setCell ⟨gb109, 1, none⟩ (.int .i64 ((rd_T45 l0 x9_1).f1))).setCell ⟨gb109, 2, none⟩ (.int .i64 ((rd_T45 l0 x9_1).f2))).setCell ⟨gb109, 3, none⟩ (.int .i64 ((rd_T45 l0 x9_1).f3.f0))).setCell ⟨gb109, 4, none⟩ (.int .i64 ((rd_T45 l0 x9_1).f3.f1))).setCell ⟨gb109, 5, none⟩ (.int .i64 ((rd_T45 l0 x9_1).f3.f2))).setCell ⟨gb109, 6, none⟩ (.int .i64 ((rd_T45 l0 x9_1).f3.f3))).setCell ⟨gb109, 7, none⟩ (.slice A108_7 ((rd_T45 l0 x9_1).f3.f4).length c108_7)).setCell ⟨gb109, 8, none⟩ (.bool ((rd_T45 l0 x9_1).f3.f5))).heap[gb109]? = some (.cells #[.string ((rd_T45 l0 x9_1).f0), .int .i64 ((rd_T45 l0 x9_1).f1), .int .i64 ((rd_T45 l0 x9_1).f2), .int .i64 ((rd_T45 l0 x9_1).f3.f0), .int .i64 ((rd_T45 l0 x9_1).f3.f1), .int .i64 ((rd_T45 l0 x9_1).f3.f2), .int .i64 ((rd_T45 l0 x9_1).f3.f3), .slice A108_7 ((rd_T45 l0 x9_1).f3.f4).length c108_7, .bool ((rd_T45 l0 x9_1).f3.f5)] 45 (0, 0))) := ⟨bkZ⟩
       have n2_ : Aside0 (Below w.heap.size w (((((((((w38.setCell ⟨gb109, 0, none⟩ (.string ((rd_T45 l0 x9_1).f0))).setCell ⟨gb109, 1, none⟩ (.int .i64 ((rd_T45 l0 x9_1).f1))).setCell ⟨gb109, 2, none⟩ (.int .i64 ((rd_T45 l0 x9_1).f2))).setCell ⟨gb109, 3, none⟩ (.int .i64 ((rd_T45 l0 x9_1).f3.f0))).setCell ⟨gb109, 4, none⟩ (.int .i64 ((rd_T45 l0 x9_1).f3.f1))).setCell ⟨gb109, 5, none⟩ (.int .i64 ((rd_T45 l0 x9_1).f3.f2))).setCell ⟨gb109, 6, none⟩ (.int .i64 ((rd_T45 l0 x9_1).f3.f3))).setCell ⟨gb109, 7, none⟩ (.slice A108_7 ((rd_T45 l0 x9_1).f3.f4).length c108_7)).setCell ⟨gb109, 8, none⟩ (.bool ((rd_T45 l0 x9_1).f3.f5)))) := ⟨zcb41⟩
       (try clear HO_3)
       (try clear BK109)
       (try clear HB)
       generalize (((((((((w38.setCell ⟨gb109, 0, none⟩ (.string ((rd_T45 l0 x9_1).f0))).setCell ⟨gb109, 1, none⟩ (.int .i64 ((rd_T45 l0 x9_1).f1))).setCell ⟨gb109, 2, none⟩ (.int .i64 ((rd_T45 l0 x9_1).f2))).setCell ⟨gb109, 3, none⟩ (.int .i64 ((rd_T45 l0 x9_1).f3.f0))).setCell ⟨gb109, 4, none⟩ (.int .i64 ((rd_T45 l0 x9_1).f3.f1))).setCell ⟨gb109, 5, none⟩ (.int .i64 ((rd_T45 l0 x9_1).f3.f2))).setCell ⟨gb109, 6, none⟩ (.int .i64 ((rd_T45 l0 x9_1).f3.f3))).setCell ⟨gb109, 7, none⟩ (.slice A108_7 ((rd_T45 l0 x9_1).f3.f4).length c108_7)).setCell ⟨gb109, 8, none⟩ (.bool ((rd_T45 l0 x9_1).f3.f5))) = w40 at n0_ n1_ n2_ ⊢
       have HO_3 := n0_
       have BK109 := n1_
       have HB := n2_
       clear n0_ n1_ n2_
       have _ := aM (Kd.R_drew HO_3.out)
       have _ := aM (blk_drew BK109.out)
       have _ := aM (below_drew1 HB.out)
       clear HO_3
       clear BK109
       clear HB
       rename_i HO_3 BK109 HB
       refine sA 17 impl_GoodEntries.tab5 impl_GoodEntries.bits5 (fun w' => w'.cell? ⟨gb109, 0, none⟩ = some (.string ((rd_T45 l0 x9_1).f0)) ∧ w'.cell? ⟨gb109, 1, none⟩ = some (.int .i64 ((rd_T45 l0 x9_1).f1)) ∧ w'.cell? ⟨gb109, 2, none⟩ = some (.int .i64 ((rd_T45 l0 x9_1).f2)) ∧ w'.cell? ⟨gb109, 3, none⟩ = some (.int .i64 ((rd_T45 l0 x9_1).f3.f0)) ∧ w'.cell? ⟨gb109, 4, none⟩ = some (.int .i64 ((rd_T45 l0 x9_1).f3.f1)) ∧ w'.cell? ⟨gb109, 5, none⟩ = some (.int .i64 ((rd_T45 l0 x9_1).f3.f2)) ∧ w'.cell? ⟨gb109, 6, none⟩ = some (.int .i64 ((rd_T45 l0 x9_1).f3.f3)) ∧ w'.cell? ⟨gb109, 7, none⟩ = some (.slice A108_7 ((rd_T45 l0 x9_1).f3.f4).length c108_7) ∧ w'.cell? ⟨gb109, 8, none⟩ = some (.bool ((rd_T45 l0 x9_1).f3.f5))) [] (fun hHeld HT_ HW_ => ?_)
       generalize w40.drew = w41 at HO_3 BK109 HB hHeld ⊢
       refine tA 0 14 HT_ HW_ hHeld ?_; refine oA 1 15 HT_ (fun K hK => ?_)
       refine goes_ Try.func47 (by kernel_rfl) rfl #[.agg #[.string ((rd_T45 l0 x9_1).f0), .int .i64 ((rd_T45 l0 x9_1).f1), .int .i64 ((rd_T45 l0 x9_1).f2), .int .i64 ((rd_T45 l0 x9_1).f3.f0), .int .i64 ((rd_T45 l0 x9_1).f3.f1), .int .i64 ((rd_T45 l0 x9_1).f3.f2), .int .i64 ((rd_T45 l0 x9_1).f3.f3), .slice A108_7 ((rd_T45 l0 x9_1).f3.f4).length c108_7, .bool ((rd_T45 l0 x9_1).f3.f5)]] (by rfl) rfl rfl zee81 ?_
       with_reducible refine (impl_GoodEntry.calls k1 ((rd_T45 l0 x9_1).f0) ((rd_T45 l0 x9_1).f1) ((rd_T45 l0 x9_1).f2) ((rd_T45 l0 x9_1).f3.f0) ((rd_T45 l0 x9_1).f3.f1) ((rd_T45 l0 x9_1).f3.f2) ((rd_T45 l0 x9_1).f3.f3) _ _ ((rd_T45 l0 x9_1).f3.f4) ((rd_T45 l0 x9_1).f3.f5) false _ ?side1 ?side2 A7.out).mono ?_
       (case side1 => exact (cZ (Kd.C_below HR108_7.out HB.out)))
       (case side2 => exact HC108_7.out)
       rintro e w42 ⟨rfl, hb⟩
       refine ⟨_, rfl, ?_⟩
       have _ := aM (Kd.R_below (rZ HO_3.out) hb)
       have _ := bB gb109 hb
       have _ := aM (below_step hbZ hb)
       clear HO_3
       clear BK109
       clear HB
       rename_i HO_3 BK109 HB
       (try clear hb)
       (try clear hb2)
       (try clear hk)
       (try clear hi)
       refine hK.out _ _ sZ (fun hHeld => ?_)
       clear hK K
       refine nA 15 ?_; refine pA 2 16 HT_ ?_; refine pA 3 17 HT_ ?_; refine uA 4 18 HT_ ?_; refine uA 5 19 HT_ ?_; refine uA 6 20 HT_ ?_; refine uA 7 21 HT_ ?_; refine uA 8 22 HT_ ?_; refine uA 9 23 HT_ ?_; refine uA 10 24 HT_ ?_; refine uA 11 25 HT_ ?_; refine uA 12 26 HT_ ?_; refine uA 13 27 HT_ ?_; refine uA 14 28 HT_ ?_; refine uA 15 29 HT_ ?_; refine pA 16 30 HT_ ?_
       refine done_ (done_of HT_.out (by kernel_rfl)) ?_
       try go_wp2
       go_ret
       exact ⟨z674d, zcb41⟩
   · rw [if_neg c4] at H
     have c4b0 : decide (x9_1 < (l0.length : Int)) = false := decide_eq_false c4
     clear c4
     replace H := Option.bind_eq_some_iff.mp H
     obtain ⟨t104, A430, H⟩ := H
     try dsimp only at H
     have A43 := aM A430
     clear A430
     replace H := Option.bind_eq_some_iff.mp H
     obtain ⟨t105, A440, H⟩ := H
     try dsimp only at H
     have A44 := aM A440
     clear A440
     obtain rfl := Option.some.inj H
     obtain ⟨Ao45, co45, eo45⟩ := Kd.R_slice HO_3.out
     subst eo45
     go_wp2_with (first | ((with_reducible refine gate_callee (f := 58) rfl ?_); refine goesL_ (some 38) rfl rfl Try.func58 (by kernel_rfl) rfl #[.slice Ao45 x3_1.length co45] rfl zee81 ?_; (with_reducible refine (slices_Sort_int_int.calls (fun k_ => some k_ = (.slice Ao45 x3_1.length co45 : Value).ownBlock) (.slice Ao45 x3_1.length co45) x3_1 t104 w _ ?side1 ?side2 A43.out).mono ?_); (case side1 => exact z5acd); (case side2 => exact Kd.R_tight rfl HO_3.out); rintro e w46 ⟨rfl, hy0, hb, hkp⟩; refine ⟨_, rfl, ?_⟩; have _ := aM (Kd.R_reok rfl hy0 (fun k_ e_ => HO_3.out.1 k_ e_)); have _ := aM hb; clear HO_3 HB; rename_i HO_3 HB; (try clear hb); (try clear hkp); (try clear hy0)) | ((with_reducible refine gate_callee (f := 59) rfl ?_); refine goesL_ (some 40) rfl rfl Try.func59 (by kernel_rfl) rfl #[.slice Ao45 x3_1.length co45] rfl zee81 ?_; (with_reducible refine (slices_Compact_int_int.calls (fun k_ => some k_ = (.slice Ao45 x3_1.length co45 : Value).ownBlock) (.slice Ao45 x3_1.length co45) t104 t105 w _ ?side1 ?side2 A44.out).mono ?_); (case side1 => exact z5acd); (case side2 => exact Kd.R_tight rfl HO_3.out); rintro e w47 ⟨v106, rfl, ho0, hb, hkp⟩; refine ⟨_, rfl, ?_⟩; have _ := aM (Kd.R_mono (ok' := fun k_ => True) ho0 (fun k_ hk_ => trivial)); have _ := aM hb; clear HB HO_3; rename_i HO107 HB; (try clear hb); (try clear hkp); (try clear ho0); obtain ⟨Ao48, co48, eo48⟩ := Kd.R_slice HO107.out; subst eo48))
     go_ret
     exact ⟨z674d, z5acd⟩

end Go.Proofs.Ytdkokfnnebdppaa.P

section
/- slices.Insert of one element into a row of structs of several cells. -/
set_option linter.unusedVariables false
set_option linter.unusedSimpArgs false
namespace Go.Proofs.Ytdkokfnnebdppaa.P
open Go Go.RowKit Go.Proofs.YtdkokfnnebdppaaW.PrintWords Go.Proofs.YtdkokfnnebdppaaW.PrintLast Go.Proofs.YtdkokfnnebdppaaW.PrintMore
section
variable {P : Program}
theorem run_copy_rowK (w : World) (t ty e : TypeId) (i : TypeInfo) (g o dLen dCap : Nat) (a : Addr) (sLen sCap : Nat) (cur : Array Value) (cs : List Value)
    (hu : P.underlying t = some (.slice e)) (hi : P.info? e = some i) (hg : w.heap[g]? = some (.cells cur e (0, 0))) (hn : cs.length = Nat.min sLen dLen * i.size)
    (hsrc : ∀ j v, cs[j]? = some v → w.cell? (a.add j) = some v) (hfit : o + cs.length ≤ cur.size) (h1 : ∀ v ∈ cs, v.oneCell' = true) :
    (Builtin.copy_ #[t, t] ty #[.slice (some ⟨g, o, none⟩) dLen dCap, .slice (some a) sLen sCap]).run P w =
      .ok (goInt (Nat.min sLen dLen)) (w.setRow g (cur.toList.take o ++ cs ++ cur.toList.drop (o + cs.length)).toArray) := by
  have hl := run_loadCells_list (P := P) w a cs hsrc
  have hst := run_storeCells_at P g o e cs 0 cur w hg (by simpa using hfit) h1
  simp [Builtin.copy_, run_underlying hu, Builtin.lenOf, Builtin.firstCells, sizeOf, typeInfo, hi, ← hn, hl, hst]
theorem wp_copy_runI (w : World) {o : Oper} {a : Act} {K : Act → World → Prop} {Q : Exit → Act → World → Prop} (d s : Operand) (t t' : TypeId)
    (ho : o.op = .call { callee := .builtin .copy, args := #[d, s], argTypes := #[t, t'] }) (v u : Value) (hd : a.eval d = v) (hs : a.eval s = u) {v' : Value} {w' : World}
    (hr : (Builtin.copy_ #[t, t'] o.type #[v, u]).run P w = .ok v' w') (h : K (a.put o.dst v') w') : o.wp P a w K Q := by
  unfold Oper.wp execOp
  simp only [ho, resolve, invoke, builtin, Sem.run_bind, Sem.run_pure, Result.andThen_ok, List.map_toArray, List.map_cons, List.map_nil, hd, hs, hr]
  exact h
theorem wpList_copy_runI (w : World) {ops : Array Oper} {rest : List Oper} {o : Oper} {a : Act} {Q : Exit → Act → World → Prop} (hgd : o.guard = none) (d s : Operand) (t t' : TypeId)
    (ho : o.op = .call { callee := .builtin .copy, args := #[d, s], argTypes := #[t, t'] }) (v u : Value) (hd : a.eval d = v) (hs : a.eval s = u) {v' : Value} {w' : World}
    (hr : (Builtin.copy_ #[t, t'] o.type #[v, u]).run P w = .ok v' w') (h : wpList P ops Q rest (a.put o.dst v') w') : wpList P ops Q (o :: rest) a w :=
  wpList_plain hgd fun _ hK => wp_copy_runI w d s t t' ho v u hd hs hr (hK _ _ h)
theorem step_copy_runI {ops : Array Oper} {o : Oper} {a : Act} {w : World} {K : Act → World → Prop} {Q : Exit → Act → World → Prop} {E : Prop}
    (hg : o.guard = none) (d x : Operand) (dT sT : TypeId) (hop : o.op = Op.call { callee := Callee.builtin Builtin.copy, args := #[d, x], argTypes := #[dT, sT] })
    (v u : Value) (hd : a.eval d = v) (hx : a.eval x = u) {v' : Value} {w' : World} (hr : (Builtin.copy_ #[dT, sT] o.type #[v, u]).run P w = .ok v' w') (hK : K (a.put o.dst v') w') :
    if Region.wanted o (yielded ops a.tmps) = true then Oper.wp P o a w K Q else E := by
  have hw : Region.wanted o (yielded ops a.tmps) = true := by simp [Region.wanted, hg]
  rw [if_pos hw]
  unfold Oper.wp
  simp [execOp, hop, resolve, invoke, builtin, hd, hx, hr, Result.andThen]
  exact hK
end
section
variable {α : Type} {d : Kd α} {e base : Nat} {okv oku : Nat → Prop} {w w' : World} {v u v1 : Value} {xs : List α} {x : α}
theorem Sin_len (h : Kd.S d e w base okv v xs) : ∃ f inner, w.ownsRow base e d.sz v xs.length inner ∧ (∀ k, v.ownBlock = some k → okv k) ∧ Reps ((Kd.tag f d).M w base (fun k => okv k ∧ some k ≠ v.ownBlock)) d.sz xs.zipIdx inner := by
  obtain ⟨f, h0, inner, ho, hr⟩ := h
  rw [List.length_zipIdx] at ho
  exact ⟨f, inner, ho, h0, hr⟩
theorem cells_at {inner : List Value} {A B : List Value} {z i j : Nat} (h : inner = A ++ B) (hA : A.length = i * z) (hj : j < i) : (inner.drop (j * z)).take z = (A.drop (j * z)).take z := by
  have h1 : j * z + z ≤ i * z := by rw [← Nat.succ_mul]; exact Nat.mul_le_mul_right _ hj
  rw [h, List.drop_append_of_le_length (by omega), List.take_append_of_le_length (by rw [List.length_drop]; omega)]
theorem one_cells {inner : List Value} {f : Nat → Nat} {ok : Nat → Prop} {ps : List (α × Nat)} (hr : Reps ((Kd.tag f d).M w base ok) d.sz ps inner) (hs : 0 < d.sz) : ∀ c ∈ inner, c.oneCell' = true := by
  intro c hc
  obtain ⟨q, hq, rfl⟩ := List.mem_iff_getElem.1 hc
  have hql : q / d.sz < ps.length := by
    rw [Nat.div_lt_iff_lt_mul hs, ← hr.1]; exact hq
  refine (Kd.tag f d).K_one ((Kd.tag f d).K_of_M (hr.2 (q / d.sz) _ (List.getElem?_eq_getElem hql))) _ ?_
  rw [List.mem_iff_getElem?]
  refine ⟨q % d.sz, ?_⟩
  rw [List.getElem?_take, if_pos (Nat.mod_lt _ hs), List.getElem?_drop, Nat.mul_comm, Nat.div_add_mod, List.getElem?_eq_getElem hq]
open Classical in
/-- A row into which an element has been put. -/
theorem S_insert {f f2 : Nat → Nat} {inner vin : List Value} {i : Nat} (hi : i ≤ xs.length) (hoL : inner.length = xs.length * d.sz) (h0 : ∀ k, v.ownBlock = some k → okv k) (hr : Reps ((Kd.tag f d).M w base (fun k => okv k ∧ some k ≠ v.ownBlock)) d.sz xs.zipIdx inner)
    (hvL : vin.length = d.sz) (hr2 : Reps ((Kd.tag f2 d).M w base (fun k => oku k ∧ some k ≠ u.ownBlock)) d.sz [x].zipIdx vin) (hap : ∀ k, okv k → ¬ oku k)
    (ho' : w'.ownsRow base e d.sz v1 (xs.length + 1) (inner.take (i * d.sz) ++ vin ++ inner.drop (i * d.sz))) (hg : w.grownBy w' v.ownBlock) (hat : v1.ownBlock = v.ownBlock ∨ ∃ b, v1.ownBlock = some b ∧ w.heap.size ≤ b) :
    Kd.S d e w' base (fun k => okv k ∨ oku k ∨ w.heap.size ≤ k) v1 (xs.take i ++ [x] ++ xs.drop i) := by
  have hlen : (xs.take i ++ [x] ++ xs.drop i).length = xs.length + 1 := by simp only [List.length_append, List.length_take, List.length_drop, List.length_singleton]; omega
  have hm : i * d.sz ≤ xs.length * d.sz := Nat.mul_le_mul_right _ hi
  have hal : (inner.take (i * d.sz)).length = i * d.sz := by rw [List.length_take]; omega
  have hmv : ∀ (y : α) (c : List Value) (P : Nat → Prop) (Q : Nat → Prop), d.M w base P y c → (∀ k, P k → k < w.heap.size → some k ≠ v.ownBlock ∧ Q k) → d.M w' base Q y c := by
    intro y c P Q hp hPQ
    have h1 := d.M_bound hp
    have h2 : d.M w base (fun k => Q k ∧ k < w.heap.size ∧ some k ≠ v.ownBlock) y c := d.M_mono (fun k hk => ⟨(hPQ k hk.1 hk.2.2.1).2, hk.2.2.1, (hPQ k hk.1 hk.2.2.1).1⟩) h1
    have h3 : d.M w' base (fun k => Q k ∧ k < w.heap.size ∧ some k ≠ v.ownBlock) y c := d.M_move (fun k hk => hg.block k hk.2.1 hk.2.2) h2
    exact d.M_mono (fun k hk => hk.1) h3
  have hne : ∀ k, (okv k ∧ some k ≠ v.ownBlock ∨ oku k) → k < w.heap.size → some k ≠ v1.ownBlock := by
    intro k hk hlt he
    rcases hat with h | ⟨b, h, hb⟩
    · rw [h] at he
      rcases hk with hk | hk
      · exact hk.2 he
      · exact hap k (h0 k he.symm) hk
    · rw [h] at he; injection he with he; omega
  refine ⟨fun k => if oku k then i else if f k < i then f k else f k + 1, fun k hk => ?_, inner.take (i * d.sz) ++ vin ++ inner.drop (i * d.sz), by rw [List.length_zipIdx, hlen]; exact ho', by rw [List.length_zipIdx, hlen]; exact ho'.1, fun j p hj => ?_⟩
  · rcases hat with h | ⟨b, h, hb⟩
    · rw [h] at hk; exact .inl (h0 k hk)
    · rw [h] at hk; injection hk with hk; exact .inr (.inr (by omega))
  · rw [List.getElem?_zipIdx, Nat.zero_add] at hj
    obtain ⟨y, hy, rfl⟩ := Option.map_eq_some_iff.1 hj
    show d.M w' base (fun k => ((okv k ∨ oku k ∨ w.heap.size ≤ k) ∧ some k ≠ v1.ownBlock) ∧ (if oku k then i else if f k < i then f k else f k + 1) = j) y (((inner.take (i * d.sz) ++ vin ++ inner.drop (i * d.sz)).drop (j * d.sz)).take d.sz)
    by_cases h1 : j < i
    · have hy' : xs[j]? = some y := by
        rw [List.append_assoc, List.getElem?_append_left (by rw [List.length_take]; omega), List.getElem?_take, if_pos h1] at hy; exact hy
      have hc : ((inner.take (i * d.sz) ++ vin ++ inner.drop (i * d.sz)).drop (j * d.sz)).take d.sz = (inner.drop (j * d.sz)).take d.sz := by
        rw [cells_at (List.append_assoc _ _ _) hal h1, cells_at (List.take_append_drop (i * d.sz) inner).symm hal h1]
      rw [hc]
      refine hmv y _ _ _ (hr.2 j (y, j) (Kd.zip_at hy')) (fun k hk hlt => ⟨hk.1.2, ⟨.inl hk.1.1, hne k (.inl hk.1) hlt⟩, ?_⟩)
      have h2 : f k = j := hk.2
      rw [if_neg (hap k hk.1.1), if_pos (by omega)]; exact h2
    · by_cases h2 : j = i
      · subst h2
        have hy' : y = x := by
          rw [List.append_assoc, List.getElem?_append_right (by rw [List.length_take]; omega), List.length_take, Nat.min_eq_left hi, Nat.sub_self] at hy
          simpa using hy.symm
        subst hy'
        have hc : ((inner.take (j * d.sz) ++ vin ++ inner.drop (j * d.sz)).drop (j * d.sz)).take d.sz = (vin.drop (0 * d.sz)).take d.sz := by
          rw [List.append_assoc, List.drop_left' hal, List.take_left' hvL, Nat.zero_mul, List.drop_zero, List.take_of_length_le (by omega)]
        rw [hc]
        refine hmv y _ _ _ (hr2.2 0 (y, 0) rfl) (fun k hk hlt => ⟨fun he => hap k (h0 k he.symm) hk.1.1, ⟨.inr (.inl hk.1.1), hne k (.inr hk.1.1) hlt⟩, ?_⟩)
        rw [if_pos hk.1.1]
      · obtain ⟨q, rfl⟩ : ∃ q, j = q + 1 := ⟨j - 1, by omega⟩
        have hy' : xs[q]? = some y := by
          rw [List.getElem?_append_right (by simp only [List.length_append, List.length_take, List.length_singleton]; omega), List.getElem?_drop] at hy
          rw [← hy]; congr 1
          simp only [List.length_append, List.length_take, List.length_singleton]; omega
        have hq : i * d.sz ≤ q * d.sz := Nat.mul_le_mul_right _ (by omega)
        have hc : ((inner.take (i * d.sz) ++ vin ++ inner.drop (i * d.sz)).drop ((q + 1) * d.sz)).take d.sz = (inner.drop (q * d.sz)).take d.sz := by
          rw [List.drop_append, List.drop_of_length_le (by rw [List.length_append, hal, hvL, Nat.succ_mul]; omega), List.nil_append, List.drop_drop]
          congr 2
          rw [List.length_append, hal, hvL, Nat.succ_mul]; omega
        rw [hc]
        refine hmv y _ _ _ (hr.2 q (y, q) (Kd.zip_at hy')) (fun k hk hlt => ⟨hk.1.2, ⟨.inl hk.1.1, hne k (.inl hk.1) hlt⟩, ?_⟩)
        have h3 : f k = q := hk.2
        rw [if_neg (hap k hk.1.1), if_neg (by omega), h3]
end
end Go.Proofs.Ytdkokfnnebdppaa.P
end

section
/- slices.Insert of one entry into a row of entries: in place, and where the row grows. -/
set_option linter.unusedVariables false
set_option linter.unusedSimpArgs false
namespace Go.Proofs.Ytdkokfnnebdppaa.P
open Go Go.RowKit Go.Proofs.YtdkokfnnebdppaaW.PrintWords Go.Proofs.YtdkokfnnebdppaaW.PrintLast Go.Proofs.YtdkokfnnebdppaaW.PrintMore
theorem insE_info : ∃ i, Try.prog.info? 45 = some i ∧ i.size = 9 := by
  obtain ⟨i, h0, h1, h2, _⟩ := info_parts info45
  exact ⟨i, h0, h2⟩
theorem insE_apart (w : World) (g vb o : Nat) (cur vcur : Array Value) (hg : w.heap[g]? = some (.cells cur 45 (0, 0))) (hv : w.heap[vb]? = some (.cells vcur 45 (0, 0))) (hne : vb ≠ g) (hc : cur.size ≠ 0) (lb cb m vc : Nat) :
    (callFunc 96 #[.slice (some ⟨vb, 0, none⟩) m vc, .slice (some ⟨g, o, none⟩) lb cb]).run Try.prog w = .ok (.value (.bool false)) w := by
  obtain ⟨i, hi, hs⟩ := insE_info
  rw [run_callFunc_extern Try.func96 (by kernel_rfl) (by kernel_rfl) (by kernel_rfl) (e := Extern.SlicesOverlaps.overlaps #[29, 29] #[4]) (by kernel_rfl),
    Lib.run_overlaps_apart w 29 4 45 Try.underlying29 9 (fun w => by simp [sizeOf, typeInfo, hi, hs]) ⟨vb, 0, none⟩ ⟨g, o, none⟩ m vc lb cb hne 45 45 vcur.size cur.size (by simp [World.shape?, hv]) (by simp [World.shape?, hg]) hc (by simp [World.frozen?, hv]) (by simp [World.frozen?, hv])]
  rfl
set_option maxHeartbeats 4000000 in
set_option maxRecDepth 100000 in
theorem insE_shift (g n c i vb vc : Nat) (cur vcur : Array Value) (vin : List Value) (w : World) (hi : i < n) (hroom : n + 1 ≤ c) (hc63 : c ≤ 9223372036854775807) (hne : vb ≠ g)
    (hg : w.heap[g]? = some (.cells cur 45 (0, 0))) (hv : w.heap[vb]? = some (.cells vcur 45 (0, 0))) (hcs : cur.size = c * 9) (hvl : vin.length = 9) (hvi : ∀ (j : Nat) (x : Value), vin[j]? = some x → vcur[j]? = some x) (hvz : vcur.size ≠ 0) (h1c : ∀ v ∈ cur.toList.take (n * 9), v.oneCell' = true) (h1v : ∀ v ∈ vin, v.oneCell' = true)
    (R1 R2 : Array Value) (hR1 : R1 = (cur.toList.take ((i + 1) * 9) ++ (cur.toList.take (n * 9)).drop (i * 9) ++ cur.toList.drop ((n + 1) * 9)).toArray) (hR2 : R2 = (R1.toList.take (i * 9) ++ vin ++ R1.toList.drop ((i + 1) * 9)).toArray) :
    Calls Try.prog 82 #[.slice (some ⟨g, 0, none⟩) n c, .int .i64 i, .slice (some ⟨vb, 0, none⟩) 1 vc] w fun e w' =>
      e = .returned (.slice (some ⟨g, 0, none⟩) (n + 1) c) ∧ w' = (w.drew.setRow g R1).setRow g R2 := by
  have hov := insE_apart w g vb ((i + 1) * 9) cur vcur hg hv hne (by omega)
  have hz2 : ¬ ((i : Int) = (n : Int)) := by omega
  have hw1 : IntKind.i64.wrap ((i : Int) + 1) = (i : Int) + 1 := by rw [IntKind.wrap_i64]; omega
  have hw2 : IntKind.i64.wrap ((n : Int) + 1) = (n : Int) + 1 := by rw [IntKind.wrap_i64]; omega
  have hb1 : (0 : Int) ≤ (i : Int) + 1 := by omega
  have hin : i ≤ n := by omega
  have htn : ((i : Int) + 1).toNat = i + 1 := by omega
  have hb2 : ¬ (c = i + 1) := by omega
  have hb3 : (i : Int) ≤ (n : Int) + 1 := by omega
  have hb4 : ¬ (c = i) := by omega
  obtain ⟨ti, hti, hts⟩ := insE_info
  have hmul : ∀ x y : Nat, x ≤ y → x * 9 ≤ y * 9 := fun x y h => Nat.mul_le_mul_right 9 h
  obtain ⟨cs, hcse⟩ : ∃ cs, cs = (cur.toList.take (n * 9)).drop (i * 9) := ⟨_, rfl⟩
  have hcl : cs.length = (n - i) * 9 := by rw [hcse, List.length_drop, List.length_take, Array.length_toList]; omega
  have hget : ∀ j v, cs[j]? = some v → cur[i * 9 + j]? = some v := fun j v hj => by
    rw [hcse, List.getElem?_drop, List.getElem?_take] at hj
    split at hj
    · rw [← Array.getElem?_toList]; exact hj
    · cases hj
  have hg1 : w.drew.heap[g]? = some (.cells cur 45 (0, 0)) := hg
  have hv1 : w.drew.heap[vb]? = some (.cells vcur 45 (0, 0)) := hv
  have hcp1 : ∀ ty dc sc, (Builtin.copy_ #[29, 29] ty #[.slice (some ⟨g, (i + 1) * 9, none⟩) (n - i) dc, .slice (some ⟨g, i * 9, none⟩) (n + 1 - i) sc]).run Try.prog w.drew = .ok (goInt (Nat.min (n + 1 - i) (n - i))) (w.drew.setRow g R1) := fun ty dc sc => by
    rw [run_copy_rowK w.drew 29 ty 45 ti g ((i + 1) * 9) (n - i) dc ⟨g, i * 9, none⟩ (n + 1 - i) sc cur cs Try.underlying29 hti hg1 (by rw [hcl, hts, show Nat.min (n + 1 - i) (n - i) = n - i from by simp only [Nat.min_def]; split <;> omega])
      (fun j v hj => by rw [Addr.add_lit]; simp only [World.cell?, hg1]; exact hget j v hj) (by rw [hcl]; omega) (fun v hv => h1c v (by rw [hcse] at hv; exact List.mem_of_mem_drop hv)), hR1, hcse.symm, show (i + 1) * 9 + cs.length = (n + 1) * 9 from by rw [hcl]; omega]
  have hR1s : R1.size = c * 9 := by
    rw [hR1, ← hcse]
    simp only [List.size_toArray, List.length_append, List.length_take, List.length_drop, Array.length_toList, hcl]
    omega
  obtain ⟨W1, hW1⟩ : ∃ W1, W1 = w.drew.setRow g R1 := ⟨_, rfl⟩
  have hg2 : W1.heap[g]? = some (.cells R1 45 (0, 0)) := by rw [hW1]; exact setRow_heap w.drew g cur R1 45 (0, 0) hg1
  have hv2 : W1.heap[vb]? = some (.cells vcur 45 (0, 0)) := by rw [hW1, setRow_other _ _ _ _ hne]; exact hv1
  have hcp2 : ∀ ty dc, (Builtin.copy_ #[29, 29] ty #[.slice (some ⟨g, i * 9, none⟩) (n + 1 - i) dc, .slice (some ⟨vb, 0, none⟩) 1 vc]).run Try.prog W1 = .ok (goInt (Nat.min 1 (n + 1 - i))) (W1.setRow g R2) := fun ty dc => by
    rw [run_copy_rowK W1 29 ty 45 ti g (i * 9) (n + 1 - i) dc ⟨vb, 0, none⟩ 1 vc R1 vin Try.underlying29 hti hg2 (by rw [hvl, hts, show Nat.min 1 (n + 1 - i) = 1 from by simp only [Nat.min_def]; split <;> omega])
      (fun j v hj => by rw [Addr.add_lit]; simp only [World.cell?, hv2]; rw [Nat.zero_add]; exact hvi j v hj) (by rw [hvl, hR1s]; omega) h1v, hR2, show i * 9 + vin.length = (i + 1) * 9 from by rw [hvl]; omega]
  rw [← hW1] at hcp1 ⊢
  clear hget hmul hW1 hR1 hR2 hcse hcl hR1s hg1 hv1 hg2 hv2 hvi
  have mixed : Try.prog.follows .mixedOrders = true := by kernel_rfl
  go_enter Try.func82, Try.ntmps82
  go_wp2_with (simp only [hov])
  go_region_law_o (refine step_copy_runI rfl _ _ 29 29 rfl _ _ (by simp [Act.eval, Act.put]) (by simp [Act.eval, Act.put]) (hcp1 _ _ _) ?_)
  go_wp2_with (at_builtin; refine wpList_copy_runI _ rfl _ _ 29 29 rfl _ _ rfl rfl (hcp2 _ _) ?_)
  go_ret
  exact ⟨rfl, rfl⟩
set_option maxHeartbeats 4000000 in
set_option maxRecDepth 100000 in
theorem insE_grow (g n c i vb vc : Nat) (cur vcur : Array Value) (vin : List Value) (w : World) (hi : i < n) (hnc : n ≤ c) (hroom : c < n + 1) (hbig : (n + 1) * 96 ≤ 140737488355328) (hne : vb ≠ g)
    (hg : w.heap[g]? = some (.cells cur 45 (0, 0))) (hv : w.heap[vb]? = some (.cells vcur 45 (0, 0))) (hcs : cur.size = c * 9) (hvl : vin.length = 9) (hvi : ∀ (j : Nat) (x : Value), vin[j]? = some x → vcur[j]? = some x) (hvz : vcur.size ≠ 0) (h1c : ∀ v ∈ cur.toList.take (n * 9), v.oneCell' = true) (h1v : ∀ v ∈ vin, v.oneCell' = true) :
    Calls Try.prog 82 #[.slice (some ⟨g, 0, none⟩) n c, .int .i64 i, .slice (some ⟨vb, 0, none⟩) 1 vc] w fun e w' =>
      ∃ (G : Nat) (R : Array Value), e = .returned (.slice (some ⟨w.heap.size, 0, none⟩) (n + 1) G) ∧ n + 1 ≤ G ∧ G ≤ maxLen ∧ R.size = G * 9 ∧ w'.heap[w.heap.size]? = some (.cells R 45 (0, 0)) ∧
        R.toList.take ((n + 1) * 9) = cur.toList.take (i * 9) ++ vin ++ (cur.toList.take (n * 9)).drop (i * 9) ∧ w.grownBy w' none := by
  obtain ⟨ti, hti, hz0, hzs, hzb⟩ := info_parts info45
  have hz2 : ¬ ((i : Int) = (n : Int)) := by omega
  have hz3 : (c : Int) < (n : Int) + 1 := by omega
  have hgw : g < w.heap.size := (Array.getElem?_eq_some_iff.1 hg).1
  have hvw : vb < w.heap.size := (Array.getElem?_eq_some_iff.1 hv).1
  have hkk : (n : Int) + 1 - (i : Int) = ((n + 1 - i : Nat) : Int) := by omega
  have hik : i + (n + 1 - i) = n + 1 := by omega
  obtain ⟨cs, hcse⟩ : ∃ cs, cs = (cur.toList.take (n * 9)).drop (i * 9) := ⟨_, rfl⟩
  have hcl : cs.length = (n - i) * 9 := by rw [hcse, List.length_drop, List.length_take, Array.length_toList]; omega
  have hget : ∀ j v, cs[j]? = some v → cur[i * 9 + j]? = some v := fun j v hj => by
    rw [hcse, List.getElem?_drop, List.getElem?_take] at hj
    split at hj
    · rw [← Array.getElem?_toList]; exact hj
    · cases hj
  have htl : (cur.toList.take (i * 9)).length = i * 9 := by rw [List.length_take, Array.length_toList]; omega
  have hold : (Builtin.firstCells ti.size i (.slice (some ⟨g, 0, none⟩) i c)).run Try.prog w.drew = .ok (cur.toList.take (i * 9)).toArray w.drew := by
    rw [hzs]
    exact run_firstCells_some w.drew 9 i ⟨g, 0, none⟩ i c (cur.toList.take (i * 9)) htl (fun j v hj => by
      rw [Addr.add_lit, Nat.zero_add]
      rw [List.getElem?_take] at hj
      split at hj
      · have hg1 : w.drew.heap[g]? = some (.cells cur 45 (0, 0)) := hg
        simp only [World.cell?, hg1]
        rw [← Array.getElem?_toList]; exact hj
      · cases hj)
  obtain ⟨G, hG⟩ : ∃ G, G = grownCap w (n + 1) c 45 := ⟨_, rfl⟩
  have hGn : n + 1 ≤ G := by rw [hG]; exact grownCap_ge w _ _ _
  have hGm : G ≤ maxLen := by rw [hG]; exact grownCap_le_maxLen w (n + 1) c 45 (by unfold maxLen; omega)
  have hG63 : G ≤ 9223372036854775807 := by unfold maxLen at hGm; omega
  obtain ⟨ROW, hRs, hRt, hrz⟩ : ∃ ROW : Array Value, ROW.size = G * 9 ∧ ROW.toList.take (i * 9) = cur.toList.take (i * 9) ∧ ∀ ty, (Builtin.append_ #[29, 3] ty #[.slice (some ⟨g, 0, none⟩) i c, .int .i64 ((n : Int) + 1 - (i : Int))]).run Try.prog w =
      .ok (.slice (some ⟨w.heap.size, 0, none⟩) (n + 1) G) (w.drew.alloc (.cells ROW 45)) := by
    obtain ⟨z, hz, hzc⟩ : ∃ z, ti.zero = some z ∧ z.cells.size = 9 := ⟨_, hz0, rfl⟩
    refine ⟨(cur.toList.take (i * 9)).toArray ++ Builtin.zeroCells z.cells (n + 1 - i) ++ Builtin.zeroCells z.cells (G - (n + 1)), ?_, ?_, fun ty => ?_⟩
    rotate_left 2
    · have h := Lib.run_append_grow_zeros w 29 3 ty 45 ti _ .i64 .i64 Try.underlying29 Try.underlying3 hti hz (some ⟨g, 0, none⟩) i c (cur.toList.take (i * 9)) hold (n + 1 - i) (by omega) (by omega) (by omega) (by omega) (by rw [hzb]; omega) (by rw [hzb, hik]; exact growslice_fits hroom hbig)
      rw [hik, ← hG] at h
      rw [hkk]
      exact h
    · simp only [Array.size_append, List.size_toArray, htl, size_zeroCells, hzc]
      omega
    · rw [Array.append_assoc, Array.toList_append, List.toList_toArray, List.take_left' htl]
  obtain ⟨RA, hRA⟩ : ∃ RA : Array Value, RA = (ROW.toList.take (i * 9) ++ vin ++ ROW.toList.drop ((i + 1) * 9)).toArray := ⟨_, rfl⟩
  obtain ⟨RB, hRB⟩ : ∃ RB : Array Value, RB = (RA.toList.take ((i + 1) * 9) ++ cs ++ RA.toList.drop ((n + 1) * 9)).toArray := ⟨_, rfl⟩
  have hRtl : (ROW.toList.take (i * 9)).length = i * 9 := by rw [hRt]; exact htl
  have hRAs : RA.size = G * 9 := by
    rw [hRA]
    simp only [List.size_toArray, List.length_append, hRtl, hvl, List.length_drop, Array.length_toList]
    omega
  have hRAt : RA.toList.take ((i + 1) * 9) = cur.toList.take (i * 9) ++ vin := by
    rw [hRA, List.toList_toArray, ← hRt]
    exact List.take_left' (by rw [List.length_append, hRtl, hvl]; omega)
  have hRBs : RB.size = G * 9 := by
    rw [hRB]
    simp only [List.size_toArray, List.length_append, List.length_take, hcl, List.length_drop, Array.length_toList]
    omega
  have hRBt : RB.toList.take ((n + 1) * 9) = cur.toList.take (i * 9) ++ vin ++ cs := by
    rw [hRB, List.toList_toArray, hRAt]
    exact List.take_left' (by simp only [List.length_append, htl, hvl, hcl]; omega)
  have hcpA : ∀ (W : World), W.heap[w.heap.size]? = some (.cells ROW 45 (0, 0)) → W.heap[vb]? = some (.cells vcur 45 (0, 0)) → ∀ ty dc, (Builtin.copy_ #[29, 29] ty #[.slice (some ⟨w.heap.size, i * 9, none⟩) (n + 1 - i) dc, .slice (some ⟨vb, 0, none⟩) 1 vc]).run Try.prog W = .ok (goInt (Nat.min 1 (n + 1 - i))) (W.setRow w.heap.size RA) := fun W h1 h2 ty dc => by
    rw [run_copy_rowK W 29 ty 45 ti w.heap.size (i * 9) (n + 1 - i) dc ⟨vb, 0, none⟩ 1 vc ROW vin Try.underlying29 hti h1 (by rw [hvl, hzs, show Nat.min 1 (n + 1 - i) = 1 from by simp only [Nat.min_def]; split <;> omega])
      (fun j v hj => by rw [Addr.add_lit]; simp only [World.cell?, h2]; rw [Nat.zero_add]; exact hvi j v hj) (by rw [hvl, hRs]; omega) h1v, hRA, show i * 9 + vin.length = (i + 1) * 9 from by rw [hvl]; omega]
  have hcpB : ∀ (W : World), W.heap[w.heap.size]? = some (.cells RA 45 (0, 0)) → W.heap[g]? = some (.cells cur 45 (0, 0)) → ∀ ty dc sc, (Builtin.copy_ #[29, 29] ty #[.slice (some ⟨w.heap.size, (i + 1) * 9, none⟩) (n - i) dc, .slice (some ⟨g, i * 9, none⟩) (n - i) sc]).run Try.prog W = .ok (goInt (Nat.min (n - i) (n - i))) (W.setRow w.heap.size RB) := fun W h1 h2 ty dc sc => by
    rw [run_copy_rowK W 29 ty 45 ti w.heap.size ((i + 1) * 9) (n - i) dc ⟨g, i * 9, none⟩ (n - i) sc RA cs Try.underlying29 hti h1 (by rw [hcl, hzs, show Nat.min (n - i) (n - i) = n - i from by simp only [Nat.min_def]; split <;> omega])
      (fun j v hj => by rw [Addr.add_lit]; simp only [World.cell?, h2]; exact hget j v hj) (by rw [hcl, hRAs]; omega) (fun v hv => h1c v (by rw [hcse] at hv; exact List.mem_of_mem_drop hv)), hRB, show (i + 1) * 9 + cs.length = (n + 1) * 9 from by rw [hcl]; omega]
  have hGi : ¬ (G = i) := by omega
  have hGim : ¬ (G = i + 1) := by omega
  have hci : ¬ (c = i) := by omega
  have hw1 : IntKind.i64.wrap ((i : Int) + 1) = (i : Int) + 1 := by rw [IntKind.wrap_i64]; omega
  have hw2 : IntKind.i64.wrap ((n : Int) + 1) = (n : Int) + 1 := by rw [IntKind.wrap_i64]; omega
  have hw3 : IntKind.i64.wrap ((n : Int) + 1 - (i : Int)) = (n : Int) + 1 - (i : Int) := by rw [IntKind.wrap_i64]; omega
  have hb1 : (0 : Int) ≤ (i : Int) + 1 := by omega
  have hin : i ≤ n := by omega
  have hic : i ≤ c := by omega
  have htn : ((i : Int) + 1).toNat = i + 1 := by omega
  have hb3 : (i : Int) ≤ (n : Int) + 1 := by omega
  have mixed : Try.prog.follows .mixedOrders = true := by kernel_rfl
  have hfin : ∀ W' : World, W'.heap[w.heap.size]? = some (.cells RB 45 (0, 0)) → w.grownBy W' none → ∃ (G_ : Nat) (R : Array Value), (Ending.returned (.slice (some ⟨w.heap.size, 0, none⟩) (n + 1) G)) = .returned (.slice (some ⟨w.heap.size, 0, none⟩) (n + 1) G_) ∧ n + 1 ≤ G_ ∧ G_ ≤ maxLen ∧ R.size = G_ * 9 ∧ W'.heap[w.heap.size]? = some (.cells R 45 (0, 0)) ∧
        R.toList.take ((n + 1) * 9) = cur.toList.take (i * 9) ++ vin ++ (cur.toList.take (n * 9)).drop (i * 9) ∧ w.grownBy W' none := fun W' h1 h2 => ⟨G, RB, rfl, hGn, hGm, hRBs, h1, by rw [hRBt, hcse], h2⟩
  have hA1 : ((w.alloc (.cells ROW 45)).drew).heap[w.heap.size]? = some (.cells ROW 45 (0, 0)) := by
    show (w.heap.push _)[w.heap.size]? = _
    rw [Array.getElem?_push, if_pos rfl]
  have hA2 : ((w.alloc (.cells ROW 45)).drew).heap[vb]? = some (.cells vcur 45 (0, 0)) := by
    show (w.heap.push _)[vb]? = _
    rw [Array.getElem?_push, if_neg (by omega)]; exact hv
  have hA3 : ((w.alloc (.cells ROW 45)).drew).heap[g]? = some (.cells cur 45 (0, 0)) := by
    show (w.heap.push _)[g]? = _
    rw [Array.getElem?_push, if_neg (by omega)]; exact hg
  have hB1 : ((((w.alloc (.cells ROW 45)).drew).setRow w.heap.size RA).drew).heap[w.heap.size]? = some (.cells RA 45 (0, 0)) := setRow_heap _ _ _ RA 45 (0, 0) hA1
  have hB3 : ((((w.alloc (.cells ROW 45)).drew).setRow w.heap.size RA).drew).heap[g]? = some (.cells cur 45 (0, 0)) := (setRow_other _ _ _ _ (by omega)).trans hA3
  have hF1 : (((w.alloc (.cells ROW 45)).drew.setRow w.heap.size RA).drew.setRow w.heap.size RB).heap[w.heap.size]? = some (.cells RB 45 (0, 0)) := setRow_heap _ _ _ RB 45 (0, 0) hB1
  have hF2 : w.grownBy (((w.alloc (.cells ROW 45)).drew.setRow w.heap.size RA).drew.setRow w.heap.size RB) none := by
    refine ⟨rfl, rfl, rfl, ?_, fun k hk _ => ?_⟩
    · rw [size_setRow]
      show w.heap.size ≤ (((w.alloc (.cells ROW 45)).drew.setRow w.heap.size RA)).heap.size
      rw [size_setRow]
      show w.heap.size ≤ (w.heap.push _).size
      rw [Array.size_push]; exact Nat.le_succ _
    · rw [setRow_other _ _ _ _ (by omega)]
      show (((w.alloc (.cells ROW 45)).drew.setRow w.heap.size RA)).heap[k]? = _
      rw [setRow_other _ _ _ _ (by omega)]
      show (w.heap.push _)[k]? = _
      rw [Array.getElem?_push, if_neg (by omega)]
  have hend := hfin _ hF1 hF2
  have hA := hcpA _ hA1 hA2
  have hB := hcpB _ hB1 hB3
  clear hcpA hcpB hA1 hA2 hA3 hB1 hB3 hF1 hF2 hfin
  clear hget hRA hRB hcse hcl htl hold hRs hRt hRtl hRAs hRAt hRBs hRBt hti hz0 hzs hzb hkk hik hG h1c h1v hcs hvl hvi hvz hg hv
  go_enter Try.func82, Try.ntmps82
  go_upto_region 10 with (at_builtin; refine Lib.wpList_append_run _ rfl _ _ _ _ rfl _ _ rfl rfl _ _ (hrz _) ?_)
  go_wp2_with (at_builtin; refine wpList_copy_runI _ rfl _ _ 29 29 rfl _ _ rfl rfl (hA _ _) ?_)
  go_region_law_o (refine step_copy_runI rfl _ _ 29 29 rfl _ _ (by simp [Act.eval, Act.put]) (by simp [Act.eval, Act.put]) (hB _ _ _) ?_)
  go_wp2
  go_ret
  exact hend
set_option maxHeartbeats 4000000 in
set_option maxRecDepth 100000 in
/-- At the end: an append. -/
theorem insE_end (base n : Nat) (v : Value) (inner : List Value) (vb vc : Nat) (vcur : Array Value) (vin : List Value) (w : World) (ho : w.ownsRow base 45 9 v n inner) (hbase : base ≤ w.heap.size) (hbig : (n + 1) * 96 ≤ 140737488355328)
    (hv : w.heap[vb]? = some (.cells vcur 45 (0, 0))) (hvl : vin.length = 9) (hvi : ∀ (j : Nat) (x : Value), vin[j]? = some x → vcur[j]? = some x) (h1v : ∀ v ∈ vin, v.oneCell' = true) :
    Calls Try.prog 82 #[v, .int .i64 n, .slice (some ⟨vb, 0, none⟩) 1 vc] w fun e w' => ∃ v1, e = .returned v1 ∧ w'.ownsRow base 45 9 v1 (n + 1) (inner ++ vin) ∧ w.grownBy w' v.ownBlock ∧ (v1.ownBlock = v.ownBlock ∨ ∃ b, v1.ownBlock = some b ∧ w.heap.size ≤ b) := by
  obtain ⟨ti, hti, hz0, hzs, hzb⟩ := info_parts info45
  obtain ⟨v1, w1, hrun, h2, hg, _, hat⟩ := run_append_own_at (P := Try.prog) w base 29 29 45 ti _ 9 96 Try.underlying29 hti hz0 hzs hzb rfl (by decide) v n inner ho ⟨vb, 0, none⟩ 1 vc vin (by omega)
    (fun j x hj => by rw [Addr.add_lit]; simp only [World.cell?, hv]; rw [Nat.zero_add]; exact hvi j x hj) h1v (by unfold maxLen; omega) hbig hbase
  have hat : v1.ownBlock = v.ownBlock ∨ ∃ b, v1.ownBlock = some b ∧ w.heap.size ≤ b := hat.imp_right (fun h => ⟨_, h, Nat.le_refl _⟩)
  rcases ho.2 with ⟨rfl, rfl⟩ | ⟨g, c, cur, rfl, _, _, hnc, _⟩
  · clear hti hz0 hzs hzb hv hvi h1v ho
    go_enter Try.func82, Try.ntmps82
    go_wp2_with (at_builtin; refine Lib.wpList_append_run _ rfl _ _ _ _ rfl _ _ rfl rfl _ _ hrun ?_)
    go_ret
    exact ⟨v1, rfl, h2, hg, hat⟩
  · clear hti hz0 hzs hzb hv hvi h1v ho
    have hn63 : n ≤ 9223372036854775807 := by omega
    rcases Nat.eq_or_lt_of_le hnc with hc | hc
    · subst hc
      go_enter Try.func82, Try.ntmps82
      go_wp2_with (at_builtin; refine Lib.wpList_append_run _ rfl _ _ _ _ rfl _ _ rfl rfl _ _ hrun ?_)
      go_ret
      exact ⟨v1, rfl, h2, hg, hat⟩
    · have hcn : ¬ (c = n) := by omega
      go_enter Try.func82, Try.ntmps82
      go_wp2_with (at_builtin; refine Lib.wpList_append_run _ rfl _ _ _ _ rfl _ _ rfl rfl _ _ hrun ?_)
      go_ret
      exact ⟨v1, rfl, h2, hg, hat⟩
theorem insE_own (base n : Nat) (v u : Value) (inner vin : List Value) (i : Nat) (w : World) (ho : w.ownsRow base 45 9 v n inner) (hu : w.ownsRow base 45 9 u 1 vin) (hne : ∀ k, u.ownBlock = some k → v.ownBlock ≠ some k) (hin : i ≤ n)
    (h1c : ∀ x ∈ inner, x.oneCell' = true) (h1v : ∀ x ∈ vin, x.oneCell' = true) (hbase : base ≤ w.heap.size) (hbig : (n + 1) * 96 ≤ 140737488355328) :
    Calls Try.prog 82 #[v, .int .i64 i, u] w fun e w' => ∃ v1, e = .returned v1 ∧ w'.ownsRow base 45 9 v1 (n + 1) (inner.take (i * 9) ++ vin ++ inner.drop (i * 9)) ∧ w.grownBy w' v.ownBlock ∧ (v1.ownBlock = v.ownBlock ∨ ∃ b, v1.ownBlock = some b ∧ w.heap.size ≤ b) := by
  obtain ⟨hul, hu⟩ := hu
  rcases hu with ⟨_, h0⟩ | ⟨vb, vc, vcur, rfl, hvb, hv, hvc, _, hvs, hvt⟩
  · exact absurd h0 (by decide)
  have hvl : vin.length = 9 := by omega
  have hvi : ∀ (j : Nat) (x : Value), vin[j]? = some x → vcur[j]? = some x := fun j x hj => by
    rw [← hvt, List.getElem?_take] at hj
    split at hj
    · rw [← Array.getElem?_toList]; exact hj
    · cases hj
  have hil : inner.length = n * 9 := ho.1
  by_cases hi : i = n
  · subst hi
    rw [List.take_of_length_le (by omega), List.drop_of_length_le (by omega), List.append_nil]
    exact insE_end base i v inner vb vc vcur vin w ho hbase hbig hv hvl hvi h1v
  · rcases ho.2 with ⟨rfl, h0⟩ | ⟨g, c, cur, rfl, hgb, hg, hnc, hcm, hcs, hct⟩
    · omega
    have hne' : vb ≠ g := fun e => hne vb rfl (by rw [e]; rfl)
    have hti : inner.take (i * 9) = cur.toList.take (i * 9) := by rw [← hct, List.take_take, Nat.min_eq_left (by omega)]
    have htd : inner.drop (i * 9) = (cur.toList.take (n * 9)).drop (i * 9) := by rw [hct]
    have hdl : (inner.drop (i * 9)).length = (n - i) * 9 := by rw [List.length_drop]; omega
    have htl : (inner.take (i * 9)).length = i * 9 := by rw [List.length_take]; omega
    have hc63 : c ≤ 9223372036854775807 := by unfold maxLen at hcm; omega
    by_cases hroom : n + 1 ≤ c
    · have hgw : g < w.heap.size := (Array.getElem?_eq_some_iff.1 hg).1
      refine (insE_shift g n c i vb vc cur vcur vin w (by omega) hroom hc63 hne' hg hv hcs hvl hvi (by omega) (by rw [hct]; exact h1c) h1v _ _ rfl rfl).mono ?_
      rintro e w' ⟨rfl, rfl⟩
      have hA : ∀ X : List Value, (cur.toList.take ((i + 1) * 9) ++ (inner.drop (i * 9)) ++ X).take (i * 9) = inner.take (i * 9) := fun X => by
        rw [List.append_assoc, List.take_append_of_le_length (by rw [List.length_take, Array.length_toList]; omega), List.take_take, Nat.min_eq_left (by omega), hti]
      have hB : ∀ X : List Value, (cur.toList.take ((i + 1) * 9) ++ (inner.drop (i * 9)) ++ X).drop ((i + 1) * 9) = inner.drop (i * 9) ++ X := fun X => by
        rw [List.append_assoc, List.drop_left' (by rw [List.length_take, Array.length_toList]; omega)]
      have hg1 : w.drew.heap[g]? = some (.cells cur 45 (0, 0)) := hg
      rw [← htd, List.toList_toArray, hA, hB]
      refine ⟨_, rfl, ⟨?_, .inr ⟨g, c, _, rfl, hgb, setRow_heap _ _ _ _ 45 (0, 0) (setRow_heap _ _ _ _ 45 (0, 0) hg1), hroom, hcm, ?_, ?_⟩⟩, ⟨rfl, rfl, rfl, ?_, fun k hk hkg => ?_⟩, .inl rfl⟩
      · simp only [List.length_append, htl, hvl, hdl]; omega
      · simp only [List.size_toArray, List.length_append, htl, hvl, hdl, List.length_drop, Array.length_toList]; omega
      · rw [List.toList_toArray, ← List.append_assoc]
        exact List.take_left' (by simp only [List.length_append, htl, hvl, hdl]; omega)
      · rw [size_setRow, size_setRow]; exact Nat.le_refl _
      · have hk' : k ≠ g := fun e => hkg (by rw [e]; rfl)
        rw [setRow_other _ _ _ _ hk', setRow_other _ _ _ _ hk']; rfl
    · refine (insE_grow g n c i vb vc cur vcur vin w (by omega) hnc (by omega) hbig hne' hg hv hcs hvl hvi (by omega) (by rw [hct]; exact h1c) h1v).mono ?_
      rintro e w' ⟨G, R, rfl, hG, hGm, hRs, hR, hRt, hgr⟩
      refine ⟨_, rfl, ⟨?_, .inr ⟨w.heap.size, G, R, rfl, hbase, hR, hG, hGm, hRs, by rw [hRt, hti, htd]⟩⟩, ⟨hgr.os, hgr.tape, hgr.output, hgr.size, fun k hk _ => hgr.block k hk (by simp)⟩, .inr ⟨w.heap.size, rfl, Nat.le_refl _⟩⟩
      simp only [List.length_append, htl, hvl, hdl]; omega
theorem insE_row {base : Nat} {okv oku : Nat → Prop} {v u : Value} {xs : List S45} {x : S45} {w : World} (i : Nat) (HO : Kd.S k45 45 w base okv v xs) (HU : Kd.S k45 45 w base oku u [x]) (hap : ∀ k, okv k → ¬ oku k) (hi : i ≤ xs.length)
    (hbase : base ≤ w.heap.size) (hbig : (xs.length + 1) * 96 ≤ 140737488355328) :
    Calls Try.prog 82 #[v, .int .i64 i, u] w fun e w' => ∃ v1, e = .returned v1 ∧ Kd.S k45 45 w' base (fun k => okv k ∨ oku k ∨ w.heap.size ≤ k) v1 (xs.take i ++ [x] ++ xs.drop i) ∧ w.grownBy w' v.ownBlock := by
  obtain ⟨f, inner, ho, h0, hr⟩ := Sin_len HO
  obtain ⟨f2, vin, hu, hu0, hr2⟩ := Sin_len HU
  refine (insE_own base xs.length v u inner vin i w ho hu (fun k hk he => hap k (h0 k he) (hu0 k hk)) hi (one_cells hr (by decide)) (one_cells hr2 (by decide)) hbase hbig).mono ?_
  rintro e w' ⟨v1, rfl, h1, h2, h3⟩
  exact ⟨v1, rfl, S_insert hi ho.1 h0 hr (by have := hu.1; simpa using this) hr2 hap h1 h2 h3, h2⟩
end Go.Proofs.Ytdkokfnnebdppaa.P
end

section
/- A literal of one element that leads to rows of the call's own. No conditions. -/
set_option linter.unusedVariables false
namespace Go.Proofs.YtdkokfnnebdppaaW.PrintWords
open Go.RowKit
namespace Kd
section
variable {P : Program} {ops : Array Oper} {rest : List Oper} {o : Oper} {a : Act} {Q : Exit → Act → World → Prop} {Kc : Act → World → Prop} {α : Type}
theorem Below.refl' (B : Nat) (W : World) : Below B W W := ⟨rfl, rfl, rfl, Nat.le_refl _, fun _ _ => rfl⟩
theorem one_at {d : Kd α} {W : World} {base : Nat} {okp : Nat → Prop} {xs : List α} {inner : List Value} (hrep : Reps (d.M W base okp) d.sz xs inner) (hm : xs.length ≤ 1) (j : Nat) (x : α) (hj : xs[j]? = some x) :
    d.M W base (fun k => j = 0 ∧ okp k) x ((inner.drop (j * d.sz)).take d.sz) := by
  have hlt := (List.getElem?_eq_some_iff.1 hj).1
  have h0 : j = 0 := by omega
  exact d.M_mono (fun k hk => ⟨h0, hk⟩) (hrep.2 j x hj)
theorem S_lit1 (d : Kd α) {w0 W : World} (base e : Nat) (hgd : o.guard = none) {N : Tmp} (hd : o.dst = some N) {xs : List α} {inner : List Value} {ok okp : Nat → Prop} {base' : Nat}
    (hrun : (execOp a.eval o).run P W = .ok (.value (.slice (some ⟨W.heap.size, 0, none⟩) xs.length xs.length)) (W.alloc (.cells inner.toArray e)))
    (hrep : Reps (d.M W base' okp) d.sz xs inner) (hok : ∀ k, okp k → ok k) (hfresh : ok W.heap.size) (HB : Below base w0 W) (hbase : base ≤ W.heap.size) (hm : xs.length ≤ 1)
    (h : ∀ v1 w1, S d e w1 base' ok v1 xs → Below base w0 w1 → W.grownBy w1 none → (∃ b, v1.ownBlock = some b ∧ W.heap.size ≤ b) → wpList P ops Q rest (a.put o.dst v1) w1)
    (hb0 : base' ≤ W.heap.size := by exact below_size (by repeat (first | exact HB.out | apply below_alloc | apply pw_below_drewN | apply below_drew1 | refine below_set ?_ (Aside0.out (by assumption))))) : wpList P ops Q (o :: rest) a W :=
  S_lits d (w0 := W) base' e hgd hd (fun j k => j = 0 ∧ okp k) hrun hrep.1 (one_at hrep hm) (fun i j k h1 h2 => h1.1.trans h2.1.symm) (fun j k hk => hok k hk.2) hfresh (Below.refl' base' W) hb0 (Nat.le_trans hm (by decide)) (fun v1 w1 hs _ hg hat => h v1 w1 hs (HB.grown hg hbase (fun _ hk => by cases hk)) hg hat)
theorem S_lit1_step (d : Kd α) {w0 W : World} (base e : Nat) (hw : Region.wanted o (yielded ops a.tmps) = true) {N : Tmp} (hd : o.dst = some N) {xs : List α} {inner : List Value} {ok okp : Nat → Prop} {base' : Nat}
    (hrun : (execOp a.eval o).run P W = .ok (.value (.slice (some ⟨W.heap.size, 0, none⟩) xs.length xs.length)) (W.alloc (.cells inner.toArray e)))
    (hrep : Reps (d.M W base' okp) d.sz xs inner) (hok : ∀ k, okp k → ok k) (hfresh : ok W.heap.size) (HB : Below base w0 W) (hbase : base ≤ W.heap.size) (hm : xs.length ≤ 1)
    (h : ∀ v1 w1, S d e w1 base' ok v1 xs → Below base w0 w1 → W.grownBy w1 none → (∃ b, v1.ownBlock = some b ∧ W.heap.size ≤ b) → Kc (a.put o.dst v1) w1)
    (hb0 : base' ≤ W.heap.size := by exact below_size (by repeat (first | exact HB.out | apply below_alloc | apply pw_below_drewN | apply below_drew1 | refine below_set ?_ (Aside0.out (by assumption))))) :
    if Region.wanted o (yielded ops a.tmps) = true then Oper.wp P o a W Kc Q else Kc (a.put o.dst undef) W :=
  S_lits_step d (w0 := W) base' e hw hd (fun j k => j = 0 ∧ okp k) hrun hrep.1 (one_at hrep hm) (fun i j k h1 h2 => h1.1.trans h2.1.symm) (fun j k hk => hok k hk.2) hfresh (Below.refl' base' W) hb0 (Nat.le_trans hm (by decide)) (fun v1 w1 hs _ hg hat => h v1 w1 hs (HB.grown hg hbase (fun _ hk => by cases hk)) hg hat)
end
end Kd
end Go.Proofs.YtdkokfnnebdppaaW.PrintWords
end

-- written by a program of this session's (wip/pp)
namespace Go.Proofs.Ytdkokfnnebdppaa.P
open Go.RowKit Go.Proofs.YtdkokfnnebdppaaW.PrintWords Go.Proofs.YtdkokfnnebdppaaW.PrintLast Go.Proofs.YtdkokfnnebdppaaW.PrintMore
attribute [local go_sem] max2_int min2_int max_two min_two max_three min_three max_four min_four str_geq str_gtr str_leq   -- for this text's walks alone
set_option linter.unusedVariables false
set_option linter.unusedSimpArgs false

/-! ### slices_Clone_int_int: function 92 -/
def slices_Clone_int_int.f (l0 : List Int) : Option (List Int) := (some (([] : List Int) : List Int)).bind fun y101 => (if y101.length + l0.length < 17592186044416 then (some (y101 ++ l0)) else (none))
set_option maxHeartbeats 8000000 in
set_option maxRecDepth 100000 in
theorem slices_Clone_int_int.callsN (A0 : Option Addr) (c0 : Nat) (l0 : List Int) (r : List Int) (w : World) (hr0 : Kd.C (Kd.int .i64) w A0 l0.length l0) (hc0 : l0.length ≤ c0) (hn0 : A0 ≠ none) (h : slices_Clone_int_int.f l0 = some r) :
 Calls Try.prog 92 #[.slice A0 l0.length c0] w fun e w' => ∃ v0_ : Value, e = .returned (v0_) ∧ Kd.R (Kd.int .i64) 3 w' w.heap.size (fun _ => True) v0_ r ∧ Below w.heap.size w w' := by
 have HR0 := aM hr0
 have HC0 := aM hc0
 clear hr0 hc0
 have HB := aM (Below.refl w.heap.size w)
 have H : ((some (([] : List Int) : List Int)).bind fun y101 => (if y101.length + l0.length < 17592186044416 then (some (y101 ++ l0)) else (none))) = some r := h
 clear h
 have hnil_ : ∀ W_ : World, (Go.binOp .eql 24 (.slice A0 l0.length c0) (.slice none 0 0)).run Try.prog W_ = .ok (.bool false) W_ := fun W_ => by have hz_ : A0.isNone = false := (by cases A0 with | none => exact absurd rfl hn0 | some _ => rfl); have hy_ := Go.Lib.run_eql_slice_nil (P := Try.prog) W_ 24 3 A0 l0.length c0 0 0 Try.underlying24; rw [hz_] at hy_; exact hy_
 obtain ⟨y101, hy101⟩ : ∃ y_ : List Int, y_ = (([] : List Int)) := ⟨_, rfl⟩
 first | (replace H := bindS H; rw [← hy101] at H; try dsimp only at H) | rw [← hy101] at H
 have Ny101 := aM hy101
 clear hy101
 replace H := ifS H; obtain ⟨c2, H⟩ := H
 have LMc2 := aM c2
 clear c2
 obtain ⟨y104, hy104⟩ : ∃ y_ : List Int, y_ = (y101 ++ l0) := ⟨_, rfl⟩
 first | (replace H := bindS H; rw [← hy104] at H; try dsimp only at H) | rw [← hy104] at H
 have Ny104 := aM hy104
 clear hy104
 obtain rfl := Option.some.inj H
 go_enter Try.func92, Try.ntmps92
 go_wp2_with (first | ((with_reducible refine gate_dst (N := 5) rfl ?_); refine Kd.R_lit (Kd.int .i64) _ 3 ?hg (N := 5) ?hd (xs := ([] : List Int)) (inner := []) (ok := fun _ => True) (okp := fun _ => True) ?hr ?hp (fun _ hk => hk) trivial (Below.refl _ _) (Nat.le_refl _) (by simp) ?_; (case hd => rfl); (case hg => rfl); (case hr => first | (go_simp; done) | (go_simp; rfl)); (case hp => exact (Reps.none _ _)); intro v102 w3 ho4 hb hg_ hnew_; clear hg_ hnew_; (first | rw [← Ny101.out] at ho4 | (simp only [Int.reduceToNat] at ho4; rw [← Ny101.out] at ho4)); have _ := aM (Kd.R_lower ho4 (below_size hbZ)); have _ := aM (below_step hbZ hb); clear HB; rename_i HO103 HB; clear hb ho4) | ((with_reducible refine gate_builtin (b := .append) (xs := #[.tmp 5, .tmp 6]) rfl ?_); at_builtin; refine Kd.R_append_rows (Kd.int .i64) (w0 := w) w.heap.size rfl (.tmp 5) (.tmp 6) 24 3 (.int .i64 0) 8 rfl Try.underlying24 info3 rfl (by decide) (by omega) v102 y101 l0 _ _ _ (fun _ => True) (fun _ => False) rfl rfl ?aO ?aR (fun _ _ h => h) (fun _ h => h.elim) ?aF ?aB ?aS ?aL ?_; (case aR => repeat (first | exact (Kd.C_below HR0.out HB.out) | (with_reducible refine Kd.C_alloc ?_ _) | (with_reducible refine Kd.C_drewN ?_ _) | (with_reducible refine Kd.C_drew ?_))); (case aB => exact hbZ); (case aF => exact (fun _ _ => trivial)); (case aO => exact (rZ HO103.out)); (case aS => exact (below_size hbZ)); (case aL => have := LMc2.out; omega); intro v105 w5 ho hb hg hat; rw [← Ny104.out] at ho; have _ := aM hb; have _ := aM ho; clear HB HO103; rename_i HB HO106; clear ho hb hg hat))
 go_ret
 exact ⟨_, z674d, rZ HO106.out, z5acd⟩
set_option maxHeartbeats 400000 in
theorem slices_Clone_int_int.calls (A0 : Option Addr) (c0 : Nat) (l0 : List Int) (r : List Int) (w : World) (hr0 : Kd.C (Kd.int .i64) w A0 l0.length l0) (hc0 : l0.length ≤ c0) (h : slices_Clone_int_int.f l0 = some r) :
 Calls Try.prog 92 #[.slice A0 l0.length c0] w fun e w' => ∃ v0_ : Value, e = .returned (v0_) ∧ Kd.R (Kd.int .i64) 3 w' w.heap.size (fun _ => True) v0_ r ∧ Below w.heap.size w w' := by
 by_cases hA_ : A0 = none
 · subst hA_
   have hl_ : l0 = [] := by
    rcases Nat.eq_zero_or_pos l0.length with hz | hz
    · exact List.eq_nil_of_length_eq_zero hz
    · obtain ⟨ad, e, _⟩ := hr0.2.2 hz; cases e
   subst hl_
   have hr_ : r = [] := by
    have h2 := h
    simp [slices_Clone_int_int.f] at h2
    first | exact h2 | exact h2.symm
   subst hr_
   have hnil_ := fun W_ : World => Go.Lib.run_eql_slice_nil (P := Try.prog) W_ 24 3 none 0 c0 0 0 Try.underlying24
   go_enter Try.func92, Try.ntmps92
   go_wp2
   go_ret
   exact ⟨_, rfl, Kd.R_nil _ _ _ _ _, Below.refl _ _⟩
 · exact slices_Clone_int_int.callsN A0 c0 l0 r w hr0 hc0 hA_ h

end Go.Proofs.Ytdkokfnnebdppaa.P

-- written by a program of this session's (wip/pp)
namespace Go.Proofs.Ytdkokfnnebdppaa.P
open Go.RowKit Go.Proofs.YtdkokfnnebdppaaW.PrintWords Go.Proofs.YtdkokfnnebdppaaW.PrintLast Go.Proofs.YtdkokfnnebdppaaW.PrintMore
attribute [local go_sem] max2_int min2_int max_two min_two max_three min_three max_four min_four str_geq str_gtr str_leq   -- for this text's walks alone
set_option linter.unusedVariables false
set_option linter.unusedSimpArgs false

/-! ### impl_Entry_cloned: function 72 -/
def impl_Entry_cloned.f (a0_0 : ByteArray) (a0_1 : Int) (a0_2 : Int) (a0_3 : Int) (a0_4 : Int) (a0_5 : Int) (a0_6 : Int) (l0_7 : List Int) (a0_8 : Bool) : Option (ByteArray × Int × Int × Int × Int × Int × Int × List Int × Bool) := (slices_Clone_int_int.f l0_7).bind fun t103 => (some (a0_0, a0_1, a0_2, a0_3, a0_4, a0_5, a0_6, t103, a0_8))
set_option maxHeartbeats 8000000 in
set_option maxRecDepth 100000 in
theorem impl_Entry_cloned.calls (a0_0 : ByteArray) (a0_1 : Int) (a0_2 : Int) (a0_3 : Int) (a0_4 : Int) (a0_5 : Int) (a0_6 : Int) (A0_7 : Option Addr) (c0_7 : Nat) (l0_7 : List Int) (a0_8 : Bool) (r1 : ByteArray) (r2 : Int) (r3 : Int) (r4 : Int) (r5 : Int) (r6 : Int) (r7 : Int) (r8 : List Int) (r9 : Bool) (w : World) (hr0_7 : Kd.C (Kd.int .i64) w A0_7 l0_7.length l0_7) (hc0_7 : l0_7.length ≤ c0_7) (h : impl_Entry_cloned.f a0_0 a0_1 a0_2 a0_3 a0_4 a0_5 a0_6 l0_7 a0_8 = some (r1, r2, r3, r4, r5, r6, r7, r8, r9)) :
 Calls Try.prog 72 #[.agg #[.string a0_0, .int .i64 a0_1, .int .i64 a0_2, .int .i64 a0_3, .int .i64 a0_4, .int .i64 a0_5, .int .i64 a0_6, .slice A0_7 l0_7.length c0_7, .bool a0_8]] w fun e w' => ∃ v7_ : Value, e = .returned (.agg #[.string r1, .int .i64 r2, .int .i64 r3, .int .i64 r4, .int .i64 r5, .int .i64 r6, .int .i64 r7, v7_, .bool r9]) ∧ Kd.R (Kd.int .i64) 3 w' w.heap.size (fun _ => True) v7_ r8 ∧ Below w.heap.size w w' := by
 have hu45 := Try.underlying45
 have HR0_7 := aM hr0_7
 have HC0_7 := aM hc0_7
 clear hr0_7 hc0_7
 have HB := aM (Below.refl w.heap.size w)
 have H : ((slices_Clone_int_int.f l0_7).bind fun t103 => (some (a0_0, a0_1, a0_2, a0_3, a0_4, a0_5, a0_6, t103, a0_8))) = some (r1, r2, r3, r4, r5, r6, r7, r8, r9) := h
 clear h
 replace H := Option.bind_eq_some_iff.mp H
 obtain ⟨t103, A20, H⟩ := H
 try dsimp only at H
 have A2 := aM A20
 clear A20
 simp only [Option.some.injEq, Prod.mk.injEq] at H
 obtain ⟨rfl, rfl, rfl, rfl, rfl, rfl, rfl, rfl, rfl⟩ := H
 go_enter Try.func72, Try.ntmps72
 go_wp2_with (first | ((with_reducible refine gate_dst (N := 1) rfl ?_); refine box_event ?hg (N := 1) ?hd (cs := #[.string a0_0, .int .i64 a0_1, .int .i64 a0_2, .int .i64 a0_3, .int .i64 a0_4, .int .i64 a0_5, .int .i64 a0_6, .slice A0_7 l0_7.length c0_7, .bool a0_8]) (t := 45) ?hr ?_; (case hd => rfl); (case hg => rfl); (case hr => first | (go_simp; done) | (go_simp; rfl)); intro gb101 hg w3 hbox hb; have _ := aM (below_step hbZ hb); have _ := aM hbox; have _ := szZ hg; have _ := szZ hg; clear HB; rename_i HB BK101 GW101 GE101; clear hb hbox hg) | ((with_reducible refine gate_dst (N := 2) rfl ?_); refine box_event ?hg (N := 2) ?hd (cs := #[.string (⟨#[]⟩ : ByteArray), .int .i64 0, .int .i64 0, .int .i64 0, .int .i64 0, .int .i64 0, .int .i64 0, .slice none 0 0, .bool false]) (t := 45) ?hr ?_; (case hd => rfl); (case hg => rfl); (case hr => first | (go_simp; done) | (go_simp; rfl)); intro gb102 hg w4 hbox hb; have _ := bB gb101 hb; have _ := aM (below_step hbZ hb); have _ := aM hbox; have _ := szZ hg; have _ := szZ hg; have ⟨_, _⟩ := nbB gb101 hg; clear BK101 HB; rename_i BK101 HB BK102 GW102 GE102 NB101_102 NB102_101; clear hb hbox hg; have hnb5 := NB101_102.out; have hnc5 := NB102_101.out; obtain ⟨hcz6_0, hcz6_1, hcz6_2, hcz6_3, hcz6_4, hcz6_5, hcz6_6, hcz6_7, hcz6_8, hfz6_0, hfz6_1, hfz6_2, hfz6_3, hfz6_4, hfz6_5, hfz6_6, hfz6_7, hfz6_8⟩ := cellsZ9 BK101.out) | ((with_reducible refine gate_callee (f := 92) rfl ?_); refine goesL_ (some 6) rfl rfl Try.func92 (by kernel_rfl) rfl #[.slice A0_7 l0_7.length c0_7] rfl zee81 ?_; (with_reducible refine (slices_Clone_int_int.calls _ _ l0_7 t103 _ ?side1 ?side2 A2.out).mono ?_); (case side1 => exact (cZ (Kd.C_below HR0_7.out HB.out))); (case side2 => exact HC0_7.out); rintro e w7 ⟨v104, rfl, ho0, hb⟩; refine ⟨_, rfl, ?_⟩; have _ := aM (Kd.R_lower ho0 (below_size hbZ)); have _ := bB gb101 hb; have _ := bB gb102 hb; have _ := aM (below_step hbZ hb); clear BK101 BK102 HB; rename_i HO105 BK101 BK102 HB; (try clear hb); (try clear ho0); obtain ⟨Ao8, co8, eo8⟩ := Kd.R_slice HO105.out; subst eo8; obtain ⟨hcz9_0, hcz9_1, hcz9_2, hcz9_3, hcz9_4, hcz9_5, hcz9_6, hcz9_7, hcz9_8, hfz9_0, hfz9_1, hfz9_2, hfz9_3, hfz9_4, hfz9_5, hfz9_6, hfz9_7, hfz9_8⟩ := cellsZ9 BK101.out; obtain ⟨hcz10_0, hcz10_1, hcz10_2, hcz10_3, hcz10_4, hcz10_5, hcz10_6, hcz10_7, hcz10_8, hfz10_0, hfz10_1, hfz10_2, hfz10_3, hfz10_4, hfz10_5, hfz10_6, hfz10_7, hfz10_8⟩ := cellsZ9 BK102.out))
 refine bodyPost_ret (results_cell_row rfl _ _ gb102 45 #[.string a0_0, .int .i64 a0_1, .int .i64 a0_2, .int .i64 a0_3, .int .i64 a0_4, .int .i64 a0_5, .int .i64 a0_6, .slice Ao8 t103.length co8, .bool a0_8] (0, 0) _ rfl bkZ Try.underlying45 rfl (by kernel_rfl)) rfl ?_
 exact ⟨_, z674d, by (with_reducible repeat (first | apply Kd.R_alloc | apply Kd.R_drewN | apply Kd.R_drew)); exact Kd.R_mono (Kd.R_far (p := ⟨gb102, 8, none⟩) (Kd.R_far (p := ⟨gb102, 7, none⟩) (Kd.R_far (p := ⟨gb102, 6, none⟩) (Kd.R_far (p := ⟨gb102, 5, none⟩) (Kd.R_far (p := ⟨gb102, 4, none⟩) (Kd.R_far (p := ⟨gb102, 3, none⟩) (Kd.R_far (p := ⟨gb102, 2, none⟩) (Kd.R_far (p := ⟨gb102, 1, none⟩) (Kd.R_far (p := ⟨gb102, 0, none⟩) (Kd.R_far (p := ⟨gb101, 7, none⟩) (Kd.R_types (Kd.R_types HO105.out BK101.out (by decide)) BK102.out (by decide)) (fun _ hk => hk.1.2) (.slice Ao8 t103.length co8)) (fun _ hk => hk.2) (.string a0_0)) (fun _ hk => hk.2) (.int .i64 a0_1)) (fun _ hk => hk.2) (.int .i64 a0_2)) (fun _ hk => hk.2) (.int .i64 a0_3)) (fun _ hk => hk.2) (.int .i64 a0_4)) (fun _ hk => hk.2) (.int .i64 a0_5)) (fun _ hk => hk.2) (.int .i64 a0_6)) (fun _ hk => hk.2) (.slice Ao8 t103.length co8)) (fun _ hk => hk.2) (.bool a0_8)) (fun _ hk => trivial), zcb41⟩

end Go.Proofs.Ytdkokfnnebdppaa.P

-- written by a program of this session's (wip/pp)
namespace Go.Proofs.Ytdkokfnnebdppaa.P
open Go.RowKit Go.Proofs.YtdkokfnnebdppaaW.PrintWords Go.Proofs.YtdkokfnnebdppaaW.PrintLast Go.Proofs.YtdkokfnnebdppaaW.PrintMore
attribute [local go_sem] max2_int min2_int max_two min_two max_three min_three max_four min_four str_geq str_gtr str_leq   -- for this text's walks alone
set_option linter.unusedVariables false
set_option linter.unusedSimpArgs false

/-! ### impl_clonedEntries: function 83 -/
def impl_clonedEntries.l0 : Nat → List (S45) → List (S45) → Int → Int → Option ((List (S45)))
 | 0, _, _, _, _ => none
 | k + 1, x3, x7, x8, x9 => if x9 < x8 then (if 0 ≤ x9 then (if x9 < (x7.length : Int) then ((impl_Entry_cloned.f ((rd_T45 x7 x9).f0) ((rd_T45 x7 x9).f1) ((rd_T45 x7 x9).f2) ((rd_T45 x7 x9).f3.f0) ((rd_T45 x7 x9).f3.f1) ((rd_T45 x7 x9).f3.f2) ((rd_T45 x7 x9).f3.f3) ((rd_T45 x7 x9).f3.f4) ((rd_T45 x7 x9).f3.f5)).bind fun bt106 => (if x3.length < 1466015503701 then (impl_clonedEntries.l0 k (x3 ++ [(⟨bt106.1, bt106.2.1, bt106.2.2.1, (⟨bt106.2.2.2.1, bt106.2.2.2.2.1, bt106.2.2.2.2.2.1, bt106.2.2.2.2.2.2.1, bt106.2.2.2.2.2.2.2.1, bt106.2.2.2.2.2.2.2.2⟩ : S26)⟩ : S45)]) x7 x8 (wrap64 (x9 + 1))) else (none))) else (none)) else (none)) else (some x3)
def impl_clonedEntries.f (k : Nat) (l0 : List (S45)) : Option ((List (S45))) := impl_clonedEntries.l0 k (([] : List (S45))) l0 (l0.length : Int) 0
theorem impl_clonedEntries.mono_l : ∀ k, (∀ y0 y1 y2 y3, LeO (impl_clonedEntries.l0 k y0 y1 y2 y3) (impl_clonedEntries.l0 (k + 1) y0 y1 y2 y3))
 | 0 => fun _ _ _ _ r h => by simp [impl_clonedEntries.l0] at h
 | k + 1 => by
  have ih0 := impl_clonedEntries.mono_l k
  · intro y0 y1 y2 y3
    unfold impl_clonedEntries.l0
    repeat' first
     | (with_reducible first | exact ih0 .. | exact LeO.refl _ | exact LeO.none _ | refine LeO.ite ?_ ?_ | refine LeO.bind ?_ (fun _ => ?_))
     | exact LeO.none _
     | refine LeO.ite ?_ ?_
     | refine LeO.bind ?_ (fun _ => ?_)
theorem impl_clonedEntries.mono : ∀ a0 k, LeO (impl_clonedEntries.f k a0) (impl_clonedEntries.f (k + 1) a0) := by
 intro a0 k
 have ih0 := impl_clonedEntries.mono_l k
 unfold impl_clonedEntries.f
 repeat' first
  | (with_reducible first | exact ih0 .. | exact LeO.refl _ | exact LeO.none _ | refine LeO.ite ?_ ?_ | refine LeO.bind ?_ (fun _ => ?_))
  | exact LeO.none _
  | refine LeO.ite ?_ ?_
  | refine LeO.bind ?_ (fun _ => ?_)
set_option maxHeartbeats 8000000 in
set_option maxRecDepth 100000 in
theorem impl_clonedEntries.calls (k : Nat) (A0 : Option Addr) (c0 : Nat) (l0 : List (S45)) (r : List (S45)) (w : World) (hr0 : Kd.C k45 w A0 l0.length l0) (hc0 : l0.length ≤ c0) (h : impl_clonedEntries.f k l0 = some r) :
 Calls Try.prog 83 #[.slice A0 l0.length c0] w fun e w' => ∃ v0_ : Value, e = .returned (v0_) ∧ Kd.S k45 45 w' w.heap.size (fun _ => True) v0_ r ∧ Below w.heap.size w w' := by
 have hu45 := Try.underlying45
 have HR0 := aM hr0
 have HC0 := aM hc0
 clear hr0 hc0
 have HB := aM (Below.refl w.heap.size w)
 have H : (impl_clonedEntries.l0 k (([] : List (S45))) l0 (l0.length : Int) 0) = some r := h
 clear h
 obtain ⟨y101, hy101⟩ : ∃ y_ : List (S45), y_ = (([] : List (S45))) := ⟨_, rfl⟩
 first | (replace H := bindS H; rw [← hy101] at H; try dsimp only at H) | rw [← hy101] at H
 have Ny101 := aM hy101
 clear hy101
 have H' := aM H
 clear H
 go_enter Try.func83, Try.ntmps83
 go_wp2_with (first | ((with_reducible refine gate_dst (N := 6) rfl ?_); refine Kd.S_lit k45 _ 45 ?hg (N := 6) ?hd (xs := ([] : List (S45))) (inner := []) (ok := fun _ => True) (okp := fun _ => True) ?hr ?hp (fun _ hk => hk) trivial (Below.refl _ _) (Nat.le_refl _) (by simp) ?_; (case hd => rfl); (case hg => rfl); (case hr => first | (go_simp; done) | (go_simp; rfl)); (case hp => exact (Reps.none _ _)); intro v102 w2 ho3 hb hg_ hnew_; clear hg_ hnew_; (first | rw [← Ny101.out] at ho3 | (simp only [Int.reduceToNat] at ho3; rw [← Ny101.out] at ho3)); have _ := aM (Kd.S_lower ho3 (below_size hbZ)); have _ := aM (below_step hbZ hb); clear HB; rename_i HO103 HB; clear hb ho3))
 go_loopg [3, 9] k (fun kq v3 v9 w' => ∃ (x3_1 : List (S45)) (x9_1 : Int), v9 = .int .i64 x9_1 ∧ Aside0 (impl_clonedEntries.l0 kq x3_1 l0 (l0.length : Int) x9_1 = some r) ∧ Aside0 (kq ≤ k) ∧ Aside0 (Kd.S k45 45 w' w.heap.size (fun _ => True) v3 x3_1) ∧ Aside0 (Below w.heap.size w w'))
 case atStart => exact ⟨(y101), (0), z4458, H', ⟨Nat.le_refl _⟩, ⟨z1bd3⟩, ⟨z5acd⟩⟩
 case round =>
  clear H'
  try clear p2
  obtain ⟨x3_1, x9_1, rfl, HA, HK1, HO_3, HB⟩ := hrel
  cases gk with
  | zero => exact absurd HA.out (by simp [impl_clonedEntries.l0])
  | succ k1 =>
   have H := HA.out
   clear HA
   simp only [impl_clonedEntries.l0] at H
   by_cases c4 : x9_1 < (l0.length : Int)
   · rw [if_pos c4] at H
     have c4b0 : decide (x9_1 < (l0.length : Int)) = true := decide_eq_true c4
     clear c4
     replace H := ifS H; obtain ⟨c5, H⟩ := H
     have c5b0 : decide (0 ≤ x9_1) = true := decide_eq_true c5
     clear c5
     replace H := ifS H; obtain ⟨c6, H⟩ := H
     have c6b0 : decide (x9_1 < (l0.length : Int)) = true := decide_eq_true c6
     clear c6
     replace H := Option.bind_eq_some_iff.mp H
     obtain ⟨⟨t106, t107, t108, t109, t110, t111, t112, t113, t116⟩, A70, H⟩ := H
     try dsimp only at H
     have A7 := aM A70
     clear A70
     replace H := ifS H; obtain ⟨c8, H⟩ := H
     have LMc8 := aM c8
     clear c8
     obtain ⟨y117, hy117⟩ : ∃ y_ : List (S45), y_ = (x3_1 ++ [(⟨t106, t107, t108, (⟨t109, t110, t111, t112, t113, t116⟩ : S26)⟩ : S45)]) := ⟨_, rfl⟩
     first | (replace H := bindS H; rw [← hy117] at H; try dsimp only at H) | rw [← hy117] at H
     have Ny117 := aM hy117
     clear hy117
     have H' := aM H
     clear H
     have p104 : 0 ≤ (x9_1 : Int) := of_decide_eq_true z1200
     have q104 : x9_1 < (l0.length : Int) := of_decide_eq_true z1200
     obtain ⟨ad104, A104_7, c104_7, e104, hx104_0, hx104_1, hx104_2, hx104_3, hx104_4, hx104_5, hx104_6, hx104_7, hx104_8, hl104_7, hi104_7⟩ := at_T45 HR0.out x9_1 p104 q104
     cases e104
     have TW104_7 := aM hx104_7
     replace hx104_0 := (HB.out.cell (World.block_lt_of_cell? w _ hx104_0)).trans hx104_0
     replace hx104_1 := (HB.out.cell (World.block_lt_of_cell? w _ hx104_1)).trans hx104_1
     replace hx104_2 := (HB.out.cell (World.block_lt_of_cell? w _ hx104_2)).trans hx104_2
     replace hx104_3 := (HB.out.cell (World.block_lt_of_cell? w _ hx104_3)).trans hx104_3
     replace hx104_4 := (HB.out.cell (World.block_lt_of_cell? w _ hx104_4)).trans hx104_4
     replace hx104_5 := (HB.out.cell (World.block_lt_of_cell? w _ hx104_5)).trans hx104_5
     replace hx104_6 := (HB.out.cell (World.block_lt_of_cell? w _ hx104_6)).trans hx104_6
     replace hx104_7 := (HB.out.cell (World.block_lt_of_cell? w _ hx104_7)).trans hx104_7
     replace hx104_8 := (HB.out.cell (World.block_lt_of_cell? w _ hx104_8)).trans hx104_8
     have HR104_7 := aM hi104_7
     have HC104_7 := aM hl104_7
     clear hi104_7 hl104_7
     replace p104 := eq_true p104
     replace q104 := eq_true q104
     go_wp2_with (first | ((with_reducible refine gate_dst (N := 5) rfl ?_); refine box_event ?hg (N := 5) ?hd (cs := #[.string (⟨#[]⟩ : ByteArray), .int .i64 0, .int .i64 0, .int .i64 0, .int .i64 0, .int .i64 0, .int .i64 0, .slice none 0 0, .bool false]) (t := 45) ?hr ?_; (case hd => rfl); (case hg => rfl); (case hr => first | (go_simp; done) | (go_simp; rfl)); intro gb105 hg w9 hbox hb; have _ := aM (Kd.S_below (Kd.S_elderB (by (with_reducible repeat (first | apply Kd.S_alloc | apply Kd.S_drewN | apply Kd.S_drew)); exact HO_3.out) gb105 (Nat.le_of_eq hg.symm)) hb); have _ := aM (below_step hbZ hb); have _ := aM hbox; have _ := szZ hg; have _ := szZ hg; clear HO_3 HB; rename_i HO_3 HB BK105 GW105 GE105; clear hb hbox hg; obtain ⟨hcz10_0, hcz10_1, hcz10_2, hcz10_3, hcz10_4, hcz10_5, hcz10_6, hcz10_7, hcz10_8, hfz10_0, hfz10_1, hfz10_2, hfz10_3, hfz10_4, hfz10_5, hfz10_6, hfz10_7, hfz10_8⟩ := cellsZ9 BK105.out) | ((with_reducible refine gate_callee (f := 72) rfl ?_); refine goesL_ (some 15) rfl rfl Try.func72 (by kernel_rfl) rfl #[.agg #[.string ((rd_T45 l0 x9_1).f0), .int .i64 ((rd_T45 l0 x9_1).f1), .int .i64 ((rd_T45 l0 x9_1).f2), .int .i64 ((rd_T45 l0 x9_1).f3.f0), .int .i64 ((rd_T45 l0 x9_1).f3.f1), .int .i64 ((rd_T45 l0 x9_1).f3.f2), .int .i64 ((rd_T45 l0 x9_1).f3.f3), .slice A104_7 ((rd_T45 l0 x9_1).f3.f4).length c104_7, .bool ((rd_T45 l0 x9_1).f3.f5)]] rfl zee81 ?_; (with_reducible refine (impl_Entry_cloned.calls ((rd_T45 l0 x9_1).f0) ((rd_T45 l0 x9_1).f1) ((rd_T45 l0 x9_1).f2) ((rd_T45 l0 x9_1).f3.f0) ((rd_T45 l0 x9_1).f3.f1) ((rd_T45 l0 x9_1).f3.f2) ((rd_T45 l0 x9_1).f3.f3) _ _ ((rd_T45 l0 x9_1).f3.f4) ((rd_T45 l0 x9_1).f3.f5) t106 t107 t108 t109 t110 t111 t112 t113 t116 _ ?side1 ?side2 A7.out).mono ?_); (case side1 => exact Kd.C_below HR104_7.out hbZ); (case side2 => exact HC104_7.out); rintro e w11 ⟨v114, rfl, ho0, hb⟩; refine ⟨_, rfl, ?_⟩; have _ := aM (Kd.S_elder' (by (with_reducible repeat (first | apply Kd.S_alloc | apply Kd.S_drewN | apply Kd.S_drew)); exact (Kd.S_mono (Kd.S_far (p := ⟨gb105, 8, none⟩) (Kd.S_far (p := ⟨gb105, 7, none⟩) (Kd.S_far (p := ⟨gb105, 6, none⟩) (Kd.S_far (p := ⟨gb105, 5, none⟩) (Kd.S_far (p := ⟨gb105, 4, none⟩) (Kd.S_far (p := ⟨gb105, 3, none⟩) (Kd.S_far (p := ⟨gb105, 2, none⟩) (Kd.S_far (p := ⟨gb105, 1, none⟩) (Kd.S_far (p := ⟨gb105, 0, none⟩) (Kd.S_mono HO_3.out (fun k_ hk => (⟨hk, hk.2⟩ : _ ∧ k_ ≠ gb105))) (fun _ hk => hk.2) (.string ((rd_T45 l0 x9_1).f0))) (fun _ hk => hk.2) (.int .i64 ((rd_T45 l0 x9_1).f1))) (fun _ hk => hk.2) (.int .i64 ((rd_T45 l0 x9_1).f2))) (fun _ hk => hk.2) (.int .i64 ((rd_T45 l0 x9_1).f3.f0))) (fun _ hk => hk.2) (.int .i64 ((rd_T45 l0 x9_1).f3.f1))) (fun _ hk => hk.2) (.int .i64 ((rd_T45 l0 x9_1).f3.f2))) (fun _ hk => hk.2) (.int .i64 ((rd_T45 l0 x9_1).f3.f3))) (fun _ hk => hk.2) (.slice A104_7 ((rd_T45 l0 x9_1).f3.f4).length c104_7)) (fun _ hk => hk.2) (.bool ((rd_T45 l0 x9_1).f3.f5))) (fun _ h_ => h_.1))) (Kd.R_base ho0) hb); have _ := aM (Kd.R_lower ho0 (below_size hbZ)); have _ := aM (blk_below (g := gb105) (o := .cells #[.string ((rd_T45 l0 x9_1).f0), .int .i64 ((rd_T45 l0 x9_1).f1), .int .i64 ((rd_T45 l0 x9_1).f2), .int .i64 ((rd_T45 l0 x9_1).f3.f0), .int .i64 ((rd_T45 l0 x9_1).f3.f1), .int .i64 ((rd_T45 l0 x9_1).f3.f2), .int .i64 ((rd_T45 l0 x9_1).f3.f3), .slice A104_7 ((rd_T45 l0 x9_1).f3.f4).length c104_7, .bool ((rd_T45 l0 x9_1).f3.f5)] 45 (0, 0)) bkZ hb); have _ := aM (below_step hbZ hb); clear HO_3 BK105 HB; rename_i HO_3 HO115 BK105 HB; (try clear hb); (try clear ho0); obtain ⟨Ao13, co13, eo13⟩ := Kd.R_slice HO115.out; subst eo13) | ((with_reducible refine gate_builtin (b := .append) (xs := #[.tmp 13, .tmp 16]) rfl ?_); at_builtin; refine Kd.S_append k45 (w0 := w) w.heap.size rfl (.tmp 13) (.tmp 16) 29 45 (.agg #[(.string ⟨#[]⟩), (.int .i64 0), (.int .i64 0), (.int .i64 0), (.int .i64 0), (.int .i64 0), (.int .i64 0), (.slice none 0 0), (.bool false)]) 96 rfl Try.underlying29 info45 rfl (by decide) (by omega) u3 x3_1 (⟨t106, t107, t108, (⟨t109, t110, t111, t112, t113, t116⟩ : S26)⟩ : S45) [.string t106, .int .i64 t107, .int .i64 t108, .int .i64 t109, .int .i64 t110, .int .i64 t111, .int .i64 t112, .slice Ao13 t113.length co13, .bool t116] (fun k_ => k_ ≠ gb105) (fun k_ => some k_ = (.slice Ao13 t113.length co13 : Value).ownBlock) rfl rfl ?aP (fun k_ hk_ => ((Kd.R_mono (ok' := fun k_ => ((fun k_ => k_ ≠ gb105)) k_ ∧ some k_ ≠ (u3 : Value).ownBlock) (Kd.R_types (Kd.R_apart' (HO115.out) (Kd.S_typed HO_3.out) (by decide)) BK105.out (by decide)) (fun k_ hk => ⟨hk.2, hk.1.2⟩))).1 k_ hk_.symm) ?aF ?aO ?aB ?aS ?aL ?_; (case aP => exact k45_mkM _ _ _ (⟨t106, t107, t108, (⟨t109, t110, t111, t112, t113, t116⟩ : S26)⟩ : S45) (Kd.R_mono (Kd.R_tight rfl (Kd.R_mono (ok' := fun k_ => ((fun k_ => k_ ≠ gb105)) k_ ∧ some k_ ≠ (u3 : Value).ownBlock) (Kd.R_types (Kd.R_apart' (HO115.out) (Kd.S_typed HO_3.out) (by decide)) BK105.out (by decide)) (fun k_ hk => ⟨hk.2, hk.1.2⟩))) (fun _ h_ => h_))); (case aB => exact hbZ); (case aF => exact (fun k_ hk => Kd.freshB (g := gb105) bkZ k_ hk)); (case aO => exact (by (with_reducible repeat (first | apply Kd.S_alloc | apply Kd.S_drewN | apply Kd.S_drew)); exact Kd.S_mono HO_3.out (fun k_ hk => ⟨hk.1.2, fun e_ => hk.2 e_⟩))); (case aS => exact (below_size hbZ)); (case aL => have := LMc8.out; omega); intro v118 w12 ho hb hg hat; rw [← Ny117.out] at ho; have _ := aM (blk_grown (g := gb105) bkZ hg (Kd.S_away HO_3.out (fun _ hk => hk.1.2))); have _ := aM hb; have _ := aM ho; clear BK105 HB HO_3 HO115; rename_i BK105 HB HO119; clear ho hb hg hat))
     go_roundg k1
     case measure => have := HK1.out; omega
     case rel => exact ⟨(y117), (wrap64 (x9_1 + 1)), z4458, H', ⟨zfb39⟩, ⟨by (with_reducible repeat (first | apply Kd.S_alloc | apply Kd.S_drewN | apply Kd.S_drew)); exact Kd.S_mono HO119.out (fun _ hk => trivial)⟩, ⟨zcb41⟩⟩
   · rw [if_neg c4] at H
     have c4b0 : decide (x9_1 < (l0.length : Int)) = false := decide_eq_false c4
     clear c4
     obtain rfl := Option.some.inj H
     go_wp2
     go_ret
     exact ⟨_, z674d, by (with_reducible repeat (first | apply Kd.S_alloc | apply Kd.S_drewN | apply Kd.S_drew)); exact HO_3.out, z5acd⟩

end Go.Proofs.Ytdkokfnnebdppaa.P

section
/- A call, in a region that draws, of a function that was handed on. No conditions. -/
set_option linter.unusedVariables false
namespace Go.Proofs.Ytdkokfnnebdppaa.P
open Go.RowKit Go.Proofs.YtdkokfnnebdppaaW.PrintWords Go.Proofs.YtdkokfnnebdppaaW.PrintLast Go.Proofs.YtdkokfnnebdppaaW.PrintMore
theorem goesV_ {P : Program} {ops : Array Oper} {Q : Exit → Act → World → Prop} {oi : Oper} {N : Option Tmp} {a : Act} {w : World} {K : Act → World → Prop} {f : FuncId} {fn : Func} {t : Operand} {xs : Array Operand} {ts : Array TypeId} (hf : P.funcs[f]? = some fn) (hname : (fn.name == "runtime.NumGoroutine") = false) (hb : fn.body.isSome = true) (args : Array Value)
    (hw : Region.wanted oi (yielded ops a.tmps) = true) (hN : oi.dst = N) (hop : oi.op = .call { callee := .value t, args := xs, argTypes := ts }) (hv : a.eval t = .func (.func f) #[] #[]) (hargs : xs.map a.eval = args)
    (h : Calls P f args w fun e w' => ∃ v, e = .returned v ∧ K (a.put N v) w') : if Region.wanted oi (yielded ops a.tmps) = true then Oper.wp P oi a w K Q else K (a.put N undef) w := by
  refine call_ f args hw hN ?_ h
  have he := enters_ hf hname hb args w
  unfold execOp
  simp [hop, resolve, Deferred.ofValue, invoke, hv, hargs, he]
end Go.Proofs.Ytdkokfnnebdppaa.P
end

-- written by a program of this session's (wip/pp)
namespace Go.Proofs.Ytdkokfnnebdppaa.P
open Go.RowKit Go.Proofs.YtdkokfnnebdppaaW.PrintWords Go.Proofs.YtdkokfnnebdppaaW.PrintLast Go.Proofs.YtdkokfnnebdppaaW.PrintMore
attribute [local go_sem] max2_int min2_int max_two min_two max_three min_three max_four min_four str_geq str_gtr str_leq   -- for this text's walks alone
set_option linter.unusedVariables false
set_option linter.unusedSimpArgs false

/-! ### impl_Entry_with_impl_compareEntries: function 10081057 -/
def impl_Entry_with_impl_compareEntries.l0 : Nat → List (S45) → Int → Int → Int → ByteArray → Int → Int → Int → Int → Int → Int → List Int → Bool → Option (Int × Bool)
 | 0, _, _, _, _, _, _, _, _, _, _, _, _, _ => none
 | k + 1, x0, x8, x9, x10, x102000, x102001, x102002, x102003, x102004, x102005, x102006, x102007, x102008 => if x9 < x10 then (if 0 ≤ (wrap64 ((IntKind.u64.wrap (wrap64 (x9 + x10))) / 2)) then (if (wrap64 ((IntKind.u64.wrap (wrap64 (x9 + x10))) / 2)) < (x0.length : Int) then ((impl_compareEntries.f k ((rd_T45 x0 (wrap64 ((IntKind.u64.wrap (wrap64 (x9 + x10))) / 2))).f0) ((rd_T45 x0 (wrap64 ((IntKind.u64.wrap (wrap64 (x9 + x10))) / 2))).f1) ((rd_T45 x0 (wrap64 ((IntKind.u64.wrap (wrap64 (x9 + x10))) / 2))).f2) ((rd_T45 x0 (wrap64 ((IntKind.u64.wrap (wrap64 (x9 + x10))) / 2))).f3.f0) ((rd_T45 x0 (wrap64 ((IntKind.u64.wrap (wrap64 (x9 + x10))) / 2))).f3.f1) ((rd_T45 x0 (wrap64 ((IntKind.u64.wrap (wrap64 (x9 + x10))) / 2))).f3.f2) ((rd_T45 x0 (wrap64 ((IntKind.u64.wrap (wrap64 (x9 + x10))) / 2))).f3.f3) ((rd_T45 x0 (wrap64 ((IntKind.u64.wrap (wrap64 (x9 + x10))) / 2))).f3.f4) ((rd_T45 x0 (wrap64 ((IntKind.u64.wrap (wrap64 (x9 + x10))) / 2))).f3.f5) x102000 x102001 x102002 x102003 x102004 x102005 x102006 x102007 x102008).bind fun t103 => (if t103 < 0 then (impl_Entry_with_impl_compareEntries.l0 k x0 x8 (wrap64 ((wrap64 ((IntKind.u64.wrap (wrap64 (x9 + x10))) / 2)) + 1)) x10 x102000 x102001 x102002 x102003 x102004 x102005 x102006 x102007 x102008) else (impl_Entry_with_impl_compareEntries.l0 k x0 x8 x9 (wrap64 ((IntKind.u64.wrap (wrap64 (x9 + x10))) / 2)) x102000 x102001 x102002 x102003 x102004 x102005 x102006 x102007 x102008))) else (none)) else (none)) else (if x9 < x8 then (if 0 ≤ x9 then (if x9 < (x0.length : Int) then ((impl_compareEntries.f k ((rd_T45 x0 x9).f0) ((rd_T45 x0 x9).f1) ((rd_T45 x0 x9).f2) ((rd_T45 x0 x9).f3.f0) ((rd_T45 x0 x9).f3.f1) ((rd_T45 x0 x9).f3.f2) ((rd_T45 x0 x9).f3.f3) ((rd_T45 x0 x9).f3.f4) ((rd_T45 x0 x9).f3.f5) x102000 x102001 x102002 x102003 x102004 x102005 x102006 x102007 x102008).bind fun t105 => (some (x9, (t105 == 0)))) else (none)) else (none)) else (some (x9, false)))
def impl_Entry_with_impl_compareEntries.f (k : Nat) (l0 : List (S45)) (a1_0 : ByteArray) (a1_1 : Int) (a1_2 : Int) (a1_3 : Int) (a1_4 : Int) (a1_5 : Int) (a1_6 : Int) (l1_7 : List Int) (a1_8 : Bool)  : Option (Int × Bool) := impl_Entry_with_impl_compareEntries.l0 k l0 (l0.length : Int) 0 (l0.length : Int) a1_0 a1_1 a1_2 a1_3 a1_4 a1_5 a1_6 l1_7 a1_8
theorem impl_Entry_with_impl_compareEntries.mono_l : ∀ k, (∀ y0 y1 y2 y3 y4 y5 y6 y7 y8 y9 y10 y11 y12, LeO (impl_Entry_with_impl_compareEntries.l0 k y0 y1 y2 y3 y4 y5 y6 y7 y8 y9 y10 y11 y12) (impl_Entry_with_impl_compareEntries.l0 (k + 1) y0 y1 y2 y3 y4 y5 y6 y7 y8 y9 y10 y11 y12))
 | 0 => fun _ _ _ _ _ _ _ _ _ _ _ _ _ r h => by simp [impl_Entry_with_impl_compareEntries.l0] at h
 | k + 1 => by
  have ih0 := impl_Entry_with_impl_compareEntries.mono_l k
  · intro y0 y1 y2 y3 y4 y5 y6 y7 y8 y9 y10 y11 y12
    unfold impl_Entry_with_impl_compareEntries.l0
    repeat' first
     | (with_reducible first | exact ih0 .. | exact impl_compareEntries.mono .. | exact LeO.refl _ | exact LeO.none _ | refine LeO.ite ?_ ?_ | refine LeO.bind ?_ (fun _ => ?_))
     | exact LeO.none _
     | refine LeO.ite ?_ ?_
     | refine LeO.bind ?_ (fun _ => ?_)
theorem impl_Entry_with_impl_compareEntries.mono : ∀ a0 a1 a2 a3 a4 a5 a6 a7 a8 a9 k, LeO (impl_Entry_with_impl_compareEntries.f k a0 a1 a2 a3 a4 a5 a6 a7 a8 a9) (impl_Entry_with_impl_compareEntries.f (k + 1) a0 a1 a2 a3 a4 a5 a6 a7 a8 a9) := by
 intro a0 a1 a2 a3 a4 a5 a6 a7 a8 a9 k
 have ih0 := impl_Entry_with_impl_compareEntries.mono_l k
 unfold impl_Entry_with_impl_compareEntries.f
 repeat' first
  | (with_reducible first | exact ih0 .. | exact impl_compareEntries.mono .. | exact LeO.refl _ | exact LeO.none _ | refine LeO.ite ?_ ?_ | refine LeO.bind ?_ (fun _ => ?_))
  | exact LeO.none _
  | refine LeO.ite ?_ ?_
  | refine LeO.bind ?_ (fun _ => ?_)
def impl_Entry_with_impl_compareEntries.T5 : Bool × List (List Nat × List Nat) := (true, [([], []), ([], []), ([], []), ([1, 2], [1, 2]), ([3], [3]), ([], []), ([0, 4, 5], [0, 4, 5]), ([6], [6])])
def impl_Entry_with_impl_compareEntries.B5 : List Nat := [0, 0, 0, 6, 14, 0, 63, 127]
theorem impl_Entry_with_impl_compareEntries.tab5 : rtab .any (opsOf Try.f81 5) = impl_Entry_with_impl_compareEntries.T5 := by kernel_rfl
theorem impl_Entry_with_impl_compareEntries.bits5 : waitsOk impl_Entry_with_impl_compareEntries.T5.2 impl_Entry_with_impl_compareEntries.B5 = true := by kernel_rfl
def impl_Entry_with_impl_compareEntries.T8 : Bool × List (List Nat × List Nat) := (true, [([], []), ([], []), ([], []), ([1, 2], [1, 2]), ([3], [3]), ([4], [4]), ([4], [4]), ([4], [4]), ([6, 7, 4], [4, 6, 7]), ([8, 4], [4, 8]), ([4], [4]), ([5, 9, 10, 4, 4], [4, 5, 9, 10]), ([11, 4], [4, 11]), ([4, 12], [4, 12]), ([0, 11, 0], [0]), ([13, 14, 0, 1, 2, 3, 4, 5, 6, 7, 8, 9, 10, 11, 12, 13, 14], [13])])
def impl_Entry_with_impl_compareEntries.B8 : List Nat := [0, 0, 0, 6, 14, 30, 30, 30, 222, 478, 30, 2046, 4094, 8190, 4095, 32767]
theorem impl_Entry_with_impl_compareEntries.tab8 : rtab .any (opsOf Try.f81 8) = impl_Entry_with_impl_compareEntries.T8 := by kernel_rfl
theorem impl_Entry_with_impl_compareEntries.bits8 : waitsOk impl_Entry_with_impl_compareEntries.T8.2 impl_Entry_with_impl_compareEntries.B8 = true := by kernel_rfl
set_option maxHeartbeats 8000000 in
set_option maxRecDepth 100000 in
theorem impl_Entry_with_impl_compareEntries.calls (k : Nat) (A0 : Option Addr) (c0 : Nat) (l0 : List (S45)) (a1_0 : ByteArray) (a1_1 : Int) (a1_2 : Int) (a1_3 : Int) (a1_4 : Int) (a1_5 : Int) (a1_6 : Int) (A1_7 : Option Addr) (c1_7 : Nat) (l1_7 : List Int) (a1_8 : Bool)  (r1 : Int) (r2 : Bool) (w : World) (hr0 : Kd.C k45 w A0 l0.length l0) (hc0 : l0.length ≤ c0) (hr1_7 : Kd.C (Kd.int .i64) w A1_7 l1_7.length l1_7) (hc1_7 : l1_7.length ≤ c1_7) (h : impl_Entry_with_impl_compareEntries.f k l0 a1_0 a1_1 a1_2 a1_3 a1_4 a1_5 a1_6 l1_7 a1_8 = some (r1, r2)) :
 Calls Try.prog 81 #[.slice A0 l0.length c0, .agg #[.string a1_0, .int .i64 a1_1, .int .i64 a1_2, .int .i64 a1_3, .int .i64 a1_4, .int .i64 a1_5, .int .i64 a1_6, .slice A1_7 l1_7.length c1_7, .bool a1_8], .func (.func 57) #[] #[]] w fun e w' => e = .returned (.tuple #[.int .i64 r1, .bool r2]) ∧ Below w.heap.size w w' := by
 have hu45 := Try.underlying45
 have HR0 := aM hr0
 have HC0 := aM hc0
 clear hr0 hc0
 have HR1_7 := aM hr1_7
 have HC1_7 := aM hc1_7
 clear hr1_7 hc1_7
 have HB := aM (Below.refl w.heap.size w)
 have H : (impl_Entry_with_impl_compareEntries.l0 k l0 (l0.length : Int) 0 (l0.length : Int) a1_0 a1_1 a1_2 a1_3 a1_4 a1_5 a1_6 l1_7 a1_8) = some (r1, r2) := h
 clear h
 have H' := aM H
 clear H
 go_enter Try.func81, Try.ntmps81
 go_wp2_with (first | ((with_reducible refine gate_dst (N := 4) rfl ?_); refine box_event ?hg (N := 4) ?hd (cs := #[.string a1_0, .int .i64 a1_1, .int .i64 a1_2, .int .i64 a1_3, .int .i64 a1_4, .int .i64 a1_5, .int .i64 a1_6, .slice A1_7 l1_7.length c1_7, .bool a1_8]) (t := 45) ?hr ?_; (case hd => rfl); (case hg => rfl); (case hr => first | (go_simp; done) | (go_simp; rfl)); intro gb101 hg w4 hbox hb; have _ := aM (below_step hbZ hb); have _ := aM hbox; have _ := szZ hg; have _ := szZ hg; clear HB; rename_i HB BK101 GW101 GE101; clear hb hbox hg))
 go_loopg [9, 10] k (fun kq v9 v10 w' => ∃ (x9_1 : Int) (x10_1 : Int), v9 = .int .i64 x9_1 ∧ v10 = .int .i64 x10_1 ∧ Aside0 (impl_Entry_with_impl_compareEntries.l0 kq l0 (l0.length : Int) x9_1 x10_1 a1_0 a1_1 a1_2 a1_3 a1_4 a1_5 a1_6 l1_7 a1_8 = some (r1, r2)) ∧ Aside0 (kq ≤ k) ∧ Aside0 (w'.heap[gb101]? = some (.cells #[.string a1_0, .int .i64 a1_1, .int .i64 a1_2, .int .i64 a1_3, .int .i64 a1_4, .int .i64 a1_5, .int .i64 a1_6, (.slice A1_7 l1_7.length c1_7), .bool a1_8] 45 (0, 0))) ∧ Aside0 (Below w.heap.size w w'))
 case atStart => exact ⟨(0), ((l0.length : Int)), z4458, z4458, H', ⟨Nat.le_refl _⟩, ⟨bkZ⟩, ⟨zcb41⟩⟩
 case round =>
  clear H'
  try clear c1
  try clear p2
  obtain ⟨x9_1, x10_1, rfl, rfl, HA, HK1, BK101, HB⟩ := hrel
  cases gk with
  | zero => exact absurd HA.out (by simp [impl_Entry_with_impl_compareEntries.l0])
  | succ k1 =>
   have H := HA.out
   clear HA
   simp only [impl_Entry_with_impl_compareEntries.l0] at H
   by_cases c5 : x9_1 < x10_1
   · rw [if_pos c5] at H
     have c5b0 : decide (x9_1 < x10_1) = true := decide_eq_true c5
     clear c5
     obtain ⟨ji6, hji6⟩ : ∃ j_ : Int, (wrap64 ((IntKind.u64.wrap (wrap64 (x9_1 + x10_1))) / 2)) = j_ := ⟨_, rfl⟩
     replace H : (if 0 ≤ (ji6) then (if (ji6) < (l0.length : Int) then ((impl_compareEntries.f k1 ((rd_T45 l0 (ji6)).f0) ((rd_T45 l0 (ji6)).f1) ((rd_T45 l0 (ji6)).f2) ((rd_T45 l0 (ji6)).f3.f0) ((rd_T45 l0 (ji6)).f3.f1) ((rd_T45 l0 (ji6)).f3.f2) ((rd_T45 l0 (ji6)).f3.f3) ((rd_T45 l0 (ji6)).f3.f4) ((rd_T45 l0 (ji6)).f3.f5) a1_0 a1_1 a1_2 a1_3 a1_4 a1_5 a1_6 l1_7 a1_8).bind fun t103 => (if t103 < 0 then (impl_Entry_with_impl_compareEntries.l0 k1 l0 (l0.length : Int) (wrap64 ((ji6) + 1)) x10_1 a1_0 a1_1 a1_2 a1_3 a1_4 a1_5 a1_6 l1_7 a1_8) else (impl_Entry_with_impl_compareEntries.l0 k1 l0 (l0.length : Int) x9_1 ji6 a1_0 a1_1 a1_2 a1_3 a1_4 a1_5 a1_6 l1_7 a1_8))) else (none)) else (none)) = some (r1, r2) := by first | (rw [hji6] at H; exact H) | (simp only [hji6] at H ⊢; exact H)
     have hji6w : (IntKind.i64.wrap ((IntKind.u64.wrap (wrap64 (x9_1 + x10_1))) / 2)) = ji6 := (i64_w _).trans hji6
     replace H := ifS H; obtain ⟨c7, H⟩ := H
     have c7b0 : decide (0 ≤ (ji6)) = true := decide_eq_true c7
     clear c7
     replace H := ifS H; obtain ⟨c8, H⟩ := H
     have c8b0 : decide ((ji6) < (l0.length : Int)) = true := decide_eq_true c8
     clear c8
     replace H := Option.bind_eq_some_iff.mp H
     obtain ⟨t103, A90, H⟩ := H
     try dsimp only at H
     have A9 := aM A90
     clear A90
     by_cases c10 : t103 < 0
     · rw [if_pos c10] at H
       have c10b0 : decide (t103 < 0) = true := decide_eq_true c10
       clear c10
       have H' := aM H
       clear H
       try go_wp2
       have _ := aM (blk_drew BK101.out)
       have _ := aM (below_drew1 HB.out)
       clear BK101
       clear HB
       rename_i BK101 HB
       have p102 : 0 ≤ ((ji6) : Int) := of_decide_eq_true z1200
       have q102 : (ji6) < (l0.length : Int) := of_decide_eq_true z1200
       obtain ⟨ad102, A102_7, c102_7, e102, hx102_0, hx102_1, hx102_2, hx102_3, hx102_4, hx102_5, hx102_6, hx102_7, hx102_8, hl102_7, hi102_7⟩ := at_T45 HR0.out (ji6) p102 q102
       have hw102_8 := hx102_8
       have hw102_7 := hx102_7
       have hw102_6 := hx102_6
       have hw102_5 := hx102_5
       have hw102_4 := hx102_4
       have hw102_3 := hx102_3
       have hw102_2 := hx102_2
       have hw102_1 := hx102_1
       have hw102_0 := hx102_0
       cases e102
       have TW102_7 := aM hx102_7
       replace hx102_0 := (HB.out.cell (World.block_lt_of_cell? w _ hx102_0)).trans hx102_0
       replace hx102_1 := (HB.out.cell (World.block_lt_of_cell? w _ hx102_1)).trans hx102_1
       replace hx102_2 := (HB.out.cell (World.block_lt_of_cell? w _ hx102_2)).trans hx102_2
       replace hx102_3 := (HB.out.cell (World.block_lt_of_cell? w _ hx102_3)).trans hx102_3
       replace hx102_4 := (HB.out.cell (World.block_lt_of_cell? w _ hx102_4)).trans hx102_4
       replace hx102_5 := (HB.out.cell (World.block_lt_of_cell? w _ hx102_5)).trans hx102_5
       replace hx102_6 := (HB.out.cell (World.block_lt_of_cell? w _ hx102_6)).trans hx102_6
       replace hx102_7 := (HB.out.cell (World.block_lt_of_cell? w _ hx102_7)).trans hx102_7
       replace hx102_8 := (HB.out.cell (World.block_lt_of_cell? w _ hx102_8)).trans hx102_8
       have HR102_7 := aM hi102_7
       have HC102_7 := aM hl102_7
       clear hi102_7 hl102_7
       replace p102 := eq_true p102
       replace q102 := eq_true q102
       refine sA 8 impl_Entry_with_impl_compareEntries.tab5 impl_Entry_with_impl_compareEntries.bits5 (fun w' => w'.cell? ⟨gb101, 0, none⟩ = some (.string a1_0) ∧ w'.cell? ⟨gb101, 1, none⟩ = some (.int .i64 a1_1) ∧ w'.cell? ⟨gb101, 2, none⟩ = some (.int .i64 a1_2) ∧ w'.cell? ⟨gb101, 3, none⟩ = some (.int .i64 a1_3) ∧ w'.cell? ⟨gb101, 4, none⟩ = some (.int .i64 a1_4) ∧ w'.cell? ⟨gb101, 5, none⟩ = some (.int .i64 a1_5) ∧ w'.cell? ⟨gb101, 6, none⟩ = some (.int .i64 a1_6) ∧ w'.cell? ⟨gb101, 7, none⟩ = some (.slice A1_7 l1_7.length c1_7) ∧ w'.cell? ⟨gb101, 8, none⟩ = some (.bool a1_8) ∧ w'.cell? (ad102.add (((ji6)).toNat * 9)) = some (.string ((rd_T45 l0 (ji6)).f0)) ∧ w'.cell? ⟨(ad102.add (((ji6)).toNat * 9)).block, (ad102.add (((ji6)).toNat * 9)).off + 1, none⟩ = some (.int .i64 ((rd_T45 l0 (ji6)).f1)) ∧ w'.cell? ⟨(ad102.add (((ji6)).toNat * 9)).block, (ad102.add (((ji6)).toNat * 9)).off + 2, none⟩ = some (.int .i64 ((rd_T45 l0 (ji6)).f2)) ∧ w'.cell? ⟨(ad102.add (((ji6)).toNat * 9)).block, (ad102.add (((ji6)).toNat * 9)).off + 3, none⟩ = some (.int .i64 ((rd_T45 l0 (ji6)).f3.f0)) ∧ w'.cell? ⟨(ad102.add (((ji6)).toNat * 9)).block, (ad102.add (((ji6)).toNat * 9)).off + 4, none⟩ = some (.int .i64 ((rd_T45 l0 (ji6)).f3.f1)) ∧ w'.cell? ⟨(ad102.add (((ji6)).toNat * 9)).block, (ad102.add (((ji6)).toNat * 9)).off + 5, none⟩ = some (.int .i64 ((rd_T45 l0 (ji6)).f3.f2)) ∧ w'.cell? ⟨(ad102.add (((ji6)).toNat * 9)).block, (ad102.add (((ji6)).toNat * 9)).off + 6, none⟩ = some (.int .i64 ((rd_T45 l0 (ji6)).f3.f3)) ∧ w'.cell? ⟨(ad102.add (((ji6)).toNat * 9)).block, (ad102.add (((ji6)).toNat * 9)).off + 7, none⟩ = some (.slice A102_7 ((rd_T45 l0 (ji6)).f3.f4).length c102_7) ∧ w'.cell? ⟨(ad102.add (((ji6)).toNat * 9)).block, (ad102.add (((ji6)).toNat * 9)).off + 8, none⟩ = some (.bool ((rd_T45 l0 (ji6)).f3.f5))) [] (fun hHeld HT_ HW_ => ?_)
       generalize wr.drew = w11 at BK101 HB HR102_7 hx102_0 hx102_1 hx102_2 hx102_3 hx102_4 hx102_5 hx102_6 hx102_7 hx102_8 hHeld ⊢
       refine pA 0 24 HT_ ?_; refine pA 1 25 HT_ ?_; refine pA 2 26 HT_ ?_; refine pA 3 27 HT_ ?_; refine tA 4 28 HT_ HW_ hHeld ?_; refine tA 5 29 HT_ HW_ hHeld ?_; refine oA 6 30 HT_ (fun K hK => ?_)
       refine goesV_ Try.func57 (by kernel_rfl) rfl #[.agg #[.string ((rd_T45 l0 (ji6)).f0), .int .i64 ((rd_T45 l0 (ji6)).f1), .int .i64 ((rd_T45 l0 (ji6)).f2), .int .i64 ((rd_T45 l0 (ji6)).f3.f0), .int .i64 ((rd_T45 l0 (ji6)).f3.f1), .int .i64 ((rd_T45 l0 (ji6)).f3.f2), .int .i64 ((rd_T45 l0 (ji6)).f3.f3), .slice A102_7 ((rd_T45 l0 (ji6)).f3.f4).length c102_7, .bool ((rd_T45 l0 (ji6)).f3.f5)], .agg #[.string a1_0, .int .i64 a1_1, .int .i64 a1_2, .int .i64 a1_3, .int .i64 a1_4, .int .i64 a1_5, .int .i64 a1_6, .slice A1_7 l1_7.length c1_7, .bool a1_8]] (by rfl) rfl rfl rfl (by (try simp only [List.map_toArray, List.map_cons, List.map_nil]); first | done | (simp only [hji6]; rfl) | rfl | (simp only [List.length_drop, List.length_take]; rfl)) ?_
       with_reducible refine (impl_compareEntries.calls k1 ((rd_T45 l0 (ji6)).f0) ((rd_T45 l0 (ji6)).f1) ((rd_T45 l0 (ji6)).f2) ((rd_T45 l0 (ji6)).f3.f0) ((rd_T45 l0 (ji6)).f3.f1) ((rd_T45 l0 (ji6)).f3.f2) ((rd_T45 l0 (ji6)).f3.f3) _ _ ((rd_T45 l0 (ji6)).f3.f4) ((rd_T45 l0 (ji6)).f3.f5) a1_0 a1_1 a1_2 a1_3 a1_4 a1_5 a1_6 _ _ l1_7 a1_8 t103 _ ?side1 ?side2 ?side3 ?side4 A9.out).mono ?_
       (case side1 => exact (cZ (Kd.C_below HR102_7.out HB.out)))
       (case side2 => exact HC102_7.out)
       (case side3 => exact (cZ (Kd.C_below HR1_7.out HB.out)))
       (case side4 => exact HC1_7.out)
       rintro e w12 ⟨rfl, hb⟩
       refine ⟨_, rfl, ?_⟩
       have _ := bB gb101 hb
       have _ := aM (below_step hbZ hb)
       clear BK101
       clear HB
       rename_i BK101 HB
       (try clear hb)
       (try clear hb2)
       (try clear hk)
       (try clear hi)
       refine hK.out _ _ sZ (fun hHeld => ?_)
       clear hK K
       refine nA 30 ?_; refine pA 7 31 HT_ ?_
       refine done_ (done_of HT_.out (by kernel_rfl)) ?_
       try go_wp2
       go_roundg k1
       case measure => have := HK1.out; omega
       case rel => exact ⟨(wrap64 ((ji6) + 1)), (x10_1), (by first | rfl | (simp; done) | (simp only [← hji6] <;> (first | rfl | (simp; done))) | (simp [*]; done)), z4458, H', ⟨zfb39⟩, ⟨bkZ⟩, ⟨zcb41⟩⟩
     · rw [if_neg c10] at H
       have c10b0 : decide (t103 < 0) = false := decide_eq_false c10
       clear c10
       have H' := aM H
       clear H
       try go_wp2
       have _ := aM (blk_drew BK101.out)
       have _ := aM (below_drew1 HB.out)
       clear BK101
       clear HB
       rename_i BK101 HB
       have p102 : 0 ≤ ((ji6) : Int) := of_decide_eq_true z1200
       have q102 : (ji6) < (l0.length : Int) := of_decide_eq_true z1200
       obtain ⟨ad102, A102_7, c102_7, e102, hx102_0, hx102_1, hx102_2, hx102_3, hx102_4, hx102_5, hx102_6, hx102_7, hx102_8, hl102_7, hi102_7⟩ := at_T45 HR0.out (ji6) p102 q102
       have hw102_8 := hx102_8
       have hw102_7 := hx102_7
       have hw102_6 := hx102_6
       have hw102_5 := hx102_5
       have hw102_4 := hx102_4
       have hw102_3 := hx102_3
       have hw102_2 := hx102_2
       have hw102_1 := hx102_1
       have hw102_0 := hx102_0
       cases e102
       have TW102_7 := aM hx102_7
       replace hx102_0 := (HB.out.cell (World.block_lt_of_cell? w _ hx102_0)).trans hx102_0
       replace hx102_1 := (HB.out.cell (World.block_lt_of_cell? w _ hx102_1)).trans hx102_1
       replace hx102_2 := (HB.out.cell (World.block_lt_of_cell? w _ hx102_2)).trans hx102_2
       replace hx102_3 := (HB.out.cell (World.block_lt_of_cell? w _ hx102_3)).trans hx102_3
       replace hx102_4 := (HB.out.cell (World.block_lt_of_cell? w _ hx102_4)).trans hx102_4
       replace hx102_5 := (HB.out.cell (World.block_lt_of_cell? w _ hx102_5)).trans hx102_5
       replace hx102_6 := (HB.out.cell (World.block_lt_of_cell? w _ hx102_6)).trans hx102_6
       replace hx102_7 := (HB.out.cell (World.block_lt_of_cell? w _ hx102_7)).trans hx102_7
       replace hx102_8 := (HB.out.cell (World.block_lt_of_cell? w _ hx102_8)).trans hx102_8
       have HR102_7 := aM hi102_7
       have HC102_7 := aM hl102_7
       clear hi102_7 hl102_7
       replace p102 := eq_true p102
       replace q102 := eq_true q102
       refine sA 8 impl_Entry_with_impl_compareEntries.tab5 impl_Entry_with_impl_compareEntries.bits5 (fun w' => w'.cell? ⟨gb101, 0, none⟩ = some (.string a1_0) ∧ w'.cell? ⟨gb101, 1, none⟩ = some (.int .i64 a1_1) ∧ w'.cell? ⟨gb101, 2, none⟩ = some (.int .i64 a1_2) ∧ w'.cell? ⟨gb101, 3, none⟩ = some (.int .i64 a1_3) ∧ w'.cell? ⟨gb101, 4, none⟩ = some (.int .i64 a1_4) ∧ w'.cell? ⟨gb101, 5, none⟩ = some (.int .i64 a1_5) ∧ w'.cell? ⟨gb101, 6, none⟩ = some (.int .i64 a1_6) ∧ w'.cell? ⟨gb101, 7, none⟩ = some (.slice A1_7 l1_7.length c1_7) ∧ w'.cell? ⟨gb101, 8, none⟩ = some (.bool a1_8) ∧ w'.cell? (ad102.add (((ji6)).toNat * 9)) = some (.string ((rd_T45 l0 (ji6)).f0)) ∧ w'.cell? ⟨(ad102.add (((ji6)).toNat * 9)).block, (ad102.add (((ji6)).toNat * 9)).off + 1, none⟩ = some (.int .i64 ((rd_T45 l0 (ji6)).f1)) ∧ w'.cell? ⟨(ad102.add (((ji6)).toNat * 9)).block, (ad102.add (((ji6)).toNat * 9)).off + 2, none⟩ = some (.int .i64 ((rd_T45 l0 (ji6)).f2)) ∧ w'.cell? ⟨(ad102.add (((ji6)).toNat * 9)).block, (ad102.add (((ji6)).toNat * 9)).off + 3, none⟩ = some (.int .i64 ((rd_T45 l0 (ji6)).f3.f0)) ∧ w'.cell? ⟨(ad102.add (((ji6)).toNat * 9)).block, (ad102.add (((ji6)).toNat * 9)).off + 4, none⟩ = some (.int .i64 ((rd_T45 l0 (ji6)).f3.f1)) ∧ w'.cell? ⟨(ad102.add (((ji6)).toNat * 9)).block, (ad102.add (((ji6)).toNat * 9)).off + 5, none⟩ = some (.int .i64 ((rd_T45 l0 (ji6)).f3.f2)) ∧ w'.cell? ⟨(ad102.add (((ji6)).toNat * 9)).block, (ad102.add (((ji6)).toNat * 9)).off + 6, none⟩ = some (.int .i64 ((rd_T45 l0 (ji6)).f3.f3)) ∧ w'.cell? ⟨(ad102.add (((ji6)).toNat * 9)).block, (ad102.add (((ji6)).toNat * 9)).off + 7, none⟩ = some (.slice A102_7 ((rd_T45 l0 (ji6)).f3.f4).length c102_7) ∧ w'.cell? ⟨(ad102.add (((ji6)).toNat * 9)).block, (ad102.add (((ji6)).toNat * 9)).off + 8, none⟩ = some (.bool ((rd_T45 l0 (ji6)).f3.f5))) [] (fun hHeld HT_ HW_ => ?_)
       generalize wr.drew = w13 at BK101 HB HR102_7 hx102_0 hx102_1 hx102_2 hx102_3 hx102_4 hx102_5 hx102_6 hx102_7 hx102_8 hHeld ⊢
       refine pA 0 24 HT_ ?_; refine pA 1 25 HT_ ?_; refine pA 2 26 HT_ ?_; refine pA 3 27 HT_ ?_; refine tA 4 28 HT_ HW_ hHeld ?_; refine tA 5 29 HT_ HW_ hHeld ?_; refine oA 6 30 HT_ (fun K hK => ?_)
       refine goesV_ Try.func57 (by kernel_rfl) rfl #[.agg #[.string ((rd_T45 l0 (ji6)).f0), .int .i64 ((rd_T45 l0 (ji6)).f1), .int .i64 ((rd_T45 l0 (ji6)).f2), .int .i64 ((rd_T45 l0 (ji6)).f3.f0), .int .i64 ((rd_T45 l0 (ji6)).f3.f1), .int .i64 ((rd_T45 l0 (ji6)).f3.f2), .int .i64 ((rd_T45 l0 (ji6)).f3.f3), .slice A102_7 ((rd_T45 l0 (ji6)).f3.f4).length c102_7, .bool ((rd_T45 l0 (ji6)).f3.f5)], .agg #[.string a1_0, .int .i64 a1_1, .int .i64 a1_2, .int .i64 a1_3, .int .i64 a1_4, .int .i64 a1_5, .int .i64 a1_6, .slice A1_7 l1_7.length c1_7, .bool a1_8]] (by rfl) rfl rfl rfl (by (try simp only [List.map_toArray, List.map_cons, List.map_nil]); first | done | (simp only [hji6]; rfl) | rfl | (simp only [List.length_drop, List.length_take]; rfl)) ?_
       with_reducible refine (impl_compareEntries.calls k1 ((rd_T45 l0 (ji6)).f0) ((rd_T45 l0 (ji6)).f1) ((rd_T45 l0 (ji6)).f2) ((rd_T45 l0 (ji6)).f3.f0) ((rd_T45 l0 (ji6)).f3.f1) ((rd_T45 l0 (ji6)).f3.f2) ((rd_T45 l0 (ji6)).f3.f3) _ _ ((rd_T45 l0 (ji6)).f3.f4) ((rd_T45 l0 (ji6)).f3.f5) a1_0 a1_1 a1_2 a1_3 a1_4 a1_5 a1_6 _ _ l1_7 a1_8 t103 _ ?side1 ?side2 ?side3 ?side4 A9.out).mono ?_
       (case side1 => exact (cZ (Kd.C_below HR102_7.out HB.out)))
       (case side2 => exact HC102_7.out)
       (case side3 => exact (cZ (Kd.C_below HR1_7.out HB.out)))
       (case side4 => exact HC1_7.out)
       rintro e w14 ⟨rfl, hb⟩
       refine ⟨_, rfl, ?_⟩
       have _ := bB gb101 hb
       have _ := aM (below_step hbZ hb)
       clear BK101
       clear HB
       rename_i BK101 HB
       (try clear hb)
       (try clear hb2)
       (try clear hk)
       (try clear hi)
       refine hK.out _ _ sZ (fun hHeld => ?_)
       clear hK K
       refine nA 30 ?_; refine pA 7 31 HT_ ?_
       refine done_ (done_of HT_.out (by kernel_rfl)) ?_
       try go_wp2
       go_roundg k1
       case measure => have := HK1.out; omega
       case rel => exact ⟨(x9_1), (ji6), z4458, (by first | rfl | (simp; done) | (simp only [← hji6] <;> (first | rfl | (simp; done))) | (simp [*]; done)), H', ⟨zfb39⟩, ⟨bkZ⟩, ⟨zcb41⟩⟩
   · rw [if_neg c5] at H
     have c5b0 : decide (x9_1 < x10_1) = false := decide_eq_false c5
     clear c5
     by_cases c15 : x9_1 < (l0.length : Int)
     · rw [if_pos c15] at H
       have c15b0 : decide (x9_1 < (l0.length : Int)) = true := decide_eq_true c15
       clear c15
       replace H := ifS H; obtain ⟨c16, H⟩ := H
       have c16b0 : decide (0 ≤ x9_1) = true := decide_eq_true c16
       clear c16
       replace H := ifS H; obtain ⟨c17, H⟩ := H
       have c17b0 : decide (x9_1 < (l0.length : Int)) = true := decide_eq_true c17
       clear c17
       replace H := Option.bind_eq_some_iff.mp H
       obtain ⟨t105, A180, H⟩ := H
       try dsimp only at H
       have A18 := aM A180
       clear A180
       simp only [Option.some.injEq, Prod.mk.injEq] at H
       obtain ⟨rfl, rfl⟩ := H
       try go_wp2
       have _ := aM (blk_drew BK101.out)
       have _ := aM (below_drew1 HB.out)
       clear BK101
       clear HB
       rename_i BK101 HB
       have p104 : 0 ≤ (x9_1 : Int) := of_decide_eq_true z1200
       have q104 : x9_1 < (l0.length : Int) := of_decide_eq_true z1200
       obtain ⟨ad104, A104_7, c104_7, e104, hx104_0, hx104_1, hx104_2, hx104_3, hx104_4, hx104_5, hx104_6, hx104_7, hx104_8, hl104_7, hi104_7⟩ := at_T45 HR0.out x9_1 p104 q104
       have hw104_8 := hx104_8
       have hw104_7 := hx104_7
       have hw104_6 := hx104_6
       have hw104_5 := hx104_5
       have hw104_4 := hx104_4
       have hw104_3 := hx104_3
       have hw104_2 := hx104_2
       have hw104_1 := hx104_1
       have hw104_0 := hx104_0
       cases e104
       have TW104_7 := aM hx104_7
       replace hx104_0 := (HB.out.cell (World.block_lt_of_cell? w _ hx104_0)).trans hx104_0
       replace hx104_1 := (HB.out.cell (World.block_lt_of_cell? w _ hx104_1)).trans hx104_1
       replace hx104_2 := (HB.out.cell (World.block_lt_of_cell? w _ hx104_2)).trans hx104_2
       replace hx104_3 := (HB.out.cell (World.block_lt_of_cell? w _ hx104_3)).trans hx104_3
       replace hx104_4 := (HB.out.cell (World.block_lt_of_cell? w _ hx104_4)).trans hx104_4
       replace hx104_5 := (HB.out.cell (World.block_lt_of_cell? w _ hx104_5)).trans hx104_5
       replace hx104_6 := (HB.out.cell (World.block_lt_of_cell? w _ hx104_6)).trans hx104_6
       replace hx104_7 := (HB.out.cell (World.block_lt_of_cell? w _ hx104_7)).trans hx104_7
       replace hx104_8 := (HB.out.cell (World.block_lt_of_cell? w _ hx104_8)).trans hx104_8
       have HR104_7 := aM hi104_7
       have HC104_7 := aM hl104_7
       clear hi104_7 hl104_7
       replace p104 := eq_true p104
       replace q104 := eq_true q104
       refine sA 16 impl_Entry_with_impl_compareEntries.tab8 impl_Entry_with_impl_compareEntries.bits8 (fun w' => w'.cell? ⟨gb101, 0, none⟩ = some (.string a1_0) ∧ w'.cell? ⟨gb101, 1, none⟩ = some (.int .i64 a1_1) ∧ w'.cell? ⟨gb101, 2, none⟩ = some (.int .i64 a1_2) ∧ w'.cell? ⟨gb101, 3, none⟩ = some (.int .i64 a1_3) ∧ w'.cell? ⟨gb101, 4, none⟩ = some (.int .i64 a1_4) ∧ w'.cell? ⟨gb101, 5, none⟩ = some (.int .i64 a1_5) ∧ w'.cell? ⟨gb101, 6, none⟩ = some (.int .i64 a1_6) ∧ w'.cell? ⟨gb101, 7, none⟩ = some (.slice A1_7 l1_7.length c1_7) ∧ w'.cell? ⟨gb101, 8, none⟩ = some (.bool a1_8) ∧ w'.cell? (ad104.add ((x9_1).toNat * 9)) = some (.string ((rd_T45 l0 x9_1).f0)) ∧ w'.cell? ⟨(ad104.add ((x9_1).toNat * 9)).block, (ad104.add ((x9_1).toNat * 9)).off + 1, none⟩ = some (.int .i64 ((rd_T45 l0 x9_1).f1)) ∧ w'.cell? ⟨(ad104.add ((x9_1).toNat * 9)).block, (ad104.add ((x9_1).toNat * 9)).off + 2, none⟩ = some (.int .i64 ((rd_T45 l0 x9_1).f2)) ∧ w'.cell? ⟨(ad104.add ((x9_1).toNat * 9)).block, (ad104.add ((x9_1).toNat * 9)).off + 3, none⟩ = some (.int .i64 ((rd_T45 l0 x9_1).f3.f0)) ∧ w'.cell? ⟨(ad104.add ((x9_1).toNat * 9)).block, (ad104.add ((x9_1).toNat * 9)).off + 4, none⟩ = some (.int .i64 ((rd_T45 l0 x9_1).f3.f1)) ∧ w'.cell? ⟨(ad104.add ((x9_1).toNat * 9)).block, (ad104.add ((x9_1).toNat * 9)).off + 5, none⟩ = some (.int .i64 ((rd_T45 l0 x9_1).f3.f2)) ∧ w'.cell? ⟨(ad104.add ((x9_1).toNat * 9)).block, (ad104.add ((x9_1).toNat * 9)).off + 6, none⟩ = some (.int .i64 ((rd_T45 l0 x9_1).f3.f3)) ∧ w'.cell? ⟨(ad104.add ((x9_1).toNat * 9)).block, (ad104.add ((x9_1).toNat * 9)).off + 7, none⟩ = some (.slice A104_7 ((rd_T45 l0 x9_1).f3.f4).length c104_7) ∧ w'.cell? ⟨(ad104.add ((x9_1).toNat * 9)).block, (ad104.add ((x9_1).toNat * 9)).off + 8, none⟩ = some (.bool ((rd_T45 l0 x9_1).f3.f5))) [] (fun hHeld HT_ HW_ => ?_)
       generalize wr.drew = w19 at BK101 HB HR104_7 hx104_0 hx104_1 hx104_2 hx104_3 hx104_4 hx104_5 hx104_6 hx104_7 hx104_8 hHeld ⊢
       refine pA 0 35 HT_ ?_; refine pA 1 36 HT_ ?_; refine pA 2 37 HT_ ?_; refine pA 3 38 HT_ ?_; refine pA 4 39 HT_ ?_; refine pA 5 40 HT_ ?_; refine pA 6 41 HT_ ?_; refine pA 7 42 HT_ ?_; refine pA 8 43 HT_ ?_; refine tA 9 44 HT_ HW_ hHeld ?_; refine tA 10 45 HT_ HW_ hHeld ?_; refine oA 11 46 HT_ (fun K hK => ?_)
       refine goesV_ Try.func57 (by kernel_rfl) rfl #[.agg #[.string ((rd_T45 l0 x9_1).f0), .int .i64 ((rd_T45 l0 x9_1).f1), .int .i64 ((rd_T45 l0 x9_1).f2), .int .i64 ((rd_T45 l0 x9_1).f3.f0), .int .i64 ((rd_T45 l0 x9_1).f3.f1), .int .i64 ((rd_T45 l0 x9_1).f3.f2), .int .i64 ((rd_T45 l0 x9_1).f3.f3), .slice A104_7 ((rd_T45 l0 x9_1).f3.f4).length c104_7, .bool ((rd_T45 l0 x9_1).f3.f5)], .agg #[.string a1_0, .int .i64 a1_1, .int .i64 a1_2, .int .i64 a1_3, .int .i64 a1_4, .int .i64 a1_5, .int .i64 a1_6, .slice A1_7 l1_7.length c1_7, .bool a1_8]] (by rfl) rfl rfl rfl zee81 ?_
       with_reducible refine (impl_compareEntries.calls k1 ((rd_T45 l0 x9_1).f0) ((rd_T45 l0 x9_1).f1) ((rd_T45 l0 x9_1).f2) ((rd_T45 l0 x9_1).f3.f0) ((rd_T45 l0 x9_1).f3.f1) ((rd_T45 l0 x9_1).f3.f2) ((rd_T45 l0 x9_1).f3.f3) _ _ ((rd_T45 l0 x9_1).f3.f4) ((rd_T45 l0 x9_1).f3.f5) a1_0 a1_1 a1_2 a1_3 a1_4 a1_5 a1_6 _ _ l1_7 a1_8 t105 _ ?side1 ?side2 ?side3 ?side4 A18.out).mono ?_
       (case side1 => exact (cZ (Kd.C_below HR104_7.out HB.out)))
       (case side2 => exact HC104_7.out)
       (case side3 => exact (cZ (Kd.C_below HR1_7.out HB.out)))
       (case side4 => exact HC1_7.out)
       rintro e w20 ⟨rfl, hb⟩
       refine ⟨_, rfl, ?_⟩
       have _ := bB gb101 hb
       have _ := aM (below_step hbZ hb)
       clear BK101
       clear HB
       rename_i BK101 HB
       (try clear hb)
       (try clear hb2)
       (try clear hk)
       (try clear hi)
       refine hK.out _ _ sZ (fun hHeld => ?_)
       clear hK K
       refine nA 46 ?_; refine pA 12 47 HT_ ?_; refine pA 13 48 HT_ ?_; refine pA 14 6 HT_ ?_; refine pA 15 7 HT_ ?_
       refine done_ (done_of HT_.out (by kernel_rfl)) ?_
       try go_wp2
       go_ret2
       exact ⟨z674d, zcb41⟩
     · rw [if_neg c15] at H
       have c15b0 : decide (x9_1 < (l0.length : Int)) = false := decide_eq_false c15
       clear c15
       simp only [Option.some.injEq, Prod.mk.injEq] at H
       obtain ⟨rfl, rfl⟩ := H
       try go_wp2
       have _ := aM (blk_drew BK101.out)
       have _ := aM (below_drew1 HB.out)
       clear BK101
       clear HB
       rename_i BK101 HB
       refine sA 16 impl_Entry_with_impl_compareEntries.tab8 impl_Entry_with_impl_compareEntries.bits8 (fun w' => True) [] (fun hHeld HT_ HW_ => ?_)
       generalize wr.drew = w21 at BK101 HB hHeld ⊢
       refine pA 0 35 HT_ ?_; refine pA 1 36 HT_ ?_; refine pA 2 37 HT_ ?_; refine pA 3 38 HT_ ?_; refine pA 4 39 HT_ ?_; refine uA 5 40 HT_ ?_; refine uA 6 41 HT_ ?_; refine uA 7 42 HT_ ?_; refine uA 8 43 HT_ ?_; refine uA 9 44 HT_ ?_; refine uA 10 45 HT_ ?_; refine uA 11 46 HT_ ?_; refine uA 12 47 HT_ ?_; refine pA 13 48 HT_ ?_; refine pA 14 6 HT_ ?_; refine pA 15 7 HT_ ?_
       refine done_ (done_of HT_.out (by kernel_rfl)) ?_
       try go_wp2
       go_ret2
       exact ⟨z674d, zcb41⟩

end Go.Proofs.Ytdkokfnnebdppaa.P

-- written by a program of this session's (wip/pp)
namespace Go.Proofs.Ytdkokfnnebdppaa.P
open Go.RowKit Go.Proofs.YtdkokfnnebdppaaW.PrintWords Go.Proofs.YtdkokfnnebdppaaW.PrintLast Go.Proofs.YtdkokfnnebdppaaW.PrintMore
attribute [local go_sem] max2_int min2_int max_two min_two max_three min_three max_four min_four str_geq str_gtr str_leq   -- for this text's walks alone
set_option linter.unusedVariables false
set_option linter.unusedSimpArgs false

/-! ### impl_withEntry: function 50 -/
def impl_withEntry.ins (l0 : List (S45)) (a1 : Int) (l2 : List (S45)) : Option (List (S45)) := if 0 ≤ a1 ∧ a1 ≤ (l0.length : Int) ∧ l2.length = 1 ∧ (l0.length + 1) * 96 ≤ 140737488355328 then some (l0.take a1.toNat ++ l2 ++ l0.drop a1.toNat) else none
def impl_withEntry.f (k : Nat) (l0 : List (S45)) (a1_0 : ByteArray) (a1_1 : Int) (a1_2 : Int) (a1_3 : Int) (a1_4 : Int) (a1_5 : Int) (a1_6 : Int) (l1_7 : List Int) (a1_8 : Bool) : Option ((List (S45))) := (impl_Entry_with_impl_compareEntries.f k l0 a1_0 a1_1 a1_2 a1_3 a1_4 a1_5 a1_6 l1_7 a1_8).bind fun bt102 => ((impl_clonedEntries.f k l0).bind fun t104 => ((impl_Entry_cloned.f a1_0 a1_1 a1_2 a1_3 a1_4 a1_5 a1_6 l1_7 a1_8).bind fun bt107 => ((impl_withEntry.ins t104 bt102.1 (([(⟨bt107.1, bt107.2.1, bt107.2.2.1, (⟨bt107.2.2.2.1, bt107.2.2.2.2.1, bt107.2.2.2.2.2.1, bt107.2.2.2.2.2.2.1, bt107.2.2.2.2.2.2.2.1, bt107.2.2.2.2.2.2.2.2⟩ : S26)⟩ : S45)] : List (S45)))).bind fun t121 => (some t121))))
theorem impl_withEntry.mono : ∀ a0 a1 a2 a3 a4 a5 a6 a7 a8 a9 k, LeO (impl_withEntry.f k a0 a1 a2 a3 a4 a5 a6 a7 a8 a9) (impl_withEntry.f (k + 1) a0 a1 a2 a3 a4 a5 a6 a7 a8 a9) := by
 intro a0 a1 a2 a3 a4 a5 a6 a7 a8 a9 k
 unfold impl_withEntry.f
 repeat' first
  | (with_reducible first | exact impl_Entry_with_impl_compareEntries.mono .. | exact impl_clonedEntries.mono .. | exact LeO.refl _ | exact LeO.none _ | refine LeO.ite ?_ ?_ | refine LeO.bind ?_ (fun _ => ?_))
  | exact LeO.none _
  | refine LeO.ite ?_ ?_
  | refine LeO.bind ?_ (fun _ => ?_)
def impl_withEntry.T2 : Bool × List (List Nat × List Nat) := (true, [([], []), ([0], [0]), ([], []), ([], []), ([3, 1], [3]), ([4], [4]), ([1, 2, 5, 4], [1, 2, 5]), ([6, 6, 0, 1, 2, 3, 4, 5, 6], [6])])
def impl_withEntry.B2 : List Nat := [0, 1, 0, 0, 11, 27, 63, 127]
theorem impl_withEntry.tab2 : rtab .any (opsOf Try.f50 2) = impl_withEntry.T2 := by kernel_rfl
theorem impl_withEntry.bits2 : waitsOk impl_withEntry.T2.2 impl_withEntry.B2 = true := by kernel_rfl
set_option maxHeartbeats 8000000 in
set_option maxRecDepth 100000 in
theorem impl_withEntry.calls (k : Nat) (A0 : Option Addr) (c0 : Nat) (l0 : List (S45)) (a1_0 : ByteArray) (a1_1 : Int) (a1_2 : Int) (a1_3 : Int) (a1_4 : Int) (a1_5 : Int) (a1_6 : Int) (A1_7 : Option Addr) (c1_7 : Nat) (l1_7 : List Int) (a1_8 : Bool) (r : List (S45)) (w : World) (hr0 : Kd.C k45 w A0 l0.length l0) (hc0 : l0.length ≤ c0) (hr1_7 : Kd.C (Kd.int .i64) w A1_7 l1_7.length l1_7) (hc1_7 : l1_7.length ≤ c1_7) (h : impl_withEntry.f k l0 a1_0 a1_1 a1_2 a1_3 a1_4 a1_5 a1_6 l1_7 a1_8 = some r) :
 Calls Try.prog 50 #[.slice A0 l0.length c0, .agg #[.string a1_0, .int .i64 a1_1, .int .i64 a1_2, .int .i64 a1_3, .int .i64 a1_4, .int .i64 a1_5, .int .i64 a1_6, .slice A1_7 l1_7.length c1_7, .bool a1_8]] w fun e w' => ∃ v0_ : Value, e = .returned (v0_) ∧ Kd.S k45 45 w' w.heap.size (fun _ => True) v0_ r ∧ Below w.heap.size w w' := by
 have hu45 := Try.underlying45
 have HR0 := aM hr0
 have HC0 := aM hc0
 clear hr0 hc0
 have HR1_7 := aM hr1_7
 have HC1_7 := aM hc1_7
 clear hr1_7 hc1_7
 have HB := aM (Below.refl w.heap.size w)
 have H : ((impl_Entry_with_impl_compareEntries.f k l0 a1_0 a1_1 a1_2 a1_3 a1_4 a1_5 a1_6 l1_7 a1_8).bind fun bt102 => ((impl_clonedEntries.f k l0).bind fun t104 => ((impl_Entry_cloned.f a1_0 a1_1 a1_2 a1_3 a1_4 a1_5 a1_6 l1_7 a1_8).bind fun bt107 => ((impl_withEntry.ins t104 bt102.1 (([(⟨bt107.1, bt107.2.1, bt107.2.2.1, (⟨bt107.2.2.2.1, bt107.2.2.2.2.1, bt107.2.2.2.2.2.1, bt107.2.2.2.2.2.2.1, bt107.2.2.2.2.2.2.2.1, bt107.2.2.2.2.2.2.2.2⟩ : S26)⟩ : S45)] : List (S45)))).bind fun t121 => (some t121))))) = some r := h
 clear h
 replace H := Option.bind_eq_some_iff.mp H
 obtain ⟨⟨t102, t103⟩, A30, H⟩ := H
 try dsimp only at H
 have A3 := aM A30
 clear A30
 replace H := Option.bind_eq_some_iff.mp H
 obtain ⟨t104, A40, H⟩ := H
 try dsimp only at H
 have A4 := aM A40
 clear A40
 replace H := Option.bind_eq_some_iff.mp H
 obtain ⟨⟨t107, t108, t109, t110, t111, t112, t113, t114, t117⟩, A50, H⟩ := H
 try dsimp only at H
 have A5 := aM A50
 clear A50
 obtain ⟨y118, hy118⟩ : ∃ y_ : List (S45), y_ = (([(⟨t107, t108, t109, (⟨t110, t111, t112, t113, t114, t117⟩ : S26)⟩ : S45)] : List (S45))) := ⟨_, rfl⟩
 first | (replace H := bindS H; rw [← hy118] at H; try dsimp only at H) | rw [← hy118] at H
 have Ny118 := aM hy118
 clear hy118
 replace H := Option.bind_eq_some_iff.mp H
 obtain ⟨t121, A60, H⟩ := H
 try dsimp only at H
 have A6 := aM A60
 clear A60
 obtain rfl := Option.some.inj H
 go_enter Try.func50, Try.ntmps50
 try go_wp2_with (first | ((with_reducible refine gate_dst (N := 3) rfl ?_); refine box_event ?hg (N := 3) ?hd (cs := #[.string a1_0, .int .i64 a1_1, .int .i64 a1_2, .int .i64 a1_3, .int .i64 a1_4, .int .i64 a1_5, .int .i64 a1_6, .slice A1_7 l1_7.length c1_7, .bool a1_8]) (t := 45) ?hr ?_; (case hd => rfl); (case hg => rfl); (case hr => first | (go_simp; done) | (go_simp; rfl)); intro gb101 hg w7 hbox hb; have _ := aM (below_step hbZ hb); have _ := aM hbox; have _ := szZ hg; have _ := szZ hg; clear HB; rename_i HB BK101 GW101 GE101; clear hb hbox hg; obtain ⟨hcz8_0, hcz8_1, hcz8_2, hcz8_3, hcz8_4, hcz8_5, hcz8_6, hcz8_7, hcz8_8, hfz8_0, hfz8_1, hfz8_2, hfz8_3, hfz8_4, hfz8_5, hfz8_6, hfz8_7, hfz8_8⟩ := cellsZ9 BK101.out) | ((with_reducible refine gate_callee (f := 81) rfl ?_); refine goesL_ (some 10) rfl rfl Try.func81 (by kernel_rfl) rfl #[.slice A0 l0.length c0, .agg #[.string a1_0, .int .i64 a1_1, .int .i64 a1_2, .int .i64 a1_3, .int .i64 a1_4, .int .i64 a1_5, .int .i64 a1_6, .slice A1_7 l1_7.length c1_7, .bool a1_8], .func (.func 57) #[] #[]] rfl zee81 ?_; (with_reducible refine (impl_Entry_with_impl_compareEntries.calls k _ _ l0 a1_0 a1_1 a1_2 a1_3 a1_4 a1_5 a1_6 _ _ l1_7 a1_8  t102 t103 _ ?side1 ?side2 ?side3 ?side4 A3.out).mono ?_); (case side1 => exact (cZ (Kd.C_below HR0.out HB.out))); (case side2 => exact HC0.out); (case side3 => exact (cZ (Kd.C_below HR1_7.out HB.out))); (case side4 => exact HC1_7.out); rintro e w9 ⟨rfl, hb⟩; refine ⟨_, rfl, ?_⟩; have _ := bB gb101 hb; have _ := aM (below_step hbZ hb); clear BK101 HB; rename_i BK101 HB; (try clear hb)))
 have _ := aM (blk_drew BK101.out)
 have _ := aM (below_drew1 HB.out)
 clear BK101
 clear HB
 rename_i BK101 HB
 refine sA 8 impl_withEntry.tab2 impl_withEntry.bits2 (fun w' => w'.cell? ⟨gb101, 0, none⟩ = some (.string a1_0) ∧ w'.cell? ⟨gb101, 1, none⟩ = some (.int .i64 a1_1) ∧ w'.cell? ⟨gb101, 2, none⟩ = some (.int .i64 a1_2) ∧ w'.cell? ⟨gb101, 3, none⟩ = some (.int .i64 a1_3) ∧ w'.cell? ⟨gb101, 4, none⟩ = some (.int .i64 a1_4) ∧ w'.cell? ⟨gb101, 5, none⟩ = some (.int .i64 a1_5) ∧ w'.cell? ⟨gb101, 6, none⟩ = some (.int .i64 a1_6) ∧ w'.cell? ⟨gb101, 7, none⟩ = some (.slice A1_7 l1_7.length c1_7) ∧ w'.cell? ⟨gb101, 8, none⟩ = some (.bool a1_8)) [] (fun hHeld HT_ HW_ => ?_)
 generalize w9.drew = w10 at BK101 HB hHeld ⊢
 refine pA 0 13 HT_ ?_; refine pA 2 15 HT_ ?_; refine tA 3 16 HT_ HW_ hHeld ?_; refine oA 1 14 HT_ (fun K hK => ?_)
 refine goes_ Try.func83 (by kernel_rfl) rfl #[.slice A0 l0.length c0] (by rfl) rfl rfl zee81 ?_
 with_reducible refine (impl_clonedEntries.calls k _ _ l0 t104 _ ?side1 ?side2 A4.out).mono ?_
 (case side1 => exact (cZ (Kd.C_below HR0.out HB.out)))
 (case side2 => exact HC0.out)
 rintro e w11 ⟨v105, rfl, ho0, hb⟩
 refine ⟨_, rfl, ?_⟩
 have n0_ := aM (Kd.S_lower (Kd.S_newB ho0 (g := gb101) bkZ) (below_size hbZ))
 have n1_ := bB gb101 hb
 have n2_ := aM (below_step hbZ hb)
 clear BK101
 clear HB
 have HO106 := aM (Kd.S_mono (ok' := fun k_ => k_ < w11.heap.size ∧ k_ ≠ gb101) (Kd.S_bound n0_.out) (fun k hk => ⟨hk.2.2.1, hk.1.2⟩))
 have BK101 := n1_
 have HB := n2_
 clear n0_ n1_ n2_
 (try clear hb)
 (try clear hb2)
 (try clear hk)
 (try clear hi)
 (try clear ho0)
 refine hK.out _ _ sZ (fun hHeld => ?_)
 clear hK K
 refine nA 14 ?_; refine oA 4 17 HT_ (fun K hK => ?_)
 refine goes_ Try.func72 (by kernel_rfl) rfl #[.agg #[.string a1_0, .int .i64 a1_1, .int .i64 a1_2, .int .i64 a1_3, .int .i64 a1_4, .int .i64 a1_5, .int .i64 a1_6, .slice A1_7 l1_7.length c1_7, .bool a1_8]] (by rfl) rfl rfl zee81 ?_
 with_reducible refine (impl_Entry_cloned.calls a1_0 a1_1 a1_2 a1_3 a1_4 a1_5 a1_6 _ _ l1_7 a1_8 t107 t108 t109 t110 t111 t112 t113 t114 t117 _ ?side1 ?side2 A5.out).mono ?_
 (case side1 => exact (cZ (Kd.C_below HR1_7.out HB.out)))
 (case side2 => exact HC1_7.out)
 rintro e w12 ⟨v115, rfl, ho0, hb⟩
 refine ⟨_, rfl, ?_⟩
 have n0_ := aM (Kd.S_elder' (by (with_reducible repeat (first | apply Kd.S_alloc | apply Kd.S_drewN | apply Kd.S_drew)); exact HO106.out) (Kd.R_base ho0) hb)
 have HM := aM hb.size
 replace ho0 := Kd.R_mono (ok' := fun k_ => w11.heap.size ≤ k_) (Kd.R_bound ho0) (fun k hk => hk.2.1)
 have n1_ := aM (Kd.R_lower ho0 (below_size hbZ))
 have n2_ := bB gb101 hb
 have n3_ := aM (below_step hbZ hb)
 clear HO106
 clear BK101
 clear HB
 have HO106 := n0_
 have HO116 := n1_
 have BK101 := n2_
 have HB := n3_
 clear n0_ n1_ n2_ n3_
 (try clear hb)
 (try clear hb2)
 (try clear hk)
 (try clear hi)
 (try clear ho0)
 obtain ⟨Ao13, co13, eo13⟩ := Kd.R_slice HO116.out
 (first | subst eo13 | (injection eo13 with f1_ f2_ f3_; have f4_ := f1_.symm; have f5_ := f3_.symm; clear f1_ f2_ f3_; subst f4_; subst f5_))
 refine hK.out _ _ sZ (fun hHeld => ?_)
 clear hK K
 refine nA 17 ?_; refine oA 5 18 HT_ (fun K hK => ?_)
 refine Kd.S_lit1_step k45 _ 45 ?hg (N := 18) ?hd (xs := ([(⟨t107, t108, t109, (⟨t110, t111, t112, t113, t114, t117⟩ : S26)⟩ : S45)] : List (S45))) (inner := [.string t107, .int .i64 t108, .int .i64 t109, .int .i64 t110, .int .i64 t111, .int .i64 t112, .int .i64 t113, .slice Ao13 t114.length co13, .bool t117]) (ok := fun k_ => w11.heap.size ≤ k_) (okp := fun k_ => w11.heap.size ≤ k_) ?hr ?hp (fun _ hk => hk) HM.out (Below.refl _ _) (Nat.le_refl _) (by simp) ?_; (case hd => rfl); (case hg => rfl); (case hr => first | (go_simp; done) | (go_simp; rfl)); (case hp => exact (Reps.c9 (show Kd.M k45 _ _ _ (⟨t107, t108, t109, (⟨t110, t111, t112, t113, t114, t117⟩ : S26)⟩ : S45) [.string t107, .int .i64 t108, .int .i64 t109, .int .i64 t110, .int .i64 t111, .int .i64 t112, .int .i64 t113, .slice Ao13 t114.length co13, .bool t117] from (k45_mkM _ _ _ (⟨t107, t108, t109, (⟨t110, t111, t112, t113, t114, t117⟩ : S26)⟩ : S45) HO116.out)) (Reps.none _ _)))
 intro v119 w14 ho15 hb hg_ hnew_
 have hB15 : ∀ k, (v119 : Value).ownBlock = some k → w12.heap.size ≤ k := by
  obtain ⟨b_, e_, h_⟩ := hnew_
  intro k hk
  rw [e_] at hk
  injection hk with hk
  omega
 clear hg_ hnew_
 (first | rw [← Ny118.out] at ho15 | (simp only [Int.reduceToNat] at ho15; rw [← Ny118.out] at ho15))
 have _ := aM (Kd.S_elder' (by (with_reducible repeat (first | apply Kd.S_alloc | apply Kd.S_drewN | apply Kd.S_drew)); exact HO106.out) hB15 hb)
 have _ := aM ho15
 have _ := bB gb101 hb
 have _ := aM (below_step hbZ hb)
 clear HO106
 clear BK101
 clear HB
 clear HO116
 rename_i HO106 HO120 BK101 HB
 clear hb ho15 hB15
 obtain ⟨Ao16, co16, eo16⟩ := Kd.S_slice HO106.out
 (first | subst eo16 | (injection eo16 with f1_ f2_ f3_; have f4_ := f1_.symm; have f5_ := f3_.symm; clear f1_ f2_ f3_; subst f4_; subst f5_))
 obtain ⟨Ao17, co17, eo17⟩ := Kd.S_slice HO120.out
 (first | subst eo17 | (injection eo17 with f1_ f2_ f3_; have f4_ := f1_.symm; have f5_ := f3_.symm; clear f1_ f2_ f3_; subst f4_; subst f5_))
 refine hK.out _ _ sZ (fun hHeld => ?_)
 clear hK K
 refine nA 18 ?_; refine oA 6 19 HT_ (fun K hK => ?_)
 have hins := A6.out
 unfold impl_withEntry.ins at hins
 split at hins
 rotate_left
 · cases hins
 rename_i hc
 obtain ⟨hc0, hc1, hc2, hc3⟩ := hc
 obtain rfl := Option.some.inj hins
 clear hins A6
 obtain ⟨i102, rfl⟩ : ∃ i : Nat, t102 = (i : Int) := ⟨t102.toNat, (Int.toNat_of_nonneg hc0).symm⟩
 obtain ⟨x118, hx118⟩ : ∃ x, y118 = [x] := ⟨_, Ny118.out⟩
 clear Ny118
 subst hx118
 refine goes_ Try.func82 (by kernel_rfl) rfl #[.slice Ao16 t104.length co16, .int .i64 (i102 : Int), .slice Ao17 [x118].length co17] (by rfl) rfl rfl zee81 ?_
 refine (insE_row (base := w.heap.size) i102 HO106.out HO120.out (fun k h1 h2 => Nat.lt_irrefl _ (Nat.lt_of_lt_of_le h1.1.1.1 h2)) (by omega) (below_size HB.out) hc3).mono ?_
 rintro e w18 ⟨v122, rfl, ho0, hgr⟩
 refine ⟨_, rfl, ?_⟩
 have hown : ∀ k, (Value.slice Ao16 t104.length co16).ownBlock = some k → k ≠ gb101 := by
  obtain ⟨f_, h0_, _⟩ := HO106.out
  exact fun k hk => (h0_ k hk).1.1.2
 have n2_ := aM ho0
 have n3_ := aM ((hgr.block gb101 (Array.getElem?_eq_some_iff.1 BK101.out).1 (fun he => hown gb101 he.symm rfl)).trans BK101.out)
 have n4_ := aM (HB.out.grown hgr (below_size HB.out) (fun k hk => Kd.S_base HO106.out k hk))
 clear HO106 HO120 BK101 HB hown hgr ho0
 have HO123 := n2_
 have BK101 := n3_
 have HB := n4_
 clear n2_ n3_ n4_
 refine hK.out _ _ sZ (fun hHeld => ?_)
 clear hK K
 refine nA 19 ?_; refine pA 7 4 HT_ ?_
 refine done_ (done_of HT_.out (by kernel_rfl)) ?_
 try go_wp2
 go_ret
 exact ⟨_, z674d, by (with_reducible repeat (first | apply Kd.S_alloc | apply Kd.S_drewN | apply Kd.S_drew)); exact Kd.S_mono HO123.out (fun _ hk => trivial), zcb41⟩

end Go.Proofs.Ytdkokfnnebdppaa.P

-- written by a program of this session's (wip/pp)
namespace Go.Proofs.Ytdkokfnnebdppaa.P
open Go.RowKit Go.Proofs.YtdkokfnnebdppaaW.PrintWords Go.Proofs.YtdkokfnnebdppaaW.PrintLast Go.Proofs.YtdkokfnnebdppaaW.PrintMore
attribute [local go_sem] max2_int min2_int max_two min_two max_three min_three max_four min_four str_geq str_gtr str_leq   -- for this text's walks alone
set_option linter.unusedVariables false
set_option linter.unusedSimpArgs false

/-! ### impl_PutEntry_1: function 49 -/
def impl_PutEntry_1.f (a0_0 : ByteArray) (a0_1 : Int) (a0_2 : Int) (a0_3 : Int) (a0_4 : Int) (a0_5 : Int) (a0_6 : Int) (l0_7 : List Int) (a0_8 : Bool) (a1_0 : ByteArray) (a1_1 : Int) (a1_2 : Int) (a1_3 : Int) (a1_4 : Int) (a1_5 : Int) (a1_6 : Int) (l1_7 : List Int) (a1_8 : Bool) : Option (Bool) := some (a0_1 == a1_1)
set_option maxHeartbeats 8000000 in
set_option maxRecDepth 100000 in
theorem impl_PutEntry_1.calls (a0_0 : ByteArray) (a0_1 : Int) (a0_2 : Int) (a0_3 : Int) (a0_4 : Int) (a0_5 : Int) (a0_6 : Int) (A0_7 : Option Addr) (c0_7 : Nat) (l0_7 : List Int) (a0_8 : Bool) (g1_ : Nat) (a1_0 : ByteArray) (a1_1 : Int) (a1_2 : Int) (a1_3 : Int) (a1_4 : Int) (a1_5 : Int) (a1_6 : Int) (A1_7 : Option Addr) (c1_7 : Nat) (l1_7 : List Int) (a1_8 : Bool) (r : Bool) (w : World) (hr0_7 : Kd.C (Kd.int .i64) w A0_7 l0_7.length l0_7) (hc0_7 : l0_7.length ≤ c0_7) (hb1_ : w.heap[g1_]? = some (.cells #[.string a1_0, .int .i64 a1_1, .int .i64 a1_2, .int .i64 a1_3, .int .i64 a1_4, .int .i64 a1_5, .int .i64 a1_6, .slice A1_7 l1_7.length c1_7, .bool a1_8] 45 (0, 0))) (hr1_7 : Kd.C (Kd.int .i64) w A1_7 l1_7.length l1_7) (hc1_7 : l1_7.length ≤ c1_7) (h : impl_PutEntry_1.f a0_0 a0_1 a0_2 a0_3 a0_4 a0_5 a0_6 l0_7 a0_8 a1_0 a1_1 a1_2 a1_3 a1_4 a1_5 a1_6 l1_7 a1_8 = some r) :
 Calls Try.prog 49 #[.agg #[.string a0_0, .int .i64 a0_1, .int .i64 a0_2, .int .i64 a0_3, .int .i64 a0_4, .int .i64 a0_5, .int .i64 a0_6, .slice A0_7 l0_7.length c0_7, .bool a0_8], .pointer (some ⟨g1_, 0, none⟩)] w fun e w' => e = .returned (.bool r) ∧ Below w.heap.size w w' := by
 have hu45 := Try.underlying45
 have HR0_7 := aM hr0_7
 have HC0_7 := aM hc0_7
 clear hr0_7 hc0_7
 have HR1_7 := aM hr1_7
 have HC1_7 := aM hc1_7
 clear hr1_7 hc1_7
 have BK1 := aM hb1_
 clear hb1_
 have HB := aM (Below.refl w.heap.size w)
 have H : (some (a0_1 == a1_1)) = some r := h
 clear h
 obtain rfl := Option.some.inj H
 go_enter Try.func49, Try.ntmps49
 go_wp2_with (first | ((with_reducible refine gate_dst (N := 2) rfl ?_); refine box_event ?hg (N := 2) ?hd (cs := #[.string a0_0, .int .i64 a0_1, .int .i64 a0_2, .int .i64 a0_3, .int .i64 a0_4, .int .i64 a0_5, .int .i64 a0_6, .slice A0_7 l0_7.length c0_7, .bool a0_8]) (t := 45) ?hr ?_; (case hd => rfl); (case hg => rfl); (case hr => first | (go_simp; done) | (go_simp; rfl)); intro gb101 hg w3 hbox hb; have _ := bB g1_ hb; have _ := aM (below_step hbZ hb); have _ := aM hbox; have _ := szZ hg; have _ := szZ hg; have ⟨_, _⟩ := nbB g1_ hg; clear BK1 HB; rename_i BK1 HB BK101 GW101 GE101 NB1_101 NB101_1; clear hb hbox hg; have hnb4 := NB101_1.out; have hnc4 := NB1_101.out; obtain ⟨hcz5_0, hcz5_1, hcz5_2, hcz5_3, hcz5_4, hcz5_5, hcz5_6, hcz5_7, hcz5_8, hfz5_0, hfz5_1, hfz5_2, hfz5_3, hfz5_4, hfz5_5, hfz5_6, hfz5_7, hfz5_8⟩ := cellsZ9 BK101.out; obtain ⟨hcz6_0, hcz6_1, hcz6_2, hcz6_3, hcz6_4, hcz6_5, hcz6_6, hcz6_7, hcz6_8, hfz6_0, hfz6_1, hfz6_2, hfz6_3, hfz6_4, hfz6_5, hfz6_6, hfz6_7, hfz6_8⟩ := cellsZ9 BK1.out))
 go_ret
 exact ⟨z674d, zcb41⟩

end Go.Proofs.Ytdkokfnnebdppaa.P

-- written by a program of this session's (wip/pp)
namespace Go.Proofs.Ytdkokfnnebdppaa.P
open Go.RowKit Go.Proofs.YtdkokfnnebdppaaW.PrintWords Go.Proofs.YtdkokfnnebdppaaW.PrintLast Go.Proofs.YtdkokfnnebdppaaW.PrintMore
attribute [local go_sem] max2_int min2_int max_two min_two max_three min_three max_four min_four str_geq str_gtr str_leq   -- for this text's walks alone
set_option linter.unusedVariables false
set_option linter.unusedSimpArgs false

/-! ### impl_Entry_with_impl_PutEntry_1_10069049: function 10069049 -/
def impl_Entry_with_impl_PutEntry_1_10069049.l0 : Nat → List (S45) → Int → Int → ByteArray → Int → Int → Int → Int → Int → Int → List Int → Bool → Option (Int)
 | 0, _, _, _, _, _, _, _, _, _, _, _, _ => none
 | k + 1, x0, x7, x8, x2000, x2001, x2002, x2003, x2004, x2005, x2006, x2007, x2008 => if x8 < x7 then (if 0 ≤ x8 then (if x8 < (x0.length : Int) then ((impl_PutEntry_1.f ((rd_T45 x0 x8).f0) ((rd_T45 x0 x8).f1) ((rd_T45 x0 x8).f2) ((rd_T45 x0 x8).f3.f0) ((rd_T45 x0 x8).f3.f1) ((rd_T45 x0 x8).f3.f2) ((rd_T45 x0 x8).f3.f3) ((rd_T45 x0 x8).f3.f4) ((rd_T45 x0 x8).f3.f5) x2000 x2001 x2002 x2003 x2004 x2005 x2006 x2007 x2008).bind fun t102 => (if t102 = true then (some x8) else (impl_Entry_with_impl_PutEntry_1_10069049.l0 k x0 x7 (wrap64 (x8 + 1)) x2000 x2001 x2002 x2003 x2004 x2005 x2006 x2007 x2008))) else (none)) else (none)) else (some (-1))
def impl_Entry_with_impl_PutEntry_1_10069049.f (k : Nat) (l0 : List (S45)) (a1_0 : ByteArray) (a1_1 : Int) (a1_2 : Int) (a1_3 : Int) (a1_4 : Int) (a1_5 : Int) (a1_6 : Int) (l1_7 : List Int) (a1_8 : Bool) : Option (Int) := impl_Entry_with_impl_PutEntry_1_10069049.l0 k l0 (l0.length : Int) 0 a1_0 a1_1 a1_2 a1_3 a1_4 a1_5 a1_6 l1_7 a1_8
theorem impl_Entry_with_impl_PutEntry_1_10069049.mono_l : ∀ k, (∀ y0 y1 y2 y3 y4 y5 y6 y7 y8 y9 y10 y11, LeO (impl_Entry_with_impl_PutEntry_1_10069049.l0 k y0 y1 y2 y3 y4 y5 y6 y7 y8 y9 y10 y11) (impl_Entry_with_impl_PutEntry_1_10069049.l0 (k + 1) y0 y1 y2 y3 y4 y5 y6 y7 y8 y9 y10 y11))
 | 0 => fun _ _ _ _ _ _ _ _ _ _ _ _ r h => by simp [impl_Entry_with_impl_PutEntry_1_10069049.l0] at h
 | k + 1 => by
  have ih0 := impl_Entry_with_impl_PutEntry_1_10069049.mono_l k
  · intro y0 y1 y2 y3 y4 y5 y6 y7 y8 y9 y10 y11
    unfold impl_Entry_with_impl_PutEntry_1_10069049.l0
    repeat' first
     | (with_reducible first | exact ih0 .. | exact LeO.refl _ | exact LeO.none _ | refine LeO.ite ?_ ?_ | refine LeO.bind ?_ (fun _ => ?_))
     | exact LeO.none _
     | refine LeO.ite ?_ ?_
     | refine LeO.bind ?_ (fun _ => ?_)
theorem impl_Entry_with_impl_PutEntry_1_10069049.mono : ∀ a0 a1 a2 a3 a4 a5 a6 a7 a8 a9 k, LeO (impl_Entry_with_impl_PutEntry_1_10069049.f k a0 a1 a2 a3 a4 a5 a6 a7 a8 a9) (impl_Entry_with_impl_PutEntry_1_10069049.f (k + 1) a0 a1 a2 a3 a4 a5 a6 a7 a8 a9) := by
 intro a0 a1 a2 a3 a4 a5 a6 a7 a8 a9 k
 have ih0 := impl_Entry_with_impl_PutEntry_1_10069049.mono_l k
 unfold impl_Entry_with_impl_PutEntry_1_10069049.f
 repeat' first
  | (with_reducible first | exact ih0 .. | exact LeO.refl _ | exact LeO.none _ | refine LeO.ite ?_ ?_ | refine LeO.bind ?_ (fun _ => ?_))
  | exact LeO.none _
  | refine LeO.ite ?_ ?_
  | refine LeO.bind ?_ (fun _ => ?_)
set_option maxHeartbeats 8000000 in
set_option maxRecDepth 100000 in
theorem impl_Entry_with_impl_PutEntry_1_10069049.calls (k : Nat) (A0 : Option Addr) (c0 : Nat) (l0 : List (S45)) (g1_ : Nat) (a1_0 : ByteArray) (a1_1 : Int) (a1_2 : Int) (a1_3 : Int) (a1_4 : Int) (a1_5 : Int) (a1_6 : Int) (A1_7 : Option Addr) (c1_7 : Nat) (l1_7 : List Int) (a1_8 : Bool) (r : Int) (w : World) (hr0 : Kd.C k45 w A0 l0.length l0) (hc0 : l0.length ≤ c0) (hb1_ : w.heap[g1_]? = some (.cells #[.string a1_0, .int .i64 a1_1, .int .i64 a1_2, .int .i64 a1_3, .int .i64 a1_4, .int .i64 a1_5, .int .i64 a1_6, .slice A1_7 l1_7.length c1_7, .bool a1_8] 45 (0, 0))) (hr1_7 : Kd.C (Kd.int .i64) w A1_7 l1_7.length l1_7) (hc1_7 : l1_7.length ≤ c1_7) (h : impl_Entry_with_impl_PutEntry_1_10069049.f k l0 a1_0 a1_1 a1_2 a1_3 a1_4 a1_5 a1_6 l1_7 a1_8 = some r) :
 Calls Try.prog 69 #[.slice A0 l0.length c0, .func (.func 49) #[] #[.pointer (some ⟨g1_, 0, none⟩)]] w fun e w' => e = .returned (.int .i64 r) ∧ Below w.heap.size w w' := by
 have hu45 := Try.underlying45
 have HR0 := aM hr0
 have HC0 := aM hc0
 clear hr0 hc0
 have HR1_7 := aM hr1_7
 have HC1_7 := aM hc1_7
 clear hr1_7 hc1_7
 have BK1 := aM hb1_
 clear hb1_
 have HB := aM (Below.refl w.heap.size w)
 have H : (impl_Entry_with_impl_PutEntry_1_10069049.l0 k l0 (l0.length : Int) 0 a1_0 a1_1 a1_2 a1_3 a1_4 a1_5 a1_6 l1_7 a1_8) = some r := h
 clear h
 have H' := aM H
 clear H
 go_enter Try.func69, Try.ntmps69
 go_wp2
 go_loopg [8] k (fun kq v8 w' => ∃ (x8_1 : Int), v8 = .int .i64 x8_1 ∧ Aside0 (impl_Entry_with_impl_PutEntry_1_10069049.l0 kq l0 (l0.length : Int) x8_1 a1_0 a1_1 a1_2 a1_3 a1_4 a1_5 a1_6 l1_7 a1_8 = some r) ∧ Aside0 (kq ≤ k) ∧ Aside0 (w'.heap[g1_]? = some (.cells #[.string a1_0, .int .i64 a1_1, .int .i64 a1_2, .int .i64 a1_3, .int .i64 a1_4, .int .i64 a1_5, .int .i64 a1_6, (.slice A1_7 l1_7.length c1_7), .bool a1_8] 45 (0, 0))) ∧ Aside0 (Below w.heap.size w w'))
 case atStart => exact ⟨(0), z4458, H', ⟨Nat.le_refl _⟩, ⟨bkZ⟩, ⟨zcb41⟩⟩
 case round =>
  clear H'
  try clear c1
  try clear p2
  obtain ⟨x8_1, rfl, HA, HK1, BK1, HB⟩ := hrel
  cases gk with
  | zero => exact absurd HA.out (by simp [impl_Entry_with_impl_PutEntry_1_10069049.l0])
  | succ k1 =>
   have H := HA.out
   clear HA
   simp only [impl_Entry_with_impl_PutEntry_1_10069049.l0] at H
   by_cases c3 : x8_1 < (l0.length : Int)
   · rw [if_pos c3] at H
     have c3b0 : decide (x8_1 < (l0.length : Int)) = true := decide_eq_true c3
     clear c3
     replace H := ifS H; obtain ⟨c4, H⟩ := H
     have c4b0 : decide (0 ≤ x8_1) = true := decide_eq_true c4
     clear c4
     replace H := ifS H; obtain ⟨c5, H⟩ := H
     have c5b0 : decide (x8_1 < (l0.length : Int)) = true := decide_eq_true c5
     clear c5
     replace H := Option.bind_eq_some_iff.mp H
     obtain ⟨t102, A60, H⟩ := H
     try dsimp only at H
     have A6 := aM A60
     clear A60
     by_cases c7 : t102 = true
     · subst c7
       rw [if_pos rfl] at H
       obtain rfl := Option.some.inj H
       have p101 : 0 ≤ (x8_1 : Int) := of_decide_eq_true z1200
       have q101 : x8_1 < (l0.length : Int) := of_decide_eq_true z1200
       obtain ⟨ad101, A101_7, c101_7, e101, hx101_0, hx101_1, hx101_2, hx101_3, hx101_4, hx101_5, hx101_6, hx101_7, hx101_8, hl101_7, hi101_7⟩ := at_T45 HR0.out x8_1 p101 q101
       cases e101
       have TW101_7 := aM hx101_7
       replace hx101_0 := (HB.out.cell (World.block_lt_of_cell? w _ hx101_0)).trans hx101_0
       replace hx101_1 := (HB.out.cell (World.block_lt_of_cell? w _ hx101_1)).trans hx101_1
       replace hx101_2 := (HB.out.cell (World.block_lt_of_cell? w _ hx101_2)).trans hx101_2
       replace hx101_3 := (HB.out.cell (World.block_lt_of_cell? w _ hx101_3)).trans hx101_3
       replace hx101_4 := (HB.out.cell (World.block_lt_of_cell? w _ hx101_4)).trans hx101_4
       replace hx101_5 := (HB.out.cell (World.block_lt_of_cell? w _ hx101_5)).trans hx101_5
       replace hx101_6 := (HB.out.cell (World.block_lt_of_cell? w _ hx101_6)).trans hx101_6
       replace hx101_7 := (HB.out.cell (World.block_lt_of_cell? w _ hx101_7)).trans hx101_7
       replace hx101_8 := (HB.out.cell (World.block_lt_of_cell? w _ hx101_8)).trans hx101_8
       have HR101_7 := aM hi101_7
       have HC101_7 := aM hl101_7
       clear hi101_7 hl101_7
       replace p101 := eq_true p101
       replace q101 := eq_true q101
       go_wp2_with (first | (go_at_call 49; (with_reducible refine (impl_PutEntry_1.calls ((rd_T45 l0 x8_1).f0) ((rd_T45 l0 x8_1).f1) ((rd_T45 l0 x8_1).f2) ((rd_T45 l0 x8_1).f3.f0) ((rd_T45 l0 x8_1).f3.f1) ((rd_T45 l0 x8_1).f3.f2) ((rd_T45 l0 x8_1).f3.f3) _ _ ((rd_T45 l0 x8_1).f3.f4) ((rd_T45 l0 x8_1).f3.f5) g1_ a1_0 a1_1 a1_2 a1_3 a1_4 a1_5 a1_6 A1_7 c1_7 l1_7 a1_8 true _ ?side1 ?side2 ?side3 ?side4 ?side5 A6.out).mono ?_); (case side1 => exact (cZ (Kd.C_below HR101_7.out HB.out))); (case side2 => exact HC101_7.out); (case side3 => exact bkZ); (case side4 => exact (cZ (Kd.C_below HR1_7.out HB.out))); (case side5 => exact HC1_7.out); rintro e w8 ⟨rfl, hb⟩; have _ := bB g1_ hb; have _ := aM (below_step hbZ hb); clear BK1 HB; rename_i BK1 HB; (try clear hb)))
       go_ret
       exact ⟨z674d, zcb41⟩
     · replace c7 := Bool.eq_false_iff.mpr c7
       subst c7
       rw [if_neg (show ¬ (false = true) by decide)] at H
       have H' := aM H
       clear H
       have p101 : 0 ≤ (x8_1 : Int) := of_decide_eq_true z1200
       have q101 : x8_1 < (l0.length : Int) := of_decide_eq_true z1200
       obtain ⟨ad101, A101_7, c101_7, e101, hx101_0, hx101_1, hx101_2, hx101_3, hx101_4, hx101_5, hx101_6, hx101_7, hx101_8, hl101_7, hi101_7⟩ := at_T45 HR0.out x8_1 p101 q101
       cases e101
       have TW101_7 := aM hx101_7
       replace hx101_0 := (HB.out.cell (World.block_lt_of_cell? w _ hx101_0)).trans hx101_0
       replace hx101_1 := (HB.out.cell (World.block_lt_of_cell? w _ hx101_1)).trans hx101_1
       replace hx101_2 := (HB.out.cell (World.block_lt_of_cell? w _ hx101_2)).trans hx101_2
       replace hx101_3 := (HB.out.cell (World.block_lt_of_cell? w _ hx101_3)).trans hx101_3
       replace hx101_4 := (HB.out.cell (World.block_lt_of_cell? w _ hx101_4)).trans hx101_4
       replace hx101_5 := (HB.out.cell (World.block_lt_of_cell? w _ hx101_5)).trans hx101_5
       replace hx101_6 := (HB.out.cell (World.block_lt_of_cell? w _ hx101_6)).trans hx101_6
       replace hx101_7 := (HB.out.cell (World.block_lt_of_cell? w _ hx101_7)).trans hx101_7
       replace hx101_8 := (HB.out.cell (World.block_lt_of_cell? w _ hx101_8)).trans hx101_8
       have HR101_7 := aM hi101_7
       have HC101_7 := aM hl101_7
       clear hi101_7 hl101_7
       replace p101 := eq_true p101
       replace q101 := eq_true q101
       go_wp2_with (first | (go_at_call 49; (with_reducible refine (impl_PutEntry_1.calls ((rd_T45 l0 x8_1).f0) ((rd_T45 l0 x8_1).f1) ((rd_T45 l0 x8_1).f2) ((rd_T45 l0 x8_1).f3.f0) ((rd_T45 l0 x8_1).f3.f1) ((rd_T45 l0 x8_1).f3.f2) ((rd_T45 l0 x8_1).f3.f3) _ _ ((rd_T45 l0 x8_1).f3.f4) ((rd_T45 l0 x8_1).f3.f5) g1_ a1_0 a1_1 a1_2 a1_3 a1_4 a1_5 a1_6 A1_7 c1_7 l1_7 a1_8 false _ ?side1 ?side2 ?side3 ?side4 ?side5 A6.out).mono ?_); (case side1 => exact (cZ (Kd.C_below HR101_7.out HB.out))); (case side2 => exact HC101_7.out); (case side3 => exact bkZ); (case side4 => exact (cZ (Kd.C_below HR1_7.out HB.out))); (case side5 => exact HC1_7.out); rintro e w9 ⟨rfl, hb⟩; have _ := bB g1_ hb; have _ := aM (below_step hbZ hb); clear BK1 HB; rename_i BK1 HB; (try clear hb)))
       go_roundg k1
       case measure => have := HK1.out; omega
       case rel => exact ⟨(wrap64 (x8_1 + 1)), z4458, H', ⟨zfb39⟩, ⟨bkZ⟩, ⟨zcb41⟩⟩
   · rw [if_neg c3] at H
     have c3b0 : decide (x8_1 < (l0.length : Int)) = false := decide_eq_false c3
     clear c3
     obtain rfl := Option.some.inj H
     go_wp2
     go_ret
     exact ⟨z674d, zcb41⟩

end Go.Proofs.Ytdkokfnnebdppaa.P

-- written by a program of this session's (wip/pp)
namespace Go.Proofs.Ytdkokfnnebdppaa.P
open Go.RowKit Go.Proofs.YtdkokfnnebdppaaW.PrintWords Go.Proofs.YtdkokfnnebdppaaW.PrintLast Go.Proofs.YtdkokfnnebdppaaW.PrintMore
attribute [local go_sem] max2_int min2_int max_two min_two max_three min_three max_four min_four str_geq str_gtr str_leq   -- for this text's walks alone
set_option linter.unusedVariables false
set_option linter.unusedSimpArgs false

/-! ### impl_Entry_with_impl_PutEntry_1_10048049: function 10048049 -/
def impl_Entry_with_impl_PutEntry_1_10048049.f (k : Nat) (l0 : List (S45)) (a1_0 : ByteArray) (a1_1 : Int) (a1_2 : Int) (a1_3 : Int) (a1_4 : Int) (a1_5 : Int) (a1_6 : Int) (l1_7 : List Int) (a1_8 : Bool) : Option (Bool) := (impl_Entry_with_impl_PutEntry_1_10069049.f k l0 a1_0 a1_1 a1_2 a1_3 a1_4 a1_5 a1_6 l1_7 a1_8).bind fun t101 => (some (decide (t101 ≥ 0)))
theorem impl_Entry_with_impl_PutEntry_1_10048049.mono : ∀ a0 a1 a2 a3 a4 a5 a6 a7 a8 a9 k, LeO (impl_Entry_with_impl_PutEntry_1_10048049.f k a0 a1 a2 a3 a4 a5 a6 a7 a8 a9) (impl_Entry_with_impl_PutEntry_1_10048049.f (k + 1) a0 a1 a2 a3 a4 a5 a6 a7 a8 a9) := by
 intro a0 a1 a2 a3 a4 a5 a6 a7 a8 a9 k
 unfold impl_Entry_with_impl_PutEntry_1_10048049.f
 repeat' first
  | (with_reducible first | exact impl_Entry_with_impl_PutEntry_1_10069049.mono .. | exact LeO.refl _ | exact LeO.none _ | refine LeO.ite ?_ ?_ | refine LeO.bind ?_ (fun _ => ?_))
  | exact LeO.none _
  | refine LeO.ite ?_ ?_
  | refine LeO.bind ?_ (fun _ => ?_)
set_option maxHeartbeats 8000000 in
set_option maxRecDepth 100000 in
theorem impl_Entry_with_impl_PutEntry_1_10048049.calls (k : Nat) (A0 : Option Addr) (c0 : Nat) (l0 : List (S45)) (g1_ : Nat) (a1_0 : ByteArray) (a1_1 : Int) (a1_2 : Int) (a1_3 : Int) (a1_4 : Int) (a1_5 : Int) (a1_6 : Int) (A1_7 : Option Addr) (c1_7 : Nat) (l1_7 : List Int) (a1_8 : Bool) (r : Bool) (w : World) (hr0 : Kd.C k45 w A0 l0.length l0) (hc0 : l0.length ≤ c0) (hb1_ : w.heap[g1_]? = some (.cells #[.string a1_0, .int .i64 a1_1, .int .i64 a1_2, .int .i64 a1_3, .int .i64 a1_4, .int .i64 a1_5, .int .i64 a1_6, .slice A1_7 l1_7.length c1_7, .bool a1_8] 45 (0, 0))) (hr1_7 : Kd.C (Kd.int .i64) w A1_7 l1_7.length l1_7) (hc1_7 : l1_7.length ≤ c1_7) (h : impl_Entry_with_impl_PutEntry_1_10048049.f k l0 a1_0 a1_1 a1_2 a1_3 a1_4 a1_5 a1_6 l1_7 a1_8 = some r) :
 Calls Try.prog 48 #[.slice A0 l0.length c0, .func (.func 49) #[] #[.pointer (some ⟨g1_, 0, none⟩)]] w fun e w' => e = .returned (.bool r) ∧ Below w.heap.size w w' := by
 have HR0 := aM hr0
 have HC0 := aM hc0
 clear hr0 hc0
 have HR1_7 := aM hr1_7
 have HC1_7 := aM hc1_7
 clear hr1_7 hc1_7
 have BK1 := aM hb1_
 clear hb1_
 have HB := aM (Below.refl w.heap.size w)
 have H : ((impl_Entry_with_impl_PutEntry_1_10069049.f k l0 a1_0 a1_1 a1_2 a1_3 a1_4 a1_5 a1_6 l1_7 a1_8).bind fun t101 => (some (decide (t101 ≥ 0)))) = some r := h
 clear h
 replace H := Option.bind_eq_some_iff.mp H
 obtain ⟨t101, A30, H⟩ := H
 try dsimp only at H
 have A3 := aM A30
 clear A30
 obtain rfl := Option.some.inj H
 go_enter Try.func48, Try.ntmps48
 go_wp2_with (first | ((with_reducible refine gate_callee (f := 69) rfl ?_); refine goesL_ (some 7) rfl rfl Try.func69 (by kernel_rfl) rfl #[.slice A0 l0.length c0, .func (.func 49) #[] #[.pointer (some ⟨g1_, 0, none⟩)]] rfl zee81 ?_; (with_reducible refine (impl_Entry_with_impl_PutEntry_1_10069049.calls k _ _ l0 g1_ a1_0 a1_1 a1_2 a1_3 a1_4 a1_5 a1_6 A1_7 c1_7 l1_7 a1_8 t101 _ ?side1 ?side2 ?side3 ?side4 ?side5 A3.out).mono ?_); (case side1 => exact z4195); (case side2 => exact HC0.out); (case side3 => exact bkZ); (case side4 => exact (by repeat (first | exact HR1_7.out | (with_reducible refine Kd.C_alloc ?_ _) | (with_reducible refine Kd.C_drewN ?_ _) | (with_reducible refine Kd.C_drew ?_)))); (case side5 => exact HC1_7.out); rintro e w4 ⟨rfl, hb⟩; refine ⟨_, rfl, ?_⟩; have _ := bB g1_ hb; have _ := aM (below_step hbZ hb); clear BK1 HB; rename_i BK1 HB; (try clear hb)))
 go_ret
 exact ⟨z674d, zcb41⟩

end Go.Proofs.Ytdkokfnnebdppaa.P

-- written by a program of this session's (wip/pp)
namespace Go.Proofs.Ytdkokfnnebdppaa.P
open Go.RowKit Go.Proofs.YtdkokfnnebdppaaW.PrintWords Go.Proofs.YtdkokfnnebdppaaW.PrintLast Go.Proofs.YtdkokfnnebdppaaW.PrintMore
attribute [local go_sem] max2_int min2_int max_two min_two max_three min_three max_four min_four str_geq str_gtr str_leq   -- for this text's walks alone
set_option linter.unusedVariables false
set_option linter.unusedSimpArgs false

/-! ### impl_PutEntry: function 22 -/
def impl_PutEntry.f (k : Nat) (l0 : List (S45)) (a1_0 : ByteArray) (a1_1 : Int) (a1_2 : Int) (a1_3 : Int) (a1_4 : Int) (a1_5 : Int) (a1_6 : Int) (l1_7 : List Int) (a1_8 : Bool) : Option ((List (S45)) × Bool) := if (l0.length : Int) ≥ 60 then (some (([] : List (S45)), false)) else ((impl_GoodEntries.f k l0).bind fun t102 => (if t102 = true then ((impl_GoodEntry.f k a1_0 a1_1 a1_2 a1_3 a1_4 a1_5 a1_6 l1_7 a1_8).bind fun t103 => (if t103 = true then ((impl_Entry_with_impl_PutEntry_1_10048049.f k l0 a1_0 a1_1 a1_2 a1_3 a1_4 a1_5 a1_6 l1_7 a1_8).bind fun t104 => (if t104 = true then (some (([] : List (S45)), false)) else ((impl_withEntry.f k l0 a1_0 a1_1 a1_2 a1_3 a1_4 a1_5 a1_6 l1_7 a1_8).bind fun t105 => (some (t105, true))))) else (some (([] : List (S45)), false)))) else (some (([] : List (S45)), false))))
theorem impl_PutEntry.mono : ∀ a0 a1 a2 a3 a4 a5 a6 a7 a8 a9 k, LeO (impl_PutEntry.f k a0 a1 a2 a3 a4 a5 a6 a7 a8 a9) (impl_PutEntry.f (k + 1) a0 a1 a2 a3 a4 a5 a6 a7 a8 a9) := by
 intro a0 a1 a2 a3 a4 a5 a6 a7 a8 a9 k
 unfold impl_PutEntry.f
 repeat' first
  | (with_reducible first | exact impl_Entry_with_impl_PutEntry_1_10048049.mono .. | exact impl_GoodEntries.mono .. | exact impl_GoodEntry.mono .. | exact impl_withEntry.mono .. | exact LeO.refl _ | exact LeO.none _ | refine LeO.ite ?_ ?_ | refine LeO.bind ?_ (fun _ => ?_))
  | exact LeO.none _
  | refine LeO.ite ?_ ?_
  | refine LeO.bind ?_ (fun _ => ?_)
set_option maxHeartbeats 8000000 in
set_option maxRecDepth 100000 in
theorem impl_PutEntry.calls (k : Nat) (A0 : Option Addr) (c0 : Nat) (l0 : List (S45)) (a1_0 : ByteArray) (a1_1 : Int) (a1_2 : Int) (a1_3 : Int) (a1_4 : Int) (a1_5 : Int) (a1_6 : Int) (A1_7 : Option Addr) (c1_7 : Nat) (l1_7 : List Int) (a1_8 : Bool) (r1 : List (S45)) (r2 : Bool) (w : World) (hr0 : Kd.C k45 w A0 l0.length l0) (hc0 : l0.length ≤ c0) (hr1_7 : Kd.C (Kd.int .i64) w A1_7 l1_7.length l1_7) (hc1_7 : l1_7.length ≤ c1_7) (h : impl_PutEntry.f k l0 a1_0 a1_1 a1_2 a1_3 a1_4 a1_5 a1_6 l1_7 a1_8 = some (r1, r2)) :
 Calls Try.prog 22 #[.slice A0 l0.length c0, .agg #[.string a1_0, .int .i64 a1_1, .int .i64 a1_2, .int .i64 a1_3, .int .i64 a1_4, .int .i64 a1_5, .int .i64 a1_6, .slice A1_7 l1_7.length c1_7, .bool a1_8]] w fun e w' => ∃ v0_ : Value, e = .returned (.tuple #[v0_, .bool r2]) ∧ Kd.S k45 45 w' w.heap.size (fun _ => True) v0_ r1 ∧ Below w.heap.size w w' := by
 have hu45 := Try.underlying45
 have HR0 := aM hr0
 have HC0 := aM hc0
 clear hr0 hc0
 have HR1_7 := aM hr1_7
 have HC1_7 := aM hc1_7
 clear hr1_7 hc1_7
 have HB := aM (Below.refl w.heap.size w)
 have H : (if (l0.length : Int) ≥ 60 then (some (([] : List (S45)), false)) else ((impl_GoodEntries.f k l0).bind fun t102 => (if t102 = true then ((impl_GoodEntry.f k a1_0 a1_1 a1_2 a1_3 a1_4 a1_5 a1_6 l1_7 a1_8).bind fun t103 => (if t103 = true then ((impl_Entry_with_impl_PutEntry_1_10048049.f k l0 a1_0 a1_1 a1_2 a1_3 a1_4 a1_5 a1_6 l1_7 a1_8).bind fun t104 => (if t104 = true then (some (([] : List (S45)), false)) else ((impl_withEntry.f k l0 a1_0 a1_1 a1_2 a1_3 a1_4 a1_5 a1_6 l1_7 a1_8).bind fun t105 => (some (t105, true))))) else (some (([] : List (S45)), false)))) else (some (([] : List (S45)), false))))) = some (r1, r2) := h
 clear h
 by_cases c3 : (l0.length : Int) ≥ 60
 · rw [if_pos c3] at H
   have c3b0 : decide (60 ≤ (l0.length : Int)) = true := decide_eq_true c3
   have c3b1 : decide (60 ≤ l0.length) = true := decide_eq_true (by omega)
   clear c3
   simp only [Option.some.injEq, Prod.mk.injEq] at H
   obtain ⟨rfl, rfl⟩ := H
   go_enter Try.func22, Try.ntmps22
   go_wp2_with (first | ((with_reducible refine gate_dst (N := 3) rfl ?_); refine box_event ?hg (N := 3) ?hd (cs := #[.string a1_0, .int .i64 a1_1, .int .i64 a1_2, .int .i64 a1_3, .int .i64 a1_4, .int .i64 a1_5, .int .i64 a1_6, .slice A1_7 l1_7.length c1_7, .bool a1_8]) (t := 45) ?hr ?_; (case hd => rfl); (case hg => rfl); (case hr => first | (go_simp; done) | (go_simp; rfl)); intro gb101 hg w4 hbox hb; have _ := aM (below_step hbZ hb); have _ := aM hbox; have _ := szZ hg; have _ := szZ hg; clear HB; rename_i HB BK101 GW101 GE101; clear hb hbox hg))
   go_ret2
   exact ⟨_, z674d, z2bfb, zcb41⟩
 · rw [if_neg c3] at H
   have c3b0 : decide (60 ≤ (l0.length : Int)) = false := decide_eq_false c3
   have c3b1 : decide (60 ≤ l0.length) = false := decide_eq_false (by omega)
   clear c3
   replace H := Option.bind_eq_some_iff.mp H
   obtain ⟨t102, A50, H⟩ := H
   try dsimp only at H
   have A5 := aM A50
   clear A50
   by_cases c6 : t102 = true
   · subst c6
     rw [if_pos rfl] at H
     replace H := Option.bind_eq_some_iff.mp H
     obtain ⟨t103, A70, H⟩ := H
     try dsimp only at H
     have A7 := aM A70
     clear A70
     by_cases c8 : t103 = true
     · subst c8
       rw [if_pos rfl] at H
       replace H := Option.bind_eq_some_iff.mp H
       obtain ⟨t104, A90, H⟩ := H
       try dsimp only at H
       have A9 := aM A90
       clear A90
       by_cases c10 : t104 = true
       · subst c10
         rw [if_pos rfl] at H
         simp only [Option.some.injEq, Prod.mk.injEq] at H
         obtain ⟨rfl, rfl⟩ := H
         go_enter Try.func22, Try.ntmps22
         go_wp2_with (first | ((with_reducible refine gate_dst (N := 3) rfl ?_); refine box_event ?hg (N := 3) ?hd (cs := #[.string a1_0, .int .i64 a1_1, .int .i64 a1_2, .int .i64 a1_3, .int .i64 a1_4, .int .i64 a1_5, .int .i64 a1_6, .slice A1_7 l1_7.length c1_7, .bool a1_8]) (t := 45) ?hr ?_; (case hd => rfl); (case hg => rfl); (case hr => first | (go_simp; done) | (go_simp; rfl)); intro gb101 hg w11 hbox hb; have _ := aM (below_step hbZ hb); have _ := aM hbox; have _ := szZ hg; have _ := szZ hg; clear HB; rename_i HB BK101 GW101 GE101; clear hb hbox hg) | (go_at_call 28; (with_reducible refine (impl_GoodEntries.calls k _ _ l0 true _ ?side1 ?side2 A5.out).mono ?_); (case side1 => exact (cZ (Kd.C_below HR0.out HB.out))); (case side2 => exact HC0.out); rintro e w12 ⟨rfl, hb⟩; have _ := bB gb101 hb; have _ := aM (below_step hbZ hb); clear BK101 HB; rename_i BK101 HB; (try clear hb); obtain ⟨hcz13_0, hcz13_1, hcz13_2, hcz13_3, hcz13_4, hcz13_5, hcz13_6, hcz13_7, hcz13_8, hfz13_0, hfz13_1, hfz13_2, hfz13_3, hfz13_4, hfz13_5, hfz13_6, hfz13_7, hfz13_8⟩ := cellsZ9 BK101.out) | (go_at_call 47; (with_reducible refine (impl_GoodEntry.calls k a1_0 a1_1 a1_2 a1_3 a1_4 a1_5 a1_6 _ _ l1_7 a1_8 true _ ?side1 ?side2 A7.out).mono ?_); (case side1 => exact (cZ (Kd.C_below HR1_7.out HB.out))); (case side2 => exact HC1_7.out); rintro e w14 ⟨rfl, hb⟩; have _ := bB gb101 hb; have _ := aM (below_step hbZ hb); clear BK101 HB; rename_i BK101 HB; (try clear hb)) | (go_at_call 48; (with_reducible refine (impl_Entry_with_impl_PutEntry_1_10048049.calls k _ _ l0 gb101 a1_0 a1_1 a1_2 a1_3 a1_4 a1_5 a1_6 A1_7 c1_7 l1_7 a1_8 true _ ?side1 ?side2 ?side3 ?side4 ?side5 A9.out).mono ?_); (case side1 => exact (cZ (Kd.C_below HR0.out HB.out))); (case side2 => exact HC0.out); (case side3 => exact bkZ); (case side4 => exact (cZ (Kd.C_below HR1_7.out HB.out))); (case side5 => exact HC1_7.out); rintro e w15 ⟨rfl, hb⟩; have _ := bB gb101 hb; have _ := aM (below_step hbZ hb); clear BK101 HB; rename_i BK101 HB; (try clear hb)))
         go_ret2
         exact ⟨_, z674d, z2bfb, zcb41⟩
       · replace c10 := Bool.eq_false_iff.mpr c10
         subst c10
         rw [if_neg (show ¬ (false = true) by decide)] at H
         replace H := Option.bind_eq_some_iff.mp H
         obtain ⟨t105, A160, H⟩ := H
         try dsimp only at H
         have A16 := aM A160
         clear A160
         simp only [Option.some.injEq, Prod.mk.injEq] at H
         obtain ⟨rfl, rfl⟩ := H
         go_enter Try.func22, Try.ntmps22
         go_wp2_with (first | ((with_reducible refine gate_dst (N := 3) rfl ?_); refine box_event ?hg (N := 3) ?hd (cs := #[.string a1_0, .int .i64 a1_1, .int .i64 a1_2, .int .i64 a1_3, .int .i64 a1_4, .int .i64 a1_5, .int .i64 a1_6, .slice A1_7 l1_7.length c1_7, .bool a1_8]) (t := 45) ?hr ?_; (case hd => rfl); (case hg => rfl); (case hr => first | (go_simp; done) | (go_simp; rfl)); intro gb101 hg w17 hbox hb; have _ := aM (below_step hbZ hb); have _ := aM hbox; have _ := szZ hg; have _ := szZ hg; clear HB; rename_i HB BK101 GW101 GE101; clear hb hbox hg) | (go_at_call 28; (with_reducible refine (impl_GoodEntries.calls k _ _ l0 true _ ?side1 ?side2 A5.out).mono ?_); (case side1 => exact (cZ (Kd.C_below HR0.out HB.out))); (case side2 => exact HC0.out); rintro e w18 ⟨rfl, hb⟩; have _ := bB gb101 hb; have _ := aM (below_step hbZ hb); clear BK101 HB; rename_i BK101 HB; (try clear hb); obtain ⟨hcz19_0, hcz19_1, hcz19_2, hcz19_3, hcz19_4, hcz19_5, hcz19_6, hcz19_7, hcz19_8, hfz19_0, hfz19_1, hfz19_2, hfz19_3, hfz19_4, hfz19_5, hfz19_6, hfz19_7, hfz19_8⟩ := cellsZ9 BK101.out) | (go_at_call 47; (with_reducible refine (impl_GoodEntry.calls k a1_0 a1_1 a1_2 a1_3 a1_4 a1_5 a1_6 _ _ l1_7 a1_8 true _ ?side1 ?side2 A7.out).mono ?_); (case side1 => exact (cZ (Kd.C_below HR1_7.out HB.out))); (case side2 => exact HC1_7.out); rintro e w20 ⟨rfl, hb⟩; have _ := bB gb101 hb; have _ := aM (below_step hbZ hb); clear BK101 HB; rename_i BK101 HB; (try clear hb)) | (go_at_call 48; (with_reducible refine (impl_Entry_with_impl_PutEntry_1_10048049.calls k _ _ l0 gb101 a1_0 a1_1 a1_2 a1_3 a1_4 a1_5 a1_6 A1_7 c1_7 l1_7 a1_8 false _ ?side1 ?side2 ?side3 ?side4 ?side5 A9.out).mono ?_); (case side1 => exact (cZ (Kd.C_below HR0.out HB.out))); (case side2 => exact HC0.out); (case side3 => exact bkZ); (case side4 => exact (cZ (Kd.C_below HR1_7.out HB.out))); (case side5 => exact HC1_7.out); rintro e w21 ⟨rfl, hb⟩; have _ := bB gb101 hb; have _ := aM (below_step hbZ hb); clear BK101 HB; rename_i BK101 HB; (try clear hb); obtain ⟨hcz22_0, hcz22_1, hcz22_2, hcz22_3, hcz22_4, hcz22_5, hcz22_6, hcz22_7, hcz22_8, hfz22_0, hfz22_1, hfz22_2, hfz22_3, hfz22_4, hfz22_5, hfz22_6, hfz22_7, hfz22_8⟩ := cellsZ9 BK101.out) | ((with_reducible refine gate_callee (f := 50) rfl ?_); refine goesL_ (some 26) rfl rfl Try.func50 (by kernel_rfl) rfl #[.slice A0 l0.length c0, .agg #[.string a1_0, .int .i64 a1_1, .int .i64 a1_2, .int .i64 a1_3, .int .i64 a1_4, .int .i64 a1_5, .int .i64 a1_6, .slice A1_7 l1_7.length c1_7, .bool a1_8]] rfl zee81 ?_; (with_reducible refine (impl_withEntry.calls k _ _ l0 a1_0 a1_1 a1_2 a1_3 a1_4 a1_5 a1_6 _ _ l1_7 a1_8 t105 _ ?side1 ?side2 ?side3 ?side4 A16.out).mono ?_); (case side1 => exact (cZ (Kd.C_below HR0.out HB.out))); (case side2 => exact HC0.out); (case side3 => exact (cZ (Kd.C_below HR1_7.out HB.out))); (case side4 => exact HC1_7.out); rintro e w23 ⟨v106, rfl, ho0, hb⟩; refine ⟨_, rfl, ?_⟩; have _ := aM (Kd.S_lower (Kd.S_newB ho0 (g := gb101) bkZ) (below_size hbZ)); have _ := bB gb101 hb; have _ := aM (below_step hbZ hb); clear BK101 HB; rename_i HO107 BK101 HB; (try clear hb); (try clear ho0)))
         go_ret2
         exact ⟨_, z674d, by (with_reducible repeat (first | apply Kd.S_alloc | apply Kd.S_drewN | apply Kd.S_drew)); exact Kd.S_mono HO107.out (fun _ hk => trivial), zcb41⟩
     · replace c8 := Bool.eq_false_iff.mpr c8
       subst c8
       rw [if_neg (show ¬ (false = true) by decide)] at H
       simp only [Option.some.injEq, Prod.mk.injEq] at H
       obtain ⟨rfl, rfl⟩ := H
       go_enter Try.func22, Try.ntmps22
       go_wp2_with (first | ((with_reducible refine gate_dst (N := 3) rfl ?_); refine box_event ?hg (N := 3) ?hd (cs := #[.string a1_0, .int .i64 a1_1, .int .i64 a1_2, .int .i64 a1_3, .int .i64 a1_4, .int .i64 a1_5, .int .i64 a1_6, .slice A1_7 l1_7.length c1_7, .bool a1_8]) (t := 45) ?hr ?_; (case hd => rfl); (case hg => rfl); (case hr => first | (go_simp; done) | (go_simp; rfl)); intro gb101 hg w24 hbox hb; have _ := aM (below_step hbZ hb); have _ := aM hbox; have _ := szZ hg; have _ := szZ hg; clear HB; rename_i HB BK101 GW101 GE101; clear hb hbox hg) | (go_at_call 28; (with_reducible refine (impl_GoodEntries.calls k _ _ l0 true _ ?side1 ?side2 A5.out).mono ?_); (case side1 => exact (cZ (Kd.C_below HR0.out HB.out))); (case side2 => exact HC0.out); rintro e w25 ⟨rfl, hb⟩; have _ := bB gb101 hb; have _ := aM (below_step hbZ hb); clear BK101 HB; rename_i BK101 HB; (try clear hb); obtain ⟨hcz26_0, hcz26_1, hcz26_2, hcz26_3, hcz26_4, hcz26_5, hcz26_6, hcz26_7, hcz26_8, hfz26_0, hfz26_1, hfz26_2, hfz26_3, hfz26_4, hfz26_5, hfz26_6, hfz26_7, hfz26_8⟩ := cellsZ9 BK101.out) | (go_at_call 47; (with_reducible refine (impl_GoodEntry.calls k a1_0 a1_1 a1_2 a1_3 a1_4 a1_5 a1_6 _ _ l1_7 a1_8 false _ ?side1 ?side2 A7.out).mono ?_); (case side1 => exact (cZ (Kd.C_below HR1_7.out HB.out))); (case side2 => exact HC1_7.out); rintro e w27 ⟨rfl, hb⟩; have _ := bB gb101 hb; have _ := aM (below_step hbZ hb); clear BK101 HB; rename_i BK101 HB; (try clear hb)))
       go_ret2
       exact ⟨_, z674d, z2bfb, zcb41⟩
   · replace c6 := Bool.eq_false_iff.mpr c6
     subst c6
     rw [if_neg (show ¬ (false = true) by decide)] at H
     simp only [Option.some.injEq, Prod.mk.injEq] at H
     obtain ⟨rfl, rfl⟩ := H
     go_enter Try.func22, Try.ntmps22
     go_wp2_with (first | ((with_reducible refine gate_dst (N := 3) rfl ?_); refine box_event ?hg (N := 3) ?hd (cs := #[.string a1_0, .int .i64 a1_1, .int .i64 a1_2, .int .i64 a1_3, .int .i64 a1_4, .int .i64 a1_5, .int .i64 a1_6, .slice A1_7 l1_7.length c1_7, .bool a1_8]) (t := 45) ?hr ?_; (case hd => rfl); (case hg => rfl); (case hr => first | (go_simp; done) | (go_simp; rfl)); intro gb101 hg w28 hbox hb; have _ := aM (below_step hbZ hb); have _ := aM hbox; have _ := szZ hg; have _ := szZ hg; clear HB; rename_i HB BK101 GW101 GE101; clear hb hbox hg) | (go_at_call 28; (with_reducible refine (impl_GoodEntries.calls k _ _ l0 false _ ?side1 ?side2 A5.out).mono ?_); (case side1 => exact (cZ (Kd.C_below HR0.out HB.out))); (case side2 => exact HC0.out); rintro e w29 ⟨rfl, hb⟩; have _ := bB gb101 hb; have _ := aM (below_step hbZ hb); clear BK101 HB; rename_i BK101 HB; (try clear hb)))
     go_ret2
     exact ⟨_, z674d, z2bfb, zcb41⟩

end Go.Proofs.Ytdkokfnnebdppaa.P

-- written by a program of this session's (wip/pp)
namespace Go.Proofs.Ytdkokfnnebdppaa.P
open Go.RowKit Go.Proofs.YtdkokfnnebdppaaW.PrintWords Go.Proofs.YtdkokfnnebdppaaW.PrintLast Go.Proofs.YtdkokfnnebdppaaW.PrintMore
attribute [local go_sem] max2_int min2_int max_two min_two max_three min_three max_four min_four str_geq str_gtr str_leq   -- for this text's walks alone
set_option linter.unusedVariables false
set_option linter.unusedSimpArgs false

/-! ### laws_markAgg: function 14 -/
def laws_markAgg.f (k : Nat) (a0_0 : Int) (a0_1 : Int) (a0_2 : Int) (a0_3 : Int) (l0_4 : List Int) (a0_5 : Bool) (a1 : Int) : Option (Int × List Int) := (laws_markIntS.f k l0_4 a1).bind fun bt102 => (some (bt102.1, bt102.2))
theorem laws_markAgg.mono : ∀ a0 a1 a2 a3 a4 a5 a6 k, LeO (laws_markAgg.f k a0 a1 a2 a3 a4 a5 a6) (laws_markAgg.f (k + 1) a0 a1 a2 a3 a4 a5 a6) := by
 intro a0 a1 a2 a3 a4 a5 a6 k
 unfold laws_markAgg.f
 repeat' first
  | (with_reducible first | exact laws_markIntS.mono .. | exact LeO.refl _ | exact LeO.none _ | refine LeO.ite ?_ ?_ | refine LeO.bind ?_ (fun _ => ?_))
  | exact LeO.none _
  | refine LeO.ite ?_ ?_
  | refine LeO.bind ?_ (fun _ => ?_)
set_option maxHeartbeats 8000000 in
set_option maxRecDepth 100000 in
theorem laws_markAgg.calls (k : Nat) (a0_0 : Int) (a0_1 : Int) (a0_2 : Int) (a0_3 : Int) (P0_4_ : Nat → Prop) (u9000_ : Value) (l0_4 : List Int) (a0_5 : Bool) (a1 : Int) (r1 : Int) (r2 : List Int) (w0 w : World) (hB : Below w0.heap.size w0 w) (ho0_4 : Kd.R (Kd.int .i64) 3 w w0.heap.size P0_4_ u9000_ l0_4) (h : laws_markAgg.f k a0_0 a0_1 a0_2 a0_3 l0_4 a0_5 a1 = some (r1, r2)) :
 Calls Try.prog 14 #[.agg #[.int .i64 a0_0, .int .i64 a0_1, .int .i64 a0_2, .int .i64 a0_3, u9000_, .bool a0_5], .int .i64 a1] w fun e w' => e = .returned (.int .i64 r1) ∧ Kd.R (Kd.int .i64) 3 w' w0.heap.size (fun k_ => (P0_4_ k_ ∨ w.heap.size ≤ k_)) u9000_ r2 ∧ Below w0.heap.size w0 w' ∧ Kept w w' (fun k_ => P0_4_ k_) := by
 have hu26 := Try.underlying26
 have HO0_4 := aM (show Kd.R (Kd.int .i64) 3 w w0.heap.size (fun k_ => (P0_4_ k_ ∨ w.heap.size ≤ k_)) u9000_ l0_4 from Kd.R_mono ho0_4 (fun k_ hk => (.inl hk)))
 have HK := aM (Kept.refl w (fun k_ => P0_4_ k_))
 have HW0 := aM hB.size
 have HB := aM hB
 clear hB
 have H : ((laws_markIntS.f k l0_4 a1).bind fun bt102 => (some (bt102.1, bt102.2))) = some (r1, r2) := h
 clear h
 replace H := Option.bind_eq_some_iff.mp H
 obtain ⟨⟨t102, t103⟩, A30, H⟩ := H
 try dsimp only at H
 have A3 := aM A30
 clear A30
 simp only [Option.some.injEq, Prod.mk.injEq] at H
 obtain ⟨rfl, rfl⟩ := H
 obtain ⟨Ao4, co4, eo4⟩ := Kd.R_slice HO0_4.out
 subst eo4
 go_enter Try.func14, Try.ntmps14
 go_wp2_with (first | ((with_reducible refine gate_dst (N := 2) rfl ?_); refine box_event ?hg (N := 2) ?hd (cs := #[.int .i64 a0_0, .int .i64 a0_1, .int .i64 a0_2, .int .i64 a0_3, .slice Ao4 l0_4.length co4, .bool a0_5]) (t := 26) ?hr ?_; (case hd => rfl); (case hg => rfl); (case hr => first | (go_simp; done) | (go_simp; rfl)); intro gb101 hg w5 hbox hb; have _ := aM (Kd.R_below (rZ HO0_4.out) hb); have _ := aM (Kept.below (S := (fun k_ => P0_4_ k_)) (by repeat (first | (with_reducible first | exact HK.out | apply Kept.alloc | apply Kept.drewN | apply Kept.drew) | exact HK.out)) hb); have _ := aM (below_step hbZ hb); have _ := aM hbox; have _ := aM ((by rw [hg]; exact (by first | exact HK.out.1 | exact (show Kept w _ (fun k_ => P0_4_ k_) from by repeat (first | (with_reducible first | exact HK.out | apply Kept.alloc | apply Kept.drewN | apply Kept.drew) | exact HK.out)).1) : w.heap.size ≤ gb101)); have _ := szZ hg; clear HO0_4 HK HB; rename_i HO0_4 HK HB BK101 GW101 GE101; clear hb hbox hg; obtain ⟨hcz6_0, hcz6_1, hcz6_2, hcz6_3, hcz6_4, hcz6_5, hfz6_0, hfz6_1, hfz6_2, hfz6_3, hfz6_4, hfz6_5⟩ := cellsZ6 BK101.out) | ((with_reducible refine gate_callee (f := 38) rfl ?_); refine goesL_ (some 8) rfl rfl Try.func38 (by kernel_rfl) rfl #[.slice Ao4 l0_4.length co4, .int .i64 a1] rfl zee81 ?_; (with_reducible refine (laws_markIntS.calls k (fun k_ => some k_ = (.slice Ao4 l0_4.length co4 : Value).ownBlock) (.slice Ao4 l0_4.length co4) l0_4 a1 t102 t103 w0 _ ?side1 ?side2 A3.out).mono ?_); (case side1 => exact zcb41); (case side2 => exact Kd.R_tight rfl HO0_4.out); rintro e w7 ⟨rfl, hy0, hb, hkp⟩; refine ⟨_, rfl, ?_⟩; have _ := aM (Kd.R_reok rfl hy0 (fun k_ e_ => HO0_4.out.1 k_ e_)); have _ := aM (blk_kept bkZ hkp (fun hs_ => (fun e_ => (Kd.R_ne HO0_4.out BK101.out (by decide)) e_) hs_)); have _ := aM (Kept.then_ (S := (fun k_ => P0_4_ k_)) (by repeat (first | (with_reducible first | exact HK.out | apply Kept.alloc | apply Kept.drewN | apply Kept.drew | refine Kept.setCell ?_ (.inr GW101.out) _) | exact HK.out)) hkp (fun k_ hs_ => (fun e_ => (HO0_4.out.1 k_ e_.symm)) hs_)); have _ := aM hb; clear HO0_4 BK101 HK HB; rename_i HO0_4 BK101 HK HB; (try clear hb); (try clear hkp); (try clear hy0)))
 go_ret
 exact ⟨z674d, rZ HO0_4.out, zcb41, by repeat (first | (with_reducible first | exact HK.out | apply Kept.alloc | apply Kept.drewN | apply Kept.drew | refine Kept.setCell ?_ (.inr GW101.out) _) | exact HK.out)⟩

end Go.Proofs.Ytdkokfnnebdppaa.P

-- written by a program of this session's (wip/pp)
namespace Go.Proofs.Ytdkokfnnebdppaa.P
open Go.RowKit Go.Proofs.YtdkokfnnebdppaaW.PrintWords Go.Proofs.YtdkokfnnebdppaaW.PrintLast Go.Proofs.YtdkokfnnebdppaaW.PrintMore
attribute [local go_sem] max2_int min2_int max_two min_two max_three min_three max_four min_four str_geq str_gtr str_leq   -- for this text's walks alone
set_option linter.unusedVariables false
set_option linter.unusedSimpArgs false

/-! ### laws_markEntry: function 24 -/
def laws_markEntry.f (k : Nat) (a0_0 : ByteArray) (a0_1 : Int) (a0_2 : Int) (a0_3 : Int) (a0_4 : Int) (a0_5 : Int) (a0_6 : Int) (l0_7 : List Int) (a0_8 : Bool) (a1 : Int) : Option (Int × List Int) := (laws_markAgg.f k a0_3 a0_4 a0_5 a0_6 l0_7 a0_8 a1).bind fun bt102 => (some (bt102.1, bt102.2))
theorem laws_markEntry.mono : ∀ a0 a1 a2 a3 a4 a5 a6 a7 a8 a9 k, LeO (laws_markEntry.f k a0 a1 a2 a3 a4 a5 a6 a7 a8 a9) (laws_markEntry.f (k + 1) a0 a1 a2 a3 a4 a5 a6 a7 a8 a9) := by
 intro a0 a1 a2 a3 a4 a5 a6 a7 a8 a9 k
 unfold laws_markEntry.f
 repeat' first
  | (with_reducible first | exact laws_markAgg.mono .. | exact LeO.refl _ | exact LeO.none _ | refine LeO.ite ?_ ?_ | refine LeO.bind ?_ (fun _ => ?_))
  | exact LeO.none _
  | refine LeO.ite ?_ ?_
  | refine LeO.bind ?_ (fun _ => ?_)
set_option maxHeartbeats 8000000 in
set_option maxRecDepth 100000 in
theorem laws_markEntry.calls (k : Nat) (a0_0 : ByteArray) (a0_1 : Int) (a0_2 : Int) (a0_3 : Int) (a0_4 : Int) (a0_5 : Int) (a0_6 : Int) (P0_7_ : Nat → Prop) (u9000_ : Value) (l0_7 : List Int) (a0_8 : Bool) (a1 : Int) (r1 : Int) (r2 : List Int) (w0 w : World) (hB : Below w0.heap.size w0 w) (ho0_7 : Kd.R (Kd.int .i64) 3 w w0.heap.size P0_7_ u9000_ l0_7) (h : laws_markEntry.f k a0_0 a0_1 a0_2 a0_3 a0_4 a0_5 a0_6 l0_7 a0_8 a1 = some (r1, r2)) :
 Calls Try.prog 24 #[.agg #[.string a0_0, .int .i64 a0_1, .int .i64 a0_2, .int .i64 a0_3, .int .i64 a0_4, .int .i64 a0_5, .int .i64 a0_6, u9000_, .bool a0_8], .int .i64 a1] w fun e w' => e = .returned (.int .i64 r1) ∧ Kd.R (Kd.int .i64) 3 w' w0.heap.size (fun k_ => (P0_7_ k_ ∨ w.heap.size ≤ k_)) u9000_ r2 ∧ Below w0.heap.size w0 w' ∧ Kept w w' (fun k_ => P0_7_ k_) := by
 have hu45 := Try.underlying45
 have hu26 := Try.underlying26
 have HO0_7 := aM (show Kd.R (Kd.int .i64) 3 w w0.heap.size (fun k_ => (P0_7_ k_ ∨ w.heap.size ≤ k_)) u9000_ l0_7 from Kd.R_mono ho0_7 (fun k_ hk => (.inl hk)))
 have HK := aM (Kept.refl w (fun k_ => P0_7_ k_))
 have HW0 := aM hB.size
 have HB := aM hB
 clear hB
 have H : ((laws_markAgg.f k a0_3 a0_4 a0_5 a0_6 l0_7 a0_8 a1).bind fun bt102 => (some (bt102.1, bt102.2))) = some (r1, r2) := h
 clear h
 replace H := Option.bind_eq_some_iff.mp H
 obtain ⟨⟨t102, t103⟩, A30, H⟩ := H
 try dsimp only at H
 have A3 := aM A30
 clear A30
 simp only [Option.some.injEq, Prod.mk.injEq] at H
 obtain ⟨rfl, rfl⟩ := H
 obtain ⟨Ao4, co4, eo4⟩ := Kd.R_slice HO0_7.out
 subst eo4
 go_enter Try.func24, Try.ntmps24
 go_wp2_with (first | ((with_reducible refine gate_dst (N := 2) rfl ?_); refine box_event ?hg (N := 2) ?hd (cs := #[.string a0_0, .int .i64 a0_1, .int .i64 a0_2, .int .i64 a0_3, .int .i64 a0_4, .int .i64 a0_5, .int .i64 a0_6, .slice Ao4 l0_7.length co4, .bool a0_8]) (t := 45) ?hr ?_; (case hd => rfl); (case hg => rfl); (case hr => first | (go_simp; done) | (go_simp; rfl)); intro gb101 hg w5 hbox hb; have _ := aM (Kd.R_below (rZ HO0_7.out) hb); have _ := aM (Kept.below (S := (fun k_ => P0_7_ k_)) (by repeat (first | (with_reducible first | exact HK.out | apply Kept.alloc | apply Kept.drewN | apply Kept.drew) | exact HK.out)) hb); have _ := aM (below_step hbZ hb); have _ := aM hbox; have _ := aM ((by rw [hg]; exact (by first | exact HK.out.1 | exact (show Kept w _ (fun k_ => P0_7_ k_) from by repeat (first | (with_reducible first | exact HK.out | apply Kept.alloc | apply Kept.drewN | apply Kept.drew) | exact HK.out)).1) : w.heap.size ≤ gb101)); have _ := szZ hg; clear HO0_7 HK HB; rename_i HO0_7 HK HB BK101 GW101 GE101; clear hb hbox hg; obtain ⟨hcz6_0, hcz6_1, hcz6_2, hcz6_3, hcz6_4, hcz6_5, hcz6_6, hcz6_7, hcz6_8, hfz6_0, hfz6_1, hfz6_2, hfz6_3, hfz6_4, hfz6_5, hfz6_6, hfz6_7, hfz6_8⟩ := cellsZ9 BK101.out) | ((with_reducible refine gate_callee (f := 14) rfl ?_); refine goesL_ (some 8) rfl rfl Try.func14 (by kernel_rfl) rfl #[.agg #[.int .i64 a0_3, .int .i64 a0_4, .int .i64 a0_5, .int .i64 a0_6, .slice Ao4 l0_7.length co4, .bool a0_8], .int .i64 a1] rfl zee81 ?_; (with_reducible refine (laws_markAgg.calls k a0_3 a0_4 a0_5 a0_6 (fun k_ => some k_ = (.slice Ao4 l0_7.length co4 : Value).ownBlock) (.slice Ao4 l0_7.length co4) l0_7 a0_8 a1 t102 t103 w0 _ ?side1 ?side2 A3.out).mono ?_); (case side1 => exact zcb41); (case side2 => exact Kd.R_tight rfl HO0_7.out); rintro e w7 ⟨rfl, hy0, hb, hkp⟩; refine ⟨_, rfl, ?_⟩; have _ := aM (Kd.R_reok rfl hy0 (fun k_ e_ => HO0_7.out.1 k_ e_)); have _ := aM (blk_kept bkZ hkp (fun hs_ => (fun e_ => (Kd.R_ne HO0_7.out BK101.out (by decide)) e_) hs_)); have _ := aM (Kept.then_ (S := (fun k_ => P0_7_ k_)) (by repeat (first | (with_reducible first | exact HK.out | apply Kept.alloc | apply Kept.drewN | apply Kept.drew | refine Kept.setCell ?_ (.inr GW101.out) _) | exact HK.out)) hkp (fun k_ hs_ => (fun e_ => (HO0_7.out.1 k_ e_.symm)) hs_)); have _ := aM hb; clear HO0_7 BK101 HK HB; rename_i HO0_7 BK101 HK HB; (try clear hb); (try clear hkp); (try clear hy0)))
 go_ret
 exact ⟨z674d, rZ HO0_7.out, zcb41, by repeat (first | (with_reducible first | exact HK.out | apply Kept.alloc | apply Kept.drewN | apply Kept.drew | refine Kept.setCell ?_ (.inr GW101.out) _) | exact HK.out)⟩

end Go.Proofs.Ytdkokfnnebdppaa.P

-- written by a program of this session's (wip/pp)
namespace Go.Proofs.Ytdkokfnnebdppaa.P
open Go.RowKit Go.Proofs.YtdkokfnnebdppaaW.PrintWords Go.Proofs.YtdkokfnnebdppaaW.PrintLast Go.Proofs.YtdkokfnnebdppaaW.PrintMore
attribute [local go_sem] max2_int min2_int max_two min_two max_three min_three max_four min_four str_geq str_gtr str_leq   -- for this text's walks alone
set_option linter.unusedVariables false
set_option linter.unusedSimpArgs false

/-! ### laws_szEntryS: function 7 -/
def laws_szEntryS.l0 : Nat → List (S41) → Int → Int → Option (Int)
 | 0, _, _, _ => none
 | k + 1, x0, x1, x5 => if x5 < (x0.length : Int) then (if 0 ≤ x5 then ((laws_szEntry.f ((rd_T41 x0 x5).f0) ((rd_T41 x0 x5).f1) ((rd_T41 x0 x5).f2) ((rd_T41 x0 x5).f3.f0) ((rd_T41 x0 x5).f3.f1) ((rd_T41 x0 x5).f3.f2) ((rd_T41 x0 x5).f3.f3) ((rd_T41 x0 x5).f3.f4) ((rd_T41 x0 x5).f3.f5) x1).bind fun t102 => (if t102 < 0 then (some (-1)) else (laws_szEntryS.l0 k x0 t102 (wrap64 (x5 + 1))))) else (none)) else (some x1)
def laws_szEntryS.f (k : Nat) (l0 : List (S41)) (a1 : Int) : Option (Int) := if (wrap64 (a1 - (l0.length : Int))) < 0 then (some (-1)) else (laws_szEntryS.l0 k l0 (wrap64 (a1 - (l0.length : Int))) 0)
theorem laws_szEntryS.mono_l : ∀ k, (∀ y0 y1 y2, LeO (laws_szEntryS.l0 k y0 y1 y2) (laws_szEntryS.l0 (k + 1) y0 y1 y2))
 | 0 => fun _ _ _ r h => by simp [laws_szEntryS.l0] at h
 | k + 1 => by
  have ih0 := laws_szEntryS.mono_l k
  · intro y0 y1 y2
    unfold laws_szEntryS.l0
    repeat' first
     | (with_reducible first | exact ih0 .. | exact LeO.refl _ | exact LeO.none _ | refine LeO.ite ?_ ?_ | refine LeO.bind ?_ (fun _ => ?_))
     | exact LeO.none _
     | refine LeO.ite ?_ ?_
     | refine LeO.bind ?_ (fun _ => ?_)
theorem laws_szEntryS.mono : ∀ a0 a1 k, LeO (laws_szEntryS.f k a0 a1) (laws_szEntryS.f (k + 1) a0 a1) := by
 intro a0 a1 k
 have ih0 := laws_szEntryS.mono_l k
 unfold laws_szEntryS.f
 repeat' first
  | (with_reducible first | exact ih0 .. | exact LeO.refl _ | exact LeO.none _ | refine LeO.ite ?_ ?_ | refine LeO.bind ?_ (fun _ => ?_))
  | exact LeO.none _
  | refine LeO.ite ?_ ?_
  | refine LeO.bind ?_ (fun _ => ?_)
set_option maxHeartbeats 8000000 in
set_option maxRecDepth 100000 in
theorem laws_szEntryS.calls (k : Nat) (A0 : Option Addr) (c0 : Nat) (l0 : List (S41)) (a1 : Int) (r : Int) (w : World) (hr0 : Kd.C k41 w A0 l0.length l0) (hc0 : l0.length ≤ c0) (h : laws_szEntryS.f k l0 a1 = some r) :
 Calls Try.prog 7 #[.slice A0 l0.length c0, .int .i64 a1] w fun e w' => e = .returned (.int .i64 r) ∧ Below w.heap.size w w' := by
 have hu41 := Try.underlying41
 have HR0 := aM hr0
 have HC0 := aM hc0
 clear hr0 hc0
 have HB := aM (Below.refl w.heap.size w)
 have H : (if (wrap64 (a1 - (l0.length : Int))) < 0 then (some (-1)) else (laws_szEntryS.l0 k l0 (wrap64 (a1 - (l0.length : Int))) 0)) = some r := h
 clear h
 by_cases c3 : (wrap64 (a1 - (l0.length : Int))) < 0
 · rw [if_pos c3] at H
   have c3b0 : decide ((wrap64 (a1 - (l0.length : Int))) < 0) = true := decide_eq_true c3
   clear c3
   obtain rfl := Option.some.inj H
   go_enter Try.func7, Try.ntmps7
   go_wp2
   go_ret
   exact ⟨z674d, z5acd⟩
 · rw [if_neg c3] at H
   have c3b0 : decide ((wrap64 (a1 - (l0.length : Int))) < 0) = false := decide_eq_false c3
   clear c3
   have H' := aM H
   clear H
   go_enter Try.func7, Try.ntmps7
   go_wp2
   go_loopg [1, 5] k (fun kq v1 v5 w' => ∃ (x1_1 : Int) (x5_1 : Int), v1 = .int .i64 x1_1 ∧ v5 = .int .i64 x5_1 ∧ Aside0 (laws_szEntryS.l0 kq l0 x1_1 x5_1 = some r) ∧ Aside0 (kq ≤ k) ∧ Aside0 (Below w.heap.size w w'))
   case atStart => exact ⟨(wrap64 (a1 - (l0.length : Int))), (0), z4458, z4458, H', ⟨Nat.le_refl _⟩, ⟨z5acd⟩⟩
   case round =>
    clear H'
    try clear p2
    try clear c3
    try clear c3b0
    obtain ⟨x1_1, x5_1, rfl, rfl, HA, HK1, HB⟩ := hrel
    cases gk with
    | zero => exact absurd HA.out (by simp [laws_szEntryS.l0])
    | succ k1 =>
     have H := HA.out
     clear HA
     simp only [laws_szEntryS.l0] at H
     by_cases c4 : x5_1 < (l0.length : Int)
     · rw [if_pos c4] at H
       have c4b0 : decide (x5_1 < (l0.length : Int)) = true := decide_eq_true c4
       clear c4
       replace H := ifS H; obtain ⟨c5, H⟩ := H
       have c5b0 : decide (0 ≤ x5_1) = true := decide_eq_true c5
       clear c5
       replace H := Option.bind_eq_some_iff.mp H
       obtain ⟨t102, A60, H⟩ := H
       try dsimp only at H
       have A6 := aM A60
       clear A60
       by_cases c7 : t102 < 0
       · rw [if_pos c7] at H
         have c7b0 : decide (t102 < 0) = true := decide_eq_true c7
         clear c7
         obtain rfl := Option.some.inj H
         have p101 : 0 ≤ (x5_1 : Int) := of_decide_eq_true z1200
         have q101 : x5_1 < (l0.length : Int) := of_decide_eq_true z1200
         obtain ⟨ad101, A101_7, c101_7, e101, hx101_0, hx101_1, hx101_2, hx101_3, hx101_4, hx101_5, hx101_6, hx101_7, hx101_8, hl101_7, hi101_7⟩ := at_T41 HR0.out x5_1 p101 q101
         cases e101
         have TW101_7 := aM hx101_7
         replace hx101_0 := (HB.out.cell (World.block_lt_of_cell? w _ hx101_0)).trans hx101_0
         replace hx101_1 := (HB.out.cell (World.block_lt_of_cell? w _ hx101_1)).trans hx101_1
         replace hx101_2 := (HB.out.cell (World.block_lt_of_cell? w _ hx101_2)).trans hx101_2
         replace hx101_3 := (HB.out.cell (World.block_lt_of_cell? w _ hx101_3)).trans hx101_3
         replace hx101_4 := (HB.out.cell (World.block_lt_of_cell? w _ hx101_4)).trans hx101_4
         replace hx101_5 := (HB.out.cell (World.block_lt_of_cell? w _ hx101_5)).trans hx101_5
         replace hx101_6 := (HB.out.cell (World.block_lt_of_cell? w _ hx101_6)).trans hx101_6
         replace hx101_7 := (HB.out.cell (World.block_lt_of_cell? w _ hx101_7)).trans hx101_7
         replace hx101_8 := (HB.out.cell (World.block_lt_of_cell? w _ hx101_8)).trans hx101_8
         have HR101_7 := aM hi101_7
         have HC101_7 := aM hl101_7
         clear hi101_7 hl101_7
         replace p101 := eq_true p101
         replace q101 := eq_true q101
         go_wp2_with (first | ((with_reducible refine gate_callee (f := 19) rfl ?_); refine goesL_ (some 23) rfl rfl Try.func19 (by kernel_rfl) rfl #[.agg #[.string ((rd_T41 l0 x5_1).f0), .int .i64 ((rd_T41 l0 x5_1).f1), .int .i64 ((rd_T41 l0 x5_1).f2), .int .i64 ((rd_T41 l0 x5_1).f3.f0), .int .i64 ((rd_T41 l0 x5_1).f3.f1), .int .i64 ((rd_T41 l0 x5_1).f3.f2), .int .i64 ((rd_T41 l0 x5_1).f3.f3), .slice A101_7 ((rd_T41 l0 x5_1).f3.f4).length c101_7, .bool ((rd_T41 l0 x5_1).f3.f5)], .int .i64 x1_1] rfl zee81 ?_; (with_reducible refine (laws_szEntry.calls ((rd_T41 l0 x5_1).f0) ((rd_T41 l0 x5_1).f1) ((rd_T41 l0 x5_1).f2) ((rd_T41 l0 x5_1).f3.f0) ((rd_T41 l0 x5_1).f3.f1) ((rd_T41 l0 x5_1).f3.f2) ((rd_T41 l0 x5_1).f3.f3) _ _ ((rd_T41 l0 x5_1).f3.f4) ((rd_T41 l0 x5_1).f3.f5) x1_1 t102 _ ?side1 ?side2 A6.out).mono ?_); (case side1 => exact (cZ (Kd.C_below HR101_7.out HB.out))); (case side2 => exact HC101_7.out); rintro e w8 ⟨rfl, hb⟩; refine ⟨_, rfl, ?_⟩; have _ := aM (below_step hbZ hb); clear HB; rename_i HB; (try clear hb)))
         go_ret
         exact ⟨z674d, z5acd⟩
       · rw [if_neg c7] at H
         have c7b0 : decide (t102 < 0) = false := decide_eq_false c7
         clear c7
         have H' := aM H
         clear H
         have p101 : 0 ≤ (x5_1 : Int) := of_decide_eq_true z1200
         have q101 : x5_1 < (l0.length : Int) := of_decide_eq_true z1200
         obtain ⟨ad101, A101_7, c101_7, e101, hx101_0, hx101_1, hx101_2, hx101_3, hx101_4, hx101_5, hx101_6, hx101_7, hx101_8, hl101_7, hi101_7⟩ := at_T41 HR0.out x5_1 p101 q101
         cases e101
         have TW101_7 := aM hx101_7
         replace hx101_0 := (HB.out.cell (World.block_lt_of_cell? w _ hx101_0)).trans hx101_0
         replace hx101_1 := (HB.out.cell (World.block_lt_of_cell? w _ hx101_1)).trans hx101_1
         replace hx101_2 := (HB.out.cell (World.block_lt_of_cell? w _ hx101_2)).trans hx101_2
         replace hx101_3 := (HB.out.cell (World.block_lt_of_cell? w _ hx101_3)).trans hx101_3
         replace hx101_4 := (HB.out.cell (World.block_lt_of_cell? w _ hx101_4)).trans hx101_4
         replace hx101_5 := (HB.out.cell (World.block_lt_of_cell? w _ hx101_5)).trans hx101_5
         replace hx101_6 := (HB.out.cell (World.block_lt_of_cell? w _ hx101_6)).trans hx101_6
         replace hx101_7 := (HB.out.cell (World.block_lt_of_cell? w _ hx101_7)).trans hx101_7
         replace hx101_8 := (HB.out.cell (World.block_lt_of_cell? w _ hx101_8)).trans hx101_8
         have HR101_7 := aM hi101_7
         have HC101_7 := aM hl101_7
         clear hi101_7 hl101_7
         replace p101 := eq_true p101
         replace q101 := eq_true q101
         go_wp2_with (first | ((with_reducible refine gate_callee (f := 19) rfl ?_); refine goesL_ (some 23) rfl rfl Try.func19 (by kernel_rfl) rfl #[.agg #[.string ((rd_T41 l0 x5_1).f0), .int .i64 ((rd_T41 l0 x5_1).f1), .int .i64 ((rd_T41 l0 x5_1).f2), .int .i64 ((rd_T41 l0 x5_1).f3.f0), .int .i64 ((rd_T41 l0 x5_1).f3.f1), .int .i64 ((rd_T41 l0 x5_1).f3.f2), .int .i64 ((rd_T41 l0 x5_1).f3.f3), .slice A101_7 ((rd_T41 l0 x5_1).f3.f4).length c101_7, .bool ((rd_T41 l0 x5_1).f3.f5)], .int .i64 x1_1] rfl zee81 ?_; (with_reducible refine (laws_szEntry.calls ((rd_T41 l0 x5_1).f0) ((rd_T41 l0 x5_1).f1) ((rd_T41 l0 x5_1).f2) ((rd_T41 l0 x5_1).f3.f0) ((rd_T41 l0 x5_1).f3.f1) ((rd_T41 l0 x5_1).f3.f2) ((rd_T41 l0 x5_1).f3.f3) _ _ ((rd_T41 l0 x5_1).f3.f4) ((rd_T41 l0 x5_1).f3.f5) x1_1 t102 _ ?side1 ?side2 A6.out).mono ?_); (case side1 => exact (cZ (Kd.C_below HR101_7.out HB.out))); (case side2 => exact HC101_7.out); rintro e w9 ⟨rfl, hb⟩; refine ⟨_, rfl, ?_⟩; have _ := aM (below_step hbZ hb); clear HB; rename_i HB; (try clear hb)))
         go_roundg k1
         case measure => have := HK1.out; omega
         case rel => exact ⟨(t102), (wrap64 (x5_1 + 1)), z4458, z4458, H', ⟨zfb39⟩, ⟨z5acd⟩⟩
     · rw [if_neg c4] at H
       have c4b0 : decide (x5_1 < (l0.length : Int)) = false := decide_eq_false c4
       clear c4
       obtain rfl := Option.some.inj H
       go_wp2
       go_ret
       exact ⟨z674d, z5acd⟩

end Go.Proofs.Ytdkokfnnebdppaa.P
